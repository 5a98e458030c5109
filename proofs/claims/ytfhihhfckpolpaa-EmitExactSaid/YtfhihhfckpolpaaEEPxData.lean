/- What the law's proof needs: PxData. -/
import Derived.Test.YtfhihhfckpolpaaEEPx0
import Derived.Test.YtfhihhfckpolpaaEEPxCrc
import Derived.Test.YtfhihhfckpolpaaEEPxBit
import Derived.Test.YtfhihhfckpolpaaEEShort
import Derived.Test.YtfhihhfckpolpaaEEClonebytes
namespace Go.Proofs.Ytfhihhfckpolpaa.P
open Go.RowKit Go.Proofs.YtfhihhfckpolpaaW.PrintWords Go.Proofs.YtfhihhfckpolpaaW.PrintLast Go.Proofs.YtfhihhfckpolpaaW.PrintMore
attribute [local go_sem] max2_int min2_int max_two min_two max_three min_three max_four min_four   -- for this text's walks alone
set_option linter.unusedVariables false
set_option linter.unusedSimpArgs false
def data_Make.j0 : Nat → Bool → Int → Int → Int → List Int → Option (List Int × Int)
  | 0, _, _, _, _, _ => none
  | k + 1, x8, x613000, x613001, x613002, x613003 => if x8 = true then (some (([] : List Int), 1)) else (if (x613003.length : Int) < 1 then (some (([] : List Int), 2)) else (if (x613003.length : Int) > 64 then (some (([] : List Int), 2)) else ((bit_Put.f k (([68] : List Int)) x613000 4).bind fun bt616 => ((bit_Put.f k bt616.1 x613001 1).bind fun bt620 => ((bit_Put.f k bt620.1 x613002 2).bind fun bt624 => ((bit_Put.f k bt624.1 (x613003.length : Int) 1).bind fun bt628 => ((crc_Sum16.f k bt628.1).bind fun bt632 => ((bit_Put.f k bt628.1 bt632.1 2).bind fun bt634 => (if bt634.1.length + x613003.length < 140737488355328 then (some ((bt634.1 ++ x613003), 0)) else (none))))))))))
def data_Make.f (k : Nat) (a0_0 : Int) (a0_1 : Int) (a0_2 : Int) (l0_3 : List Int) : Option (List Int × Int) := if a0_0 < 0 then (data_Make.j0 k true a0_0 a0_1 a0_2 l0_3) else (if a0_0 ≥ 1073741824 then (data_Make.j0 k true a0_0 a0_1 a0_2 l0_3) else (if a0_1 < 0 then (data_Make.j0 k true a0_0 a0_1 a0_2 l0_3) else (if a0_1 > 255 then (data_Make.j0 k true a0_0 a0_1 a0_2 l0_3) else (if a0_2 < 0 then (data_Make.j0 k true a0_0 a0_1 a0_2 l0_3) else (data_Make.j0 k (decide (a0_2 > 65535)) a0_0 a0_1 a0_2 l0_3)))))
set_option maxHeartbeats 8000000 in
set_option maxRecDepth 100000 in
theorem data_Make.calls (k : Nat) (a0_0 : Int) (a0_1 : Int) (a0_2 : Int) (A0_3 : Option Addr) (c0_3 : Nat) (l0_3 : List Int) (r1 : List Int) (r2 : Int) (w : World) (hr0_3 : Kd.C (Kd.int .u8) w A0_3 l0_3.length l0_3) (hc0_3 : l0_3.length ≤ c0_3) (h : data_Make.f k a0_0 a0_1 a0_2 l0_3 = some (r1, r2)) :
    Calls Try.prog 89 #[.agg #[.int .i64 a0_0, .int .i64 a0_1, .int .i64 a0_2, .slice A0_3 l0_3.length c0_3]] w fun e w' => ∃ v0_ : Value, e = .returned (.tuple #[v0_, .int .i64 r2]) ∧ Kd.R (Kd.int .u8) 5 w' w.heap.size (fun _ => True) v0_ r1 ∧ Below w.heap.size w w' := by
  have hu108 := Try.underlying108
  have HR0_3 := Aside0.mk hr0_3
  have HC0_3 := Aside0.mk hc0_3
  clear hr0_3 hc0_3
  have HB := Aside0.mk (Below.refl w.heap.size w)
  have H : (if a0_0 < 0 then (data_Make.j0 k true a0_0 a0_1 a0_2 l0_3) else (if a0_0 ≥ 1073741824 then (data_Make.j0 k true a0_0 a0_1 a0_2 l0_3) else (if a0_1 < 0 then (data_Make.j0 k true a0_0 a0_1 a0_2 l0_3) else (if a0_1 > 255 then (data_Make.j0 k true a0_0 a0_1 a0_2 l0_3) else (if a0_2 < 0 then (data_Make.j0 k true a0_0 a0_1 a0_2 l0_3) else (data_Make.j0 k (decide (a0_2 > 65535)) a0_0 a0_1 a0_2 l0_3)))))) = some (r1, r2) := h
  clear h
  have HC2 := Aside0.mk H
  clear H
  go_enter Try.func89, Try.ntmps89
  go_upto_region 1 with (first | ((with_reducible refine gate_dst (N := 1) rfl ?_); (try (refine gate_guard (by rfl) ?_; dsimp only)); refine box_event ?hg (N := 1) ?hd (cs := #[.int .i64 a0_0, .int .i64 a0_1, .int .i64 a0_2, .slice A0_3 l0_3.length c0_3]) (t := 108) ?hr ?_; (case hd => rfl); (case hg => rfl); (case hr => first | (go_simp; done) | (go_simp; rfl)); intro gb612 hg w3 hbox hb; have BK612 := Aside0.mk (hbox); have GW612 := zg HB hg; have GE612 := zg HB hg; replace HB := zs HB hb; clear hb hbox hg))
  (try simp only [Act.put, List.setIfInBounds_toArray, List.set_cons_zero, List.set_cons_succ])
  go_cut [8] (fun v8 wc => ∃ (kq : Nat) (x8_1 : Bool), v8 = .bool x8_1 ∧ Aside0 (data_Make.j0 kq x8_1 a0_0 a0_1 a0_2 l0_3 = some (r1, r2)) ∧ Aside0 (kq ≤ k) ∧ Aside0 (wc.heap[gb612]? = some (.cells #[.int .i64 a0_0, .int .i64 a0_1, .int .i64 a0_2, (.slice A0_3 l0_3.length c0_3)] 108 (0, 0))) ∧ Aside0 (Below w.heap.size w wc))
  case first =>
    have H := HC2.out
    clear HC2
    by_cases c4 : a0_0 < 0
    · rw [if_pos c4] at H
      have c4b0 : decide (a0_0 < 0) = true := decide_eq_true c4
      clear c4
      (first | rw [c4b0] | (simp only [i64_w, i32_w]; rw [c4b0]) | skip)
      have H' := Aside0.mk H
      clear H
      obtain ⟨hcz5_0, hcz5_1, hcz5_2, hcz5_3⟩ := zC4 BK612
      obtain ⟨hfz5_0, hfz5_1, hfz5_2, hfz5_3⟩ := zF4 BK612
      go_wp2
      go_meet
      case rel => exact ⟨_, (true), (by first | rfl | (simp; done) | (simp [*]; done)), H', ⟨by first | omega | exact Nat.le_refl _⟩, ⟨by (with_reducible repeat (first | refine blk_drewN ?_ _ | refine blk_drew ?_ | refine blk_alloc ?_ _)); exact BK612.out⟩, ⟨by repeat (first | (with_reducible first | exact HB.out | apply below_alloc | apply pw_below_drewN | apply below_drew1 | refine below_set ?_ GE612.out) | exact HB.out)⟩⟩
    · rw [if_neg c4] at H
      have c4b0 : decide (a0_0 < 0) = false := decide_eq_false c4
      clear c4
      (first | rw [c4b0] | (simp only [i64_w, i32_w]; rw [c4b0]) | skip)
      by_cases c6 : a0_0 ≥ 1073741824
      · rw [if_pos c6] at H
        have c6b0 : decide (1073741824 ≤ a0_0) = true := decide_eq_true c6
        clear c6
        have H' := Aside0.mk H
        clear H
        obtain ⟨hcz7_0, hcz7_1, hcz7_2, hcz7_3⟩ := zC4 BK612
        obtain ⟨hfz7_0, hfz7_1, hfz7_2, hfz7_3⟩ := zF4 BK612
        go_wp2
        go_meet
        case rel => exact ⟨_, (true), (by first | rfl | (simp; done) | (simp [*]; done)), H', ⟨by first | omega | exact Nat.le_refl _⟩, ⟨by (with_reducible repeat (first | refine blk_drewN ?_ _ | refine blk_drew ?_ | refine blk_alloc ?_ _)); exact BK612.out⟩, ⟨by repeat (first | (with_reducible first | exact HB.out | apply below_alloc | apply pw_below_drewN | apply below_drew1 | refine below_set ?_ GE612.out) | exact HB.out)⟩⟩
      · rw [if_neg c6] at H
        have c6b0 : decide (1073741824 ≤ a0_0) = false := decide_eq_false c6
        clear c6
        by_cases c8 : a0_1 < 0
        · rw [if_pos c8] at H
          have c8b0 : decide (a0_1 < 0) = true := decide_eq_true c8
          clear c8
          have H' := Aside0.mk H
          clear H
          obtain ⟨hcz9_0, hcz9_1, hcz9_2, hcz9_3⟩ := zC4 BK612
          obtain ⟨hfz9_0, hfz9_1, hfz9_2, hfz9_3⟩ := zF4 BK612
          go_wp2
          go_meet
          case rel => exact ⟨_, (true), (by first | rfl | (simp; done) | (simp [*]; done)), H', ⟨by first | omega | exact Nat.le_refl _⟩, ⟨by (with_reducible repeat (first | refine blk_drewN ?_ _ | refine blk_drew ?_ | refine blk_alloc ?_ _)); exact BK612.out⟩, ⟨by repeat (first | (with_reducible first | exact HB.out | apply below_alloc | apply pw_below_drewN | apply below_drew1 | refine below_set ?_ GE612.out) | exact HB.out)⟩⟩
        · rw [if_neg c8] at H
          have c8b0 : decide (a0_1 < 0) = false := decide_eq_false c8
          clear c8
          by_cases c10 : a0_1 > 255
          · rw [if_pos c10] at H
            have c10b0 : decide (255 < a0_1) = true := decide_eq_true c10
            clear c10
            have H' := Aside0.mk H
            clear H
            obtain ⟨hcz11_0, hcz11_1, hcz11_2, hcz11_3⟩ := zC4 BK612
            obtain ⟨hfz11_0, hfz11_1, hfz11_2, hfz11_3⟩ := zF4 BK612
            go_wp2
            go_meet
            case rel => exact ⟨_, (true), (by first | rfl | (simp; done) | (simp [*]; done)), H', ⟨by first | omega | exact Nat.le_refl _⟩, ⟨by (with_reducible repeat (first | refine blk_drewN ?_ _ | refine blk_drew ?_ | refine blk_alloc ?_ _)); exact BK612.out⟩, ⟨by repeat (first | (with_reducible first | exact HB.out | apply below_alloc | apply pw_below_drewN | apply below_drew1 | refine below_set ?_ GE612.out) | exact HB.out)⟩⟩
          · rw [if_neg c10] at H
            have c10b0 : decide (255 < a0_1) = false := decide_eq_false c10
            clear c10
            by_cases c12 : a0_2 < 0
            · rw [if_pos c12] at H
              have c12b0 : decide (a0_2 < 0) = true := decide_eq_true c12
              clear c12
              have H' := Aside0.mk H
              clear H
              obtain ⟨hcz13_0, hcz13_1, hcz13_2, hcz13_3⟩ := zC4 BK612
              obtain ⟨hfz13_0, hfz13_1, hfz13_2, hfz13_3⟩ := zF4 BK612
              go_wp2
              go_meet
              case rel => exact ⟨_, (true), (by first | rfl | (simp; done) | (simp [*]; done)), H', ⟨by first | omega | exact Nat.le_refl _⟩, ⟨by (with_reducible repeat (first | refine blk_drewN ?_ _ | refine blk_drew ?_ | refine blk_alloc ?_ _)); exact BK612.out⟩, ⟨by repeat (first | (with_reducible first | exact HB.out | apply below_alloc | apply pw_below_drewN | apply below_drew1 | refine below_set ?_ GE612.out) | exact HB.out)⟩⟩
            · rw [if_neg c12] at H
              have c12b0 : decide (a0_2 < 0) = false := decide_eq_false c12
              clear c12
              have H' := Aside0.mk H
              clear H
              obtain ⟨hcz14_0, hcz14_1, hcz14_2, hcz14_3⟩ := zC4 BK612
              obtain ⟨hfz14_0, hfz14_1, hfz14_2, hfz14_3⟩ := zF4 BK612
              go_wp2
              go_meet
              case rel => exact ⟨_, (decide (a0_2 > 65535)), (by first | rfl | (simp; done) | (simp [*]; done)), H', ⟨by first | omega | exact Nat.le_refl _⟩, ⟨by (with_reducible repeat (first | refine blk_drewN ?_ _ | refine blk_drew ?_ | refine blk_alloc ?_ _)); exact BK612.out⟩, ⟨by repeat (first | (with_reducible first | exact HB.out | apply below_alloc | apply pw_below_drewN | apply below_drew1 | refine below_set ?_ GE612.out) | exact HB.out)⟩⟩
  case rest =>
    clear HC2
    try clear c1
    try clear p2
    try clear c4
    try clear c4b0
    try clear c6
    try clear c6b0
    try clear c8
    try clear c8b0
    try clear c10
    try clear c10b0
    try clear c12
    try clear c12b0
    try clear hcz11_0
    try clear hcz11_1
    try clear hcz11_2
    try clear hcz11_3
    try clear hcz13_0
    try clear hcz13_1
    try clear hcz13_2
    try clear hcz13_3
    try clear hcz14_0
    try clear hcz14_1
    try clear hcz14_2
    try clear hcz14_3
    try clear hcz5_0
    try clear hcz5_1
    try clear hcz5_2
    try clear hcz5_3
    try clear hcz7_0
    try clear hcz7_1
    try clear hcz7_2
    try clear hcz7_3
    try clear hcz9_0
    try clear hcz9_1
    try clear hcz9_2
    try clear hcz9_3
    try clear hfz11_0
    try clear hfz11_1
    try clear hfz11_2
    try clear hfz11_3
    try clear hfz13_0
    try clear hfz13_1
    try clear hfz13_2
    try clear hfz13_3
    try clear hfz14_0
    try clear hfz14_1
    try clear hfz14_2
    try clear hfz14_3
    try clear hfz5_0
    try clear hfz5_1
    try clear hfz5_2
    try clear hfz5_3
    try clear hfz7_0
    try clear hfz7_1
    try clear hfz7_2
    try clear hfz7_3
    try clear hfz9_0
    try clear hfz9_1
    try clear hfz9_2
    try clear hfz9_3
    obtain ⟨kq, x8_1, rfl, HA, HJ1, BK612, HB⟩ := hcut
    cases kq with
    | zero => exact absurd HA.out (by simp [data_Make.j0])
    | succ kj1 =>
      have H := HA.out
      clear HA
      simp only [data_Make.j0] at H
      by_cases c15 : x8_1 = true
      · subst c15
        have H1 : (some (([] : List Int), 1)) = some (r1, r2) := by rw [if_pos rfl] at H; exact H
        clear H
        have H := H1
        clear H1
        simp only [Option.some.injEq, Prod.mk.injEq] at H
        obtain ⟨rfl, rfl⟩ := H
        go_wp2
        go_ret2
        exact ⟨_, by first | rfl | (simp [errW_none, errW_some] <;> rfl) | (simp [*, errW_none, errW_some] <;> rfl), by first | exact Kd.R_nil _ _ _ _ _ | exact Kd.N_nil _ _ _ _ _ | exact Kd.V_nil _ _ _ _ _ | exact Kd.Q_nil _ _ _ _ _ | exact Kd.S_nil _ _ _ _ _, by repeat (first | (with_reducible first | exact HB.out | apply below_alloc | apply pw_below_drewN | apply below_drew1 | refine below_set ?_ GE612.out) | exact HB.out)⟩
      · replace c15 := Bool.eq_false_iff.mpr c15
        subst c15
        have H1 : (if (l0_3.length : Int) < 1 then (some (([] : List Int), 2)) else (if (l0_3.length : Int) > 64 then (some (([] : List Int), 2)) else ((bit_Put.f kj1 (([68] : List Int)) a0_0 4).bind fun bt616 => ((bit_Put.f kj1 bt616.1 a0_1 1).bind fun bt620 => ((bit_Put.f kj1 bt620.1 a0_2 2).bind fun bt624 => ((bit_Put.f kj1 bt624.1 (l0_3.length : Int) 1).bind fun bt628 => ((crc_Sum16.f kj1 bt628.1).bind fun bt632 => ((bit_Put.f kj1 bt628.1 bt632.1 2).bind fun bt634 => (if bt634.1.length + l0_3.length < 140737488355328 then (some ((bt634.1 ++ l0_3), 0)) else (none)))))))))) = some (r1, r2) := by rw [if_neg (show ¬ (false = true) by decide)] at H; exact H
        clear H
        have H := H1
        clear H1
        by_cases c16 : (l0_3.length : Int) < 1
        · rw [if_pos c16] at H
          have c16b0 : decide ((l0_3.length : Int) < 1) = true := decide_eq_true c16
          have c16b1 : decide (l0_3.length < 1) = true := decide_eq_true (by omega)
          clear c16
          simp only [Option.some.injEq, Prod.mk.injEq] at H
          obtain ⟨rfl, rfl⟩ := H
          obtain ⟨hcz17_0, hcz17_1, hcz17_2, hcz17_3⟩ := zC4 BK612
          obtain ⟨hfz17_0, hfz17_1, hfz17_2, hfz17_3⟩ := zF4 BK612
          go_wp2
          go_ret2
          exact ⟨_, by first | rfl | (simp [errW_none, errW_some] <;> rfl) | (simp [*, errW_none, errW_some] <;> rfl), by first | exact Kd.R_nil _ _ _ _ _ | exact Kd.N_nil _ _ _ _ _ | exact Kd.V_nil _ _ _ _ _ | exact Kd.Q_nil _ _ _ _ _ | exact Kd.S_nil _ _ _ _ _, by repeat (first | (with_reducible first | exact HB.out | apply below_alloc | apply pw_below_drewN | apply below_drew1 | refine below_set ?_ GE612.out) | exact HB.out)⟩
        · rw [if_neg c16] at H
          have c16b0 : decide ((l0_3.length : Int) < 1) = false := decide_eq_false c16
          have c16b1 : decide (l0_3.length < 1) = false := decide_eq_false (by omega)
          clear c16
          by_cases c18 : (l0_3.length : Int) > 64
          · rw [if_pos c18] at H
            have c18b0 : decide (64 < (l0_3.length : Int)) = true := decide_eq_true c18
            have c18b1 : decide (64 < l0_3.length) = true := decide_eq_true (by omega)
            clear c18
            simp only [Option.some.injEq, Prod.mk.injEq] at H
            obtain ⟨rfl, rfl⟩ := H
            obtain ⟨hcz19_0, hcz19_1, hcz19_2, hcz19_3⟩ := zC4 BK612
            obtain ⟨hfz19_0, hfz19_1, hfz19_2, hfz19_3⟩ := zF4 BK612
            go_wp2
            go_ret2
            exact ⟨_, by first | rfl | (simp [errW_none, errW_some] <;> rfl) | (simp [*, errW_none, errW_some] <;> rfl), by first | exact Kd.R_nil _ _ _ _ _ | exact Kd.N_nil _ _ _ _ _ | exact Kd.V_nil _ _ _ _ _ | exact Kd.Q_nil _ _ _ _ _ | exact Kd.S_nil _ _ _ _ _, by repeat (first | (with_reducible first | exact HB.out | apply below_alloc | apply pw_below_drewN | apply below_drew1 | refine below_set ?_ GE612.out) | exact HB.out)⟩
          · rw [if_neg c18] at H
            have c18b0 : decide (64 < (l0_3.length : Int)) = false := decide_eq_false c18
            have c18b1 : decide (64 < l0_3.length) = false := decide_eq_false (by omega)
            clear c18
            obtain ⟨y613, hy613⟩ : ∃ y_ : List Int, y_ = (([68] : List Int)) := ⟨_, rfl⟩
            replace H : ((bit_Put.f kj1 y613 a0_0 4).bind fun bt616 => ((bit_Put.f kj1 bt616.1 a0_1 1).bind fun bt620 => ((bit_Put.f kj1 bt620.1 a0_2 2).bind fun bt624 => ((bit_Put.f kj1 bt624.1 (l0_3.length : Int) 1).bind fun bt628 => ((crc_Sum16.f kj1 bt628.1).bind fun bt632 => ((bit_Put.f kj1 bt628.1 bt632.1 2).bind fun bt634 => (if bt634.1.length + l0_3.length < 140737488355328 then (some ((bt634.1 ++ l0_3), 0)) else (none)))))))) = some (r1, r2) := by first | (rw [hy613]; with_reducible exact H) | (have H2_ := (Option.bind_some _ _).symm.trans H; rw [hy613]; with_reducible exact H2_) | (have H2_ := (Option.bind_some _ _).symm.trans H; with_reducible exact H2_) | with_reducible exact H | (rw [hy613]; exact H) | exact H
            have Ny613 := Aside0.mk hy613
            clear hy613
            replace H := Option.bind_eq_some_iff.mp H
            obtain ⟨⟨t616, t617⟩, A200, H⟩ := H
            replace H : ((bit_Put.f kj1 t616 a0_1 1).bind fun bt620 => ((bit_Put.f kj1 bt620.1 a0_2 2).bind fun bt624 => ((bit_Put.f kj1 bt624.1 (l0_3.length : Int) 1).bind fun bt628 => ((crc_Sum16.f kj1 bt628.1).bind fun bt632 => ((bit_Put.f kj1 bt628.1 bt632.1 2).bind fun bt634 => (if bt634.1.length + l0_3.length < 140737488355328 then (some ((bt634.1 ++ l0_3), 0)) else (none))))))) = some (r1, r2) := H
            have A20 := Aside0.mk A200
            clear A200
            replace H := Option.bind_eq_some_iff.mp H
            obtain ⟨⟨t620, t621⟩, A210, H⟩ := H
            replace H : ((bit_Put.f kj1 t620 a0_2 2).bind fun bt624 => ((bit_Put.f kj1 bt624.1 (l0_3.length : Int) 1).bind fun bt628 => ((crc_Sum16.f kj1 bt628.1).bind fun bt632 => ((bit_Put.f kj1 bt628.1 bt632.1 2).bind fun bt634 => (if bt634.1.length + l0_3.length < 140737488355328 then (some ((bt634.1 ++ l0_3), 0)) else (none)))))) = some (r1, r2) := H
            have A21 := Aside0.mk A210
            clear A210
            replace H := Option.bind_eq_some_iff.mp H
            obtain ⟨⟨t624, t625⟩, A220, H⟩ := H
            replace H : ((bit_Put.f kj1 t624 (l0_3.length : Int) 1).bind fun bt628 => ((crc_Sum16.f kj1 bt628.1).bind fun bt632 => ((bit_Put.f kj1 bt628.1 bt632.1 2).bind fun bt634 => (if bt634.1.length + l0_3.length < 140737488355328 then (some ((bt634.1 ++ l0_3), 0)) else (none))))) = some (r1, r2) := H
            have A22 := Aside0.mk A220
            clear A220
            replace H := Option.bind_eq_some_iff.mp H
            obtain ⟨⟨t628, t629⟩, A230, H⟩ := H
            replace H : ((crc_Sum16.f kj1 t628).bind fun bt632 => ((bit_Put.f kj1 t628 bt632.1 2).bind fun bt634 => (if bt634.1.length + l0_3.length < 140737488355328 then (some ((bt634.1 ++ l0_3), 0)) else (none)))) = some (r1, r2) := H
            have A23 := Aside0.mk A230
            clear A230
            replace H := Option.bind_eq_some_iff.mp H
            obtain ⟨⟨t632, t633⟩, A240, H⟩ := H
            replace H : ((bit_Put.f kj1 t628 t632 2).bind fun bt634 => (if bt634.1.length + l0_3.length < 140737488355328 then (some ((bt634.1 ++ l0_3), 0)) else (none))) = some (r1, r2) := H
            have A24 := Aside0.mk A240
            clear A240
            replace H := Option.bind_eq_some_iff.mp H
            obtain ⟨⟨t634, t635⟩, A250, H⟩ := H
            replace H : (if t634.length + l0_3.length < 140737488355328 then (some ((t634 ++ l0_3), 0)) else (none)) = some (r1, r2) := H
            have A25 := Aside0.mk A250
            clear A250
            by_cases c26 : t634.length + l0_3.length < 140737488355328
            · rw [if_pos c26] at H
              have LMc26 := Aside0.mk c26
              clear c26
              obtain ⟨y638, hy638⟩ : ∃ y_ : List Int, y_ = (t634 ++ l0_3) := ⟨_, rfl⟩
              replace H : (some (y638, 0)) = some (r1, r2) := by first | (rw [hy638]; with_reducible exact H) | (have H2_ := (Option.bind_some _ _).symm.trans H; rw [hy638]; with_reducible exact H2_) | (have H2_ := (Option.bind_some _ _).symm.trans H; with_reducible exact H2_) | with_reducible exact H | (rw [hy638]; exact H) | exact H
              have Ny638 := Aside0.mk hy638
              clear hy638
              simp only [Option.some.injEq, Prod.mk.injEq] at H
              obtain ⟨rfl, rfl⟩ := H
              obtain ⟨hcz27_0, hcz27_1, hcz27_2, hcz27_3⟩ := zC4 BK612
              obtain ⟨hfz27_0, hfz27_1, hfz27_2, hfz27_3⟩ := zF4 BK612
              go_wp2_with (first | ((with_reducible refine gate_dst (N := 49) rfl ?_); (try (refine gate_guard (by rfl) ?_; dsimp only)); refine Kd.R_lit (Kd.int .u8) _ 5 ?hg (N := 49) ?hd (xs := ([68] : List Int)) (inner := [.int .u8 68]) (ok := fun _ => True) (okp := fun _ => True) ?hr ?hp (fun _ hk => hk) trivial (Below.refl _ _) (Nat.le_refl _) (by simp) ?_; (case hd => rfl); (case hg => rfl); (case hr => first | (go_simp; done) | (go_simp; rfl)); (case hp => exact (Reps.one (show Kd.M (Kd.int .u8) _ _ _ 68 [.int .u8 68] from rfl) (Reps.none _ _))); intro v614 w28 ho29 hb hg_ hnew_; clear hg_ hnew_; (first | rw [← Ny613.out] at ho29 | (simp only [Int.reduceToNat] at ho29; rw [← Ny613.out] at ho29)); have HO615 := Aside0.mk (Kd.R_lower ho29 (below_size (zB HB))); replace BK612 := zb BK612 hb; replace HB := zs HB hb; clear hb ho29; obtain ⟨hcz30_0, hcz30_1, hcz30_2, hcz30_3⟩ := zC4 BK612; obtain ⟨hfz30_0, hfz30_1, hfz30_2, hfz30_3⟩ := zF4 BK612; obtain ⟨Ao31, co31, eo31⟩ := Kd.R_slice HO615.out; subst eo31) | ((with_reducible refine gate_callee (f := 111) rfl ?_); refine goesL_ (some 52) rfl rfl Try.func111 (by kernel_rfl) rfl #[.slice Ao31 y613.length co31, .int .i64 a0_0, .int .i64 4] rfl (by (try simp only [List.map_toArray, List.map_cons, List.map_nil]); first | done | rfl | (simp only [List.length_drop, List.length_take]; rfl)) ?_; (with_reducible refine (bit_Put.calls kj1 _ _ y613 a0_0 4 t616 t617 _ ?side1 ?side2 A20.out).mono ?_); (case side1 => repeat (first | exact (Kd.R_reads' HO615.out).2.2 | (with_reducible refine Kd.C_alloc ?_ _) | (with_reducible refine Kd.C_drewN ?_ _) | (with_reducible refine Kd.C_drew ?_))); (case side2 => exact (Kd.R_reads' HO615.out).2.1); rintro e w32 ⟨v618, rfl, ho0, hb⟩; refine ⟨_, rfl, ?_⟩; have HO619 := Aside0.mk (Kd.R_lower (Kd.R_new' ho0 (Kd.R_lt (zr_ HO615))) (below_size (zB HB))); replace HO615 := Aside0.mk (Kd.R_elder' (zr_ HO615) (Kd.R_base ho0) hb); replace BK612 := zb BK612 hb; replace HB := zs HB hb; (try clear hb); (try clear hb2); (try clear hk); (try clear hi); (try clear ho0); obtain ⟨hcz33_0, hcz33_1, hcz33_2, hcz33_3⟩ := zC4 BK612; obtain ⟨hfz33_0, hfz33_1, hfz33_2, hfz33_3⟩ := zF4 BK612; obtain ⟨Ao34, co34, eo34⟩ := Kd.R_slice HO619.out; subst eo34) | ((with_reducible refine gate_callee (f := 111) rfl ?_); refine goesL_ (some 59) rfl rfl Try.func111 (by kernel_rfl) rfl #[.slice Ao34 t616.length co34, .int .i64 a0_1, .int .i64 1] rfl (by (try simp only [List.map_toArray, List.map_cons, List.map_nil]); first | done | rfl | (simp only [List.length_drop, List.length_take]; rfl)) ?_; (with_reducible refine (bit_Put.calls kj1 _ _ t616 a0_1 1 t620 t621 _ ?side1 ?side2 A21.out).mono ?_); (case side1 => repeat (first | exact (Kd.R_reads' HO619.out).2.2 | (with_reducible refine Kd.C_alloc ?_ _) | (with_reducible refine Kd.C_drewN ?_ _) | (with_reducible refine Kd.C_drew ?_))); (case side2 => exact (Kd.R_reads' HO619.out).2.1); rintro e w35 ⟨v622, rfl, ho0, hb⟩; refine ⟨_, rfl, ?_⟩; have HO623 := Aside0.mk (Kd.R_lower (Kd.R_new' (Kd.R_new' ho0 (Kd.R_lt (zr_ HO615))) (Kd.R_lt (zr_ HO619))) (below_size (zB HB))); replace HO615 := Aside0.mk (Kd.R_elder' (zr_ HO615) (Kd.R_base ho0) hb); replace HO619 := Aside0.mk (Kd.R_elder' (zr_ HO619) (Kd.R_base ho0) hb); replace BK612 := zb BK612 hb; replace HB := zs HB hb; (try clear hb); (try clear hb2); (try clear hk); (try clear hi); (try clear ho0); obtain ⟨hcz36_0, hcz36_1, hcz36_2, hcz36_3⟩ := zC4 BK612; obtain ⟨hfz36_0, hfz36_1, hfz36_2, hfz36_3⟩ := zF4 BK612; obtain ⟨Ao37, co37, eo37⟩ := Kd.R_slice HO623.out; subst eo37) | ((with_reducible refine gate_callee (f := 111) rfl ?_); refine goesL_ (some 66) rfl rfl Try.func111 (by kernel_rfl) rfl #[.slice Ao37 t620.length co37, .int .i64 a0_2, .int .i64 2] rfl (by (try simp only [List.map_toArray, List.map_cons, List.map_nil]); first | done | rfl | (simp only [List.length_drop, List.length_take]; rfl)) ?_; (with_reducible refine (bit_Put.calls kj1 _ _ t620 a0_2 2 t624 t625 _ ?side1 ?side2 A22.out).mono ?_); (case side1 => repeat (first | exact (Kd.R_reads' HO623.out).2.2 | (with_reducible refine Kd.C_alloc ?_ _) | (with_reducible refine Kd.C_drewN ?_ _) | (with_reducible refine Kd.C_drew ?_))); (case side2 => exact (Kd.R_reads' HO623.out).2.1); rintro e w38 ⟨v626, rfl, ho0, hb⟩; refine ⟨_, rfl, ?_⟩; have HO627 := Aside0.mk (Kd.R_lower (Kd.R_new' (Kd.R_new' (Kd.R_new' ho0 (Kd.R_lt (zr_ HO615))) (Kd.R_lt (zr_ HO619))) (Kd.R_lt (zr_ HO623))) (below_size (zB HB))); replace HO615 := Aside0.mk (Kd.R_elder' (zr_ HO615) (Kd.R_base ho0) hb); replace HO619 := Aside0.mk (Kd.R_elder' (zr_ HO619) (Kd.R_base ho0) hb); replace HO623 := Aside0.mk (Kd.R_elder' (zr_ HO623) (Kd.R_base ho0) hb); replace BK612 := zb BK612 hb; replace HB := zs HB hb; (try clear hb); (try clear hb2); (try clear hk); (try clear hi); (try clear ho0); obtain ⟨hcz39_0, hcz39_1, hcz39_2, hcz39_3⟩ := zC4 BK612; obtain ⟨hfz39_0, hfz39_1, hfz39_2, hfz39_3⟩ := zF4 BK612; obtain ⟨Ao40, co40, eo40⟩ := Kd.R_slice HO627.out; subst eo40) | ((with_reducible refine gate_callee (f := 111) rfl ?_); refine goesL_ (some 74) rfl rfl Try.func111 (by kernel_rfl) rfl #[.slice Ao40 t624.length co40, .int .i64 (l0_3.length : Int), .int .i64 1] rfl (by (try simp only [List.map_toArray, List.map_cons, List.map_nil]); first | done | rfl | (simp only [List.length_drop, List.length_take]; rfl)) ?_; (with_reducible refine (bit_Put.calls kj1 _ _ t624 (l0_3.length : Int) 1 t628 t629 _ ?side1 ?side2 A23.out).mono ?_); (case side1 => repeat (first | exact (Kd.R_reads' HO627.out).2.2 | (with_reducible refine Kd.C_alloc ?_ _) | (with_reducible refine Kd.C_drewN ?_ _) | (with_reducible refine Kd.C_drew ?_))); (case side2 => exact (Kd.R_reads' HO627.out).2.1); rintro e w41 ⟨v630, rfl, ho0, hb⟩; refine ⟨_, rfl, ?_⟩; have HO631 := Aside0.mk (Kd.R_lower (Kd.R_new' (Kd.R_new' (Kd.R_new' (Kd.R_new' ho0 (Kd.R_lt (zr_ HO615))) (Kd.R_lt (zr_ HO619))) (Kd.R_lt (zr_ HO623))) (Kd.R_lt (zr_ HO627))) (below_size (zB HB))); replace HO615 := Aside0.mk (Kd.R_elder' (zr_ HO615) (Kd.R_base ho0) hb); replace HO619 := Aside0.mk (Kd.R_elder' (zr_ HO619) (Kd.R_base ho0) hb); replace HO623 := Aside0.mk (Kd.R_elder' (zr_ HO623) (Kd.R_base ho0) hb); replace HO627 := Aside0.mk (Kd.R_elder' (zr_ HO627) (Kd.R_base ho0) hb); replace BK612 := zb BK612 hb; replace HB := zs HB hb; (try clear hb); (try clear hb2); (try clear hk); (try clear hi); (try clear ho0); obtain ⟨Ao42, co42, eo42⟩ := Kd.R_slice HO631.out; subst eo42) | ((with_reducible refine gate_callee (f := 95) rfl ?_); refine goesL_ (some 79) rfl rfl Try.func95 (by kernel_rfl) rfl #[.slice Ao42 t628.length co42] rfl (by (try simp only [List.map_toArray, List.map_cons, List.map_nil]); first | done | rfl | (simp only [List.length_drop, List.length_take]; rfl)) ?_; (with_reducible refine (crc_Sum16.calls kj1 _ _ t628 t632 t633 _ ?side1 ?side2 A24.out).mono ?_); (case side1 => repeat (first | exact (Kd.R_reads' HO631.out).2.2 | (with_reducible refine Kd.C_alloc ?_ _) | (with_reducible refine Kd.C_drewN ?_ _) | (with_reducible refine Kd.C_drew ?_))); (case side2 => exact (Kd.R_reads' HO631.out).2.1); rintro e w43 ⟨rfl, hb⟩; refine ⟨_, rfl, ?_⟩; replace HO615 := zR HO615 hb; replace HO619 := zR HO619 hb; replace HO623 := zR HO623 hb; replace HO627 := zR HO627 hb; replace HO631 := zR HO631 hb; replace BK612 := zb BK612 hb; replace HB := zs HB hb; (try clear hb); (try clear hb2); (try clear hk); (try clear hi)) | ((with_reducible refine gate_callee (f := 111) rfl ?_); refine goesL_ (some 85) rfl rfl Try.func111 (by kernel_rfl) rfl #[.slice Ao42 t628.length co42, .int .i64 t632, .int .i64 2] rfl (by (try simp only [List.map_toArray, List.map_cons, List.map_nil]); first | done | rfl | (simp only [List.length_drop, List.length_take]; rfl)) ?_; (with_reducible refine (bit_Put.calls kj1 _ _ t628 t632 2 t634 t635 _ ?side1 ?side2 A25.out).mono ?_); (case side1 => repeat (first | exact (Kd.R_reads' HO631.out).2.2 | (with_reducible refine Kd.C_alloc ?_ _) | (with_reducible refine Kd.C_drewN ?_ _) | (with_reducible refine Kd.C_drew ?_))); (case side2 => exact (Kd.R_reads' HO631.out).2.1); rintro e w44 ⟨v636, rfl, ho0, hb⟩; refine ⟨_, rfl, ?_⟩; have HO637 := Aside0.mk (Kd.R_lower (Kd.R_new' (Kd.R_new' (Kd.R_new' (Kd.R_new' (Kd.R_new' ho0 (Kd.R_lt (zr_ HO615))) (Kd.R_lt (zr_ HO619))) (Kd.R_lt (zr_ HO623))) (Kd.R_lt (zr_ HO627))) (Kd.R_lt (zr_ HO631))) (below_size (zB HB))); replace HO615 := Aside0.mk (Kd.R_elder' (zr_ HO615) (Kd.R_base ho0) hb); replace HO619 := Aside0.mk (Kd.R_elder' (zr_ HO619) (Kd.R_base ho0) hb); replace HO623 := Aside0.mk (Kd.R_elder' (zr_ HO623) (Kd.R_base ho0) hb); replace HO627 := Aside0.mk (Kd.R_elder' (zr_ HO627) (Kd.R_base ho0) hb); replace HO631 := Aside0.mk (Kd.R_elder' (zr_ HO631) (Kd.R_base ho0) hb); replace BK612 := zb BK612 hb; replace HB := zs HB hb; (try clear hb); (try clear hb2); (try clear hk); (try clear hi); (try clear ho0); obtain ⟨hcz45_0, hcz45_1, hcz45_2, hcz45_3⟩ := zC4 BK612; obtain ⟨hfz45_0, hfz45_1, hfz45_2⟩ := zF3 BK612; have hfz45_3 := blk_frozen BK612.out 3) | ((with_reducible refine gate_builtin (b := .append) (xs := #[.tmp 88, .tmp 90]) rfl ?_); (try (refine gate_guard (by rfl) ?_; dsimp only)); at_builtin; refine Kd.R_append_rows (Kd.int .u8) (w0 := w) w.heap.size rfl (.tmp 88) (.tmp 90) 22 5 (.int .u8 0) 1 rfl Try.underlying22 info5 rfl (by decide) (by omega) v636 t634 l0_3 _ _ _ (fun k_ => some k_ ≠ (.slice Ao31 y613.length co31 : Value).ownBlock ∧ some k_ ≠ (.slice Ao34 t616.length co34 : Value).ownBlock ∧ some k_ ≠ (.slice Ao37 t620.length co37 : Value).ownBlock ∧ some k_ ≠ (.slice Ao40 t624.length co40 : Value).ownBlock ∧ some k_ ≠ (.slice Ao42 t628.length co42 : Value).ownBlock) (fun _ => False) rfl rfl ?aO ?aR (fun _ _ h => h) (fun _ h => h.elim) ?aF ?aB ?aS ?aL ?_; (case aR => repeat (first | exact (Kd.C_below HR0_3.out HB.out) | (with_reducible refine Kd.C_alloc ?_ _) | (with_reducible refine Kd.C_drewN ?_ _) | (with_reducible refine Kd.C_drew ?_))); (case aB => exact (zB HB)); (case aF => exact (fun k_ hk => ⟨Kd.fresh' (Kd.R_lt (zr_ HO615)) k_ hk, Kd.fresh' (Kd.R_lt (zr_ HO619)) k_ hk, Kd.fresh' (Kd.R_lt (zr_ HO623)) k_ hk, Kd.fresh' (Kd.R_lt (zr_ HO627)) k_ hk, Kd.fresh' (Kd.R_lt (zr_ HO631)) k_ hk⟩)); (case aO => exact (by (with_reducible repeat (first | apply Kd.R_alloc | apply Kd.R_drewN | apply Kd.R_drew)); exact Kd.R_mono HO637.out (fun _ hk => ⟨hk.1.1.1.1.2, ⟨hk.1.1.1.2, ⟨hk.1.1.2, ⟨hk.1.2, hk.2⟩⟩⟩⟩))); (case aS => exact (below_size (zB HB))); (case aL => have := LMc26.out; omega); intro v639 w46 ho hb hg hat; rw [← Ny638.out] at ho; have n0_ := Aside0.mk (blk_grown (g := gb612) (o := .cells #[.int .i64 a0_0, .int .i64 a0_1, .int .i64 a0_2, .slice A0_3 l0_3.length c0_3] 108 (0, 0)) (zk BK612) hg (Kd.R_ne HO637.out BK612.out (by decide))); have n1_ := Aside0.mk (Kd.R_after (ok := (fun k_ => some k_ ≠ (.slice Ao34 t616.length co34 : Value).ownBlock ∧ some k_ ≠ (.slice Ao37 t620.length co37 : Value).ownBlock ∧ some k_ ≠ (.slice Ao40 t624.length co40 : Value).ownBlock ∧ some k_ ≠ (.slice Ao42 t628.length co42 : Value).ownBlock)) (by (with_reducible repeat (first | apply Kd.R_alloc | apply Kd.R_drewN | apply Kd.R_drew)); exact Kd.R_mono HO615.out (fun _ hk => ⟨⟨hk.1.1.1.1.2, ⟨hk.1.1.1.2, ⟨hk.1.1.2, hk.1.2⟩⟩⟩, hk.2⟩)) hg hat); have n2_ := Aside0.mk (Kd.R_after (ok := (fun k_ => some k_ ≠ (.slice Ao31 y613.length co31 : Value).ownBlock ∧ some k_ ≠ (.slice Ao37 t620.length co37 : Value).ownBlock ∧ some k_ ≠ (.slice Ao40 t624.length co40 : Value).ownBlock ∧ some k_ ≠ (.slice Ao42 t628.length co42 : Value).ownBlock)) (by (with_reducible repeat (first | apply Kd.R_alloc | apply Kd.R_drewN | apply Kd.R_drew)); exact Kd.R_mono HO619.out (fun _ hk => ⟨⟨hk.1.1.1.1.2, ⟨hk.1.1.1.2, ⟨hk.1.1.2, hk.1.2⟩⟩⟩, hk.2⟩)) hg hat); have n3_ := Aside0.mk (Kd.R_after (ok := (fun k_ => some k_ ≠ (.slice Ao31 y613.length co31 : Value).ownBlock ∧ some k_ ≠ (.slice Ao34 t616.length co34 : Value).ownBlock ∧ some k_ ≠ (.slice Ao40 t624.length co40 : Value).ownBlock ∧ some k_ ≠ (.slice Ao42 t628.length co42 : Value).ownBlock)) (by (with_reducible repeat (first | apply Kd.R_alloc | apply Kd.R_drewN | apply Kd.R_drew)); exact Kd.R_mono HO623.out (fun _ hk => ⟨⟨hk.1.1.1.1.2, ⟨hk.1.1.1.2, ⟨hk.1.1.2, hk.1.2⟩⟩⟩, hk.2⟩)) hg hat); have n4_ := Aside0.mk (Kd.R_after (ok := (fun k_ => some k_ ≠ (.slice Ao31 y613.length co31 : Value).ownBlock ∧ some k_ ≠ (.slice Ao34 t616.length co34 : Value).ownBlock ∧ some k_ ≠ (.slice Ao37 t620.length co37 : Value).ownBlock ∧ some k_ ≠ (.slice Ao42 t628.length co42 : Value).ownBlock)) (by (with_reducible repeat (first | apply Kd.R_alloc | apply Kd.R_drewN | apply Kd.R_drew)); exact Kd.R_mono HO627.out (fun _ hk => ⟨⟨hk.1.1.1.1.2, ⟨hk.1.1.1.2, ⟨hk.1.1.2, hk.1.2⟩⟩⟩, hk.2⟩)) hg hat); have n5_ := Aside0.mk (Kd.R_after (ok := (fun k_ => some k_ ≠ (.slice Ao31 y613.length co31 : Value).ownBlock ∧ some k_ ≠ (.slice Ao34 t616.length co34 : Value).ownBlock ∧ some k_ ≠ (.slice Ao37 t620.length co37 : Value).ownBlock ∧ some k_ ≠ (.slice Ao40 t624.length co40 : Value).ownBlock)) (by (with_reducible repeat (first | apply Kd.R_alloc | apply Kd.R_drewN | apply Kd.R_drew)); exact Kd.R_mono HO631.out (fun _ hk => ⟨⟨hk.1.1.1.1.2, ⟨hk.1.1.1.2, ⟨hk.1.1.2, hk.1.2⟩⟩⟩, hk.2⟩)) hg hat); have n6_ := Aside0.mk (hb); have n7_ := Aside0.mk (ho); clear BK612; clear HO615; clear HO619; clear HO623; clear HO627; clear HO631; clear HB; clear HO637; have BK612 := n0_; have HO615 := n1_; have HO619 := n2_; have HO623 := n3_; have HO627 := n4_; have HO631 := n5_; have HB := n6_; have HO640 := n7_; clear n0_ n1_ n2_ n3_ n4_ n5_ n6_ n7_; clear ho hb hg hat))
              go_ret2
              exact ⟨_, by first | rfl | (simp [errW_none, errW_some] <;> rfl) | (simp [*, errW_none, errW_some] <;> rfl), by (with_reducible repeat (first | apply Kd.R_alloc | apply Kd.R_drewN | apply Kd.R_drew)); exact Kd.R_mono HO640.out (fun _ hk => trivial), by repeat (first | (with_reducible first | exact HB.out | apply below_alloc | apply pw_below_drewN | apply below_drew1 | refine below_set ?_ GE612.out) | exact HB.out)⟩
            · rw [if_neg c26] at H
              exact absurd H (by simp)
end Go.Proofs.Ytfhihhfckpolpaa.P
