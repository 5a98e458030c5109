/- What the law's proof needs: PxData. -/
import Derived.Test.YtlolfijadcflaaaEtPx0
import Derived.Test.YtlolfijadcflaaaEtPxCrc
import Derived.Test.YtlolfijadcflaaaEtPxBit
import Derived.Test.YtlolfijadcflaaaEtShort
import Derived.Test.YtlolfijadcflaaaEtClonebytes
namespace Go.Proofs.Ytlolfijadcflaaa.P
open Go.RowKit Go.Proofs.YtlolfijadcflaaaW.PrintWords Go.Proofs.YtlolfijadcflaaaW.PrintLast Go.Proofs.YtlolfijadcflaaaW.PrintMore
attribute [local go_sem] max2_int min2_int max_two min_two max_three min_three max_four min_four   -- for this text's walks alone
set_option linter.unusedVariables false
set_option linter.unusedSimpArgs false
def data_Make.j0 : Nat → Bool → Int → Int → Int → List Int → Option (List Int × Int)
  | 0, _, _, _, _, _ => none
  | k + 1, x8, x193000, x193001, x193002, x193003 => if x8 = true then (some (([] : List Int), 1)) else (if (x193003.length : Int) < 1 then (some (([] : List Int), 2)) else (if (x193003.length : Int) > 64 then (some (([] : List Int), 2)) else ((bit_Put.f k (([68] : List Int)) x193000 4).bind fun bt196 => ((bit_Put.f k bt196.1 x193001 1).bind fun bt200 => ((bit_Put.f k bt200.1 x193002 2).bind fun bt204 => ((bit_Put.f k bt204.1 (x193003.length : Int) 1).bind fun bt208 => ((crc_Sum16.f k bt208.1).bind fun bt212 => ((bit_Put.f k bt208.1 bt212.1 2).bind fun bt214 => (if bt214.1.length + x193003.length < 140737488355328 then (some ((bt214.1 ++ x193003), 0)) else (none))))))))))
def data_Make.f (k : Nat) (a0_0 : Int) (a0_1 : Int) (a0_2 : Int) (l0_3 : List Int) : Option (List Int × Int) := if a0_0 < 0 then (data_Make.j0 k true a0_0 a0_1 a0_2 l0_3) else (if a0_0 ≥ 1073741824 then (data_Make.j0 k true a0_0 a0_1 a0_2 l0_3) else (if a0_1 < 0 then (data_Make.j0 k true a0_0 a0_1 a0_2 l0_3) else (if a0_1 > 255 then (data_Make.j0 k true a0_0 a0_1 a0_2 l0_3) else (if a0_2 < 0 then (data_Make.j0 k true a0_0 a0_1 a0_2 l0_3) else (data_Make.j0 k (decide (a0_2 > 65535)) a0_0 a0_1 a0_2 l0_3)))))
set_option maxRecDepth 100000 in
theorem data_Make.calls.z1 {P : Prop} (h : P := by
  go_wp2
  go_meet
  first
    | case rel => exact ⟨_, (true), (by first | rfl | (simp; done) | (simp [*]; done)), H', ⟨by first | omega | exact Nat.le_refl _⟩, ⟨by (with_reducible repeat (first | refine blk_drewN ?_ _ | refine blk_drew ?_ | refine blk_alloc ?_ _)); exact BK192.out⟩, ⟨by repeat (first | (with_reducible first | exact HB.out | apply below_alloc | apply pw_below_drewN | apply below_drew1 | refine below_set ?_ GE192.out) | exact HB.out)⟩⟩
    | case rel => exact ⟨_, (decide (a0_2 > 65535)), (by first | rfl | (simp; done) | (simp [*]; done)), H', ⟨by first | omega | exact Nat.le_refl _⟩, ⟨by (with_reducible repeat (first | refine blk_drewN ?_ _ | refine blk_drew ?_ | refine blk_alloc ?_ _)); exact BK192.out⟩, ⟨by repeat (first | (with_reducible first | exact HB.out | apply below_alloc | apply pw_below_drewN | apply below_drew1 | refine below_set ?_ GE192.out) | exact HB.out)⟩⟩) : P := h
set_option maxRecDepth 100000 in
theorem data_Make.calls.z2 {P : Prop} (h : P := by
  go_wp2
  go_ret2
  exact ⟨_, by first | rfl | (simp [errW_none, errW_some] <;> rfl) | (simp [*, errW_none, errW_some] <;> rfl), by first | exact Kd.R_nil _ _ _ _ _ | exact Kd.N_nil _ _ _ _ _ | exact Kd.V_nil _ _ _ _ _ | exact Kd.Q_nil _ _ _ _ _ | exact Kd.S_nil _ _ _ _ _, by repeat (first | (with_reducible first | exact HB.out | apply below_alloc | apply pw_below_drewN | apply below_drew1 | refine below_set ?_ GE192.out) | exact HB.out)⟩) : P := h
set_option maxHeartbeats 8000000 in
set_option maxRecDepth 100000 in
theorem data_Make.calls (k : Nat) (a0_0 : Int) (a0_1 : Int) (a0_2 : Int) (A0_3 : Option Addr) (c0_3 : Nat) (l0_3 : List Int) (r1 : List Int) (r2 : Int) (w : World) (hr0_3 : Kd.C (Kd.int .u8) w A0_3 l0_3.length l0_3) (hc0_3 : l0_3.length ≤ c0_3) (h : data_Make.f k a0_0 a0_1 a0_2 l0_3 = some (r1, r2)) :
    Calls Try.prog 99 #[.agg #[.int .i64 a0_0, .int .i64 a0_1, .int .i64 a0_2, .slice A0_3 l0_3.length c0_3]] w fun e w' => ∃ v0_ : Value, e = .returned (.tuple #[v0_, .int .i64 r2]) ∧ Kd.R (Kd.int .u8) 5 w' w.heap.size (fun _ => True) v0_ r1 ∧ Below w.heap.size w w' := by
 have hu106 := Try.underlying106
 have HR0_3 := Aside0.mk hr0_3
 have HC0_3 := Aside0.mk hc0_3
 clear hr0_3 hc0_3
 have HB := Aside0.mk (Below.refl w.heap.size w)
 have H : (if a0_0 < 0 then (data_Make.j0 k true a0_0 a0_1 a0_2 l0_3) else (if a0_0 ≥ 1073741824 then (data_Make.j0 k true a0_0 a0_1 a0_2 l0_3) else (if a0_1 < 0 then (data_Make.j0 k true a0_0 a0_1 a0_2 l0_3) else (if a0_1 > 255 then (data_Make.j0 k true a0_0 a0_1 a0_2 l0_3) else (if a0_2 < 0 then (data_Make.j0 k true a0_0 a0_1 a0_2 l0_3) else (data_Make.j0 k (decide (a0_2 > 65535)) a0_0 a0_1 a0_2 l0_3)))))) = some (r1, r2) := h
 clear h
 have HC2 := Aside0.mk H
 clear H
 go_enter Try.func99, Try.ntmps99
 go_upto_region 1 with (first | ((with_reducible refine gate_dst (N := 1) rfl ?_); (try (refine gate_guard (by rfl) ?_; dsimp only)); refine box_event ?hg (N := 1) ?hd (cs := #[.int .i64 a0_0, .int .i64 a0_1, .int .i64 a0_2, .slice A0_3 l0_3.length c0_3]) (t := 106) ?hr ?_; (case hd => rfl); (case hg => rfl); (case hr => first | (go_simp; done) | (go_simp; rfl)); intro gb192 hg w3 hbox hb; have BK192 := Aside0.mk (hbox); have GW192 := zg HB hg; have GE192 := zg HB hg; replace HB := zs HB hb; clear hb hbox hg))
 (try simp only [Act.put, List.setIfInBounds_toArray, List.set_cons_zero, List.set_cons_succ])
 go_cut [8] (fun v8 wc => ∃ (kq : Nat) (x8_1 : Bool), v8 = .bool x8_1 ∧ Aside0 (data_Make.j0 kq x8_1 a0_0 a0_1 a0_2 l0_3 = some (r1, r2)) ∧ Aside0 (kq ≤ k) ∧ Aside0 (wc.heap[gb192]? = some (.cells #[.int .i64 a0_0, .int .i64 a0_1, .int .i64 a0_2, (.slice A0_3 l0_3.length c0_3)] 106 (0, 0))) ∧ Aside0 (Below w.heap.size w wc))
 case first =>
  have H := HC2.out
  clear HC2
  by_cases c4 : a0_0 < 0
  · rw [if_pos c4] at H
    have c4b0 : decide (a0_0 < 0) = true := decide_eq_true c4
    clear c4
    (first | rw [c4b0] | (simp only [i64_w, i32_w]; rw [c4b0]) | skip)
    have H' := Aside0.mk H
    clear H
    obtain ⟨hcz5_0, hcz5_1, hcz5_2, hcz5_3⟩ := zC4 BK192
    obtain ⟨hfz5_0, hfz5_1, hfz5_2, hfz5_3⟩ := zF4 BK192
    exact data_Make.calls.z1
  rw [if_neg c4] at H
  have c4b0 : decide (a0_0 < 0) = false := decide_eq_false c4
  clear c4
  (first | rw [c4b0] | (simp only [i64_w, i32_w]; rw [c4b0]) | skip)
  by_cases c6 : a0_0 ≥ 1073741824
  · rw [if_pos c6] at H
    have c6b0 : decide (1073741824 ≤ a0_0) = true := decide_eq_true c6
    clear c6
    have H' := Aside0.mk H
    clear H
    obtain ⟨hcz7_0, hcz7_1, hcz7_2, hcz7_3⟩ := zC4 BK192
    obtain ⟨hfz7_0, hfz7_1, hfz7_2, hfz7_3⟩ := zF4 BK192
    exact data_Make.calls.z1
  rw [if_neg c6] at H
  have c6b0 : decide (1073741824 ≤ a0_0) = false := decide_eq_false c6
  clear c6
  by_cases c8 : a0_1 < 0
  · rw [if_pos c8] at H
    have c8b0 : decide (a0_1 < 0) = true := decide_eq_true c8
    clear c8
    have H' := Aside0.mk H
    clear H
    obtain ⟨hcz9_0, hcz9_1, hcz9_2, hcz9_3⟩ := zC4 BK192
    obtain ⟨hfz9_0, hfz9_1, hfz9_2, hfz9_3⟩ := zF4 BK192
    exact data_Make.calls.z1
  rw [if_neg c8] at H
  have c8b0 : decide (a0_1 < 0) = false := decide_eq_false c8
  clear c8
  by_cases c10 : a0_1 > 255
  · rw [if_pos c10] at H
    have c10b0 : decide (255 < a0_1) = true := decide_eq_true c10
    clear c10
    have H' := Aside0.mk H
    clear H
    obtain ⟨hcz11_0, hcz11_1, hcz11_2, hcz11_3⟩ := zC4 BK192
    obtain ⟨hfz11_0, hfz11_1, hfz11_2, hfz11_3⟩ := zF4 BK192
    exact data_Make.calls.z1
  rw [if_neg c10] at H
  have c10b0 : decide (255 < a0_1) = false := decide_eq_false c10
  clear c10
  by_cases c12 : a0_2 < 0
  · rw [if_pos c12] at H
    have c12b0 : decide (a0_2 < 0) = true := decide_eq_true c12
    clear c12
    have H' := Aside0.mk H
    clear H
    obtain ⟨hcz13_0, hcz13_1, hcz13_2, hcz13_3⟩ := zC4 BK192
    obtain ⟨hfz13_0, hfz13_1, hfz13_2, hfz13_3⟩ := zF4 BK192
    exact data_Make.calls.z1
  rw [if_neg c12] at H
  have c12b0 : decide (a0_2 < 0) = false := decide_eq_false c12
  clear c12
  have H' := Aside0.mk H
  clear H
  obtain ⟨hcz14_0, hcz14_1, hcz14_2, hcz14_3⟩ := zC4 BK192
  obtain ⟨hfz14_0, hfz14_1, hfz14_2, hfz14_3⟩ := zF4 BK192
  exact data_Make.calls.z1
 clear HC2
 try clear c1
 try clear p2
 try clear c4
 try clear c4b0
 try clear c6
 try clear c6b0
 try clear c8
 try clear c8b0
 try clear c9
 try clear c10
 try clear c10b0
 try clear c12
 try clear c12b0
 try clear hcz11_0
 try clear hcz11_1
 try clear hcz11_2
 try clear hcz11_3
 try clear hcz13_0
 try clear hcz13_1
 try clear hcz13_2
 try clear hcz13_3
 try clear hcz14_0
 try clear hcz14_1
 try clear hcz14_2
 try clear hcz14_3
 try clear hcz5_0
 try clear hcz5_1
 try clear hcz5_2
 try clear hcz5_3
 try clear hcz7_0
 try clear hcz7_1
 try clear hcz7_2
 try clear hcz7_3
 try clear hcz9_0
 try clear hcz9_1
 try clear hcz9_2
 try clear hcz9_3
 try clear hfz11_0
 try clear hfz11_1
 try clear hfz11_2
 try clear hfz11_3
 try clear hfz13_0
 try clear hfz13_1
 try clear hfz13_2
 try clear hfz13_3
 try clear hfz14_0
 try clear hfz14_1
 try clear hfz14_2
 try clear hfz14_3
 try clear hfz5_0
 try clear hfz5_1
 try clear hfz5_2
 try clear hfz5_3
 try clear hfz7_0
 try clear hfz7_1
 try clear hfz7_2
 try clear hfz7_3
 try clear hfz9_0
 try clear hfz9_1
 try clear hfz9_2
 try clear hfz9_3
 obtain ⟨kq, x8_1, rfl, HA, HJ1, BK192, HB⟩ := hcut
 cases kq with
 | zero => exact absurd HA.out (by simp [data_Make.j0])
 | succ kj1 => ?_
 have H := HA.out
 clear HA
 simp only [data_Make.j0] at H
 by_cases c15 : x8_1 = true
 · subst c15
   have H1 : (some (([] : List Int), 1)) = some (r1, r2) := by first | (rw [if_pos rfl] at H; exact H) | exact (if_pos rfl).symm.trans H
   clear H
   have H := H1
   clear H1
   simp only [Option.some.injEq, Prod.mk.injEq] at H
   obtain ⟨rfl, rfl⟩ := H
   exact data_Make.calls.z2
 replace c15 := Bool.eq_false_iff.mpr c15
 subst c15
 have H1 : (if (l0_3.length : Int) < 1 then (some (([] : List Int), 2)) else (if (l0_3.length : Int) > 64 then (some (([] : List Int), 2)) else ((bit_Put.f kj1 (([68] : List Int)) a0_0 4).bind fun bt196 => ((bit_Put.f kj1 bt196.1 a0_1 1).bind fun bt200 => ((bit_Put.f kj1 bt200.1 a0_2 2).bind fun bt204 => ((bit_Put.f kj1 bt204.1 (l0_3.length : Int) 1).bind fun bt208 => ((crc_Sum16.f kj1 bt208.1).bind fun bt212 => ((bit_Put.f kj1 bt208.1 bt212.1 2).bind fun bt214 => (if bt214.1.length + l0_3.length < 140737488355328 then (some ((bt214.1 ++ l0_3), 0)) else (none)))))))))) = some (r1, r2) := by rw [if_neg (show ¬ (false = true) by decide)] at H; exact H
 clear H
 have H := H1
 clear H1
 by_cases c16 : (l0_3.length : Int) < 1
 · rw [if_pos c16] at H
   have c16b0 : decide ((l0_3.length : Int) < 1) = true := decide_eq_true c16
   have c16b1 : decide (l0_3.length < 1) = true := decide_eq_true (by omega)
   clear c16
   simp only [Option.some.injEq, Prod.mk.injEq] at H
   obtain ⟨rfl, rfl⟩ := H
   obtain ⟨hcz17_0, hcz17_1, hcz17_2, hcz17_3⟩ := zC4 BK192
   obtain ⟨hfz17_0, hfz17_1, hfz17_2, hfz17_3⟩ := zF4 BK192
   exact data_Make.calls.z2
 rw [if_neg c16] at H
 have c16b0 : decide ((l0_3.length : Int) < 1) = false := decide_eq_false c16
 have c16b1 : decide (l0_3.length < 1) = false := decide_eq_false (by omega)
 clear c16
 by_cases c18 : (l0_3.length : Int) > 64
 · rw [if_pos c18] at H
   have c18b0 : decide (64 < (l0_3.length : Int)) = true := decide_eq_true c18
   have c18b1 : decide (64 < l0_3.length) = true := decide_eq_true (by omega)
   clear c18
   simp only [Option.some.injEq, Prod.mk.injEq] at H
   obtain ⟨rfl, rfl⟩ := H
   obtain ⟨hcz19_0, hcz19_1, hcz19_2, hcz19_3⟩ := zC4 BK192
   obtain ⟨hfz19_0, hfz19_1, hfz19_2, hfz19_3⟩ := zF4 BK192
   exact data_Make.calls.z2
 rw [if_neg c18] at H
 have c18b0 : decide (64 < (l0_3.length : Int)) = false := decide_eq_false c18
 have c18b1 : decide (64 < l0_3.length) = false := decide_eq_false (by omega)
 clear c18
 obtain ⟨y193, hy193⟩ : ∃ y_ : List Int, y_ = (([68] : List Int)) := ⟨_, rfl⟩
 replace H : ((bit_Put.f kj1 y193 a0_0 4).bind fun bt196 => ((bit_Put.f kj1 bt196.1 a0_1 1).bind fun bt200 => ((bit_Put.f kj1 bt200.1 a0_2 2).bind fun bt204 => ((bit_Put.f kj1 bt204.1 (l0_3.length : Int) 1).bind fun bt208 => ((crc_Sum16.f kj1 bt208.1).bind fun bt212 => ((bit_Put.f kj1 bt208.1 bt212.1 2).bind fun bt214 => (if bt214.1.length + l0_3.length < 140737488355328 then (some ((bt214.1 ++ l0_3), 0)) else (none)))))))) = some (r1, r2) := by first | (rw [hy193]; with_reducible exact H) | (have H2_ := (Option.bind_some _ _).symm.trans H; rw [hy193]; with_reducible exact H2_) | (have H2_ := (Option.bind_some _ _).symm.trans H; with_reducible exact H2_) | with_reducible exact H | (rw [hy193]; exact H) | exact H
 have Ny193 := Aside0.mk hy193
 clear hy193
 replace H := Option.bind_eq_some_iff.mp H
 obtain ⟨⟨t196, t197⟩, A200, H⟩ := H
 replace H : ((bit_Put.f kj1 t196 a0_1 1).bind fun bt200 => ((bit_Put.f kj1 bt200.1 a0_2 2).bind fun bt204 => ((bit_Put.f kj1 bt204.1 (l0_3.length : Int) 1).bind fun bt208 => ((crc_Sum16.f kj1 bt208.1).bind fun bt212 => ((bit_Put.f kj1 bt208.1 bt212.1 2).bind fun bt214 => (if bt214.1.length + l0_3.length < 140737488355328 then (some ((bt214.1 ++ l0_3), 0)) else (none))))))) = some (r1, r2) := H
 have A20 := Aside0.mk A200
 clear A200
 replace H := Option.bind_eq_some_iff.mp H
 obtain ⟨⟨t200, t201⟩, A210, H⟩ := H
 replace H : ((bit_Put.f kj1 t200 a0_2 2).bind fun bt204 => ((bit_Put.f kj1 bt204.1 (l0_3.length : Int) 1).bind fun bt208 => ((crc_Sum16.f kj1 bt208.1).bind fun bt212 => ((bit_Put.f kj1 bt208.1 bt212.1 2).bind fun bt214 => (if bt214.1.length + l0_3.length < 140737488355328 then (some ((bt214.1 ++ l0_3), 0)) else (none)))))) = some (r1, r2) := H
 have A21 := Aside0.mk A210
 clear A210
 replace H := Option.bind_eq_some_iff.mp H
 obtain ⟨⟨t204, t205⟩, A220, H⟩ := H
 replace H : ((bit_Put.f kj1 t204 (l0_3.length : Int) 1).bind fun bt208 => ((crc_Sum16.f kj1 bt208.1).bind fun bt212 => ((bit_Put.f kj1 bt208.1 bt212.1 2).bind fun bt214 => (if bt214.1.length + l0_3.length < 140737488355328 then (some ((bt214.1 ++ l0_3), 0)) else (none))))) = some (r1, r2) := H
 have A22 := Aside0.mk A220
 clear A220
 replace H := Option.bind_eq_some_iff.mp H
 obtain ⟨⟨t208, t209⟩, A230, H⟩ := H
 replace H : ((crc_Sum16.f kj1 t208).bind fun bt212 => ((bit_Put.f kj1 t208 bt212.1 2).bind fun bt214 => (if bt214.1.length + l0_3.length < 140737488355328 then (some ((bt214.1 ++ l0_3), 0)) else (none)))) = some (r1, r2) := H
 have A23 := Aside0.mk A230
 clear A230
 replace H := Option.bind_eq_some_iff.mp H
 obtain ⟨⟨t212, t213⟩, A240, H⟩ := H
 replace H : ((bit_Put.f kj1 t208 t212 2).bind fun bt214 => (if bt214.1.length + l0_3.length < 140737488355328 then (some ((bt214.1 ++ l0_3), 0)) else (none))) = some (r1, r2) := H
 have A24 := Aside0.mk A240
 clear A240
 replace H := Option.bind_eq_some_iff.mp H
 obtain ⟨⟨t214, t215⟩, A250, H⟩ := H
 replace H : (if t214.length + l0_3.length < 140737488355328 then (some ((t214 ++ l0_3), 0)) else (none)) = some (r1, r2) := H
 have A25 := Aside0.mk A250
 clear A250
 by_cases c26 : t214.length + l0_3.length < 140737488355328
 rotate_left
 · rw [if_neg c26] at H
   exact absurd H (by simp)
 rw [if_pos c26] at H
 have LMc26 := Aside0.mk c26
 clear c26
 obtain ⟨y218, hy218⟩ : ∃ y_ : List Int, y_ = (t214 ++ l0_3) := ⟨_, rfl⟩
 replace H : (some (y218, 0)) = some (r1, r2) := by first | (rw [hy218]; with_reducible exact H) | (have H2_ := (Option.bind_some _ _).symm.trans H; rw [hy218]; with_reducible exact H2_) | (have H2_ := (Option.bind_some _ _).symm.trans H; with_reducible exact H2_) | with_reducible exact H | (rw [hy218]; exact H) | exact H
 have Ny218 := Aside0.mk hy218
 clear hy218
 simp only [Option.some.injEq, Prod.mk.injEq] at H
 obtain ⟨rfl, rfl⟩ := H
 obtain ⟨hcz27_0, hcz27_1, hcz27_2, hcz27_3⟩ := zC4 BK192
 obtain ⟨hfz27_0, hfz27_1, hfz27_2, hfz27_3⟩ := zF4 BK192
 go_wp2_with (first | ((with_reducible refine gate_dst (N := 49) rfl ?_); (try (refine gate_guard (by rfl) ?_; dsimp only)); refine Kd.R_lit (Kd.int .u8) _ 5 ?hg (N := 49) ?hd (xs := ([68] : List Int)) (inner := [.int .u8 68]) (ok := fun _ => True) (okp := fun _ => True) ?hr ?hp (fun _ hk => hk) trivial (Below.refl _ _) (Nat.le_refl _) (by simp) ?_; (case hd => rfl); (case hg => rfl); (case hr => first | (go_simp; done) | (go_simp; rfl)); (case hp => exact (Reps.one (show Kd.M (Kd.int .u8) _ _ _ 68 [.int .u8 68] from rfl) (Reps.none _ _))); intro v194 w28 ho29 hb hg_ hnew_; clear hg_ hnew_; (first | rw [← Ny193.out] at ho29 | (simp only [Int.reduceToNat] at ho29; rw [← Ny193.out] at ho29)); have HO195 := Aside0.mk (Kd.R_lower ho29 (below_size (zB HB))); replace BK192 := zb BK192 hb; replace HB := zs HB hb; clear hb ho29; obtain ⟨hcz30_0, hcz30_1, hcz30_2, hcz30_3⟩ := zC4 BK192; obtain ⟨hfz30_0, hfz30_1, hfz30_2, hfz30_3⟩ := zF4 BK192; obtain ⟨Ao31, co31, eo31⟩ := Kd.R_slice HO195.out; subst eo31) | ((with_reducible refine gate_callee (f := 116) rfl ?_); refine goesL_ (some 52) rfl rfl Try.func116 (by kernel_rfl) rfl #[.slice Ao31 y193.length co31, .int .i64 a0_0, .int .i64 4] rfl (by (try simp only [List.map_toArray, List.map_cons, List.map_nil]); first | done | rfl | (simp only [List.length_drop, List.length_take]; rfl)) ?_; (with_reducible refine (bit_Put.calls kj1 _ _ y193 a0_0 4 t196 t197 _ ?side1 ?side2 A20.out).mono ?_); (case side1 => repeat (first | exact (Kd.R_reads' HO195.out).2.2 | (with_reducible refine Kd.C_alloc ?_ _) | (with_reducible refine Kd.C_drewN ?_ _) | (with_reducible refine Kd.C_drew ?_))); (case side2 => exact (Kd.R_reads' HO195.out).2.1); rintro e w32 ⟨v198, rfl, ho0, hb⟩; refine ⟨_, rfl, ?_⟩; have HO199 := Aside0.mk (Kd.R_lower (Kd.R_new' ho0 (Kd.R_lt (zr_ HO195))) (below_size (zB HB))); replace HO195 := Aside0.mk (Kd.R_elder' (zr_ HO195) (Kd.R_base ho0) hb); replace BK192 := zb BK192 hb; replace HB := zs HB hb; (try clear hb); (try clear hb2); (try clear hk); (try clear hi); (try clear ho0); obtain ⟨hcz33_0, hcz33_1, hcz33_2, hcz33_3⟩ := zC4 BK192; obtain ⟨hfz33_0, hfz33_1, hfz33_2, hfz33_3⟩ := zF4 BK192; obtain ⟨Ao34, co34, eo34⟩ := Kd.R_slice HO199.out; subst eo34) | ((with_reducible refine gate_callee (f := 116) rfl ?_); refine goesL_ (some 59) rfl rfl Try.func116 (by kernel_rfl) rfl #[.slice Ao34 t196.length co34, .int .i64 a0_1, .int .i64 1] rfl (by (try simp only [List.map_toArray, List.map_cons, List.map_nil]); first | done | rfl | (simp only [List.length_drop, List.length_take]; rfl)) ?_; (with_reducible refine (bit_Put.calls kj1 _ _ t196 a0_1 1 t200 t201 _ ?side1 ?side2 A21.out).mono ?_); (case side1 => repeat (first | exact (Kd.R_reads' HO199.out).2.2 | (with_reducible refine Kd.C_alloc ?_ _) | (with_reducible refine Kd.C_drewN ?_ _) | (with_reducible refine Kd.C_drew ?_))); (case side2 => exact (Kd.R_reads' HO199.out).2.1); rintro e w35 ⟨v202, rfl, ho0, hb⟩; refine ⟨_, rfl, ?_⟩; have HO203 := Aside0.mk (Kd.R_lower (Kd.R_new' (Kd.R_new' ho0 (Kd.R_lt (zr_ HO195))) (Kd.R_lt (zr_ HO199))) (below_size (zB HB))); replace HO195 := Aside0.mk (Kd.R_elder' (zr_ HO195) (Kd.R_base ho0) hb); replace HO199 := Aside0.mk (Kd.R_elder' (zr_ HO199) (Kd.R_base ho0) hb); replace BK192 := zb BK192 hb; replace HB := zs HB hb; (try clear hb); (try clear hb2); (try clear hk); (try clear hi); (try clear ho0); obtain ⟨hcz36_0, hcz36_1, hcz36_2, hcz36_3⟩ := zC4 BK192; obtain ⟨hfz36_0, hfz36_1, hfz36_2, hfz36_3⟩ := zF4 BK192; obtain ⟨Ao37, co37, eo37⟩ := Kd.R_slice HO203.out; subst eo37) | ((with_reducible refine gate_callee (f := 116) rfl ?_); refine goesL_ (some 66) rfl rfl Try.func116 (by kernel_rfl) rfl #[.slice Ao37 t200.length co37, .int .i64 a0_2, .int .i64 2] rfl (by (try simp only [List.map_toArray, List.map_cons, List.map_nil]); first | done | rfl | (simp only [List.length_drop, List.length_take]; rfl)) ?_; (with_reducible refine (bit_Put.calls kj1 _ _ t200 a0_2 2 t204 t205 _ ?side1 ?side2 A22.out).mono ?_); (case side1 => repeat (first | exact (Kd.R_reads' HO203.out).2.2 | (with_reducible refine Kd.C_alloc ?_ _) | (with_reducible refine Kd.C_drewN ?_ _) | (with_reducible refine Kd.C_drew ?_))); (case side2 => exact (Kd.R_reads' HO203.out).2.1); rintro e w38 ⟨v206, rfl, ho0, hb⟩; refine ⟨_, rfl, ?_⟩; have HO207 := Aside0.mk (Kd.R_lower (Kd.R_new' (Kd.R_new' (Kd.R_new' ho0 (Kd.R_lt (zr_ HO195))) (Kd.R_lt (zr_ HO199))) (Kd.R_lt (zr_ HO203))) (below_size (zB HB))); replace HO195 := Aside0.mk (Kd.R_elder' (zr_ HO195) (Kd.R_base ho0) hb); replace HO199 := Aside0.mk (Kd.R_elder' (zr_ HO199) (Kd.R_base ho0) hb); replace HO203 := Aside0.mk (Kd.R_elder' (zr_ HO203) (Kd.R_base ho0) hb); replace BK192 := zb BK192 hb; replace HB := zs HB hb; (try clear hb); (try clear hb2); (try clear hk); (try clear hi); (try clear ho0); obtain ⟨hcz39_0, hcz39_1, hcz39_2, hcz39_3⟩ := zC4 BK192; obtain ⟨hfz39_0, hfz39_1, hfz39_2, hfz39_3⟩ := zF4 BK192; obtain ⟨Ao40, co40, eo40⟩ := Kd.R_slice HO207.out; subst eo40) | ((with_reducible refine gate_callee (f := 116) rfl ?_); refine goesL_ (some 74) rfl rfl Try.func116 (by kernel_rfl) rfl #[.slice Ao40 t204.length co40, .int .i64 (l0_3.length : Int), .int .i64 1] rfl (by (try simp only [List.map_toArray, List.map_cons, List.map_nil]); first | done | rfl | (simp only [List.length_drop, List.length_take]; rfl)) ?_; (with_reducible refine (bit_Put.calls kj1 _ _ t204 (l0_3.length : Int) 1 t208 t209 _ ?side1 ?side2 A23.out).mono ?_); (case side1 => repeat (first | exact (Kd.R_reads' HO207.out).2.2 | (with_reducible refine Kd.C_alloc ?_ _) | (with_reducible refine Kd.C_drewN ?_ _) | (with_reducible refine Kd.C_drew ?_))); (case side2 => exact (Kd.R_reads' HO207.out).2.1); rintro e w41 ⟨v210, rfl, ho0, hb⟩; refine ⟨_, rfl, ?_⟩; have HO211 := Aside0.mk (Kd.R_lower (Kd.R_new' (Kd.R_new' (Kd.R_new' (Kd.R_new' ho0 (Kd.R_lt (zr_ HO195))) (Kd.R_lt (zr_ HO199))) (Kd.R_lt (zr_ HO203))) (Kd.R_lt (zr_ HO207))) (below_size (zB HB))); replace HO195 := Aside0.mk (Kd.R_elder' (zr_ HO195) (Kd.R_base ho0) hb); replace HO199 := Aside0.mk (Kd.R_elder' (zr_ HO199) (Kd.R_base ho0) hb); replace HO203 := Aside0.mk (Kd.R_elder' (zr_ HO203) (Kd.R_base ho0) hb); replace HO207 := Aside0.mk (Kd.R_elder' (zr_ HO207) (Kd.R_base ho0) hb); replace BK192 := zb BK192 hb; replace HB := zs HB hb; (try clear hb); (try clear hb2); (try clear hk); (try clear hi); (try clear ho0); obtain ⟨Ao42, co42, eo42⟩ := Kd.R_slice HO211.out; subst eo42) | ((with_reducible refine gate_callee (f := 100) rfl ?_); refine goesL_ (some 79) rfl rfl Try.func100 (by kernel_rfl) rfl #[.slice Ao42 t208.length co42] rfl (by (try simp only [List.map_toArray, List.map_cons, List.map_nil]); first | done | rfl | (simp only [List.length_drop, List.length_take]; rfl)) ?_; (with_reducible refine (crc_Sum16.calls kj1 _ _ t208 t212 t213 _ ?side1 ?side2 A24.out).mono ?_); (case side1 => repeat (first | exact (Kd.R_reads' HO211.out).2.2 | (with_reducible refine Kd.C_alloc ?_ _) | (with_reducible refine Kd.C_drewN ?_ _) | (with_reducible refine Kd.C_drew ?_))); (case side2 => exact (Kd.R_reads' HO211.out).2.1); rintro e w43 ⟨rfl, hb⟩; refine ⟨_, rfl, ?_⟩; replace HO195 := zR HO195 hb; replace HO199 := zR HO199 hb; replace HO203 := zR HO203 hb; replace HO207 := zR HO207 hb; replace HO211 := zR HO211 hb; replace BK192 := zb BK192 hb; replace HB := zs HB hb; (try clear hb); (try clear hb2); (try clear hk); (try clear hi)) | ((with_reducible refine gate_callee (f := 116) rfl ?_); refine goesL_ (some 85) rfl rfl Try.func116 (by kernel_rfl) rfl #[.slice Ao42 t208.length co42, .int .i64 t212, .int .i64 2] rfl (by (try simp only [List.map_toArray, List.map_cons, List.map_nil]); first | done | rfl | (simp only [List.length_drop, List.length_take]; rfl)) ?_; (with_reducible refine (bit_Put.calls kj1 _ _ t208 t212 2 t214 t215 _ ?side1 ?side2 A25.out).mono ?_); (case side1 => repeat (first | exact (Kd.R_reads' HO211.out).2.2 | (with_reducible refine Kd.C_alloc ?_ _) | (with_reducible refine Kd.C_drewN ?_ _) | (with_reducible refine Kd.C_drew ?_))); (case side2 => exact (Kd.R_reads' HO211.out).2.1); rintro e w44 ⟨v216, rfl, ho0, hb⟩; refine ⟨_, rfl, ?_⟩; have HO217 := Aside0.mk (Kd.R_lower (Kd.R_new' (Kd.R_new' (Kd.R_new' (Kd.R_new' (Kd.R_new' ho0 (Kd.R_lt (zr_ HO195))) (Kd.R_lt (zr_ HO199))) (Kd.R_lt (zr_ HO203))) (Kd.R_lt (zr_ HO207))) (Kd.R_lt (zr_ HO211))) (below_size (zB HB))); replace HO195 := Aside0.mk (Kd.R_elder' (zr_ HO195) (Kd.R_base ho0) hb); replace HO199 := Aside0.mk (Kd.R_elder' (zr_ HO199) (Kd.R_base ho0) hb); replace HO203 := Aside0.mk (Kd.R_elder' (zr_ HO203) (Kd.R_base ho0) hb); replace HO207 := Aside0.mk (Kd.R_elder' (zr_ HO207) (Kd.R_base ho0) hb); replace HO211 := Aside0.mk (Kd.R_elder' (zr_ HO211) (Kd.R_base ho0) hb); replace BK192 := zb BK192 hb; replace HB := zs HB hb; (try clear hb); (try clear hb2); (try clear hk); (try clear hi); (try clear ho0); obtain ⟨hcz45_0, hcz45_1, hcz45_2, hcz45_3⟩ := zC4 BK192; obtain ⟨hfz45_0, hfz45_1, hfz45_2⟩ := zF3 BK192; have hfz45_3 := blk_frozen BK192.out 3) | ((with_reducible refine gate_builtin (b := .append) (xs := #[.tmp 88, .tmp 90]) rfl ?_); (try (refine gate_guard (by rfl) ?_; dsimp only)); at_builtin; refine Kd.R_append_rows (Kd.int .u8) (w0 := w) w.heap.size rfl (.tmp 88) (.tmp 90) 24 5 (.int .u8 0) 1 rfl Try.underlying24 info5 rfl (by decide) (by omega) v216 t214 l0_3 _ _ _ (fun k_ => some k_ ≠ (.slice Ao31 y193.length co31 : Value).ownBlock ∧ some k_ ≠ (.slice Ao34 t196.length co34 : Value).ownBlock ∧ some k_ ≠ (.slice Ao37 t200.length co37 : Value).ownBlock ∧ some k_ ≠ (.slice Ao40 t204.length co40 : Value).ownBlock ∧ some k_ ≠ (.slice Ao42 t208.length co42 : Value).ownBlock) (fun _ => False) rfl rfl ?aO ?aR (fun _ _ h => h) (fun _ h => h.elim) ?aF ?aB ?aS ?aL ?_; (case aR => repeat (first | exact (Kd.C_below HR0_3.out HB.out) | (with_reducible refine Kd.C_alloc ?_ _) | (with_reducible refine Kd.C_drewN ?_ _) | (with_reducible refine Kd.C_drew ?_))); (case aB => exact (zB HB)); (case aF => exact (fun k_ hk => ⟨Kd.fresh' (Kd.R_lt (zr_ HO195)) k_ hk, Kd.fresh' (Kd.R_lt (zr_ HO199)) k_ hk, Kd.fresh' (Kd.R_lt (zr_ HO203)) k_ hk, Kd.fresh' (Kd.R_lt (zr_ HO207)) k_ hk, Kd.fresh' (Kd.R_lt (zr_ HO211)) k_ hk⟩)); (case aO => exact (by (with_reducible repeat (first | apply Kd.R_alloc | apply Kd.R_drewN | apply Kd.R_drew)); exact Kd.R_mono HO217.out (fun _ hk => ⟨hk.1.1.1.1.2, ⟨hk.1.1.1.2, ⟨hk.1.1.2, ⟨hk.1.2, hk.2⟩⟩⟩⟩))); (case aS => exact (below_size (zB HB))); (case aL => have := LMc26.out; omega); intro v219 w46 ho hb hg hat; rw [← Ny218.out] at ho; have n0_ := Aside0.mk (blk_grown (g := gb192) (o := .cells #[.int .i64 a0_0, .int .i64 a0_1, .int .i64 a0_2, .slice A0_3 l0_3.length c0_3] 106 (0, 0)) (zk BK192) hg (Kd.R_ne HO217.out BK192.out (by decide))); have n1_ := Aside0.mk (Kd.R_after (ok := (fun k_ => some k_ ≠ (.slice Ao34 t196.length co34 : Value).ownBlock ∧ some k_ ≠ (.slice Ao37 t200.length co37 : Value).ownBlock ∧ some k_ ≠ (.slice Ao40 t204.length co40 : Value).ownBlock ∧ some k_ ≠ (.slice Ao42 t208.length co42 : Value).ownBlock)) (by (with_reducible repeat (first | apply Kd.R_alloc | apply Kd.R_drewN | apply Kd.R_drew)); exact Kd.R_mono HO195.out (fun _ hk => ⟨⟨hk.1.1.1.1.2, ⟨hk.1.1.1.2, ⟨hk.1.1.2, hk.1.2⟩⟩⟩, hk.2⟩)) hg hat); have n2_ := Aside0.mk (Kd.R_after (ok := (fun k_ => some k_ ≠ (.slice Ao31 y193.length co31 : Value).ownBlock ∧ some k_ ≠ (.slice Ao37 t200.length co37 : Value).ownBlock ∧ some k_ ≠ (.slice Ao40 t204.length co40 : Value).ownBlock ∧ some k_ ≠ (.slice Ao42 t208.length co42 : Value).ownBlock)) (by (with_reducible repeat (first | apply Kd.R_alloc | apply Kd.R_drewN | apply Kd.R_drew)); exact Kd.R_mono HO199.out (fun _ hk => ⟨⟨hk.1.1.1.1.2, ⟨hk.1.1.1.2, ⟨hk.1.1.2, hk.1.2⟩⟩⟩, hk.2⟩)) hg hat); have n3_ := Aside0.mk (Kd.R_after (ok := (fun k_ => some k_ ≠ (.slice Ao31 y193.length co31 : Value).ownBlock ∧ some k_ ≠ (.slice Ao34 t196.length co34 : Value).ownBlock ∧ some k_ ≠ (.slice Ao40 t204.length co40 : Value).ownBlock ∧ some k_ ≠ (.slice Ao42 t208.length co42 : Value).ownBlock)) (by (with_reducible repeat (first | apply Kd.R_alloc | apply Kd.R_drewN | apply Kd.R_drew)); exact Kd.R_mono HO203.out (fun _ hk => ⟨⟨hk.1.1.1.1.2, ⟨hk.1.1.1.2, ⟨hk.1.1.2, hk.1.2⟩⟩⟩, hk.2⟩)) hg hat); have n4_ := Aside0.mk (Kd.R_after (ok := (fun k_ => some k_ ≠ (.slice Ao31 y193.length co31 : Value).ownBlock ∧ some k_ ≠ (.slice Ao34 t196.length co34 : Value).ownBlock ∧ some k_ ≠ (.slice Ao37 t200.length co37 : Value).ownBlock ∧ some k_ ≠ (.slice Ao42 t208.length co42 : Value).ownBlock)) (by (with_reducible repeat (first | apply Kd.R_alloc | apply Kd.R_drewN | apply Kd.R_drew)); exact Kd.R_mono HO207.out (fun _ hk => ⟨⟨hk.1.1.1.1.2, ⟨hk.1.1.1.2, ⟨hk.1.1.2, hk.1.2⟩⟩⟩, hk.2⟩)) hg hat); have n5_ := Aside0.mk (Kd.R_after (ok := (fun k_ => some k_ ≠ (.slice Ao31 y193.length co31 : Value).ownBlock ∧ some k_ ≠ (.slice Ao34 t196.length co34 : Value).ownBlock ∧ some k_ ≠ (.slice Ao37 t200.length co37 : Value).ownBlock ∧ some k_ ≠ (.slice Ao40 t204.length co40 : Value).ownBlock)) (by (with_reducible repeat (first | apply Kd.R_alloc | apply Kd.R_drewN | apply Kd.R_drew)); exact Kd.R_mono HO211.out (fun _ hk => ⟨⟨hk.1.1.1.1.2, ⟨hk.1.1.1.2, ⟨hk.1.1.2, hk.1.2⟩⟩⟩, hk.2⟩)) hg hat); have n6_ := Aside0.mk (hb); have n7_ := Aside0.mk (ho); clear BK192; clear HO195; clear HO199; clear HO203; clear HO207; clear HO211; clear HB; clear HO217; have BK192 := n0_; have HO195 := n1_; have HO199 := n2_; have HO203 := n3_; have HO207 := n4_; have HO211 := n5_; have HB := n6_; have HO220 := n7_; clear n0_ n1_ n2_ n3_ n4_ n5_ n6_ n7_; clear ho hb hg hat))
 go_ret2
 exact ⟨_, by first | rfl | (simp [errW_none, errW_some] <;> rfl) | (simp [*, errW_none, errW_some] <;> rfl), by (with_reducible repeat (first | apply Kd.R_alloc | apply Kd.R_drewN | apply Kd.R_drew)); exact Kd.R_mono HO220.out (fun _ hk => trivial), by repeat (first | (with_reducible first | exact HB.out | apply below_alloc | apply pw_below_drewN | apply below_drew1 | refine below_set ?_ GE192.out) | exact HB.out)⟩
def data_Read.j0 : Nat → List Int → Bool → Option (Int × Int × Int × List Int × Int)
  | 0, _, _ => none
  | k + 1, x0, x12 => if x12 = true then (some (0, 0, 0, ([] : List Int), 2)) else (if 0 < (x0.length : Int) then (if (rd x0 0) = 68 then (if 9 ≤ (x0.length : Int) then ((crc_Sum16.f k (x0.take 9)).bind fun bt242 => ((bit_Get.f k x0 9 2).bind fun bt244 => ((bit_Get.f k x0 1 4).bind fun bt246 => ((bit_Get.f k x0 6 2).bind fun bt248 => (if bt242.1 = bt244.1 then (if bt246.1 ≥ 1073741824 then (some (0, 0, 0, ([] : List Int), 1)) else (if 8 < (x0.length : Int) then (if (wrap64 (rd x0 8)) = (wrap64 ((x0.length : Int) - 11)) then (if 5 < (x0.length : Int) then (if 11 ≤ (x0.length : Int) then ((Clone_bytes.f (x0.drop 11)).bind fun t253 => (some (bt246.1, wrap64 (rd x0 5), bt248.1, t253, 0))) else (none)) else (none)) else (some (0, 0, 0, ([] : List Int), 2))) else (none))) else (some (0, 0, 0, ([] : List Int), 4))))))) else (none)) else (some (0, 0, 0, ([] : List Int), 12))) else (none))
def data_Read.f (k : Nat) (l0 : List Int) : Option (Int × Int × Int × List Int × Int) := if (l0.length : Int) ≤ 11 then (data_Read.j0 k l0 true) else (data_Read.j0 k l0 (decide ((l0.length : Int) > 75)))
def data_Read.T15 : Bool × List (List Nat × List Nat) := (true, [([], []), ([], []), ([1], [1]), ([2], [2]), ([3], [3]), ([], []), ([], []), ([6], [6]), ([7], [7]), ([0, 4, 5, 8], [0, 4, 5, 8]), ([9, 8, 0, 1, 2, 3, 4, 5, 6, 7, 8, 9], [9]), ([10, 0, 1, 2, 3, 4, 5, 6, 7, 8, 9, 10], [])])
def data_Read.B15 : List Nat := [0, 0, 2, 6, 14, 0, 0, 64, 192, 511, 1023, 2047]
theorem data_Read.tab15 : rtab .any (opsOf Try.f56 15) = data_Read.T15 := by kernel_rfl
theorem data_Read.bits15 : waitsOk data_Read.T15.2 data_Read.B15 = true := by kernel_rfl
set_option maxRecDepth 100000 in
theorem data_Read.calls.z1 {P : Prop} (h : P := by
  go_wp2
  go_meet
  first
    | case rel => exact ⟨_, (true), (by first | rfl | (simp; done) | (simp [*]; done)), H', ⟨by first | omega | exact Nat.le_refl _⟩, ⟨by (with_reducible repeat (first | refine blk_drewN ?_ _ | refine blk_drew ?_ | refine blk_alloc ?_ _)); exact BK239.out⟩, ⟨by repeat (first | (with_reducible first | exact HB.out | apply below_alloc | apply pw_below_drewN | apply below_drew1 | refine below_set ?_ GE239.out) | exact HB.out)⟩⟩
    | case rel => exact ⟨_, (decide ((l0.length : Int) > 75)), (by first | rfl | (simp; done) | (simp [*]; done)), H', ⟨by first | omega | exact Nat.le_refl _⟩, ⟨by (with_reducible repeat (first | refine blk_drewN ?_ _ | refine blk_drew ?_ | refine blk_alloc ?_ _)); exact BK239.out⟩, ⟨by repeat (first | (with_reducible first | exact HB.out | apply below_alloc | apply pw_below_drewN | apply below_drew1 | refine below_set ?_ GE239.out) | exact HB.out)⟩⟩) : P := h
set_option maxRecDepth 100000 in
theorem data_Read.calls.z2 {P : Prop} (h : P := by
  go_wp2
  refine bodyPost_ret (results_ct rfl _ _ gb239 106 #[.int .i64 0, .int .i64 0, .int .i64 0, .slice none 0 0] (0, 0) _ rfl (by (with_reducible repeat (first | refine blk_drewN ?_ _ | refine blk_drew ?_ | refine blk_alloc ?_ _)); refine blk_put (cs := #[.int .i64 0, .int .i64 0, .int .i64 0, .slice none 0 0]) ?_ 3 _ rfl; (with_reducible repeat (first | refine blk_drewN ?_ _ | refine blk_drew ?_ | refine blk_alloc ?_ _)); refine blk_put (cs := #[.int .i64 0, .int .i64 0, .int .i64 0, .slice none 0 0]) ?_ 2 _ rfl; (with_reducible repeat (first | refine blk_drewN ?_ _ | refine blk_drew ?_ | refine blk_alloc ?_ _)); refine blk_put (cs := #[.int .i64 0, .int .i64 0, .int .i64 0, .slice none 0 0]) ?_ 1 _ rfl; (with_reducible repeat (first | refine blk_drewN ?_ _ | refine blk_drew ?_ | refine blk_alloc ?_ _)); refine blk_put (cs := #[.int .i64 0, .int .i64 0, .int .i64 0, .slice none 0 0]) ?_ 0 _ rfl; (with_reducible repeat (first | refine blk_drewN ?_ _ | refine blk_drew ?_ | refine blk_alloc ?_ _)); exact BK239.out) Try.underlying106 rfl (by kernel_rfl)) rfl ?_
  exact ⟨_, by first | rfl | (simp [errW_none, errW_some] <;> rfl) | (simp [*, errW_none, errW_some] <;> rfl), by first | exact Kd.R_nil _ _ _ _ _ | exact Kd.N_nil _ _ _ _ _ | exact Kd.V_nil _ _ _ _ _ | exact Kd.Q_nil _ _ _ _ _ | exact Kd.S_nil _ _ _ _ _, by repeat (first | (with_reducible first | exact HB.out | apply below_alloc | apply pw_below_drewN | apply below_drew1 | refine below_set ?_ GE239.out) | exact HB.out)⟩) : P := h
set_option maxRecDepth 100000 in
theorem data_Read.calls.z3 {P : Prop} (h : P := by
  go_wp2_with (first | ((with_reducible refine gate_callee (f := 100) rfl ?_); refine goesL_ (some 31) rfl rfl Try.func100 (by kernel_rfl) rfl #[.slice (some ad240) (l0.take 9).length c0] rfl (by (try simp only [List.map_toArray, List.map_cons, List.map_nil]); first | done | (rw [show (l0.take 9).length = 9 from (by rw [List.length_take]; have h_ : (9 : Int) ≤ (l0.length : Int) := of_decide_eq_true (by first | (with_reducible assumption) | assumption); omega)] <;> rfl) | rfl | (simp only [List.length_drop, List.length_take]; rfl)) ?_; (with_reducible refine (crc_Sum16.calls kj1 _ _ (l0.take 9) t242 t243 _ ?side1 ?side2 A10.out).mono ?_); (case side1 => repeat (first | exact (Kd.C_below HR241.out HB.out) | (with_reducible refine Kd.C_alloc ?_ _) | (with_reducible refine Kd.C_drewN ?_ _) | (with_reducible refine Kd.C_drew ?_))); (case side2 => exact HC241.out); rintro e wq0 ⟨rfl, hb⟩; refine ⟨_, rfl, ?_⟩; replace BK239 := zb BK239 hb; replace HB := zs HB hb; (try clear hb); (try clear hb2); (try clear hk); (try clear hi)) | ((with_reducible refine gate_callee (f := 101) rfl ?_); refine goesL_ (some 36) rfl rfl Try.func101 (by kernel_rfl) rfl #[.slice (some ad240) l0.length c0, .int .i64 9, .int .i64 2] rfl (by (try simp only [List.map_toArray, List.map_cons, List.map_nil]); first | done | rfl | (simp only [List.length_drop, List.length_take]; rfl)) ?_; (with_reducible refine (bit_Get.calls kj1 _ _ l0 9 2 t244 t245 _ ?side1 ?side2 A11.out).mono ?_); (case side1 => repeat (first | exact (Kd.C_below HR0.out HB.out) | (with_reducible refine Kd.C_alloc ?_ _) | (with_reducible refine Kd.C_drewN ?_ _) | (with_reducible refine Kd.C_drew ?_))); (case side2 => exact HC0.out); rintro e w' ⟨rfl, ⟨nd, rfl⟩⟩; refine ⟨_, rfl, ?_⟩; (try (rw [drewN_self wq0]; generalize hq_ : World.drewN wq0 _ = wq0; have nq1 : Aside0 (wq0.heap[gb239]? = some (.cells #[.int .i64 0, .int .i64 0, .int .i64 0, .slice none 0 0] 106 (0, 0))) := ⟨by rw [← hq_]; exact (zk BK239)⟩; have nq2 : Aside0 (Below w.heap.size w wq0) := ⟨by rw [← hq_]; exact (zB HB)⟩; clear BK239 HB hq_; have BK239 := nq1; have HB := nq2; clear nq1 nq2))) | ((with_reducible refine gate_callee (f := 101) rfl ?_); refine goesL_ (some 41) rfl rfl Try.func101 (by kernel_rfl) rfl #[.slice (some ad240) l0.length c0, .int .i64 1, .int .i64 4] rfl (by (try simp only [List.map_toArray, List.map_cons, List.map_nil]); first | done | rfl | (simp only [List.length_drop, List.length_take]; rfl)) ?_; (with_reducible refine (bit_Get.calls kj1 _ _ l0 1 4 t246 t247 _ ?side1 ?side2 A12.out).mono ?_); (case side1 => repeat (first | exact (Kd.C_below HR0.out HB.out) | (with_reducible refine Kd.C_alloc ?_ _) | (with_reducible refine Kd.C_drewN ?_ _) | (with_reducible refine Kd.C_drew ?_))); (case side2 => exact HC0.out); rintro e w' ⟨rfl, ⟨nd, rfl⟩⟩; refine ⟨_, rfl, ?_⟩; (try (rw [drewN_self wq0]; generalize hq_ : World.drewN wq0 _ = wq0; have nq1 : Aside0 (wq0.heap[gb239]? = some (.cells #[.int .i64 0, .int .i64 0, .int .i64 0, .slice none 0 0] 106 (0, 0))) := ⟨by rw [← hq_]; exact (zk BK239)⟩; have nq2 : Aside0 (Below w.heap.size w wq0) := ⟨by rw [← hq_]; exact (zB HB)⟩; clear BK239 HB hq_; have BK239 := nq1; have HB := nq2; clear nq1 nq2))) | ((with_reducible refine gate_callee (f := 101) rfl ?_); refine goesL_ (some 46) rfl rfl Try.func101 (by kernel_rfl) rfl #[.slice (some ad240) l0.length c0, .int .i64 6, .int .i64 2] rfl (by (try simp only [List.map_toArray, List.map_cons, List.map_nil]); first | done | rfl | (simp only [List.length_drop, List.length_take]; rfl)) ?_; (with_reducible refine (bit_Get.calls kj1 _ _ l0 6 2 t248 t249 _ ?side1 ?side2 A13.out).mono ?_); (case side1 => repeat (first | exact (Kd.C_below HR0.out HB.out) | (with_reducible refine Kd.C_alloc ?_ _) | (with_reducible refine Kd.C_drewN ?_ _) | (with_reducible refine Kd.C_drew ?_))); (case side2 => exact HC0.out); rintro e w' ⟨rfl, ⟨nd, rfl⟩⟩; refine ⟨_, rfl, ?_⟩; (try (rw [drewN_self wq0]; generalize hq_ : World.drewN wq0 _ = wq0; have nq1 : Aside0 (wq0.heap[gb239]? = some (.cells #[.int .i64 0, .int .i64 0, .int .i64 0, .slice none 0 0] 106 (0, 0))) := ⟨by rw [← hq_]; exact (zk BK239)⟩; have nq2 : Aside0 (Below w.heap.size w wq0) := ⟨by rw [← hq_]; exact (zB HB)⟩; clear BK239 HB hq_; have BK239 := nq1; have HB := nq2; clear nq1 nq2)); obtain ⟨hczq3, hczq4, hczq5, hczq6⟩ := zC4 BK239; obtain ⟨hfzq7, hfzq8, hfzq9⟩ := zF3 BK239; have hfzq10 := blk_frozen BK239.out 3))
  refine bodyPost_ret (results_ct rfl _ _ gb239 106 #[.int .i64 0, .int .i64 0, .int .i64 0, .slice none 0 0] (0, 0) _ rfl (by (with_reducible repeat (first | refine blk_drewN ?_ _ | refine blk_drew ?_ | refine blk_alloc ?_ _)); refine blk_put (cs := #[.int .i64 0, .int .i64 0, .int .i64 0, .slice none 0 0]) ?_ 3 _ rfl; (with_reducible repeat (first | refine blk_drewN ?_ _ | refine blk_drew ?_ | refine blk_alloc ?_ _)); refine blk_put (cs := #[.int .i64 0, .int .i64 0, .int .i64 0, .slice none 0 0]) ?_ 2 _ rfl; (with_reducible repeat (first | refine blk_drewN ?_ _ | refine blk_drew ?_ | refine blk_alloc ?_ _)); refine blk_put (cs := #[.int .i64 0, .int .i64 0, .int .i64 0, .slice none 0 0]) ?_ 1 _ rfl; (with_reducible repeat (first | refine blk_drewN ?_ _ | refine blk_drew ?_ | refine blk_alloc ?_ _)); refine blk_put (cs := #[.int .i64 0, .int .i64 0, .int .i64 0, .slice none 0 0]) ?_ 0 _ rfl; (with_reducible repeat (first | refine blk_drewN ?_ _ | refine blk_drew ?_ | refine blk_alloc ?_ _)); exact BK239.out) Try.underlying106 rfl (by kernel_rfl)) rfl ?_
  exact ⟨_, by first | rfl | (simp [errW_none, errW_some] <;> rfl) | (simp [*, errW_none, errW_some] <;> rfl), by first | exact Kd.R_nil _ _ _ _ _ | exact Kd.N_nil _ _ _ _ _ | exact Kd.V_nil _ _ _ _ _ | exact Kd.Q_nil _ _ _ _ _ | exact Kd.S_nil _ _ _ _ _, by repeat (first | (with_reducible first | exact HB.out | apply below_alloc | apply pw_below_drewN | apply below_drew1 | refine below_set ?_ GE239.out) | exact HB.out)⟩) : P := h
set_option maxHeartbeats 8000000 in
set_option maxRecDepth 100000 in
theorem data_Read.calls (k : Nat) (A0 : Option Addr) (c0 : Nat) (l0 : List Int) (r1 : Int) (r2 : Int) (r3 : Int) (r4 : List Int) (r5 : Int) (w : World) (hr0 : Kd.C (Kd.int .u8) w A0 l0.length l0) (hc0 : l0.length ≤ c0) (h : data_Read.f k l0 = some (r1, r2, r3, r4, r5)) :
    Calls Try.prog 56 #[.slice A0 l0.length c0] w fun e w' => ∃ v3_ : Value, e = .returned (.tuple #[.agg #[.int .i64 r1, .int .i64 r2, .int .i64 r3, v3_], .int .i64 r5]) ∧ Kd.R (Kd.int .u8) 5 w' w.heap.size (fun _ => True) v3_ r4 ∧ Below w.heap.size w w' := by
 have hu106 := Try.underlying106
 have HR0 := Aside0.mk hr0
 have HC0 := Aside0.mk hc0
 clear hr0 hc0
 have HB := Aside0.mk (Below.refl w.heap.size w)
 have H : (if (l0.length : Int) ≤ 11 then (data_Read.j0 k l0 true) else (data_Read.j0 k l0 (decide ((l0.length : Int) > 75)))) = some (r1, r2, r3, r4, r5) := h
 clear h
 have HC2 := Aside0.mk H
 clear H
 go_enter Try.func56, Try.ntmps56
 go_upto_region 1 with (first | ((with_reducible refine gate_dst (N := 2) rfl ?_); (try (refine gate_guard (by rfl) ?_; dsimp only)); refine box_event ?hg (N := 2) ?hd (cs := #[.int .i64 0, .int .i64 0, .int .i64 0, .slice none 0 0]) (t := 106) ?hr ?_; (case hd => rfl); (case hg => rfl); (case hr => first | (go_simp; done) | (go_simp; rfl)); intro gb239 hg w3 hbox hb; have BK239 := Aside0.mk (hbox); have GW239 := zg HB hg; have GE239 := zg HB hg; replace HB := zs HB hb; clear hb hbox hg))
 (try simp only [Act.put, List.setIfInBounds_toArray, List.set_cons_zero, List.set_cons_succ])
 go_cut [12] (fun v12 wc => ∃ (kq : Nat) (x12_1 : Bool), v12 = .bool x12_1 ∧ Aside0 (data_Read.j0 kq l0 x12_1 = some (r1, r2, r3, r4, r5)) ∧ Aside0 (kq ≤ k) ∧ Aside0 (wc.heap[gb239]? = some (.cells #[.int .i64 0, .int .i64 0, .int .i64 0, (.slice none 0 0)] 106 (0, 0))) ∧ Aside0 (Below w.heap.size w wc))
 case first =>
  have H := HC2.out
  clear HC2
  by_cases c4 : (l0.length : Int) ≤ 11
  · rw [if_pos c4] at H
    have c4b0 : decide ((l0.length : Int) ≤ 11) = true := decide_eq_true c4
    have c4b1 : decide (l0.length ≤ 11) = true := decide_eq_true (by omega)
    clear c4
    (first | rw [c4b0] | (simp only [i64_w, i32_w]; rw [c4b0]) | skip)
    have H' := Aside0.mk H
    clear H
    exact data_Read.calls.z1
  rw [if_neg c4] at H
  have c4b0 : decide ((l0.length : Int) ≤ 11) = false := decide_eq_false c4
  have c4b1 : decide (l0.length ≤ 11) = false := decide_eq_false (by omega)
  clear c4
  (first | rw [c4b0] | (simp only [i64_w, i32_w]; rw [c4b0]) | skip)
  have H' := Aside0.mk H
  clear H
  exact data_Read.calls.z1
 clear HC2
 try clear p2
 try clear c4
 try clear c4b0
 try clear c4b1
 obtain ⟨kq, x12_1, rfl, HA, HJ1, BK239, HB⟩ := hcut
 cases kq with
 | zero => exact absurd HA.out (by simp [data_Read.j0])
 | succ kj1 => ?_
 have H := HA.out
 clear HA
 simp only [data_Read.j0] at H
 by_cases c5 : x12_1 = true
 · subst c5
   have H1 : (some (0, 0, 0, ([] : List Int), 2)) = some (r1, r2, r3, r4, r5) := by first | (rw [if_pos rfl] at H; exact H) | exact (if_pos rfl).symm.trans H
   clear H
   have H := H1
   clear H1
   simp only [Option.some.injEq, Prod.mk.injEq] at H
   obtain ⟨rfl, rfl, rfl, rfl, rfl⟩ := H
   obtain ⟨hcz6_0, hcz6_1, hcz6_2, hcz6_3⟩ := zC4 BK239
   obtain ⟨hfz6_0, hfz6_1, hfz6_2, hfz6_3⟩ := zF4 BK239
   exact data_Read.calls.z2
 replace c5 := Bool.eq_false_iff.mpr c5
 subst c5
 have H1 : (if 0 < (l0.length : Int) then (if (rd l0 0) = 68 then (if 9 ≤ (l0.length : Int) then ((crc_Sum16.f kj1 (l0.take 9)).bind fun bt242 => ((bit_Get.f kj1 l0 9 2).bind fun bt244 => ((bit_Get.f kj1 l0 1 4).bind fun bt246 => ((bit_Get.f kj1 l0 6 2).bind fun bt248 => (if bt242.1 = bt244.1 then (if bt246.1 ≥ 1073741824 then (some (0, 0, 0, ([] : List Int), 1)) else (if 8 < (l0.length : Int) then (if (wrap64 (rd l0 8)) = (wrap64 ((l0.length : Int) - 11)) then (if 5 < (l0.length : Int) then (if 11 ≤ (l0.length : Int) then ((Clone_bytes.f (l0.drop 11)).bind fun t253 => (some (bt246.1, wrap64 (rd l0 5), bt248.1, t253, 0))) else (none)) else (none)) else (some (0, 0, 0, ([] : List Int), 2))) else (none))) else (some (0, 0, 0, ([] : List Int), 4))))))) else (none)) else (some (0, 0, 0, ([] : List Int), 12))) else (none)) = some (r1, r2, r3, r4, r5) := by rw [if_neg (show ¬ (false = true) by decide)] at H; exact H
 clear H
 have H := H1
 clear H1
 by_cases c7 : 0 < (l0.length : Int)
 rotate_left
 · rw [if_neg c7] at H
   exact absurd H (by simp)
 rw [if_pos c7] at H
 have c7b0 : decide (0 < (l0.length : Int)) = true := decide_eq_true c7
 have c7b1 : decide (0 < l0.length) = true := decide_eq_true (by omega)
 clear c7
 by_cases c8 : (rd l0 0) = 68
 rotate_left
 · rw [if_neg c8] at H
   have c8b0 : ((rd l0 0) == 68) = false := beq_eq_false_iff_ne.mpr c8
   have c8b1 : ((rd l0 0) != 68) = true := bne_iff_ne.mpr c8
   simp only [Option.some.injEq, Prod.mk.injEq] at H
   obtain ⟨rfl, rfl, rfl, rfl, rfl⟩ := H
   have p240 : 0 ≤ (0 : Int) := (by omega)
   have q240 : 0 < (l0.length : Int) := of_decide_eq_true (by first | (with_reducible assumption) | assumption)
   obtain ⟨ad240, e240, hx240_0⟩ := Kd.at_int HR0.out 0 p240 q240
   cases e240
   have qi240 : (0 < l0.length) = True := eq_true (by omega)
   (try rw [show ((0 : Int)).toNat = 0 from rfl] at hx240_0)
   (try rw [Addr.add_zero'] at hx240_0)
   replace hx240_0 := (HB.out.cell (World.block_lt_of_cell? w _ hx240_0)).trans hx240_0
   replace p240 := eq_true p240
   replace q240 := eq_true q240
   obtain ⟨hcz40_0, hcz40_1, hcz40_2, hcz40_3⟩ := zC4 BK239
   obtain ⟨hfz40_0, hfz40_1, hfz40_2, hfz40_3⟩ := zF4 BK239
   exact data_Read.calls.z2
 rw [if_pos c8] at H
 have c8b0 : ((rd l0 0) == 68) = true := beq_iff_eq.mpr c8
 have c8b1 : ((rd l0 0) != 68) = false := bne_eq_false_iff_eq.mpr c8
 clear c8
 by_cases c9 : 9 ≤ (l0.length : Int)
 rotate_left
 · rw [if_neg c9] at H
   exact absurd H (by simp)
 rw [if_pos c9] at H
 have c9b0 := eq_true c9
 have c9b1 : decide (9 ≤ (l0.length : Int)) = true := decide_eq_true c9
 clear c9
 replace H := Option.bind_eq_some_iff.mp H
 obtain ⟨⟨t242, t243⟩, A100, H⟩ := H
 replace H : ((bit_Get.f kj1 l0 9 2).bind fun bt244 => ((bit_Get.f kj1 l0 1 4).bind fun bt246 => ((bit_Get.f kj1 l0 6 2).bind fun bt248 => (if t242 = bt244.1 then (if bt246.1 ≥ 1073741824 then (some (0, 0, 0, ([] : List Int), 1)) else (if 8 < (l0.length : Int) then (if (wrap64 (rd l0 8)) = (wrap64 ((l0.length : Int) - 11)) then (if 5 < (l0.length : Int) then (if 11 ≤ (l0.length : Int) then ((Clone_bytes.f (l0.drop 11)).bind fun t253 => (some (bt246.1, wrap64 (rd l0 5), bt248.1, t253, 0))) else (none)) else (none)) else (some (0, 0, 0, ([] : List Int), 2))) else (none))) else (some (0, 0, 0, ([] : List Int), 4)))))) = some (r1, r2, r3, r4, r5) := H
 have A10 := Aside0.mk A100
 clear A100
 replace H := Option.bind_eq_some_iff.mp H
 obtain ⟨⟨t244, t245⟩, A110, H⟩ := H
 replace H : ((bit_Get.f kj1 l0 1 4).bind fun bt246 => ((bit_Get.f kj1 l0 6 2).bind fun bt248 => (if t242 = t244 then (if bt246.1 ≥ 1073741824 then (some (0, 0, 0, ([] : List Int), 1)) else (if 8 < (l0.length : Int) then (if (wrap64 (rd l0 8)) = (wrap64 ((l0.length : Int) - 11)) then (if 5 < (l0.length : Int) then (if 11 ≤ (l0.length : Int) then ((Clone_bytes.f (l0.drop 11)).bind fun t253 => (some (bt246.1, wrap64 (rd l0 5), bt248.1, t253, 0))) else (none)) else (none)) else (some (0, 0, 0, ([] : List Int), 2))) else (none))) else (some (0, 0, 0, ([] : List Int), 4))))) = some (r1, r2, r3, r4, r5) := H
 have A11 := Aside0.mk A110
 clear A110
 replace H := Option.bind_eq_some_iff.mp H
 obtain ⟨⟨t246, t247⟩, A120, H⟩ := H
 replace H : ((bit_Get.f kj1 l0 6 2).bind fun bt248 => (if t242 = t244 then (if t246 ≥ 1073741824 then (some (0, 0, 0, ([] : List Int), 1)) else (if 8 < (l0.length : Int) then (if (wrap64 (rd l0 8)) = (wrap64 ((l0.length : Int) - 11)) then (if 5 < (l0.length : Int) then (if 11 ≤ (l0.length : Int) then ((Clone_bytes.f (l0.drop 11)).bind fun t253 => (some (t246, wrap64 (rd l0 5), bt248.1, t253, 0))) else (none)) else (none)) else (some (0, 0, 0, ([] : List Int), 2))) else (none))) else (some (0, 0, 0, ([] : List Int), 4)))) = some (r1, r2, r3, r4, r5) := H
 have A12 := Aside0.mk A120
 clear A120
 replace H := Option.bind_eq_some_iff.mp H
 obtain ⟨⟨t248, t249⟩, A130, H⟩ := H
 replace H : (if t242 = t244 then (if t246 ≥ 1073741824 then (some (0, 0, 0, ([] : List Int), 1)) else (if 8 < (l0.length : Int) then (if (wrap64 (rd l0 8)) = (wrap64 ((l0.length : Int) - 11)) then (if 5 < (l0.length : Int) then (if 11 ≤ (l0.length : Int) then ((Clone_bytes.f (l0.drop 11)).bind fun t253 => (some (t246, wrap64 (rd l0 5), t248, t253, 0))) else (none)) else (none)) else (some (0, 0, 0, ([] : List Int), 2))) else (none))) else (some (0, 0, 0, ([] : List Int), 4))) = some (r1, r2, r3, r4, r5) := H
 have A13 := Aside0.mk A130
 clear A130
 by_cases c14 : t242 = t244
 rotate_left
 · rw [if_neg c14] at H
   have c14b0 : (t242 == t244) = false := beq_eq_false_iff_ne.mpr c14
   have c14b1 : (t242 != t244) = true := bne_iff_ne.mpr c14
   simp only [Option.some.injEq, Prod.mk.injEq] at H
   obtain ⟨rfl, rfl, rfl, rfl, rfl⟩ := H
   have p240 : 0 ≤ (0 : Int) := (by omega)
   have q240 : 0 < (l0.length : Int) := of_decide_eq_true (by first | (with_reducible assumption) | assumption)
   obtain ⟨ad240, e240, hx240_0⟩ := Kd.at_int HR0.out 0 p240 q240
   cases e240
   have qi240 : (0 < l0.length) = True := eq_true (by omega)
   (try rw [show ((0 : Int)).toNat = 0 from rfl] at hx240_0)
   (try rw [Addr.add_zero'] at hx240_0)
   replace hx240_0 := (HB.out.cell (World.block_lt_of_cell? w _ hx240_0)).trans hx240_0
   replace p240 := eq_true p240
   replace q240 := eq_true q240
   obtain ⟨i037, hi037, _, hsz37, _⟩ := info_parts info5
   obtain ⟨hcut37, hA37, hC37⟩ := print_take_of (P := Try.prog) (Value.int .u8) 0 24 5 .i64 Try.underlying24 hi037 hsz37 (some ad240) c0 l0 9 (by omega) (of_decide_eq_true (by first | (with_reducible assumption) | assumption)) HC0.out
   have HR241 := Aside0.mk (Kd.C_of_reads (h1 := fun _ => rfl) (hA37 _ (Kd.reads_of_C HR0.out)))
   have HC241 := Aside0.mk hC37
   clear hA37 hC37 hi037 hsz37
   exact data_Read.calls.z3
 rw [if_pos c14] at H
 have c14b0 : (t242 == t244) = true := beq_iff_eq.mpr c14
 have c14b1 : (t242 != t244) = false := bne_eq_false_iff_eq.mpr c14
 clear c14
 by_cases c15 : t246 ≥ 1073741824
 · rw [if_pos c15] at H
   have c15b0 : decide (1073741824 ≤ t246) = true := decide_eq_true c15
   clear c15
   simp only [Option.some.injEq, Prod.mk.injEq] at H
   obtain ⟨rfl, rfl, rfl, rfl, rfl⟩ := H
   have p240 : 0 ≤ (0 : Int) := (by omega)
   have q240 : 0 < (l0.length : Int) := of_decide_eq_true (by first | (with_reducible assumption) | assumption)
   obtain ⟨ad240, e240, hx240_0⟩ := Kd.at_int HR0.out 0 p240 q240
   cases e240
   have qi240 : (0 < l0.length) = True := eq_true (by omega)
   (try rw [show ((0 : Int)).toNat = 0 from rfl] at hx240_0)
   (try rw [Addr.add_zero'] at hx240_0)
   replace hx240_0 := (HB.out.cell (World.block_lt_of_cell? w _ hx240_0)).trans hx240_0
   replace p240 := eq_true p240
   replace q240 := eq_true q240
   obtain ⟨i016, hi016, _, hsz16, _⟩ := info_parts info5
   obtain ⟨hcut16, hA16, hC16⟩ := print_take_of (P := Try.prog) (Value.int .u8) 0 24 5 .i64 Try.underlying24 hi016 hsz16 (some ad240) c0 l0 9 (by omega) (of_decide_eq_true (by first | (with_reducible assumption) | assumption)) HC0.out
   have HR241 := Aside0.mk (Kd.C_of_reads (h1 := fun _ => rfl) (hA16 _ (Kd.reads_of_C HR0.out)))
   have HC241 := Aside0.mk hC16
   clear hA16 hC16 hi016 hsz16
   exact data_Read.calls.z3
 rw [if_neg c15] at H
 have c15b0 : decide (1073741824 ≤ t246) = false := decide_eq_false c15
 clear c15
 by_cases c19 : 8 < (l0.length : Int)
 rotate_left
 · rw [if_neg c19] at H
   exact absurd H (by simp)
 rw [if_pos c19] at H
 have c19b0 : decide (8 < (l0.length : Int)) = true := decide_eq_true c19
 have c19b1 : decide (8 < l0.length) = true := decide_eq_true (by omega)
 clear c19
 by_cases c20 : (wrap64 (rd l0 8)) = (wrap64 ((l0.length : Int) - 11))
 rotate_left
 · rw [if_neg c20] at H
   have c20b0 : ((wrap64 (rd l0 8)) == (wrap64 ((l0.length : Int) - 11))) = false := beq_eq_false_iff_ne.mpr c20
   have c20b1 : ((wrap64 (rd l0 8)) != (wrap64 ((l0.length : Int) - 11))) = true := bne_iff_ne.mpr c20
   simp only [Option.some.injEq, Prod.mk.injEq] at H
   obtain ⟨rfl, rfl, rfl, rfl, rfl⟩ := H
   have p240 : 0 ≤ (0 : Int) := (by omega)
   have q240 : 0 < (l0.length : Int) := of_decide_eq_true (by first | (with_reducible assumption) | assumption)
   obtain ⟨ad240, e240, hx240_0⟩ := Kd.at_int HR0.out 0 p240 q240
   cases e240
   have qi240 : (0 < l0.length) = True := eq_true (by omega)
   (try rw [show ((0 : Int)).toNat = 0 from rfl] at hx240_0)
   (try rw [Addr.add_zero'] at hx240_0)
   replace hx240_0 := (HB.out.cell (World.block_lt_of_cell? w _ hx240_0)).trans hx240_0
   replace p240 := eq_true p240
   replace q240 := eq_true q240
   obtain ⟨i034, hi034, _, hsz34, _⟩ := info_parts info5
   obtain ⟨hcut34, hA34, hC34⟩ := print_take_of (P := Try.prog) (Value.int .u8) 0 24 5 .i64 Try.underlying24 hi034 hsz34 (some ad240) c0 l0 9 (by omega) (of_decide_eq_true (by first | (with_reducible assumption) | assumption)) HC0.out
   have HR241 := Aside0.mk (Kd.C_of_reads (h1 := fun _ => rfl) (hA34 _ (Kd.reads_of_C HR0.out)))
   have HC241 := Aside0.mk hC34
   clear hA34 hC34 hi034 hsz34
   go_wp2_with (first | ((with_reducible refine gate_callee (f := 100) rfl ?_); refine goesL_ (some 31) rfl rfl Try.func100 (by kernel_rfl) rfl #[.slice (some ad240) (l0.take 9).length c0] rfl (by (try simp only [List.map_toArray, List.map_cons, List.map_nil]); first | done | (rw [show (l0.take 9).length = 9 from (by rw [List.length_take]; have h_ : (9 : Int) ≤ (l0.length : Int) := of_decide_eq_true (by first | (with_reducible assumption) | assumption); omega)] <;> rfl) | rfl | (simp only [List.length_drop, List.length_take]; rfl)) ?_; (with_reducible refine (crc_Sum16.calls kj1 _ _ (l0.take 9) t242 t243 _ ?side1 ?side2 A10.out).mono ?_); (case side1 => repeat (first | exact (Kd.C_below HR241.out HB.out) | (with_reducible refine Kd.C_alloc ?_ _) | (with_reducible refine Kd.C_drewN ?_ _) | (with_reducible refine Kd.C_drew ?_))); (case side2 => exact HC241.out); rintro e w35 ⟨rfl, hb⟩; refine ⟨_, rfl, ?_⟩; replace BK239 := zb BK239 hb; replace HB := zs HB hb; (try clear hb); (try clear hb2); (try clear hk); (try clear hi)) | ((with_reducible refine gate_callee (f := 101) rfl ?_); refine goesL_ (some 36) rfl rfl Try.func101 (by kernel_rfl) rfl #[.slice (some ad240) l0.length c0, .int .i64 9, .int .i64 2] rfl (by (try simp only [List.map_toArray, List.map_cons, List.map_nil]); first | done | rfl | (simp only [List.length_drop, List.length_take]; rfl)) ?_; (with_reducible refine (bit_Get.calls kj1 _ _ l0 9 2 t244 t245 _ ?side1 ?side2 A11.out).mono ?_); (case side1 => repeat (first | exact (Kd.C_below HR0.out HB.out) | (with_reducible refine Kd.C_alloc ?_ _) | (with_reducible refine Kd.C_drewN ?_ _) | (with_reducible refine Kd.C_drew ?_))); (case side2 => exact HC0.out); rintro e w' ⟨rfl, ⟨nd, rfl⟩⟩; refine ⟨_, rfl, ?_⟩; (try (rw [drewN_self w35]; generalize hq_ : World.drewN w35 _ = w35; have n0_ : Aside0 (w35.heap[gb239]? = some (.cells #[.int .i64 0, .int .i64 0, .int .i64 0, .slice none 0 0] 106 (0, 0))) := ⟨by rw [← hq_]; exact (zk BK239)⟩; have n1_ : Aside0 (Below w.heap.size w w35) := ⟨by rw [← hq_]; exact (zB HB)⟩; clear BK239 HB hq_; have BK239 := n0_; have HB := n1_; clear n0_ n1_))) | ((with_reducible refine gate_callee (f := 101) rfl ?_); refine goesL_ (some 41) rfl rfl Try.func101 (by kernel_rfl) rfl #[.slice (some ad240) l0.length c0, .int .i64 1, .int .i64 4] rfl (by (try simp only [List.map_toArray, List.map_cons, List.map_nil]); first | done | rfl | (simp only [List.length_drop, List.length_take]; rfl)) ?_; (with_reducible refine (bit_Get.calls kj1 _ _ l0 1 4 t246 t247 _ ?side1 ?side2 A12.out).mono ?_); (case side1 => repeat (first | exact (Kd.C_below HR0.out HB.out) | (with_reducible refine Kd.C_alloc ?_ _) | (with_reducible refine Kd.C_drewN ?_ _) | (with_reducible refine Kd.C_drew ?_))); (case side2 => exact HC0.out); rintro e w' ⟨rfl, ⟨nd, rfl⟩⟩; refine ⟨_, rfl, ?_⟩; (try (rw [drewN_self w35]; generalize hq_ : World.drewN w35 _ = w35; have n0_ : Aside0 (w35.heap[gb239]? = some (.cells #[.int .i64 0, .int .i64 0, .int .i64 0, .slice none 0 0] 106 (0, 0))) := ⟨by rw [← hq_]; exact (zk BK239)⟩; have n1_ : Aside0 (Below w.heap.size w w35) := ⟨by rw [← hq_]; exact (zB HB)⟩; clear BK239 HB hq_; have BK239 := n0_; have HB := n1_; clear n0_ n1_))) | ((with_reducible refine gate_callee (f := 101) rfl ?_); refine goesL_ (some 46) rfl rfl Try.func101 (by kernel_rfl) rfl #[.slice (some ad240) l0.length c0, .int .i64 6, .int .i64 2] rfl (by (try simp only [List.map_toArray, List.map_cons, List.map_nil]); first | done | rfl | (simp only [List.length_drop, List.length_take]; rfl)) ?_; (with_reducible refine (bit_Get.calls kj1 _ _ l0 6 2 t248 t249 _ ?side1 ?side2 A13.out).mono ?_); (case side1 => repeat (first | exact (Kd.C_below HR0.out HB.out) | (with_reducible refine Kd.C_alloc ?_ _) | (with_reducible refine Kd.C_drewN ?_ _) | (with_reducible refine Kd.C_drew ?_))); (case side2 => exact HC0.out); rintro e w' ⟨rfl, ⟨nd, rfl⟩⟩; refine ⟨_, rfl, ?_⟩; (try (rw [drewN_self w35]; generalize hq_ : World.drewN w35 _ = w35; have n0_ : Aside0 (w35.heap[gb239]? = some (.cells #[.int .i64 0, .int .i64 0, .int .i64 0, .slice none 0 0] 106 (0, 0))) := ⟨by rw [← hq_]; exact (zk BK239)⟩; have n1_ : Aside0 (Below w.heap.size w w35) := ⟨by rw [← hq_]; exact (zB HB)⟩; clear BK239 HB hq_; have BK239 := n0_; have HB := n1_; clear n0_ n1_)); have p250 : 0 ≤ (8 : Int) := (by omega); have q250 : 8 < (l0.length : Int) := of_decide_eq_true (by first | (with_reducible assumption) | assumption); obtain ⟨ad250, e250, hx250_0⟩ := Kd.at_int HR0.out 8 p250 q250; obtain rfl : ad240 = ad250 := (by injection e250); (try simp only [show (8 : Int).toNat = 8 from rfl, Nat.reduceMul, Nat.reduceEqDiff, Go.Addr.add, ↓reduceIte] at hx250_0); have qi250 : (8 < l0.length) = True := eq_true (by omega); (try rw [show ((8 : Int)).toNat = 8 from rfl] at hx250_0); replace hx250_0 := (HB.out.cell (World.block_lt_of_cell? w _ hx250_0)).trans hx250_0; replace p250 := eq_true p250; replace q250 := eq_true q250; obtain ⟨hcz36_0, hcz36_1, hcz36_2, hcz36_3⟩ := zC4 BK239; obtain ⟨hfz36_0, hfz36_1, hfz36_2⟩ := zF3 BK239; have hfz36_3 := blk_frozen BK239.out 3))
   refine bodyPost_ret (results_ct rfl _ _ gb239 106 #[.int .i64 0, .int .i64 0, .int .i64 0, .slice none 0 0] (0, 0) _ rfl (by (with_reducible repeat (first | refine blk_drewN ?_ _ | refine blk_drew ?_ | refine blk_alloc ?_ _)); refine blk_put (cs := #[.int .i64 0, .int .i64 0, .int .i64 0, .slice none 0 0]) ?_ 3 _ rfl; (with_reducible repeat (first | refine blk_drewN ?_ _ | refine blk_drew ?_ | refine blk_alloc ?_ _)); refine blk_put (cs := #[.int .i64 0, .int .i64 0, .int .i64 0, .slice none 0 0]) ?_ 2 _ rfl; (with_reducible repeat (first | refine blk_drewN ?_ _ | refine blk_drew ?_ | refine blk_alloc ?_ _)); refine blk_put (cs := #[.int .i64 0, .int .i64 0, .int .i64 0, .slice none 0 0]) ?_ 1 _ rfl; (with_reducible repeat (first | refine blk_drewN ?_ _ | refine blk_drew ?_ | refine blk_alloc ?_ _)); refine blk_put (cs := #[.int .i64 0, .int .i64 0, .int .i64 0, .slice none 0 0]) ?_ 0 _ rfl; (with_reducible repeat (first | refine blk_drewN ?_ _ | refine blk_drew ?_ | refine blk_alloc ?_ _)); exact BK239.out) Try.underlying106 rfl (by kernel_rfl)) rfl ?_
   exact ⟨_, by first | rfl | (simp [errW_none, errW_some] <;> rfl) | (simp [*, errW_none, errW_some] <;> rfl), by first | exact Kd.R_nil _ _ _ _ _ | exact Kd.N_nil _ _ _ _ _ | exact Kd.V_nil _ _ _ _ _ | exact Kd.Q_nil _ _ _ _ _ | exact Kd.S_nil _ _ _ _ _, by repeat (first | (with_reducible first | exact HB.out | apply below_alloc | apply pw_below_drewN | apply below_drew1 | refine below_set ?_ GE239.out) | exact HB.out)⟩
 rw [if_pos c20] at H
 have c20b0 : ((wrap64 (rd l0 8)) == (wrap64 ((l0.length : Int) - 11))) = true := beq_iff_eq.mpr c20
 have c20b1 : ((wrap64 (rd l0 8)) != (wrap64 ((l0.length : Int) - 11))) = false := bne_eq_false_iff_eq.mpr c20
 clear c20
 by_cases c21 : 5 < (l0.length : Int)
 rotate_left
 · rw [if_neg c21] at H
   exact absurd H (by simp)
 rw [if_pos c21] at H
 have c21b0 : decide (5 < (l0.length : Int)) = true := decide_eq_true c21
 have c21b1 : decide (5 < l0.length) = true := decide_eq_true (by omega)
 clear c21
 by_cases c22 : 11 ≤ (l0.length : Int)
 rotate_left
 · rw [if_neg c22] at H
   exact absurd H (by simp)
 rw [if_pos c22] at H
 have c22b0 := eq_true c22
 have c22b1 : decide (11 ≤ (l0.length : Int)) = true := decide_eq_true c22
 clear c22
 replace H := Option.bind_eq_some_iff.mp H
 obtain ⟨t253, A230, H⟩ := H
 replace H : (some (t246, wrap64 (rd l0 5), t248, t253, 0)) = some (r1, r2, r3, r4, r5) := H
 have A23 := Aside0.mk A230
 clear A230
 simp only [Option.some.injEq, Prod.mk.injEq] at H
 obtain ⟨rfl, rfl, rfl, rfl, rfl⟩ := H
 have p240 : 0 ≤ (0 : Int) := (by omega)
 have q240 : 0 < (l0.length : Int) := of_decide_eq_true (by first | (with_reducible assumption) | assumption)
 obtain ⟨ad240, e240, hx240_0⟩ := Kd.at_int HR0.out 0 p240 q240
 cases e240
 have qi240 : (0 < l0.length) = True := eq_true (by omega)
 (try rw [show ((0 : Int)).toNat = 0 from rfl] at hx240_0)
 (try rw [Addr.add_zero'] at hx240_0)
 replace hx240_0 := (HB.out.cell (World.block_lt_of_cell? w _ hx240_0)).trans hx240_0
 replace p240 := eq_true p240
 replace q240 := eq_true q240
 obtain ⟨i024, hi024, _, hsz24, _⟩ := info_parts info5
 obtain ⟨hcut24, hA24, hC24⟩ := print_take_of (P := Try.prog) (Value.int .u8) 0 24 5 .i64 Try.underlying24 hi024 hsz24 (some ad240) c0 l0 9 (by omega) (of_decide_eq_true (by first | (with_reducible assumption) | assumption)) HC0.out
 have HR241 := Aside0.mk (Kd.C_of_reads (h1 := fun _ => rfl) (hA24 _ (Kd.reads_of_C HR0.out)))
 have HC241 := Aside0.mk hC24
 clear hA24 hC24 hi024 hsz24
 try go_wp2_with (first | ((with_reducible refine gate_callee (f := 100) rfl ?_); refine goesL_ (some 31) rfl rfl Try.func100 (by kernel_rfl) rfl #[.slice (some ad240) (l0.take 9).length c0] rfl (by (try simp only [List.map_toArray, List.map_cons, List.map_nil]); first | done | (rw [show (l0.take 9).length = 9 from (by rw [List.length_take]; have h_ : (9 : Int) ≤ (l0.length : Int) := of_decide_eq_true (by first | (with_reducible assumption) | assumption); omega)] <;> rfl) | rfl | (simp only [List.length_drop, List.length_take]; rfl)) ?_; (with_reducible refine (crc_Sum16.calls kj1 _ _ (l0.take 9) t242 t243 _ ?side1 ?side2 A10.out).mono ?_); (case side1 => repeat (first | exact (Kd.C_below HR241.out HB.out) | (with_reducible refine Kd.C_alloc ?_ _) | (with_reducible refine Kd.C_drewN ?_ _) | (with_reducible refine Kd.C_drew ?_))); (case side2 => exact HC241.out); rintro e w25 ⟨rfl, hb⟩; refine ⟨_, rfl, ?_⟩; replace BK239 := zb BK239 hb; replace HB := zs HB hb; (try clear hb); (try clear hb2); (try clear hk); (try clear hi)) | ((with_reducible refine gate_callee (f := 101) rfl ?_); refine goesL_ (some 36) rfl rfl Try.func101 (by kernel_rfl) rfl #[.slice (some ad240) l0.length c0, .int .i64 9, .int .i64 2] rfl (by (try simp only [List.map_toArray, List.map_cons, List.map_nil]); first | done | rfl | (simp only [List.length_drop, List.length_take]; rfl)) ?_; (with_reducible refine (bit_Get.calls kj1 _ _ l0 9 2 t244 t245 _ ?side1 ?side2 A11.out).mono ?_); (case side1 => repeat (first | exact (Kd.C_below HR0.out HB.out) | (with_reducible refine Kd.C_alloc ?_ _) | (with_reducible refine Kd.C_drewN ?_ _) | (with_reducible refine Kd.C_drew ?_))); (case side2 => exact HC0.out); rintro e w' ⟨rfl, ⟨nd, rfl⟩⟩; refine ⟨_, rfl, ?_⟩; (try (rw [drewN_self w25]; generalize hq_ : World.drewN w25 _ = w25; have n0_ : Aside0 (w25.heap[gb239]? = some (.cells #[.int .i64 0, .int .i64 0, .int .i64 0, .slice none 0 0] 106 (0, 0))) := ⟨by rw [← hq_]; exact (zk BK239)⟩; have n1_ : Aside0 (Below w.heap.size w w25) := ⟨by rw [← hq_]; exact (zB HB)⟩; clear BK239 HB hq_; have BK239 := n0_; have HB := n1_; clear n0_ n1_))) | ((with_reducible refine gate_callee (f := 101) rfl ?_); refine goesL_ (some 41) rfl rfl Try.func101 (by kernel_rfl) rfl #[.slice (some ad240) l0.length c0, .int .i64 1, .int .i64 4] rfl (by (try simp only [List.map_toArray, List.map_cons, List.map_nil]); first | done | rfl | (simp only [List.length_drop, List.length_take]; rfl)) ?_; (with_reducible refine (bit_Get.calls kj1 _ _ l0 1 4 t246 t247 _ ?side1 ?side2 A12.out).mono ?_); (case side1 => repeat (first | exact (Kd.C_below HR0.out HB.out) | (with_reducible refine Kd.C_alloc ?_ _) | (with_reducible refine Kd.C_drewN ?_ _) | (with_reducible refine Kd.C_drew ?_))); (case side2 => exact HC0.out); rintro e w' ⟨rfl, ⟨nd, rfl⟩⟩; refine ⟨_, rfl, ?_⟩; (try (rw [drewN_self w25]; generalize hq_ : World.drewN w25 _ = w25; have n0_ : Aside0 (w25.heap[gb239]? = some (.cells #[.int .i64 0, .int .i64 0, .int .i64 0, .slice none 0 0] 106 (0, 0))) := ⟨by rw [← hq_]; exact (zk BK239)⟩; have n1_ : Aside0 (Below w.heap.size w w25) := ⟨by rw [← hq_]; exact (zB HB)⟩; clear BK239 HB hq_; have BK239 := n0_; have HB := n1_; clear n0_ n1_))) | ((with_reducible refine gate_callee (f := 101) rfl ?_); refine goesL_ (some 46) rfl rfl Try.func101 (by kernel_rfl) rfl #[.slice (some ad240) l0.length c0, .int .i64 6, .int .i64 2] rfl (by (try simp only [List.map_toArray, List.map_cons, List.map_nil]); first | done | rfl | (simp only [List.length_drop, List.length_take]; rfl)) ?_; (with_reducible refine (bit_Get.calls kj1 _ _ l0 6 2 t248 t249 _ ?side1 ?side2 A13.out).mono ?_); (case side1 => repeat (first | exact (Kd.C_below HR0.out HB.out) | (with_reducible refine Kd.C_alloc ?_ _) | (with_reducible refine Kd.C_drewN ?_ _) | (with_reducible refine Kd.C_drew ?_))); (case side2 => exact HC0.out); rintro e w' ⟨rfl, ⟨nd, rfl⟩⟩; refine ⟨_, rfl, ?_⟩; (try (rw [drewN_self w25]; generalize hq_ : World.drewN w25 _ = w25; have n0_ : Aside0 (w25.heap[gb239]? = some (.cells #[.int .i64 0, .int .i64 0, .int .i64 0, .slice none 0 0] 106 (0, 0))) := ⟨by rw [← hq_]; exact (zk BK239)⟩; have n1_ : Aside0 (Below w.heap.size w w25) := ⟨by rw [← hq_]; exact (zB HB)⟩; clear BK239 HB hq_; have BK239 := n0_; have HB := n1_; clear n0_ n1_)); have p250 : 0 ≤ (8 : Int) := (by omega); have q250 : 8 < (l0.length : Int) := of_decide_eq_true (by first | (with_reducible assumption) | assumption); obtain ⟨ad250, e250, hx250_0⟩ := Kd.at_int HR0.out 8 p250 q250; obtain rfl : ad240 = ad250 := (by injection e250); (try simp only [show (8 : Int).toNat = 8 from rfl, Nat.reduceMul, Nat.reduceEqDiff, Go.Addr.add, ↓reduceIte] at hx250_0); have qi250 : (8 < l0.length) = True := eq_true (by omega); (try rw [show ((8 : Int)).toNat = 8 from rfl] at hx250_0); replace hx250_0 := (HB.out.cell (World.block_lt_of_cell? w _ hx250_0)).trans hx250_0; replace p250 := eq_true p250; replace q250 := eq_true q250))
 replace BK239 := Aside0.mk (blk_drew BK239.out)
 replace HB := Aside0.mk (below_drew1 HB.out)
 have p251 : 0 ≤ (5 : Int) := (by omega)
 have q251 : 5 < (l0.length : Int) := of_decide_eq_true (by first | (with_reducible assumption) | assumption)
 obtain ⟨ad251, e251, hx251_0⟩ := Kd.at_int HR0.out 5 p251 q251
 have hw251_0 := hx251_0
 (try rw [show ((5 : Int)).toNat = 5 from rfl] at hw251_0)
 (try rw [show 5 * 1 = 5 from rfl] at hw251_0)
 (try simp only [Nat.reduceMul, Nat.reduceEqDiff, Go.Addr.add, ↓reduceIte] at hw251_0)
 obtain rfl : ad240 = ad251 := (by injection e251)
 (try simp only [show (5 : Int).toNat = 5 from rfl, Nat.reduceMul, Nat.reduceEqDiff, Go.Addr.add, ↓reduceIte] at hx251_0)
 have qi251 : (5 < l0.length) = True := eq_true (by omega)
 (try rw [show ((5 : Int)).toNat = 5 from rfl] at hx251_0)
 replace hx251_0 := (HB.out.cell (World.block_lt_of_cell? w _ hx251_0)).trans hx251_0
 replace p251 := eq_true p251
 replace q251 := eq_true q251
 obtain ⟨i027, hi027, _, hsz27, _⟩ := info_parts info5
 obtain ⟨A27, hcut27, hA27, hC27⟩ := print_drop_of (P := Try.prog) (Value.int .u8) 0 24 5 .i64 Try.underlying24 hi027 hsz27 (some ad240) c0 l0 11 (by omega) (of_decide_eq_true (by first | (with_reducible assumption) | assumption)) HC0.out
 have HR252 := Aside0.mk (Kd.C_of_reads (h1 := fun _ => rfl) (hA27 _ (Kd.reads_of_C HR0.out)))
 have HC252 := Aside0.mk hC27
 clear hA27 hC27 hi027 hsz27
 refine start_ (n := 12) (S := fun w' => w'.cell? ⟨ad240.block, ad240.off + 5, none⟩ = some (.int .u8 (rd l0 5))) (ds := []) #[false, false, false, false, false, false, false, false, false, false, false, false] (by kernel_rfl) rfl rfl (((HB.out.cell (World.block_lt_of_cell? w _ hw251_0)).trans hw251_0)) (fun hHeld => ?_); refine with_tabW data_Read.tab15 data_Read.bits15 (fun HT_ HW_ => ?_)
 generalize w25.drew = w26 at BK239 HB HR252 hx251_0 hHeld ⊢
 refine pu 0 68 (lb 12 1) rfl rfl (any_of HT_.out (by kernel_rfl)) ?_
 refine pu 1 69 (lb 12 3) rfl rfl (any_of HT_.out (by kernel_rfl)) ?_
 refine pu 2 70 (lb 12 7) rfl rfl (any_of HT_.out (by kernel_rfl)) ?_
 refine pu 5 73 (lb 12 39) rfl rfl (any_of HT_.out (by kernel_rfl)) ?_
 refine pu 6 74 (lb 12 103) rfl rfl (any_of HT_.out (by kernel_rfl)) ?_
 refine pu 7 75 (lb 12 231) rfl rfl (any_of HT_.out (by kernel_rfl)) ?_
 refine take_ (i := 3) (N := some 71) (v := ?_) (a' := ?_) (lb 12 239) rfl rfl (take_ofW HT_.out HW_.out (by kernel_rfl)) (fun _ _ _ h => h) (Or.inl ⟨by rfl, ?_⟩) hHeld ?_ ?_
 rotate_left
 · intro w' s0
   go_simp
   with_reducible rfl
 rotate_left
 · simp only [Act.put, List.setIfInBounds_toArray, List.set_cons_zero, List.set_cons_succ, i64_w, i32_w]
   rfl
 refine pu 4 72 (lb 12 255) rfl rfl (any_of HT_.out (by kernel_rfl)) ?_
 refine one_ (i := 8) (N := some 76) (lb 12 511) rfl rfl (one_of HT_.out (by kernel_rfl)) (by decide) (fun K hK => ?_)
 refine goes_ Try.func96 (by kernel_rfl) rfl #[.slice A27 (l0.drop 11).length (c0 - 11)] (by rfl) rfl rfl (by (try simp only [List.map_toArray, List.map_cons, List.map_nil]); first | done | (rw [show (l0.drop 11).length = (l0.length - 11) from List.length_drop] <;> rfl) | rfl | (simp only [List.length_drop, List.length_take]; rfl)) ?_
 with_reducible refine (Clone_bytes.calls _ _ (l0.drop 11) t253 _ ?side1 ?side2 A23.out).mono ?_
 (case side1 => repeat (first | exact (Kd.C_below HR252.out HB.out) | (with_reducible refine Kd.C_alloc ?_ _) | (with_reducible refine Kd.C_drewN ?_ _) | (with_reducible refine Kd.C_drew ?_)))
 (case side2 => exact HC252.out)
 rintro e w28 ⟨v254, rfl, ho0, hb⟩
 refine ⟨_, rfl, ?_⟩
 have HO255 := Aside0.mk (Kd.R_lower ho0 (below_size (zB HB)))
 replace BK239 := zb BK239 hb
 replace HB := zs HB hb
 (try clear hb)
 (try clear hb2)
 (try clear hk)
 (try clear hi)
 (try clear ho0)
 obtain ⟨Ao29, co29, eo29⟩ := Kd.R_slice HO255.out
 (first | subst eo29 | (injection eo29 with f1_ f2_ f3_; have f4_ := f1_.symm; have f5_ := f3_.symm; clear f1_ f2_ f3_; subst f4_; subst f5_))
 refine hK.out _ _ (((HB.out.cell (World.block_lt_of_cell? w _ hw251_0)).trans hw251_0)) (fun hHeld => ?_)
 clear hK K
 refine norm_ (a' := ?_) ?_ ?_
 rotate_left
 · show Act.put _ (some 76) _ = _
   simp only [Act.put, List.setIfInBounds_toArray, List.set_cons_zero, List.set_cons_succ, i64_w, i32_w]
   rfl
 refine pu 9 77 (lb 12 1023) rfl rfl (any_of HT_.out (by kernel_rfl)) ?_
 refine one_ (i := 10) (N := none) (lb 12 2047) rfl rfl (one_of HT_.out (by kernel_rfl)) (by decide) (fun K hK => ?_)
 have hs30 : w28.cell? ⟨gb239, 0, none⟩ = some (.int .i64 0) := (blk_cell BK239.out 0).trans rfl
 have hfs30 := blk_frozen BK239.out 0
 have hs31 : w28.cell? ⟨gb239, 1, none⟩ = some (.int .i64 0) := (blk_cell BK239.out 1).trans rfl
 have hfs31 := blk_frozen BK239.out 1
 have hs32 : w28.cell? ⟨gb239, 2, none⟩ = some (.int .i64 0) := (blk_cell BK239.out 2).trans rfl
 have hfs32 := blk_frozen BK239.out 2
 have hs33 : w28.cell? ⟨gb239, 3, none⟩ = some (.slice none 0 0) := (blk_cell BK239.out 3).trans rfl
 have hfs33 := blk_frozen BK239.out 3
 refine skip_ (w1 := ?_) (by rfl) rfl ?_ ?_
 rotate_left
 · go_simp
   rfl
 refine hK.out _ _ (((cell_far (p := ⟨gb239, _, none⟩) (by first | exact Nat.ne_of_lt (Nat.lt_of_lt_of_le (by have := World.block_lt_of_cell? _ _ hw251_0; first | rwa [add_block] at this | exact this) GW239.out) | (rw [add_block]; exact Nat.ne_of_lt (Nat.lt_of_lt_of_le (by have := World.block_lt_of_cell? _ _ hw251_0; first | rwa [add_block] at this | exact this) GW239.out)) | (show (Addr.add _ _).block ≠ _; rw [add_block]; exact Nat.ne_of_lt (Nat.lt_of_lt_of_le (by have := World.block_lt_of_cell? _ _ hw251_0; first | rwa [add_block] at this | exact this) GW239.out)) | (dsimp only; exact Nat.ne_of_lt (Nat.lt_of_lt_of_le (by have := World.block_lt_of_cell? _ _ hw251_0; first | rwa [add_block] at this | exact this) GW239.out))) _).trans (((cell_far (p := ⟨gb239, _, none⟩) (by first | exact Nat.ne_of_lt (Nat.lt_of_lt_of_le (by have := World.block_lt_of_cell? _ _ hw251_0; first | rwa [add_block] at this | exact this) GW239.out) | (rw [add_block]; exact Nat.ne_of_lt (Nat.lt_of_lt_of_le (by have := World.block_lt_of_cell? _ _ hw251_0; first | rwa [add_block] at this | exact this) GW239.out)) | (show (Addr.add _ _).block ≠ _; rw [add_block]; exact Nat.ne_of_lt (Nat.lt_of_lt_of_le (by have := World.block_lt_of_cell? _ _ hw251_0; first | rwa [add_block] at this | exact this) GW239.out)) | (dsimp only; exact Nat.ne_of_lt (Nat.lt_of_lt_of_le (by have := World.block_lt_of_cell? _ _ hw251_0; first | rwa [add_block] at this | exact this) GW239.out))) _).trans (((cell_far (p := ⟨gb239, _, none⟩) (by first | exact Nat.ne_of_lt (Nat.lt_of_lt_of_le (by have := World.block_lt_of_cell? _ _ hw251_0; first | rwa [add_block] at this | exact this) GW239.out) | (rw [add_block]; exact Nat.ne_of_lt (Nat.lt_of_lt_of_le (by have := World.block_lt_of_cell? _ _ hw251_0; first | rwa [add_block] at this | exact this) GW239.out)) | (show (Addr.add _ _).block ≠ _; rw [add_block]; exact Nat.ne_of_lt (Nat.lt_of_lt_of_le (by have := World.block_lt_of_cell? _ _ hw251_0; first | rwa [add_block] at this | exact this) GW239.out)) | (dsimp only; exact Nat.ne_of_lt (Nat.lt_of_lt_of_le (by have := World.block_lt_of_cell? _ _ hw251_0; first | rwa [add_block] at this | exact this) GW239.out))) _).trans (((cell_far (p := ⟨gb239, _, none⟩) (by first | exact Nat.ne_of_lt (Nat.lt_of_lt_of_le (by have := World.block_lt_of_cell? _ _ hw251_0; first | rwa [add_block] at this | exact this) GW239.out) | (rw [add_block]; exact Nat.ne_of_lt (Nat.lt_of_lt_of_le (by have := World.block_lt_of_cell? _ _ hw251_0; first | rwa [add_block] at this | exact this) GW239.out)) | (show (Addr.add _ _).block ≠ _; rw [add_block]; exact Nat.ne_of_lt (Nat.lt_of_lt_of_le (by have := World.block_lt_of_cell? _ _ hw251_0; first | rwa [add_block] at this | exact this) GW239.out)) | (dsimp only; exact Nat.ne_of_lt (Nat.lt_of_lt_of_le (by have := World.block_lt_of_cell? _ _ hw251_0; first | rwa [add_block] at this | exact this) GW239.out))) _).trans (hHeld))))))))) (fun hHeld => ?_)
 clear hK K
 refine pu 11 3 (lb 12 4095) rfl rfl (any_of HT_.out (by kernel_rfl)) ?_
 refine done_ (done_of HT_.out (by kernel_rfl)) ?_
 try go_wp2
 refine bodyPost_ret (results_ct rfl _ _ gb239 106 #[.int .i64 t246, .int .i64 (wrap64 (rd l0 5)), .int .i64 t248, .slice Ao29 t253.length co29] (0, 0) _ rfl (by (with_reducible repeat (first | refine blk_drewN ?_ _ | refine blk_drew ?_ | refine blk_alloc ?_ _)); refine blk_put (cs := #[.int .i64 t246, .int .i64 (wrap64 (rd l0 5)), .int .i64 t248, .slice none 0 0]) ?_ 3 _ rfl; (with_reducible repeat (first | refine blk_drewN ?_ _ | refine blk_drew ?_ | refine blk_alloc ?_ _)); refine blk_put (cs := #[.int .i64 t246, .int .i64 (wrap64 (rd l0 5)), .int .i64 0, .slice none 0 0]) ?_ 2 _ rfl; (with_reducible repeat (first | refine blk_drewN ?_ _ | refine blk_drew ?_ | refine blk_alloc ?_ _)); refine blk_put (cs := #[.int .i64 t246, .int .i64 0, .int .i64 0, .slice none 0 0]) ?_ 1 _ rfl; (with_reducible repeat (first | refine blk_drewN ?_ _ | refine blk_drew ?_ | refine blk_alloc ?_ _)); refine blk_put (cs := #[.int .i64 0, .int .i64 0, .int .i64 0, .slice none 0 0]) ?_ 0 _ rfl; (with_reducible repeat (first | refine blk_drewN ?_ _ | refine blk_drew ?_ | refine blk_alloc ?_ _)); exact BK239.out) Try.underlying106 rfl (by kernel_rfl)) rfl ?_
 exact ⟨_, by first | rfl | (simp [errW_none, errW_some] <;> rfl) | (simp [*, errW_none, errW_some] <;> rfl), by (with_reducible repeat (first | apply Kd.R_alloc | apply Kd.R_drewN | apply Kd.R_drew)); exact Kd.R_mono (Kd.R_far (p := ⟨gb239, 3, none⟩) (Kd.R_far (p := ⟨gb239, 2, none⟩) (Kd.R_far (p := ⟨gb239, 1, none⟩) (Kd.R_far (p := ⟨gb239, 0, none⟩) (Kd.R_types HO255.out BK239.out (by decide)) (fun _ hk => hk.2) (.int .i64 t246)) (fun _ hk => hk.2) (.int .i64 (wrap64 (rd l0 5)))) (fun _ hk => hk.2) (.int .i64 t248)) (fun _ hk => hk.2) (.slice Ao29 t253.length co29)) (fun _ hk => trivial), by repeat (first | (with_reducible first | exact HB.out | apply below_alloc | apply pw_below_drewN | apply below_drew1 | refine below_set ?_ GE239.out) | exact HB.out)⟩
end Go.Proofs.Ytlolfijadcflaaa.P
