/- What the law's proof needs: PxPile. -/
import Derived.Test.YtlolfijadcflaaaBkPx0
import Derived.Test.YtlolfijadcflaaaBkClonesyms
import Derived.Test.YtlolfijadcflaaaBkInsertsyms
namespace Go.Proofs.Ytlolfijadcflaaa.P
open Go.RowKit Go.Proofs.YtlolfijadcflaaaW.PrintWords Go.Proofs.YtlolfijadcflaaaW.PrintLast Go.Proofs.YtlolfijadcflaaaW.PrintMore
attribute [local go_sem] max2_int min2_int max_two min_two max_three min_three max_four min_four   -- for this text's walks alone
set_option linter.unusedVariables false
set_option linter.unusedSimpArgs false
def pile_may.f (a0 : Int) (a1 : Int) : Option (Bool) := if a0 ≥ 1 then (if a0 ≤ 64 then (if a1 ≥ 1 then (some (decide (a1 ≤ 16))) else (some false)) else (some false)) else (some false)
set_option maxRecDepth 100000 in
theorem pile_may.calls.z1 {P : Prop} (h : P := by
  go_enter Try.func70, Try.ntmps70
  go_wp2
  go_ret
  exact ⟨by first | rfl | (simp; done) | (simp [*]; done), by repeat (first | exact Drawn0.refl _ | apply Drawn0.step)⟩) : P := h
set_option maxHeartbeats 8000000 in
set_option maxRecDepth 100000 in
theorem pile_may.calls (a0 : Int) (a1 : Int) (r : Bool) (w : World) (h : pile_may.f a0 a1 = some r) :
    Calls Try.prog 70 #[.int .i64 a0, .int .i64 a1] w fun e w' => e = .returned (.bool r) ∧ Drawn0 w w' := by
 have H : (if a0 ≥ 1 then (if a0 ≤ 64 then (if a1 ≥ 1 then (some (decide (a1 ≤ 16))) else (some false)) else (some false)) else (some false)) = some r := h
 clear h
 by_cases c3 : a0 ≥ 1
 rotate_left
 · rw [if_neg c3] at H
   have c3b0 : decide (1 ≤ a0) = false := decide_eq_false c3
   clear c3
   obtain rfl := Option.some.inj H
   exact pile_may.calls.z1
 rw [if_pos c3] at H
 have c3b0 : decide (1 ≤ a0) = true := decide_eq_true c3
 clear c3
 by_cases c4 : a0 ≤ 64
 rotate_left
 · rw [if_neg c4] at H
   have c4b0 : decide (a0 ≤ 64) = false := decide_eq_false c4
   clear c4
   obtain rfl := Option.some.inj H
   exact pile_may.calls.z1
 rw [if_pos c4] at H
 have c4b0 : decide (a0 ≤ 64) = true := decide_eq_true c4
 clear c4
 by_cases c5 : a1 ≥ 1
 · rw [if_pos c5] at H
   have c5b0 : decide (1 ≤ a1) = true := decide_eq_true c5
   clear c5
   obtain rfl := Option.some.inj H
   exact pile_may.calls.z1
 rw [if_neg c5] at H
 have c5b0 : decide (1 ≤ a1) = false := decide_eq_false c5
 clear c5
 obtain rfl := Option.some.inj H
 exact pile_may.calls.z1
def pile_New.f (a0 : Int) (a1 : Int) : Option (Int × Int × (List (S132)) × Int) := (pile_may.f a0 a1).bind fun t332 => (if t332 = true then (some (a0, a1, ([] : List (S132)), 0)) else (some (0, 0, ([] : List (S132)), 1)))
set_option maxHeartbeats 8000000 in
set_option maxRecDepth 100000 in
theorem pile_New.calls (a0 : Int) (a1 : Int) (r1 : Int) (r2 : Int) (r3 : List (S132)) (r4 : Int) (w : World) (h : pile_New.f a0 a1 = some (r1, r2, r3, r4)) :
    Calls Try.prog 26 #[.int .i64 a0, .int .i64 a1] w fun e w' => ∃ v2_ : Value, e = .returned (.tuple #[.agg #[.int .i64 r1, .int .i64 r2, v2_], .int .i64 r4]) ∧ Kd.R k132 132 w' w.heap.size (fun _ => True) v2_ r3 ∧ Below w.heap.size w w' := by
 have hu49 := Try.underlying49
 have HB := Aside0.mk (Below.refl w.heap.size w)
 have H : ((pile_may.f a0 a1).bind fun t332 => (if t332 = true then (some (a0, a1, ([] : List (S132)), 0)) else (some (0, 0, ([] : List (S132)), 1)))) = some (r1, r2, r3, r4) := h
 clear h
 replace H := Option.bind_eq_some_iff.mp H
 obtain ⟨t332, A30, H⟩ := H
 replace H : (if t332 = true then (some (a0, a1, ([] : List (S132)), 0)) else (some (0, 0, ([] : List (S132)), 1))) = some (r1, r2, r3, r4) := H
 have A3 := Aside0.mk A30
 clear A30
 by_cases c4 : t332 = true
 · subst c4
   have H1 : (some (a0, a1, ([] : List (S132)), 0)) = some (r1, r2, r3, r4) := by first | (rw [if_pos rfl] at H; exact H) | exact (if_pos rfl).symm.trans H
   clear H
   have H := H1
   clear H1
   simp only [Option.some.injEq, Prod.mk.injEq] at H
   obtain ⟨rfl, rfl, rfl, rfl⟩ := H
   go_enter Try.func26, Try.ntmps26
   go_wp2_with (first | ((with_reducible refine gate_dst (N := 4) rfl ?_); refine box_event ?hg (N := 4) ?hd (cs := #[.int .i64 0, .int .i64 0, .slice none 0 0]) (t := 49) ?hr ?_; (case hd => rfl); (case hg => rfl); (case hr => first | (go_simp; done) | (go_simp; rfl)); intro gb331 hg w5 hbox hb; have BK331 := Aside0.mk (hbox); have GW331 := zg HB hg; have GE331 := zg HB hg; replace HB := zs HB hb; clear hb hbox hg) | ((with_reducible refine gate_callee (f := 70) rfl ?_); refine goesL_ (some 8) rfl rfl Try.func70 (by kernel_rfl) rfl #[.int .i64 a0, .int .i64 a1] rfl (by (try simp only [List.map_toArray, List.map_cons, List.map_nil]); first | done | rfl | (simp only [List.length_drop, List.length_take]; rfl)) ?_; (with_reducible refine (pile_may.calls a0 a1 true _ A3.out).mono ?_); rintro e w' ⟨rfl, ⟨nd, rfl⟩⟩; refine ⟨_, rfl, ?_⟩; (try (rw [drewN_self w5]; generalize hq_ : World.drewN w5 _ = w5; have n0_ : Aside0 (w5.heap[gb331]? = some (.cells #[.int .i64 0, .int .i64 0, .slice none 0 0] 49 (0, 0))) := ⟨by rw [← hq_]; exact (zk BK331)⟩; have n1_ : Aside0 (Below w.heap.size w w5) := ⟨by rw [← hq_]; exact (zB HB)⟩; clear BK331 HB hq_; have BK331 := n0_; have HB := n1_; clear n0_ n1_)); obtain ⟨hcz6_0, hcz6_1, hcz6_2⟩ := zC3 BK331; obtain ⟨hfz6_0, hfz6_1⟩ := zF2 BK331; have hfz6_2 := blk_frozen BK331.out 2))
   refine bodyPost_ret (results_ct rfl _ _ gb331 49 #[.int .i64 a0, .int .i64 a1, .slice none 0 0] (0, 0) _ rfl (by (with_reducible repeat (first | refine blk_drewN ?_ _ | refine blk_drew ?_ | refine blk_alloc ?_ _)); refine blk_put (cs := #[.int .i64 a0, .int .i64 a1, .slice none 0 0]) ?_ 2 _ rfl; (with_reducible repeat (first | refine blk_drewN ?_ _ | refine blk_drew ?_ | refine blk_alloc ?_ _)); refine blk_put (cs := #[.int .i64 a0, .int .i64 0, .slice none 0 0]) ?_ 1 _ rfl; (with_reducible repeat (first | refine blk_drewN ?_ _ | refine blk_drew ?_ | refine blk_alloc ?_ _)); refine blk_put (cs := #[.int .i64 0, .int .i64 0, .slice none 0 0]) ?_ 0 _ rfl; (with_reducible repeat (first | refine blk_drewN ?_ _ | refine blk_drew ?_ | refine blk_alloc ?_ _)); exact BK331.out) Try.underlying49 rfl (by kernel_rfl)) rfl ?_
   exact ⟨_, by first | rfl | (simp [errW_none, errW_some] <;> rfl) | (simp [*, errW_none, errW_some] <;> rfl), by first | exact Kd.R_nil _ _ _ _ _ | exact Kd.N_nil _ _ _ _ _ | exact Kd.V_nil _ _ _ _ _ | exact Kd.Q_nil _ _ _ _ _ | exact Kd.S_nil _ _ _ _ _, by repeat (first | (with_reducible first | exact HB.out | apply below_alloc | apply pw_below_drewN | apply below_drew1 | refine below_set ?_ GE331.out) | exact HB.out)⟩
 replace c4 := Bool.eq_false_iff.mpr c4
 subst c4
 have H1 : (some (0, 0, ([] : List (S132)), 1)) = some (r1, r2, r3, r4) := by rw [if_neg (show ¬ (false = true) by decide)] at H; exact H
 clear H
 have H := H1
 clear H1
 simp only [Option.some.injEq, Prod.mk.injEq] at H
 obtain ⟨rfl, rfl, rfl, rfl⟩ := H
 go_enter Try.func26, Try.ntmps26
 go_wp2_with (first | ((with_reducible refine gate_dst (N := 4) rfl ?_); refine box_event ?hg (N := 4) ?hd (cs := #[.int .i64 0, .int .i64 0, .slice none 0 0]) (t := 49) ?hr ?_; (case hd => rfl); (case hg => rfl); (case hr => first | (go_simp; done) | (go_simp; rfl)); intro gb331 hg w7 hbox hb; have BK331 := Aside0.mk (hbox); have GW331 := zg HB hg; have GE331 := zg HB hg; replace HB := zs HB hb; clear hb hbox hg) | ((with_reducible refine gate_callee (f := 70) rfl ?_); refine goesL_ (some 8) rfl rfl Try.func70 (by kernel_rfl) rfl #[.int .i64 a0, .int .i64 a1] rfl (by (try simp only [List.map_toArray, List.map_cons, List.map_nil]); first | done | rfl | (simp only [List.length_drop, List.length_take]; rfl)) ?_; (with_reducible refine (pile_may.calls a0 a1 false _ A3.out).mono ?_); rintro e w' ⟨rfl, ⟨nd, rfl⟩⟩; refine ⟨_, rfl, ?_⟩; (try (rw [drewN_self w7]; generalize hq_ : World.drewN w7 _ = w7; have n0_ : Aside0 (w7.heap[gb331]? = some (.cells #[.int .i64 0, .int .i64 0, .slice none 0 0] 49 (0, 0))) := ⟨by rw [← hq_]; exact (zk BK331)⟩; have n1_ : Aside0 (Below w.heap.size w w7) := ⟨by rw [← hq_]; exact (zB HB)⟩; clear BK331 HB hq_; have BK331 := n0_; have HB := n1_; clear n0_ n1_)); obtain ⟨hcz8_0, hcz8_1, hcz8_2⟩ := zC3 BK331; obtain ⟨hfz8_0, hfz8_1⟩ := zF2 BK331; have hfz8_2 := blk_frozen BK331.out 2))
 refine bodyPost_ret (results_ct rfl _ _ gb331 49 #[.int .i64 0, .int .i64 0, .slice none 0 0] (0, 0) _ rfl (by (with_reducible repeat (first | refine blk_drewN ?_ _ | refine blk_drew ?_ | refine blk_alloc ?_ _)); refine blk_put (cs := #[.int .i64 0, .int .i64 0, .slice none 0 0]) ?_ 2 _ rfl; (with_reducible repeat (first | refine blk_drewN ?_ _ | refine blk_drew ?_ | refine blk_alloc ?_ _)); refine blk_put (cs := #[.int .i64 0, .int .i64 0, .slice none 0 0]) ?_ 1 _ rfl; (with_reducible repeat (first | refine blk_drewN ?_ _ | refine blk_drew ?_ | refine blk_alloc ?_ _)); refine blk_put (cs := #[.int .i64 0, .int .i64 0, .slice none 0 0]) ?_ 0 _ rfl; (with_reducible repeat (first | refine blk_drewN ?_ _ | refine blk_drew ?_ | refine blk_alloc ?_ _)); exact BK331.out) Try.underlying49 rfl (by kernel_rfl)) rfl ?_
 exact ⟨_, by first | rfl | (simp [errW_none, errW_some] <;> rfl) | (simp [*, errW_none, errW_some] <;> rfl), by first | exact Kd.R_nil _ _ _ _ _ | exact Kd.N_nil _ _ _ _ _ | exact Kd.V_nil _ _ _ _ _ | exact Kd.Q_nil _ _ _ _ _ | exact Kd.S_nil _ _ _ _ _, by repeat (first | (with_reducible first | exact HB.out | apply below_alloc | apply pw_below_drewN | apply below_drew1 | refine below_set ?_ GE331.out) | exact HB.out)⟩
def pile_value.f (a0 : Int) : Option (Bool) := if a0 ≥ 0 then (some (decide (a0 ≤ 255))) else (some false)
set_option maxHeartbeats 8000000 in
set_option maxRecDepth 100000 in
theorem pile_value.calls (a0 : Int) (r : Bool) (w : World) (h : pile_value.f a0 = some r) :
    Calls Try.prog 72 #[.int .i64 a0] w fun e w' => e = .returned (.bool r) ∧ Drawn0 w w' := by
 have H : (if a0 ≥ 0 then (some (decide (a0 ≤ 255))) else (some false)) = some r := h
 clear h
 by_cases c2 : a0 ≥ 0
 · rw [if_pos c2] at H
   have c2b0 : decide (0 ≤ a0) = true := decide_eq_true c2
   clear c2
   obtain rfl := Option.some.inj H
   go_enter Try.func72, Try.ntmps72
   go_wp2
   go_ret
   exact ⟨by first | rfl | (simp; done) | (simp [*]; done), by repeat (first | exact Drawn0.refl _ | apply Drawn0.step)⟩
 rw [if_neg c2] at H
 have c2b0 : decide (0 ≤ a0) = false := decide_eq_false c2
 clear c2
 obtain rfl := Option.some.inj H
 go_enter Try.func72, Try.ntmps72
 go_wp2
 go_ret
 exact ⟨by first | rfl | (simp; done) | (simp [*]; done), by repeat (first | exact Drawn0.refl _ | apply Drawn0.step)⟩
def pile_Check.l0 : Nat → Int → List (S132) → Int → Int → Int → Int → List (S132) → Option (Int)
  | 0, _, _, _, _, _, _, _ => none
  | k + 1, x3, x13, x14, x15, x334000, x334001, x334002 => if x15 < x14 then (if 0 ≤ x15 then (if x15 < (x13.length : Int) then (if ((rd_T132 x13 x15).f0) ≤ x3 then (some 1) else (if ((rd_T132 x13 x15).f0) ≥ (wrap64 (x334000 * x334001)) then (some 1) else ((pile_value.f ((rd_T132 x13 x15).f1)).bind fun t337 => (if t337 = true then (pile_Check.l0 k ((rd_T132 x13 x15).f0) x13 x14 (wrap64 (x15 + 1)) x334000 x334001 x334002) else (some 1))))) else (none)) else (none)) else (some 0)
def pile_Check.f (k : Nat) (a0_0 : Int) (a0_1 : Int) (l0_2 : List (S132)) : Option (Int) := (pile_may.f a0_0 a0_1).bind fun t334 => (if t334 = true then (pile_Check.l0 k (-1) l0_2 (l0_2.length : Int) 0 a0_0 a0_1 l0_2) else (some 1))
theorem pile_Check.mono_l : ∀ k, (∀ y0 y1 y2 y3 y4 y5 y6, LeO (pile_Check.l0 k y0 y1 y2 y3 y4 y5 y6) (pile_Check.l0 (k + 1) y0 y1 y2 y3 y4 y5 y6))
  | 0 => fun _ _ _ _ _ _ _ r h => by simp [pile_Check.l0] at h
  | k + 1 => by
    have ih0 := pile_Check.mono_l k
    · intro y0 y1 y2 y3 y4 y5 y6
      unfold pile_Check.l0
      repeat' first
      | (with_reducible exact ih0 _ _ _ _ _ _ _)
      | (with_reducible exact LeO.refl _)
      | (with_reducible exact LeO.none _)
      | (with_reducible refine LeO.ite ?_ ?_)
      | (with_reducible refine LeO.bind ?_ (fun _ => ?_))
      | exact ih0 _ _ _ _ _ _ _
      | exact LeO.none _
      | refine LeO.ite ?_ ?_
      | refine LeO.bind ?_ (fun _ => ?_)
theorem pile_Check.mono : ∀ a0 a1 a2 k, LeO (pile_Check.f k a0 a1 a2) (pile_Check.f (k + 1) a0 a1 a2) := by
 intro a0 a1 a2 k
 have ih0 := pile_Check.mono_l k
 unfold pile_Check.f
 repeat' first
     | (with_reducible exact ih0 _ _ _ _ _ _ _)
     | (with_reducible exact LeO.refl _)
     | (with_reducible exact LeO.none _)
     | (with_reducible refine LeO.ite ?_ ?_)
     | (with_reducible refine LeO.bind ?_ (fun _ => ?_))
     | exact ih0 _ _ _ _ _ _ _
     | exact LeO.none _
     | refine LeO.ite ?_ ?_
     | refine LeO.bind ?_ (fun _ => ?_)
set_option maxHeartbeats 8000000 in
set_option maxRecDepth 100000 in
theorem pile_Check.calls (k : Nat) (a0_0 : Int) (a0_1 : Int) (A0_2 : Option Addr) (c0_2 : Nat) (l0_2 : List (S132)) (r : Int) (w : World) (hr0_2 : Kd.C k132 w A0_2 l0_2.length l0_2) (hc0_2 : l0_2.length ≤ c0_2) (h : pile_Check.f k a0_0 a0_1 l0_2 = some r) :
    Calls Try.prog 71 #[.agg #[.int .i64 a0_0, .int .i64 a0_1, .slice A0_2 l0_2.length c0_2]] w fun e w' => e = .returned (.int .i64 r) ∧ Below w.heap.size w w' := by
 have hu49 := Try.underlying49
 have hu132 := Try.underlying132
 have HR0_2 := Aside0.mk hr0_2
 have HC0_2 := Aside0.mk hc0_2
 clear hr0_2 hc0_2
 have HB := Aside0.mk (Below.refl w.heap.size w)
 have H : ((pile_may.f a0_0 a0_1).bind fun t334 => (if t334 = true then (pile_Check.l0 k (-1) l0_2 (l0_2.length : Int) 0 a0_0 a0_1 l0_2) else (some 1))) = some r := h
 clear h
 replace H := Option.bind_eq_some_iff.mp H
 obtain ⟨t334, A20, H⟩ := H
 replace H : (if t334 = true then (pile_Check.l0 k (-1) l0_2 (l0_2.length : Int) 0 a0_0 a0_1 l0_2) else (some 1)) = some r := H
 have A2 := Aside0.mk A20
 clear A20
 by_cases c3 : t334 = true
 rotate_left
 · replace c3 := Bool.eq_false_iff.mpr c3
   subst c3
   have H1 : (some 1) = some r := by rw [if_neg (show ¬ (false = true) by decide)] at H; exact H
   clear H
   have H := H1
   clear H1
   obtain rfl := Option.some.inj H
   go_enter Try.func71, Try.ntmps71
   go_wp2_with (first | ((with_reducible refine gate_dst (N := 1) rfl ?_); refine box_event ?hg (N := 1) ?hd (cs := #[.int .i64 a0_0, .int .i64 a0_1, .slice A0_2 l0_2.length c0_2]) (t := 49) ?hr ?_; (case hd => rfl); (case hg => rfl); (case hr => first | (go_simp; done) | (go_simp; rfl)); intro gb333 hg w28 hbox hb; have BK333 := Aside0.mk (hbox); have GW333 := zg HB hg; have GE333 := zg HB hg; replace HB := zs HB hb; clear hb hbox hg; obtain ⟨hcz29_0, hcz29_1, hcz29_2⟩ := zC3 BK333; obtain ⟨hfz29_0, hfz29_1⟩ := zF2 BK333; have hfz29_2 := blk_frozen BK333.out 2) | ((with_reducible refine gate_callee (f := 70) rfl ?_); refine goesL_ (some 10) rfl rfl Try.func70 (by kernel_rfl) rfl #[.int .i64 a0_0, .int .i64 a0_1] rfl (by (try simp only [List.map_toArray, List.map_cons, List.map_nil]); first | done | rfl | (simp only [List.length_drop, List.length_take]; rfl)) ?_; (with_reducible refine (pile_may.calls a0_0 a0_1 false _ A2.out).mono ?_); rintro e w' ⟨rfl, ⟨nd, rfl⟩⟩; refine ⟨_, rfl, ?_⟩))
   go_ret
   exact ⟨by first | rfl | (simp [errW_none, errW_some] <;> rfl) | (simp [*, errW_none, errW_some] <;> rfl), by repeat (first | (with_reducible first | exact HB.out | apply below_alloc | apply pw_below_drewN | apply below_drew1 | refine below_set ?_ GE333.out) | exact HB.out)⟩
 subst c3
 have H1 : (pile_Check.l0 k (-1) l0_2 (l0_2.length : Int) 0 a0_0 a0_1 l0_2) = some r := by first | (rw [if_pos rfl] at H; exact H) | exact (if_pos rfl).symm.trans H
 clear H
 have H := H1
 clear H1
 have H' := Aside0.mk H
 clear H
 go_enter Try.func71, Try.ntmps71
 go_wp2_with (first | ((with_reducible refine gate_dst (N := 1) rfl ?_); refine box_event ?hg (N := 1) ?hd (cs := #[.int .i64 a0_0, .int .i64 a0_1, .slice A0_2 l0_2.length c0_2]) (t := 49) ?hr ?_; (case hd => rfl); (case hg => rfl); (case hr => first | (go_simp; done) | (go_simp; rfl)); intro gb333 hg w4 hbox hb; have BK333 := Aside0.mk (hbox); have GW333 := zg HB hg; have GE333 := zg HB hg; replace HB := zs HB hb; clear hb hbox hg; obtain ⟨hcz5_0, hcz5_1, hcz5_2⟩ := zC3 BK333; obtain ⟨hfz5_0, hfz5_1⟩ := zF2 BK333; have hfz5_2 := blk_frozen BK333.out 2) | ((with_reducible refine gate_callee (f := 70) rfl ?_); refine goesL_ (some 10) rfl rfl Try.func70 (by kernel_rfl) rfl #[.int .i64 a0_0, .int .i64 a0_1] rfl (by (try simp only [List.map_toArray, List.map_cons, List.map_nil]); first | done | rfl | (simp only [List.length_drop, List.length_take]; rfl)) ?_; (with_reducible refine (pile_may.calls a0_0 a0_1 true _ A2.out).mono ?_); rintro e w' ⟨rfl, ⟨nd, rfl⟩⟩; refine ⟨_, rfl, ?_⟩))
 go_loopg [3, 15] k (fun kq v3 v15 w' => ∃ (x3_1 : Int) (x15_1 : Int), v3 = .int .i64 x3_1 ∧ v15 = .int .i64 x15_1 ∧ Aside0 (pile_Check.l0 kq x3_1 l0_2 (l0_2.length : Int) x15_1 a0_0 a0_1 l0_2 = some r) ∧ Aside0 (kq ≤ k) ∧ Aside0 (w'.heap[gb333]? = some (.cells #[.int .i64 a0_0, .int .i64 a0_1, (.slice A0_2 l0_2.length c0_2)] 49 (0, 0))) ∧ Aside0 (Below w.heap.size w w'))
 case atStart => exact ⟨((-1)), (0), (by first | rfl | (simp; done) | (simp [*]; done)), (by first | rfl | (simp; done) | (simp [*]; done)), H', ⟨Nat.le_refl _⟩, ⟨by (with_reducible repeat (first | refine blk_drewN ?_ _ | refine blk_drew ?_ | refine blk_alloc ?_ _)); exact BK333.out⟩, ⟨by repeat (first | (with_reducible first | exact HB.out | apply below_alloc | apply pw_below_drewN | apply below_drew1 | refine below_set ?_ GE333.out) | exact HB.out)⟩⟩
 case round =>
  clear H'
  try clear p2
  try clear c3
  try clear hcz5_0
  try clear hcz5_1
  try clear hcz5_2
  try clear hfz5_0
  try clear hfz5_1
  try clear hfz5_2
  obtain ⟨x3_1, x15_1, rfl, rfl, HA, HK1, BK333, HB⟩ := hrel
  cases gk with
  | zero => exact absurd HA.out (by simp [pile_Check.l0])
  | succ k1 => ?_
  have H := HA.out
  clear HA
  simp only [pile_Check.l0] at H
  by_cases c6 : x15_1 < (l0_2.length : Int)
  rotate_left
  · rw [if_neg c6] at H
    have c6b0 : decide (x15_1 < (l0_2.length : Int)) = false := decide_eq_false c6
    clear c6
    obtain rfl := Option.some.inj H
    go_wp2
    go_ret
    exact ⟨by first | rfl | (simp [errW_none, errW_some] <;> rfl) | (simp [*, errW_none, errW_some] <;> rfl), by repeat (first | (with_reducible first | exact HB.out | apply below_alloc | apply pw_below_drewN | apply below_drew1 | refine below_set ?_ GE333.out) | exact HB.out)⟩
  rw [if_pos c6] at H
  have c6b0 : decide (x15_1 < (l0_2.length : Int)) = true := decide_eq_true c6
  clear c6
  by_cases c7 : 0 ≤ x15_1
  rotate_left
  · rw [if_neg c7] at H
    exact absurd H (by simp)
  rw [if_pos c7] at H
  have c7b0 : decide (0 ≤ x15_1) = true := decide_eq_true c7
  clear c7
  by_cases c8 : x15_1 < (l0_2.length : Int)
  rotate_left
  · rw [if_neg c8] at H
    exact absurd H (by simp)
  rw [if_pos c8] at H
  have c8b0 : decide (x15_1 < (l0_2.length : Int)) = true := decide_eq_true c8
  clear c8
  by_cases c9 : ((rd_T132 l0_2 x15_1).f0) ≤ x3_1
  · rw [if_pos c9] at H
    have c9b0 : decide (((rd_T132 l0_2 x15_1).f0) ≤ x3_1) = true := decide_eq_true c9
    clear c9
    obtain rfl := Option.some.inj H
    have p335 : 0 ≤ (x15_1 : Int) := of_decide_eq_true (by first | (with_reducible assumption) | assumption)
    have q335 : x15_1 < (l0_2.length : Int) := of_decide_eq_true (by first | (with_reducible assumption) | assumption)
    obtain ⟨ad335, e335, hx335_0, hx335_1⟩ := at_T132 HR0_2.out x15_1 p335 q335
    cases e335
    replace hx335_0 := (HB.out.cell (World.block_lt_of_cell? w _ hx335_0)).trans hx335_0
    replace hx335_1 := (HB.out.cell (World.block_lt_of_cell? w _ hx335_1)).trans hx335_1
    replace p335 := eq_true p335
    replace q335 := eq_true q335
    go_wp2_with (first | ((with_reducible refine gate_dst (N := 5) rfl ?_); refine box_event ?hg (N := 5) ?hd (cs := #[.int .i64 0, .int .i64 0]) (t := 132) ?hr ?_; (case hd => rfl); (case hg => rfl); (case hr => first | (go_simp; done) | (go_simp; rfl)); intro gb336 hg w10 hbox hb; have BK336 := Aside0.mk (hbox); have GW336 := zg HB hg; have GE336 := zg HB hg; replace HB := zs HB hb; have NB333_336 := zl BK333 hg; have NB336_333 := zr BK333 hg; replace BK333 := zb BK333 hb; clear hb hbox hg; have hnb11 := NB336_333.out; have hnc11 := NB333_336.out; obtain ⟨hcz12_0, hcz12_1⟩ := zC2 BK336; have hfz12_0 := blk_frozen BK336.out 0; have hfz12_1 := blk_frozen BK336.out 1))
    go_ret
    exact ⟨by first | rfl | (simp [errW_none, errW_some] <;> rfl) | (simp [*, errW_none, errW_some] <;> rfl), by repeat (first | (with_reducible first | exact HB.out | apply below_alloc | apply pw_below_drewN | apply below_drew1 | refine below_set ?_ GE333.out | refine below_set ?_ GE336.out) | exact HB.out)⟩
  rw [if_neg c9] at H
  have c9b0 : decide (((rd_T132 l0_2 x15_1).f0) ≤ x3_1) = false := decide_eq_false c9
  clear c9
  by_cases c13 : ((rd_T132 l0_2 x15_1).f0) ≥ (wrap64 (a0_0 * a0_1))
  · rw [if_pos c13] at H
    have c13b0 : decide ((wrap64 (a0_0 * a0_1)) ≤ ((rd_T132 l0_2 x15_1).f0)) = true := decide_eq_true c13
    clear c13
    obtain rfl := Option.some.inj H
    have p335 : 0 ≤ (x15_1 : Int) := of_decide_eq_true (by first | (with_reducible assumption) | assumption)
    have q335 : x15_1 < (l0_2.length : Int) := of_decide_eq_true (by first | (with_reducible assumption) | assumption)
    obtain ⟨ad335, e335, hx335_0, hx335_1⟩ := at_T132 HR0_2.out x15_1 p335 q335
    cases e335
    replace hx335_0 := (HB.out.cell (World.block_lt_of_cell? w _ hx335_0)).trans hx335_0
    replace hx335_1 := (HB.out.cell (World.block_lt_of_cell? w _ hx335_1)).trans hx335_1
    replace p335 := eq_true p335
    replace q335 := eq_true q335
    go_wp2_with (first | ((with_reducible refine gate_dst (N := 5) rfl ?_); refine box_event ?hg (N := 5) ?hd (cs := #[.int .i64 0, .int .i64 0]) (t := 132) ?hr ?_; (case hd => rfl); (case hg => rfl); (case hr => first | (go_simp; done) | (go_simp; rfl)); intro gb336 hg w14 hbox hb; have BK336 := Aside0.mk (hbox); have GW336 := zg HB hg; have GE336 := zg HB hg; replace HB := zs HB hb; have NB333_336 := zl BK333 hg; have NB336_333 := zr BK333 hg; replace BK333 := zb BK333 hb; clear hb hbox hg; have hnb15 := NB336_333.out; have hnc15 := NB333_336.out; obtain ⟨hcz16_0, hcz16_1⟩ := zC2 BK336; obtain ⟨hfz16_0, hfz16_1⟩ := zF2 BK336; obtain ⟨hcz17_0, hcz17_1, hcz17_2⟩ := zC3 BK333; obtain ⟨hfz17_0, hfz17_1⟩ := zF2 BK333; have hfz17_2 := blk_frozen BK333.out 2))
    go_ret
    exact ⟨by first | rfl | (simp [errW_none, errW_some] <;> rfl) | (simp [*, errW_none, errW_some] <;> rfl), by repeat (first | (with_reducible first | exact HB.out | apply below_alloc | apply pw_below_drewN | apply below_drew1 | refine below_set ?_ GE333.out | refine below_set ?_ GE336.out) | exact HB.out)⟩
  rw [if_neg c13] at H
  have c13b0 : decide ((wrap64 (a0_0 * a0_1)) ≤ ((rd_T132 l0_2 x15_1).f0)) = false := decide_eq_false c13
  clear c13
  replace H := Option.bind_eq_some_iff.mp H
  obtain ⟨t337, A180, H⟩ := H
  replace H : (if t337 = true then (pile_Check.l0 k1 ((rd_T132 l0_2 x15_1).f0) l0_2 (l0_2.length : Int) (wrap64 (x15_1 + 1)) a0_0 a0_1 l0_2) else (some 1)) = some r := H
  have A18 := Aside0.mk A180
  clear A180
  by_cases c19 : t337 = true
  · subst c19
    have H1 : (pile_Check.l0 k1 ((rd_T132 l0_2 x15_1).f0) l0_2 (l0_2.length : Int) (wrap64 (x15_1 + 1)) a0_0 a0_1 l0_2) = some r := by first | (rw [if_pos rfl] at H; exact H) | exact (if_pos rfl).symm.trans H
    clear H
    have H := H1
    clear H1
    have H' := Aside0.mk H
    clear H
    have p335 : 0 ≤ (x15_1 : Int) := of_decide_eq_true (by first | (with_reducible assumption) | assumption)
    have q335 : x15_1 < (l0_2.length : Int) := of_decide_eq_true (by first | (with_reducible assumption) | assumption)
    obtain ⟨ad335, e335, hx335_0, hx335_1⟩ := at_T132 HR0_2.out x15_1 p335 q335
    cases e335
    replace hx335_0 := (HB.out.cell (World.block_lt_of_cell? w _ hx335_0)).trans hx335_0
    replace hx335_1 := (HB.out.cell (World.block_lt_of_cell? w _ hx335_1)).trans hx335_1
    replace p335 := eq_true p335
    replace q335 := eq_true q335
    go_wp2_with (first | ((with_reducible refine gate_dst (N := 5) rfl ?_); refine box_event ?hg (N := 5) ?hd (cs := #[.int .i64 0, .int .i64 0]) (t := 132) ?hr ?_; (case hd => rfl); (case hg => rfl); (case hr => first | (go_simp; done) | (go_simp; rfl)); intro gb336 hg w20 hbox hb; have BK336 := Aside0.mk (hbox); have GW336 := zg HB hg; have GE336 := zg HB hg; replace HB := zs HB hb; have NB333_336 := zl BK333 hg; have NB336_333 := zr BK333 hg; replace BK333 := zb BK333 hb; clear hb hbox hg; have hnb21 := NB336_333.out; have hnc21 := NB333_336.out; obtain ⟨hcz22_0, hcz22_1⟩ := zC2 BK336; obtain ⟨hfz22_0, hfz22_1⟩ := zF2 BK336; obtain ⟨hcz23_0, hcz23_1, hcz23_2⟩ := zC3 BK333; obtain ⟨hfz23_0, hfz23_1⟩ := zF2 BK333; have hfz23_2 := blk_frozen BK333.out 2) | (go_at_call 72; (with_reducible refine (pile_value.calls ((rd_T132 l0_2 x15_1).f1) true _ A18.out).mono ?_); rintro e w' ⟨rfl, ⟨nd, rfl⟩⟩))
    go_roundg k1
    case measure => have := HK1.out; omega
    case rel => exact ⟨((rd_T132 l0_2 x15_1).f0), (wrap64 (x15_1 + 1)), (by first | rfl | (simp; done) | (simp [*]; done)), (by first | rfl | (simp; done) | (simp [*]; done)), H', ⟨by have := HK1.out; omega⟩, ⟨by (with_reducible repeat (first | refine blk_drewN ?_ _ | refine blk_drew ?_ | refine blk_alloc ?_ _)); refine blk_far ?_ NB333_336.out _; (with_reducible repeat (first | refine blk_drewN ?_ _ | refine blk_drew ?_ | refine blk_alloc ?_ _)); refine blk_far ?_ NB333_336.out _; (with_reducible repeat (first | refine blk_drewN ?_ _ | refine blk_drew ?_ | refine blk_alloc ?_ _)); exact BK333.out⟩, ⟨by repeat (first | (with_reducible first | exact HB.out | apply below_alloc | apply pw_below_drewN | apply below_drew1 | refine below_set ?_ GE333.out | refine below_set ?_ GE336.out) | exact HB.out)⟩⟩
  replace c19 := Bool.eq_false_iff.mpr c19
  subst c19
  have H1 : (some 1) = some r := by rw [if_neg (show ¬ (false = true) by decide)] at H; exact H
  clear H
  have H := H1
  clear H1
  obtain rfl := Option.some.inj H
  have p335 : 0 ≤ (x15_1 : Int) := of_decide_eq_true (by first | (with_reducible assumption) | assumption)
  have q335 : x15_1 < (l0_2.length : Int) := of_decide_eq_true (by first | (with_reducible assumption) | assumption)
  obtain ⟨ad335, e335, hx335_0, hx335_1⟩ := at_T132 HR0_2.out x15_1 p335 q335
  cases e335
  replace hx335_0 := (HB.out.cell (World.block_lt_of_cell? w _ hx335_0)).trans hx335_0
  replace hx335_1 := (HB.out.cell (World.block_lt_of_cell? w _ hx335_1)).trans hx335_1
  replace p335 := eq_true p335
  replace q335 := eq_true q335
  go_wp2_with (first | ((with_reducible refine gate_dst (N := 5) rfl ?_); refine box_event ?hg (N := 5) ?hd (cs := #[.int .i64 0, .int .i64 0]) (t := 132) ?hr ?_; (case hd => rfl); (case hg => rfl); (case hr => first | (go_simp; done) | (go_simp; rfl)); intro gb336 hg w24 hbox hb; have BK336 := Aside0.mk (hbox); have GW336 := zg HB hg; have GE336 := zg HB hg; replace HB := zs HB hb; have NB333_336 := zl BK333 hg; have NB336_333 := zr BK333 hg; replace BK333 := zb BK333 hb; clear hb hbox hg; have hnb25 := NB336_333.out; have hnc25 := NB333_336.out; obtain ⟨hcz26_0, hcz26_1⟩ := zC2 BK336; obtain ⟨hfz26_0, hfz26_1⟩ := zF2 BK336; obtain ⟨hcz27_0, hcz27_1, hcz27_2⟩ := zC3 BK333; obtain ⟨hfz27_0, hfz27_1⟩ := zF2 BK333; have hfz27_2 := blk_frozen BK333.out 2) | (go_at_call 72; (with_reducible refine (pile_value.calls ((rd_T132 l0_2 x15_1).f1) false _ A18.out).mono ?_); rintro e w' ⟨rfl, ⟨nd, rfl⟩⟩))
  go_ret
  exact ⟨by first | rfl | (simp [errW_none, errW_some] <;> rfl) | (simp [*, errW_none, errW_some] <;> rfl), by repeat (first | (with_reducible first | exact HB.out | apply below_alloc | apply pw_below_drewN | apply below_drew1 | refine below_set ?_ GE333.out | refine below_set ?_ GE336.out) | exact HB.out)⟩
def pile_Put.j0 : Nat → Int → Int → Bool → Int → Int → List (S132) → Option (Int × Int × (List (S132)) × Bool × Int)
  | 0, _, _, _, _, _, _ => none
  | k + 1, x1, x2, x22, x413000, x413001, x413002 => if x22 = true then (some (0, 0, ([] : List (S132)), false, 1)) else ((Clone_syms.f x413002).bind fun t416 => ((BinarySearchFunc_syms.f x413002 x1).bind fun bt419 => (if bt419.2 = true then (some (x413000, x413001, t416, false, 0)) else (if x1 ≥ (wrap64 (x413000 * x413001)) then (some (x413000, x413001, t416, false, 0)) else ((Insert_syms.f t416 bt419.1 (([(⟨x1, x2⟩ : S132)] : List (S132)))).bind fun t424 => (some (x413000, x413001, t424, true, 0)))))))
def pile_Put.f (k : Nat) (a0_0 : Int) (a0_1 : Int) (l0_2 : List (S132)) (a1 : Int) (a2 : Int) : Option (Int × Int × (List (S132)) × Bool × Int) := (pile_Check.f k a0_0 a0_1 l0_2).bind fun t414 => (if t414 = 0 then (if a1 < 0 then (pile_Put.j0 k a1 a2 true a0_0 a0_1 l0_2) else ((pile_value.f a2).bind fun t415 => (pile_Put.j0 k a1 a2 (!t415) a0_0 a0_1 l0_2))) else (pile_Put.j0 k a1 a2 true a0_0 a0_1 l0_2))
set_option maxRecDepth 100000 in
theorem pile_Put.calls.z1 {P : Prop} (h : P := by
  go_wp2_with (first | ((with_reducible refine gate_callee (f := 71) rfl ?_); refine goesL_ (some 12) rfl rfl Try.func71 (by kernel_rfl) rfl #[.agg #[.int .i64 a0_0, .int .i64 a0_1, .slice A0_2 l0_2.length c0_2]] rfl (by (try simp only [List.map_toArray, List.map_cons, List.map_nil]); first | done | rfl | (simp only [List.length_drop, List.length_take]; rfl)) ?_; (with_reducible refine (pile_Check.calls k a0_0 a0_1 _ _ l0_2 t414 _ ?side1 ?side2 A7.out).mono ?_); (case side1 => repeat (first | exact (Kd.C_below HR0_2.out HB.out) | (with_reducible refine Kd.C_alloc ?_ _) | (with_reducible refine Kd.C_drewN ?_ _) | (with_reducible refine Kd.C_drew ?_))); (case side2 => exact HC0_2.out); rintro e wq0 ⟨rfl, hb⟩; refine ⟨_, rfl, ?_⟩; replace BK412 := zb BK412 hb; replace BK413 := zb BK413 hb; replace HB := zs HB hb; (try clear hb); (try clear hb2); (try clear hk); (try clear hi)))
  go_meet
  case rel => exact ⟨_, (true), (by first | rfl | (simp; done) | (simp [*]; done)), H', ⟨by first | omega | exact Nat.le_refl _⟩, ⟨by (with_reducible repeat (first | refine blk_drewN ?_ _ | refine blk_drew ?_ | refine blk_alloc ?_ _)); exact BK412.out⟩, ⟨by (with_reducible repeat (first | refine blk_drewN ?_ _ | refine blk_drew ?_ | refine blk_alloc ?_ _)); exact BK413.out⟩, ⟨by repeat (first | (with_reducible first | exact HB.out | apply below_alloc | apply pw_below_drewN | apply below_drew1 | refine below_set ?_ GE412.out | refine below_set ?_ GE413.out) | exact HB.out)⟩⟩) : P := h
set_option maxHeartbeats 8000000 in
set_option maxRecDepth 100000 in
theorem pile_Put.calls (k : Nat) (a0_0 : Int) (a0_1 : Int) (A0_2 : Option Addr) (c0_2 : Nat) (l0_2 : List (S132)) (a1 : Int) (a2 : Int) (r1 : Int) (r2 : Int) (r3 : List (S132)) (r4 : Bool) (r5 : Int) (w : World) (hr0_2 : Kd.C k132 w A0_2 l0_2.length l0_2) (hc0_2 : l0_2.length ≤ c0_2) (h : pile_Put.f k a0_0 a0_1 l0_2 a1 a2 = some (r1, r2, r3, r4, r5)) :
    Calls Try.prog 29 #[.agg #[.int .i64 a0_0, .int .i64 a0_1, .slice A0_2 l0_2.length c0_2], .int .i64 a1, .int .i64 a2] w fun e w' => ∃ v2_ : Value, e = .returned (.tuple #[.agg #[.int .i64 r1, .int .i64 r2, v2_], .bool r4, .int .i64 r5]) ∧ Kd.R k132 132 w' w.heap.size (fun _ => True) v2_ r3 ∧ Below w.heap.size w w' := by
 have hu49 := Try.underlying49
 have hu132 := Try.underlying132
 have HR0_2 := Aside0.mk hr0_2
 have HC0_2 := Aside0.mk hc0_2
 clear hr0_2 hc0_2
 have HB := Aside0.mk (Below.refl w.heap.size w)
 have H : ((pile_Check.f k a0_0 a0_1 l0_2).bind fun t414 => (if t414 = 0 then (if a1 < 0 then (pile_Put.j0 k a1 a2 true a0_0 a0_1 l0_2) else ((pile_value.f a2).bind fun t415 => (pile_Put.j0 k a1 a2 (!t415) a0_0 a0_1 l0_2))) else (pile_Put.j0 k a1 a2 true a0_0 a0_1 l0_2))) = some (r1, r2, r3, r4, r5) := h
 clear h
 have HC4 := Aside0.mk H
 clear H
 go_enter Try.func29, Try.ntmps29
 go_upto_region 1 with (first | ((with_reducible refine gate_dst (N := 3) rfl ?_); refine box_event ?hg (N := 3) ?hd (cs := #[.int .i64 a0_0, .int .i64 a0_1, .slice A0_2 l0_2.length c0_2]) (t := 49) ?hr ?_; (case hd => rfl); (case hg => rfl); (case hr => first | (go_simp; done) | (go_simp; rfl)); intro gb412 hg w5 hbox hb; have BK412 := Aside0.mk (hbox); have GW412 := zg HB hg; have GE412 := zg HB hg; replace HB := zs HB hb; clear hb hbox hg) | ((with_reducible refine gate_dst (N := 6) rfl ?_); refine box_event ?hg (N := 6) ?hd (cs := #[.int .i64 0, .int .i64 0, .slice none 0 0]) (t := 49) ?hr ?_; (case hd => rfl); (case hg => rfl); (case hr => first | (go_simp; done) | (go_simp; rfl)); intro gb413 hg w6 hbox hb; have BK413 := Aside0.mk (hbox); have GW413 := zg HB hg; have GE413 := zg HB hg; replace HB := zs HB hb; have NB412_413 := zl BK412 hg; have NB413_412 := zr BK412 hg; replace BK412 := zb BK412 hb; clear hb hbox hg))
 (try simp only [Act.put, List.setIfInBounds_toArray, List.set_cons_zero, List.set_cons_succ])
 go_cut [22] (fun v22 wc => ∃ (kq : Nat) (x22_3 : Bool), v22 = .bool x22_3 ∧ Aside0 (pile_Put.j0 kq a1 a2 x22_3 a0_0 a0_1 l0_2 = some (r1, r2, r3, r4, r5)) ∧ Aside0 (kq ≤ k) ∧ Aside0 (wc.heap[gb412]? = some (.cells #[.int .i64 a0_0, .int .i64 a0_1, (.slice A0_2 l0_2.length c0_2)] 49 (0, 0))) ∧ Aside0 (wc.heap[gb413]? = some (.cells #[.int .i64 0, .int .i64 0, (.slice none 0 0)] 49 (0, 0))) ∧ Aside0 (Below w.heap.size w wc))
 case first =>
  have H := HC4.out
  clear HC4
  replace H := Option.bind_eq_some_iff.mp H
  obtain ⟨t414, A70, H⟩ := H
  replace H : (if t414 = 0 then (if a1 < 0 then (pile_Put.j0 k a1 a2 true a0_0 a0_1 l0_2) else ((pile_value.f a2).bind fun t415 => (pile_Put.j0 k a1 a2 (!t415) a0_0 a0_1 l0_2))) else (pile_Put.j0 k a1 a2 true a0_0 a0_1 l0_2)) = some (r1, r2, r3, r4, r5) := H
  have A7 := Aside0.mk A70
  clear A70
  by_cases c8 : t414 = 0
  rotate_left
  · rw [if_neg c8] at H
    have c8b0 : (t414 == 0) = false := beq_eq_false_iff_ne.mpr c8
    have c8b1 : (t414 != 0) = true := bne_iff_ne.mpr c8
    (first | rw [c8b0] | (simp only [i64_w, i32_w]; rw [c8b0]) | skip)
    have H' := Aside0.mk H
    clear H
    have hnb17 := NB412_413.out
    have hnc17 := NB413_412.out
    obtain ⟨hcz18_0, hcz18_1, hcz18_2⟩ := zC3 BK412
    obtain ⟨hfz18_0, hfz18_1, hfz18_2⟩ := zF3 BK412
    exact pile_Put.calls.z1
  rw [if_pos c8] at H
  have c8b0 : (t414 == 0) = true := beq_iff_eq.mpr c8
  have c8b1 : (t414 != 0) = false := bne_eq_false_iff_eq.mpr c8
  clear c8
  (first | rw [c8b0] | (simp only [i64_w, i32_w]; rw [c8b0]) | skip)
  by_cases c9 : a1 < 0
  · rw [if_pos c9] at H
    have c9b0 : decide (a1 < 0) = true := decide_eq_true c9
    clear c9
    have H' := Aside0.mk H
    clear H
    have hnb10 := NB412_413.out
    have hnc10 := NB413_412.out
    obtain ⟨hcz11_0, hcz11_1, hcz11_2⟩ := zC3 BK412
    obtain ⟨hfz11_0, hfz11_1, hfz11_2⟩ := zF3 BK412
    exact pile_Put.calls.z1
  rw [if_neg c9] at H
  have c9b0 : decide (a1 < 0) = false := decide_eq_false c9
  clear c9
  replace H := Option.bind_eq_some_iff.mp H
  obtain ⟨t415, A130, H⟩ := H
  replace H : (pile_Put.j0 k a1 a2 (!t415) a0_0 a0_1 l0_2) = some (r1, r2, r3, r4, r5) := H
  have A13 := Aside0.mk A130
  clear A130
  have H' := Aside0.mk H
  clear H
  have hnb14 := NB412_413.out
  have hnc14 := NB413_412.out
  obtain ⟨hcz15_0, hcz15_1, hcz15_2⟩ := zC3 BK412
  obtain ⟨hfz15_0, hfz15_1, hfz15_2⟩ := zF3 BK412
  go_wp2_with (first | ((with_reducible refine gate_callee (f := 71) rfl ?_); refine goesL_ (some 12) rfl rfl Try.func71 (by kernel_rfl) rfl #[.agg #[.int .i64 a0_0, .int .i64 a0_1, .slice A0_2 l0_2.length c0_2]] rfl (by (try simp only [List.map_toArray, List.map_cons, List.map_nil]); first | done | rfl | (simp only [List.length_drop, List.length_take]; rfl)) ?_; (with_reducible refine (pile_Check.calls k a0_0 a0_1 _ _ l0_2 t414 _ ?side1 ?side2 A7.out).mono ?_); (case side1 => repeat (first | exact (Kd.C_below HR0_2.out HB.out) | (with_reducible refine Kd.C_alloc ?_ _) | (with_reducible refine Kd.C_drewN ?_ _) | (with_reducible refine Kd.C_drew ?_))); (case side2 => exact HC0_2.out); rintro e w16 ⟨rfl, hb⟩; refine ⟨_, rfl, ?_⟩; replace BK412 := zb BK412 hb; replace BK413 := zb BK413 hb; replace HB := zs HB hb; (try clear hb); (try clear hb2); (try clear hk); (try clear hi)) | (go_at_call 72; (with_reducible refine (pile_value.calls a2 t415 _ A13.out).mono ?_); rintro e w' ⟨rfl, ⟨nd, rfl⟩⟩))
  go_meet
  case rel => exact ⟨_, (!t415), (by first | rfl | (simp; done) | (simp [*]; done)), H', ⟨by first | omega | exact Nat.le_refl _⟩, ⟨by (with_reducible repeat (first | refine blk_drewN ?_ _ | refine blk_drew ?_ | refine blk_alloc ?_ _)); exact BK412.out⟩, ⟨by (with_reducible repeat (first | refine blk_drewN ?_ _ | refine blk_drew ?_ | refine blk_alloc ?_ _)); exact BK413.out⟩, ⟨by repeat (first | (with_reducible first | exact HB.out | apply below_alloc | apply pw_below_drewN | apply below_drew1 | refine below_set ?_ GE412.out | refine below_set ?_ GE413.out) | exact HB.out)⟩⟩
 clear HC4
 try clear c1
 try clear c2
 try clear p2
 try clear c7
 try clear c8
 try clear c8b0
 try clear c8b1
 try clear c9
 try clear c9b0
 try clear c10
 try clear c14
 try clear c17
 try clear hcz11_0
 try clear hcz11_1
 try clear hcz11_2
 try clear hcz15_0
 try clear hcz15_1
 try clear hcz15_2
 try clear hcz18_0
 try clear hcz18_1
 try clear hcz18_2
 try clear hfz11_0
 try clear hfz11_1
 try clear hfz11_2
 try clear hfz15_0
 try clear hfz15_1
 try clear hfz15_2
 try clear hfz18_0
 try clear hfz18_1
 try clear hfz18_2
 obtain ⟨kq, x22_3, rfl, HA, HJ3, BK412, BK413, HB⟩ := hcut
 cases kq with
 | zero => exact absurd HA.out (by simp [pile_Put.j0])
 | succ kj3 => ?_
 have H := HA.out
 clear HA
 simp only [pile_Put.j0] at H
 by_cases c20 : x22_3 = true
 · subst c20
   have H1 : (some (0, 0, ([] : List (S132)), false, 1)) = some (r1, r2, r3, r4, r5) := by first | (rw [if_pos rfl] at H; exact H) | exact (if_pos rfl).symm.trans H
   clear H
   have H := H1
   clear H1
   simp only [Option.some.injEq, Prod.mk.injEq] at H
   obtain ⟨rfl, rfl, rfl, rfl, rfl⟩ := H
   have hnb21 := NB413_412.out
   have hnc21 := NB412_413.out
   obtain ⟨hcz22_0, hcz22_1, hcz22_2⟩ := zC3 BK413
   obtain ⟨hfz22_0, hfz22_1, hfz22_2⟩ := zF3 BK413
   go_wp2
   refine bodyPost_ret (results_ctt rfl _ _ gb413 49 #[.int .i64 0, .int .i64 0, .slice none 0 0] (0, 0) _ rfl (by (with_reducible repeat (first | refine blk_drewN ?_ _ | refine blk_drew ?_ | refine blk_alloc ?_ _)); refine blk_put (cs := #[.int .i64 0, .int .i64 0, .slice none 0 0]) ?_ 2 _ rfl; (with_reducible repeat (first | refine blk_drewN ?_ _ | refine blk_drew ?_ | refine blk_alloc ?_ _)); refine blk_put (cs := #[.int .i64 0, .int .i64 0, .slice none 0 0]) ?_ 1 _ rfl; (with_reducible repeat (first | refine blk_drewN ?_ _ | refine blk_drew ?_ | refine blk_alloc ?_ _)); refine blk_put (cs := #[.int .i64 0, .int .i64 0, .slice none 0 0]) ?_ 0 _ rfl; (with_reducible repeat (first | refine blk_drewN ?_ _ | refine blk_drew ?_ | refine blk_alloc ?_ _)); exact BK413.out) Try.underlying49 rfl (by kernel_rfl)) rfl ?_
   exact ⟨_, by first | rfl | (simp [errW_none, errW_some] <;> rfl) | (simp [*, errW_none, errW_some] <;> rfl), by first | exact Kd.R_nil _ _ _ _ _ | exact Kd.N_nil _ _ _ _ _ | exact Kd.V_nil _ _ _ _ _ | exact Kd.Q_nil _ _ _ _ _ | exact Kd.S_nil _ _ _ _ _, by repeat (first | (with_reducible first | exact HB.out | apply below_alloc | apply pw_below_drewN | apply below_drew1 | refine below_set ?_ GE412.out | refine below_set ?_ GE413.out) | exact HB.out)⟩
 replace c20 := Bool.eq_false_iff.mpr c20
 subst c20
 have H1 : ((Clone_syms.f l0_2).bind fun t416 => ((BinarySearchFunc_syms.f l0_2 a1).bind fun bt419 => (if bt419.2 = true then (some (a0_0, a0_1, t416, false, 0)) else (if a1 ≥ (wrap64 (a0_0 * a0_1)) then (some (a0_0, a0_1, t416, false, 0)) else ((Insert_syms.f t416 bt419.1 (([(⟨a1, a2⟩ : S132)] : List (S132)))).bind fun t424 => (some (a0_0, a0_1, t424, true, 0))))))) = some (r1, r2, r3, r4, r5) := by rw [if_neg (show ¬ (false = true) by decide)] at H; exact H
 clear H
 have H := H1
 clear H1
 replace H := Option.bind_eq_some_iff.mp H
 obtain ⟨t416, A230, H⟩ := H
 replace H : ((BinarySearchFunc_syms.f l0_2 a1).bind fun bt419 => (if bt419.2 = true then (some (a0_0, a0_1, t416, false, 0)) else (if a1 ≥ (wrap64 (a0_0 * a0_1)) then (some (a0_0, a0_1, t416, false, 0)) else ((Insert_syms.f t416 bt419.1 (([(⟨a1, a2⟩ : S132)] : List (S132)))).bind fun t424 => (some (a0_0, a0_1, t424, true, 0)))))) = some (r1, r2, r3, r4, r5) := H
 have A23 := Aside0.mk A230
 clear A230
 replace H := Option.bind_eq_some_iff.mp H
 obtain ⟨⟨t419, t420⟩, A240, H⟩ := H
 replace H : (if t420 = true then (some (a0_0, a0_1, t416, false, 0)) else (if a1 ≥ (wrap64 (a0_0 * a0_1)) then (some (a0_0, a0_1, t416, false, 0)) else ((Insert_syms.f t416 t419 (([(⟨a1, a2⟩ : S132)] : List (S132)))).bind fun t424 => (some (a0_0, a0_1, t424, true, 0))))) = some (r1, r2, r3, r4, r5) := H
 have A24 := Aside0.mk A240
 clear A240
 by_cases c25 : t420 = true
 · subst c25
   have H1 : (some (a0_0, a0_1, t416, false, 0)) = some (r1, r2, r3, r4, r5) := by first | (rw [if_pos rfl] at H; exact H) | exact (if_pos rfl).symm.trans H
   clear H
   have H := H1
   clear H1
   simp only [Option.some.injEq, Prod.mk.injEq] at H
   obtain ⟨rfl, rfl, rfl, rfl, rfl⟩ := H
   have hnb26 := NB412_413.out
   have hnc26 := NB413_412.out
   obtain ⟨hcz27_0, hcz27_1, hcz27_2⟩ := zC3 BK412
   obtain ⟨hfz27_0, hfz27_1, hfz27_2⟩ := zF3 BK412
   obtain ⟨hcz28_0, hcz28_1, hcz28_2⟩ := zC3 BK413
   obtain ⟨hfz28_0, hfz28_1, hfz28_2⟩ := zF3 BK413
   go_wp2_with (first | ((with_reducible refine gate_callee (f := 73) rfl ?_); refine goesL_ (some 27) rfl rfl Try.func73 (by kernel_rfl) rfl #[.slice A0_2 l0_2.length c0_2] rfl (by (try simp only [List.map_toArray, List.map_cons, List.map_nil]); first | done | rfl | (simp only [List.length_drop, List.length_take]; rfl)) ?_; (with_reducible refine (Clone_syms.calls _ _ l0_2 t416 _ ?side1 ?side2 A23.out).mono ?_); (case side1 => exact Kd.C_below HR0_2.out (zB HB)); (case side2 => exact HC0_2.out); rintro e w29 ⟨v417, rfl, ho0, hb⟩; refine ⟨_, rfl, ?_⟩; have n0_ := Aside0.mk (Kd.R_lower ho0 (below_size (zB HB))); have n1_ := zb BK412 hb; have n2_ := Aside0.mk (blk_below (g := gb413) (o := .cells #[.int .i64 a0_0, .int .i64 a0_1, .slice A0_2 l0_2.length c0_2] 49 (0, 0)) (by (with_reducible repeat (first | refine blk_drewN ?_ _ | refine blk_drew ?_ | refine blk_alloc ?_ _)); refine blk_put (cs := #[.int .i64 a0_0, .int .i64 a0_1, .slice none 0 0]) ?_ 2 _ rfl; (with_reducible repeat (first | refine blk_drewN ?_ _ | refine blk_drew ?_ | refine blk_alloc ?_ _)); refine blk_put (cs := #[.int .i64 a0_0, .int .i64 0, .slice none 0 0]) ?_ 1 _ rfl; (with_reducible repeat (first | refine blk_drewN ?_ _ | refine blk_drew ?_ | refine blk_alloc ?_ _)); refine blk_put (cs := #[.int .i64 0, .int .i64 0, .slice none 0 0]) ?_ 0 _ rfl; (with_reducible repeat (first | refine blk_drewN ?_ _ | refine blk_drew ?_ | refine blk_alloc ?_ _)); exact BK413.out) hb); have n3_ := zs HB hb; clear BK412; clear BK413; clear HB; have HO418 := n0_; have BK412 := n1_; have BK413 := n2_; have HB := n3_; clear n0_ n1_ n2_ n3_; (try clear hb); (try clear hb2); (try clear hk); (try clear hi); (try clear ho0); obtain ⟨Ao30, co30, eo30⟩ := Kd.R_slice HO418.out; subst eo30; obtain ⟨hcz31_0, hcz31_1, hcz31_2⟩ := zC3 BK413; obtain ⟨hfz31_0, hfz31_1, hfz31_2⟩ := zF3 BK413; obtain ⟨hcz32_0, hcz32_1, hcz32_2⟩ := zC3 BK412; obtain ⟨hfz32_0, hfz32_1⟩ := zF2 BK412; have hfz32_2 := blk_frozen BK412.out 2) | ((with_reducible refine gate_callee (f := 74) rfl ?_); refine goesL_ (some 33) rfl rfl Try.func74 (by kernel_rfl) rfl #[.slice A0_2 l0_2.length c0_2, .int .i64 a1, .func (.func 75) #[] #[]] rfl (by (try simp only [List.map_toArray, List.map_cons, List.map_nil]); first | done | rfl | (simp only [List.length_drop, List.length_take]; rfl)) ?_; (with_reducible refine (BinarySearchFunc_syms.calls _ _ l0_2 a1  t419 true _ ?side1 ?side2 A24.out).mono ?_); (case side1 => exact Kd.C_below HR0_2.out (zB HB)); (case side2 => exact HC0_2.out); rintro e w33 ⟨rfl, hb⟩; refine ⟨_, rfl, ?_⟩; have n0_ := Aside0.mk (Kd.R_below (by (with_reducible repeat (first | apply Kd.R_alloc | apply Kd.R_drewN | apply Kd.R_drew)); exact (Kd.R_mono (Kd.R_far (p := ⟨gb413, 2, none⟩) (Kd.R_types HO418.out BK413.out (by decide)) (fun _ hk => hk.2) (.slice Ao30 t416.length co30)) (fun _ h_ => h_.1))) hb); have n1_ := zb BK412 hb; have n2_ := Aside0.mk (blk_below (g := gb413) (o := .cells #[.int .i64 a0_0, .int .i64 a0_1, .slice Ao30 t416.length co30] 49 (0, 0)) (by (with_reducible repeat (first | refine blk_drewN ?_ _ | refine blk_drew ?_ | refine blk_alloc ?_ _)); refine blk_put (cs := #[.int .i64 a0_0, .int .i64 a0_1, .slice A0_2 l0_2.length c0_2]) ?_ 2 _ rfl; (with_reducible repeat (first | refine blk_drewN ?_ _ | refine blk_drew ?_ | refine blk_alloc ?_ _)); exact BK413.out) hb); have n3_ := zs HB hb; clear HO418; clear BK412; clear BK413; clear HB; have HO418 := n0_; have BK412 := n1_; have BK413 := n2_; have HB := n3_; clear n0_ n1_ n2_ n3_; (try clear hb); (try clear hb2); (try clear hk); (try clear hi); obtain ⟨hcz34_0, hcz34_1, hcz34_2⟩ := zC3 BK413; obtain ⟨hfz34_0, hfz34_1⟩ := zF2 BK413; have hfz34_2 := blk_frozen BK413.out 2))
   refine bodyPost_ret (results_ctt rfl _ _ gb413 49 #[.int .i64 a0_0, .int .i64 a0_1, .slice Ao30 t416.length co30] (0, 0) _ rfl (by (with_reducible repeat (first | refine blk_drewN ?_ _ | refine blk_drew ?_ | refine blk_alloc ?_ _)); refine blk_put (cs := #[.int .i64 a0_0, .int .i64 a0_1, .slice Ao30 t416.length co30]) ?_ 2 _ rfl; (with_reducible repeat (first | refine blk_drewN ?_ _ | refine blk_drew ?_ | refine blk_alloc ?_ _)); refine blk_put (cs := #[.int .i64 a0_0, .int .i64 a0_1, .slice Ao30 t416.length co30]) ?_ 1 _ rfl; (with_reducible repeat (first | refine blk_drewN ?_ _ | refine blk_drew ?_ | refine blk_alloc ?_ _)); refine blk_put (cs := #[.int .i64 a0_0, .int .i64 a0_1, .slice Ao30 t416.length co30]) ?_ 0 _ rfl; (with_reducible repeat (first | refine blk_drewN ?_ _ | refine blk_drew ?_ | refine blk_alloc ?_ _)); exact BK413.out) Try.underlying49 rfl (by kernel_rfl)) rfl ?_
   exact ⟨_, by first | rfl | (simp [errW_none, errW_some] <;> rfl) | (simp [*, errW_none, errW_some] <;> rfl), by (with_reducible repeat (first | apply Kd.R_alloc | apply Kd.R_drewN | apply Kd.R_drew)); exact Kd.R_mono (Kd.R_far (p := ⟨gb413, 2, none⟩) (Kd.R_far (p := ⟨gb413, 1, none⟩) (Kd.R_far (p := ⟨gb413, 0, none⟩) (Kd.R_types HO418.out BK413.out (by decide)) (fun _ hk => hk.2) (.int .i64 a0_0)) (fun _ hk => hk.2) (.int .i64 a0_1)) (fun _ hk => hk.2) (.slice Ao30 t416.length co30)) (fun _ hk => trivial), by repeat (first | (with_reducible first | exact HB.out | apply below_alloc | apply pw_below_drewN | apply below_drew1 | refine below_set ?_ GE412.out | refine below_set ?_ GE413.out) | exact HB.out)⟩
 replace c25 := Bool.eq_false_iff.mpr c25
 subst c25
 have H1 : (if a1 ≥ (wrap64 (a0_0 * a0_1)) then (some (a0_0, a0_1, t416, false, 0)) else ((Insert_syms.f t416 t419 (([(⟨a1, a2⟩ : S132)] : List (S132)))).bind fun t424 => (some (a0_0, a0_1, t424, true, 0)))) = some (r1, r2, r3, r4, r5) := by rw [if_neg (show ¬ (false = true) by decide)] at H; exact H
 clear H
 have H := H1
 clear H1
 by_cases c35 : a1 ≥ (wrap64 (a0_0 * a0_1))
 · rw [if_pos c35] at H
   have c35b0 : decide ((wrap64 (a0_0 * a0_1)) ≤ a1) = true := decide_eq_true c35
   clear c35
   simp only [Option.some.injEq, Prod.mk.injEq] at H
   obtain ⟨rfl, rfl, rfl, rfl, rfl⟩ := H
   have hnb36 := NB412_413.out
   have hnc36 := NB413_412.out
   obtain ⟨hcz37_0, hcz37_1, hcz37_2⟩ := zC3 BK412
   obtain ⟨hfz37_0, hfz37_1, hfz37_2⟩ := zF3 BK412
   obtain ⟨hcz38_0, hcz38_1, hcz38_2⟩ := zC3 BK413
   obtain ⟨hfz38_0, hfz38_1, hfz38_2⟩ := zF3 BK413
   go_wp2_with (first | ((with_reducible refine gate_callee (f := 73) rfl ?_); refine goesL_ (some 27) rfl rfl Try.func73 (by kernel_rfl) rfl #[.slice A0_2 l0_2.length c0_2] rfl (by (try simp only [List.map_toArray, List.map_cons, List.map_nil]); first | done | rfl | (simp only [List.length_drop, List.length_take]; rfl)) ?_; (with_reducible refine (Clone_syms.calls _ _ l0_2 t416 _ ?side1 ?side2 A23.out).mono ?_); (case side1 => exact Kd.C_below HR0_2.out (zB HB)); (case side2 => exact HC0_2.out); rintro e w39 ⟨v417, rfl, ho0, hb⟩; refine ⟨_, rfl, ?_⟩; have n0_ := Aside0.mk (Kd.R_lower ho0 (below_size (zB HB))); have n1_ := zb BK412 hb; have n2_ := Aside0.mk (blk_below (g := gb413) (o := .cells #[.int .i64 a0_0, .int .i64 a0_1, .slice A0_2 l0_2.length c0_2] 49 (0, 0)) (by (with_reducible repeat (first | refine blk_drewN ?_ _ | refine blk_drew ?_ | refine blk_alloc ?_ _)); refine blk_put (cs := #[.int .i64 a0_0, .int .i64 a0_1, .slice none 0 0]) ?_ 2 _ rfl; (with_reducible repeat (first | refine blk_drewN ?_ _ | refine blk_drew ?_ | refine blk_alloc ?_ _)); refine blk_put (cs := #[.int .i64 a0_0, .int .i64 0, .slice none 0 0]) ?_ 1 _ rfl; (with_reducible repeat (first | refine blk_drewN ?_ _ | refine blk_drew ?_ | refine blk_alloc ?_ _)); refine blk_put (cs := #[.int .i64 0, .int .i64 0, .slice none 0 0]) ?_ 0 _ rfl; (with_reducible repeat (first | refine blk_drewN ?_ _ | refine blk_drew ?_ | refine blk_alloc ?_ _)); exact BK413.out) hb); have n3_ := zs HB hb; clear BK412; clear BK413; clear HB; have HO418 := n0_; have BK412 := n1_; have BK413 := n2_; have HB := n3_; clear n0_ n1_ n2_ n3_; (try clear hb); (try clear hb2); (try clear hk); (try clear hi); (try clear ho0); obtain ⟨Ao40, co40, eo40⟩ := Kd.R_slice HO418.out; subst eo40; obtain ⟨hcz41_0, hcz41_1, hcz41_2⟩ := zC3 BK413; obtain ⟨hfz41_0, hfz41_1, hfz41_2⟩ := zF3 BK413; obtain ⟨hcz42_0, hcz42_1, hcz42_2⟩ := zC3 BK412; obtain ⟨hfz42_0, hfz42_1⟩ := zF2 BK412; have hfz42_2 := blk_frozen BK412.out 2) | ((with_reducible refine gate_callee (f := 74) rfl ?_); refine goesL_ (some 33) rfl rfl Try.func74 (by kernel_rfl) rfl #[.slice A0_2 l0_2.length c0_2, .int .i64 a1, .func (.func 75) #[] #[]] rfl (by (try simp only [List.map_toArray, List.map_cons, List.map_nil]); first | done | rfl | (simp only [List.length_drop, List.length_take]; rfl)) ?_; (with_reducible refine (BinarySearchFunc_syms.calls _ _ l0_2 a1  t419 false _ ?side1 ?side2 A24.out).mono ?_); (case side1 => exact Kd.C_below HR0_2.out (zB HB)); (case side2 => exact HC0_2.out); rintro e w43 ⟨rfl, hb⟩; refine ⟨_, rfl, ?_⟩; have n0_ := Aside0.mk (Kd.R_below (by (with_reducible repeat (first | apply Kd.R_alloc | apply Kd.R_drewN | apply Kd.R_drew)); exact (Kd.R_mono (Kd.R_far (p := ⟨gb413, 2, none⟩) (Kd.R_types HO418.out BK413.out (by decide)) (fun _ hk => hk.2) (.slice Ao40 t416.length co40)) (fun _ h_ => h_.1))) hb); have n1_ := zb BK412 hb; have n2_ := Aside0.mk (blk_below (g := gb413) (o := .cells #[.int .i64 a0_0, .int .i64 a0_1, .slice Ao40 t416.length co40] 49 (0, 0)) (by (with_reducible repeat (first | refine blk_drewN ?_ _ | refine blk_drew ?_ | refine blk_alloc ?_ _)); refine blk_put (cs := #[.int .i64 a0_0, .int .i64 a0_1, .slice A0_2 l0_2.length c0_2]) ?_ 2 _ rfl; (with_reducible repeat (first | refine blk_drewN ?_ _ | refine blk_drew ?_ | refine blk_alloc ?_ _)); exact BK413.out) hb); have n3_ := zs HB hb; clear HO418; clear BK412; clear BK413; clear HB; have HO418 := n0_; have BK412 := n1_; have BK413 := n2_; have HB := n3_; clear n0_ n1_ n2_ n3_; (try clear hb); (try clear hb2); (try clear hk); (try clear hi); obtain ⟨hcz44_0, hcz44_1, hcz44_2⟩ := zC3 BK412; obtain ⟨hfz44_0, hfz44_1, hfz44_2⟩ := zF3 BK412; obtain ⟨hcz45_0, hcz45_1, hcz45_2⟩ := zC3 BK413; obtain ⟨hfz45_0, hfz45_1⟩ := zF2 BK413; have hfz45_2 := blk_frozen BK413.out 2))
   refine bodyPost_ret (results_ctt rfl _ _ gb413 49 #[.int .i64 a0_0, .int .i64 a0_1, .slice Ao40 t416.length co40] (0, 0) _ rfl (by (with_reducible repeat (first | refine blk_drewN ?_ _ | refine blk_drew ?_ | refine blk_alloc ?_ _)); refine blk_put (cs := #[.int .i64 a0_0, .int .i64 a0_1, .slice Ao40 t416.length co40]) ?_ 2 _ rfl; (with_reducible repeat (first | refine blk_drewN ?_ _ | refine blk_drew ?_ | refine blk_alloc ?_ _)); refine blk_put (cs := #[.int .i64 a0_0, .int .i64 a0_1, .slice Ao40 t416.length co40]) ?_ 1 _ rfl; (with_reducible repeat (first | refine blk_drewN ?_ _ | refine blk_drew ?_ | refine blk_alloc ?_ _)); refine blk_put (cs := #[.int .i64 a0_0, .int .i64 a0_1, .slice Ao40 t416.length co40]) ?_ 0 _ rfl; (with_reducible repeat (first | refine blk_drewN ?_ _ | refine blk_drew ?_ | refine blk_alloc ?_ _)); exact BK413.out) Try.underlying49 rfl (by kernel_rfl)) rfl ?_
   exact ⟨_, by first | rfl | (simp [errW_none, errW_some] <;> rfl) | (simp [*, errW_none, errW_some] <;> rfl), by (with_reducible repeat (first | apply Kd.R_alloc | apply Kd.R_drewN | apply Kd.R_drew)); exact Kd.R_mono (Kd.R_far (p := ⟨gb413, 2, none⟩) (Kd.R_far (p := ⟨gb413, 1, none⟩) (Kd.R_far (p := ⟨gb413, 0, none⟩) (Kd.R_types HO418.out BK413.out (by decide)) (fun _ hk => hk.2) (.int .i64 a0_0)) (fun _ hk => hk.2) (.int .i64 a0_1)) (fun _ hk => hk.2) (.slice Ao40 t416.length co40)) (fun _ hk => trivial), by repeat (first | (with_reducible first | exact HB.out | apply below_alloc | apply pw_below_drewN | apply below_drew1 | refine below_set ?_ GE412.out | refine below_set ?_ GE413.out) | exact HB.out)⟩
 rw [if_neg c35] at H
 have c35b0 : decide ((wrap64 (a0_0 * a0_1)) ≤ a1) = false := decide_eq_false c35
 clear c35
 obtain ⟨y421, hy421⟩ : ∃ y_ : List (S132), y_ = (([(⟨a1, a2⟩ : S132)] : List (S132))) := ⟨_, rfl⟩
 replace H : ((Insert_syms.f t416 t419 y421).bind fun t424 => (some (a0_0, a0_1, t424, true, 0))) = some (r1, r2, r3, r4, r5) := by first | (rw [hy421]; with_reducible exact H) | (have H2_ := (Option.bind_some _ _).symm.trans H; rw [hy421]; with_reducible exact H2_) | (have H2_ := (Option.bind_some _ _).symm.trans H; with_reducible exact H2_) | with_reducible exact H | (rw [hy421]; exact H) | exact H
 have Ny421 := Aside0.mk hy421
 clear hy421
 replace H := Option.bind_eq_some_iff.mp H
 obtain ⟨t424, A460, H⟩ := H
 replace H : (some (a0_0, a0_1, t424, true, 0)) = some (r1, r2, r3, r4, r5) := H
 have A46 := Aside0.mk A460
 clear A460
 simp only [Option.some.injEq, Prod.mk.injEq] at H
 obtain ⟨rfl, rfl, rfl, rfl, rfl⟩ := H
 have hnb47 := NB412_413.out
 have hnc47 := NB413_412.out
 obtain ⟨hcz48_0, hcz48_1, hcz48_2⟩ := zC3 BK412
 obtain ⟨hfz48_0, hfz48_1, hfz48_2⟩ := zF3 BK412
 obtain ⟨hcz49_0, hcz49_1, hcz49_2⟩ := zC3 BK413
 obtain ⟨hfz49_0, hfz49_1, hfz49_2⟩ := zF3 BK413
 go_wp2_with (first | ((with_reducible refine gate_callee (f := 73) rfl ?_); refine goesL_ (some 27) rfl rfl Try.func73 (by kernel_rfl) rfl #[.slice A0_2 l0_2.length c0_2] rfl (by (try simp only [List.map_toArray, List.map_cons, List.map_nil]); first | done | rfl | (simp only [List.length_drop, List.length_take]; rfl)) ?_; (with_reducible refine (Clone_syms.calls _ _ l0_2 t416 _ ?side1 ?side2 A23.out).mono ?_); (case side1 => exact Kd.C_below HR0_2.out (zB HB)); (case side2 => exact HC0_2.out); rintro e w50 ⟨v417, rfl, ho0, hb⟩; refine ⟨_, rfl, ?_⟩; have n0_ := Aside0.mk (Kd.R_lower ho0 (below_size (zB HB))); have n1_ := zb BK412 hb; have n2_ := Aside0.mk (blk_below (g := gb413) (o := .cells #[.int .i64 a0_0, .int .i64 a0_1, .slice A0_2 l0_2.length c0_2] 49 (0, 0)) (by (with_reducible repeat (first | refine blk_drewN ?_ _ | refine blk_drew ?_ | refine blk_alloc ?_ _)); refine blk_put (cs := #[.int .i64 a0_0, .int .i64 a0_1, .slice none 0 0]) ?_ 2 _ rfl; (with_reducible repeat (first | refine blk_drewN ?_ _ | refine blk_drew ?_ | refine blk_alloc ?_ _)); refine blk_put (cs := #[.int .i64 a0_0, .int .i64 0, .slice none 0 0]) ?_ 1 _ rfl; (with_reducible repeat (first | refine blk_drewN ?_ _ | refine blk_drew ?_ | refine blk_alloc ?_ _)); refine blk_put (cs := #[.int .i64 0, .int .i64 0, .slice none 0 0]) ?_ 0 _ rfl; (with_reducible repeat (first | refine blk_drewN ?_ _ | refine blk_drew ?_ | refine blk_alloc ?_ _)); exact BK413.out) hb); have n3_ := zs HB hb; clear BK412; clear BK413; clear HB; have HO418 := n0_; have BK412 := n1_; have BK413 := n2_; have HB := n3_; clear n0_ n1_ n2_ n3_; (try clear hb); (try clear hb2); (try clear hk); (try clear hi); (try clear ho0); obtain ⟨Ao51, co51, eo51⟩ := Kd.R_slice HO418.out; subst eo51; obtain ⟨hcz52_0, hcz52_1, hcz52_2⟩ := zC3 BK413; obtain ⟨hfz52_0, hfz52_1, hfz52_2⟩ := zF3 BK413; obtain ⟨hcz53_0, hcz53_1, hcz53_2⟩ := zC3 BK412; obtain ⟨hfz53_0, hfz53_1⟩ := zF2 BK412; have hfz53_2 := blk_frozen BK412.out 2) | ((with_reducible refine gate_callee (f := 74) rfl ?_); refine goesL_ (some 33) rfl rfl Try.func74 (by kernel_rfl) rfl #[.slice A0_2 l0_2.length c0_2, .int .i64 a1, .func (.func 75) #[] #[]] rfl (by (try simp only [List.map_toArray, List.map_cons, List.map_nil]); first | done | rfl | (simp only [List.length_drop, List.length_take]; rfl)) ?_; (with_reducible refine (BinarySearchFunc_syms.calls _ _ l0_2 a1  t419 false _ ?side1 ?side2 A24.out).mono ?_); (case side1 => exact Kd.C_below HR0_2.out (zB HB)); (case side2 => exact HC0_2.out); rintro e w54 ⟨rfl, hb⟩; refine ⟨_, rfl, ?_⟩; have n0_ := Aside0.mk (Kd.R_below (by (with_reducible repeat (first | apply Kd.R_alloc | apply Kd.R_drewN | apply Kd.R_drew)); exact (Kd.R_mono (Kd.R_far (p := ⟨gb413, 2, none⟩) (Kd.R_types HO418.out BK413.out (by decide)) (fun _ hk => hk.2) (.slice Ao51 t416.length co51)) (fun _ h_ => h_.1))) hb); have n1_ := zb BK412 hb; have n2_ := Aside0.mk (blk_below (g := gb413) (o := .cells #[.int .i64 a0_0, .int .i64 a0_1, .slice Ao51 t416.length co51] 49 (0, 0)) (by (with_reducible repeat (first | refine blk_drewN ?_ _ | refine blk_drew ?_ | refine blk_alloc ?_ _)); refine blk_put (cs := #[.int .i64 a0_0, .int .i64 a0_1, .slice A0_2 l0_2.length c0_2]) ?_ 2 _ rfl; (with_reducible repeat (first | refine blk_drewN ?_ _ | refine blk_drew ?_ | refine blk_alloc ?_ _)); exact BK413.out) hb); have n3_ := zs HB hb; clear HO418; clear BK412; clear BK413; clear HB; have HO418 := n0_; have BK412 := n1_; have BK413 := n2_; have HB := n3_; clear n0_ n1_ n2_ n3_; (try clear hb); (try clear hb2); (try clear hk); (try clear hi); obtain ⟨hcz55_0, hcz55_1, hcz55_2⟩ := zC3 BK412; obtain ⟨hfz55_0, hfz55_1, hfz55_2⟩ := zF3 BK412; obtain ⟨hcz56_0, hcz56_1, hcz56_2⟩ := zC3 BK413; obtain ⟨hfz56_0, hfz56_1⟩ := zF2 BK413; have hfz56_2 := blk_frozen BK413.out 2) | ((with_reducible refine gate_dst (N := 53) rfl ?_); refine Kd.R_lit k132 _ 132 ?hg (N := 53) ?hd (xs := ([(⟨a1, a2⟩ : S132)] : List (S132))) (inner := [.int .i64 a1, .int .i64 a2]) (ok := fun _ => True) (okp := fun _ => True) ?hr ?hp (fun _ hk => hk) trivial (Below.refl _ _) (Nat.le_refl _) (by simp) ?_; (case hd => rfl); (case hg => rfl); (case hr => first | (go_simp; done) | (go_simp; rfl)); (case hp => exact (Reps.c2 (show Kd.M k132 _ _ _ (⟨a1, a2⟩ : S132) [.int .i64 a1, .int .i64 a2] from (k132_mkM _ _ _ (⟨a1, a2⟩ : S132) )) (Reps.none _ _))); intro v422 w57 ho58 hb hg_ hnew_; clear hg_ hnew_; (first | rw [← Ny421.out] at ho58 | (simp only [Int.reduceToNat] at ho58; rw [← Ny421.out] at ho58)); have HO423 := Aside0.mk (Kd.R_lower (Kd.R_new' ho58 (Kd.R_lt (zr_ HO418))) (below_size (zB HB))); replace HO418 := Aside0.mk (Kd.R_elder' (zr_ HO418) (Kd.R_base ho58) hb); replace BK412 := zb BK412 hb; replace BK413 := zb BK413 hb; replace HB := zs HB hb; clear hb ho58; obtain ⟨Ao59, co59, eo59⟩ := Kd.R_slice HO423.out; subst eo59) | ((with_reducible refine gate_callee (f := 76) rfl ?_); refine goesL_ (some 54) rfl rfl Try.func76 (by kernel_rfl) rfl #[.slice Ao51 t416.length co51, .int .i64 t419, .slice Ao59 y421.length co59] rfl (by (try simp only [List.map_toArray, List.map_cons, List.map_nil]); first | done | rfl | (simp only [List.length_drop, List.length_take]; rfl)) ?_; (with_reducible refine (Insert_syms.calls (fun k_ => some k_ = (.slice Ao51 t416.length co51 : Value).ownBlock) (.slice Ao51 t416.length co51) t416 t419 (fun k_ => some k_ = (.slice Ao59 y421.length co59 : Value).ownBlock) (.slice Ao59 y421.length co59) y421 t424 w _ ?side1 ?side2 ?side3 ?side4 ?side5 A46.out).mono ?_); (case side1 => repeat (first | (with_reducible first | exact HB.out | apply below_alloc | apply pw_below_drewN | apply below_drew1 | refine below_set ?_ GE412.out | refine below_set ?_ GE413.out) | exact HB.out)); (case side2 => exact Kd.R_tight rfl HO418.out); (case side3 => exact fun k_ e_ => (HO418.out.1 k_ e_.symm).2); (case side4 => exact Kd.R_tight rfl HO423.out); (case side5 => exact fun k_ e_ => (HO423.out.1 k_ e_.symm).2); rintro e w60 ⟨v425, rfl, ho0, hb, hkp⟩; refine ⟨_, rfl, ?_⟩; have n0_ := Aside0.mk (blk_kept (zk BK412) hkp (fun hs_ => Or.elim hs_ (fun e_ => (fun e_ => (Kd.R_ne HO418.out BK412.out (by decide)) e_) e_) (fun e_ => (fun e_ => (Kd.R_ne HO423.out BK412.out (by decide)) e_) e_))); have n1_ := Aside0.mk (blk_kept (zk BK413) hkp (fun hs_ => Or.elim hs_ (fun e_ => (fun e_ => (Kd.R_ne HO418.out BK413.out (by decide)) e_) e_) (fun e_ => (fun e_ => (Kd.R_ne HO423.out BK413.out (by decide)) e_) e_))); have n2_ := Aside0.mk (Kd.R_mono (ok' := fun k_ => True) ho0 (fun k_ hk_ => trivial)); have n3_ := Aside0.mk (hb); clear BK412; clear BK413; clear HB; clear HO418; clear HO423; have BK412 := n0_; have BK413 := n1_; have HO426 := n2_; have HB := n3_; clear n0_ n1_ n2_ n3_; (try clear hb); (try clear hkp); (try clear ho0); obtain ⟨Ao61, co61, eo61⟩ := Kd.R_slice HO426.out; subst eo61; obtain ⟨hcz62_0, hcz62_1, hcz62_2⟩ := zC3 BK413; obtain ⟨hfz62_0, hfz62_1⟩ := zF2 BK413; have hfz62_2 := blk_frozen BK413.out 2))
 refine bodyPost_ret (results_ctt rfl _ _ gb413 49 #[.int .i64 a0_0, .int .i64 a0_1, .slice Ao61 t424.length co61] (0, 0) _ rfl (by (with_reducible repeat (first | refine blk_drewN ?_ _ | refine blk_drew ?_ | refine blk_alloc ?_ _)); refine blk_put (cs := #[.int .i64 a0_0, .int .i64 a0_1, .slice Ao61 t424.length co61]) ?_ 2 _ rfl; (with_reducible repeat (first | refine blk_drewN ?_ _ | refine blk_drew ?_ | refine blk_alloc ?_ _)); refine blk_put (cs := #[.int .i64 a0_0, .int .i64 a0_1, .slice Ao61 t424.length co61]) ?_ 1 _ rfl; (with_reducible repeat (first | refine blk_drewN ?_ _ | refine blk_drew ?_ | refine blk_alloc ?_ _)); refine blk_put (cs := #[.int .i64 a0_0, .int .i64 a0_1, .slice Ao61 t424.length co61]) ?_ 0 _ rfl; (with_reducible repeat (first | refine blk_drewN ?_ _ | refine blk_drew ?_ | refine blk_alloc ?_ _)); refine blk_put (cs := #[.int .i64 a0_0, .int .i64 a0_1, .slice Ao51 t416.length co51]) ?_ 2 _ rfl; (with_reducible repeat (first | refine blk_drewN ?_ _ | refine blk_drew ?_ | refine blk_alloc ?_ _)); exact BK413.out) Try.underlying49 rfl (by kernel_rfl)) rfl ?_
 exact ⟨_, by first | rfl | (simp [errW_none, errW_some] <;> rfl) | (simp [*, errW_none, errW_some] <;> rfl), by (with_reducible repeat (first | apply Kd.R_alloc | apply Kd.R_drewN | apply Kd.R_drew)); exact Kd.R_mono (Kd.R_far (p := ⟨gb413, 2, none⟩) (Kd.R_far (p := ⟨gb413, 1, none⟩) (Kd.R_far (p := ⟨gb413, 0, none⟩) (Kd.R_far (p := ⟨gb413, 2, none⟩) (Kd.R_types HO426.out BK413.out (by decide)) (fun _ hk => hk.2) (.slice Ao61 t424.length co61)) (fun _ hk => hk.2) (.int .i64 a0_0)) (fun _ hk => hk.2) (.int .i64 a0_1)) (fun _ hk => hk.2) (.slice Ao61 t424.length co61)) (fun _ hk => trivial), by repeat (first | (with_reducible first | exact HB.out | apply below_alloc | apply pw_below_drewN | apply below_drew1 | refine below_set ?_ GE412.out | refine below_set ?_ GE413.out) | exact HB.out)⟩
end Go.Proofs.Ytlolfijadcflaaa.P
