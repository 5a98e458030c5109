/- What the law's proof needs: PxPile. -/
import Derived.Test.YtlolfijadcflaaaBfPx0
import Derived.Test.YtlolfijadcflaaaBfClonesyms
import Derived.Test.YtlolfijadcflaaaBfInsertsyms
namespace Go.Proofs.Ytlolfijadcflaaa.P
open Go.RowKit Go.Proofs.YtlolfijadcflaaaW.PrintWords Go.Proofs.YtlolfijadcflaaaW.PrintLast Go.Proofs.YtlolfijadcflaaaW.PrintMore
attribute [local go_sem] max2_int min2_int max_two min_two max_three min_three max_four min_four   -- for this text's walks alone
set_option linter.unusedVariables false
set_option linter.unusedSimpArgs false
def pile_may.f (a0 : Int) (a1 : Int) : Option (Bool) := if a0 ≥ 1 then (if a0 ≤ 64 then (if a1 ≥ 1 then (some (decide (a1 ≤ 16))) else (some false)) else (some false)) else (some false)
set_option maxHeartbeats 8000000 in
set_option maxRecDepth 100000 in
theorem pile_may.calls (a0 : Int) (a1 : Int) (r : Bool) (w : World) (h : pile_may.f a0 a1 = some r) :
    Calls Try.prog 70 #[.int .i64 a0, .int .i64 a1] w fun e w' => e = .returned (.bool r) ∧ Drawn0 w w' := by
 have H : (if a0 ≥ 1 then (if a0 ≤ 64 then (if a1 ≥ 1 then (some (decide (a1 ≤ 16))) else (some false)) else (some false)) else (some false)) = some r := h
 clear h
 by_cases cq0 : a0 ≥ 1
 rotate_left
 · rw [if_neg cq0] at H
   have c3b0 : decide (1 ≤ a0) = false := decide_eq_false cq0
   clear cq0
   obtain rfl := Option.some.inj H
   go_enter Try.func70, Try.ntmps70
   go_wp2
   go_ret
   exact ⟨by first | rfl | (simp; done) | (simp [*]; done), by repeat (first | exact Drawn0.refl _ | apply Drawn0.step)⟩
 rw [if_pos cq0] at H
 have c3b0 : decide (1 ≤ a0) = true := decide_eq_true cq0
 clear cq0
 by_cases cq1 : a0 ≤ 64
 rotate_left
 · rw [if_neg cq1] at H
   have c4b0 : decide (a0 ≤ 64) = false := decide_eq_false cq1
   clear cq1
   obtain rfl := Option.some.inj H
   go_enter Try.func70, Try.ntmps70
   go_wp2
   go_ret
   exact ⟨by first | rfl | (simp; done) | (simp [*]; done), by repeat (first | exact Drawn0.refl _ | apply Drawn0.step)⟩
 rw [if_pos cq1] at H
 have c4b0 : decide (a0 ≤ 64) = true := decide_eq_true cq1
 clear cq1
 by_cases cq2 : a1 ≥ 1
 · rw [if_pos cq2] at H
   have c5b0 : decide (1 ≤ a1) = true := decide_eq_true cq2
   clear cq2
   obtain rfl := Option.some.inj H
   go_enter Try.func70, Try.ntmps70
   go_wp2
   go_ret
   exact ⟨by first | rfl | (simp; done) | (simp [*]; done), by repeat (first | exact Drawn0.refl _ | apply Drawn0.step)⟩
 rw [if_neg cq2] at H
 have c5b0 : decide (1 ≤ a1) = false := decide_eq_false cq2
 clear cq2
 obtain rfl := Option.some.inj H
 go_enter Try.func70, Try.ntmps70
 go_wp2
 go_ret
 exact ⟨by first | rfl | (simp; done) | (simp [*]; done), by repeat (first | exact Drawn0.refl _ | apply Drawn0.step)⟩
def pile_New.f (a0 : Int) (a1 : Int) : Option (Int × Int × (List (S132)) × Int) := (pile_may.f a0 a1).bind fun t332 => (if t332 = true then (some (a0, a1, ([] : List (S132)), 0)) else (some (0, 0, ([] : List (S132)), 1)))
set_option maxHeartbeats 8000000 in
set_option maxRecDepth 100000 in
theorem pile_New.calls (a0 : Int) (a1 : Int) (r1 : Int) (r2 : Int) (r3 : List (S132)) (r4 : Int) (w : World) (h : pile_New.f a0 a1 = some (r1, r2, r3, r4)) :
    Calls Try.prog 26 #[.int .i64 a0, .int .i64 a1] w fun e w' => ∃ v2_ : Value, e = .returned (.tuple #[.agg #[.int .i64 r1, .int .i64 r2, v2_], .int .i64 r4]) ∧ Kd.R k132 132 w' w.heap.size (fun _ => True) v2_ r3 ∧ Below w.heap.size w w' := by
 have huq0 := Try.underlying49
 have HB := Aside0.mk (Below.refl w.heap.size w)
 have H : ((pile_may.f a0 a1).bind fun t332 => (if t332 = true then (some (a0, a1, ([] : List (S132)), 0)) else (some (0, 0, ([] : List (S132)), 1)))) = some (r1, r2, r3, r4) := h
 clear h
 replace H := Option.bind_eq_some_iff.mp H
 obtain ⟨t332, Aq0, H⟩ := H
 replace H : (if t332 = true then (some (a0, a1, ([] : List (S132)), 0)) else (some (0, 0, ([] : List (S132)), 1))) = some (r1, r2, r3, r4) := H
 have Aq1 := Aside0.mk Aq0
 clear Aq0
 by_cases c4 : t332 = true
 · subst c4
   have H1 : (some (a0, a1, ([] : List (S132)), 0)) = some (r1, r2, r3, r4) := by first | (rw [if_pos rfl] at H; exact H) | exact (if_pos rfl).symm.trans H
   clear H
   have H := H1
   clear H1
   simp only [Option.some.injEq, Prod.mk.injEq] at H
   obtain ⟨rfl, rfl, rfl, rfl⟩ := H
   go_enter Try.func26, Try.ntmps26
   go_wp2_with (first | ((with_reducible refine gate_dst (N := 4) rfl ?_); refine box_event ?hg (N := 4) ?hd (cs := #[.int .i64 0, .int .i64 0, .slice none 0 0]) (t := 49) ?hr ?_; (case hd => rfl); (case hg => rfl); (case hr => go_simp <;> rfl); intro gb331 hg wq0 hbox hb; have BK331 := Aside0.mk (hbox); have GW331 := zg HB hg; have GE331 := zg HB hg; replace HB := zs HB hb; clear hb hbox hg) | ((with_reducible refine gate_callee (f := 70) rfl ?_); refine goesL_ (some 8) rfl rfl Try.func70 (by kernel_rfl) rfl #[.int .i64 a0, .int .i64 a1] rfl (by (try simp only [List.map_toArray, List.map_cons, List.map_nil]); first | done | rfl | (simp only [List.length_drop, List.length_take]; rfl)) ?_; (with_reducible refine (pile_may.calls a0 a1 true _ Aq1.out).mono ?_); rintro e w' ⟨rfl, ⟨nd, rfl⟩⟩; refine ⟨_, rfl, ?_⟩; (try (rw [drewN_self wq0]; generalize hq_ : World.drewN wq0 _ = wq0; have n0_ : Aside0 (wq0.heap[gb331]? = some (.cells #[.int .i64 0, .int .i64 0, .slice none 0 0] 49 (0, 0))) := ⟨by rw [← hq_]; exact (zk BK331)⟩; have n1_ : Aside0 (Below w.heap.size w wq0) := ⟨by rw [← hq_]; exact (zB HB)⟩; clear BK331 HB hq_; have BK331 := n0_; have HB := n1_; clear n0_ n1_)); obtain ⟨hczq0_0, hczq0_1, hczq0_2⟩ := zC3 BK331; obtain ⟨hfzq0_0, hfzq0_1⟩ := zF2 BK331; have hfzq0_2 := blk_frozen BK331.out 2))
   refine bodyPost_ret (results_ct rfl _ _ gb331 49 #[.int .i64 a0, .int .i64 a1, .slice none 0 0] (0, 0) _ rfl (by refine blk_put (cs := #[.int .i64 a0, .int .i64 a1, .slice none 0 0]) ?_ 2 _ rfl; refine blk_put (cs := #[.int .i64 a0, .int .i64 0, .slice none 0 0]) ?_ 1 _ rfl; refine blk_put (cs := #[.int .i64 0, .int .i64 0, .slice none 0 0]) ?_ 0 _ rfl; (with_reducible repeat (first | refine blk_drewN ?_ _ | refine blk_drew ?_ | refine blk_alloc ?_ _)); exact BK331.out) Try.underlying49 rfl (by kernel_rfl)) rfl ?_
   exact ⟨_, by first | rfl | (simp [errW_none, errW_some] <;> rfl) | (simp [*, errW_none, errW_some] <;> rfl), by first | exact Kd.R_nil _ _ _ _ _ | exact Kd.N_nil _ _ _ _ _ | exact Kd.V_nil _ _ _ _ _ | exact Kd.Q_nil _ _ _ _ _ | exact Kd.S_nil _ _ _ _ _, by repeat (first | (with_reducible first | exact HB.out | apply below_alloc | apply pw_below_drewN | apply below_drew1 | refine below_set ?_ GE331.out) | exact HB.out)⟩
 replace c4 := Bool.eq_false_iff.mpr c4
 subst c4
 have H1 : (some (0, 0, ([] : List (S132)), 1)) = some (r1, r2, r3, r4) := by rw [if_neg (show ¬ (false = true) by decide)] at H; exact H
 clear H
 have H := H1
 clear H1
 simp only [Option.some.injEq, Prod.mk.injEq] at H
 obtain ⟨rfl, rfl, rfl, rfl⟩ := H
 go_enter Try.func26, Try.ntmps26
 go_wp2_with (first | ((with_reducible refine gate_dst (N := 4) rfl ?_); refine box_event ?hg (N := 4) ?hd (cs := #[.int .i64 0, .int .i64 0, .slice none 0 0]) (t := 49) ?hr ?_; (case hd => rfl); (case hg => rfl); (case hr => go_simp <;> rfl); intro gb331 hg wq0 hbox hb; have BK331 := Aside0.mk (hbox); have GW331 := zg HB hg; have GE331 := zg HB hg; replace HB := zs HB hb; clear hb hbox hg) | ((with_reducible refine gate_callee (f := 70) rfl ?_); refine goesL_ (some 8) rfl rfl Try.func70 (by kernel_rfl) rfl #[.int .i64 a0, .int .i64 a1] rfl (by (try simp only [List.map_toArray, List.map_cons, List.map_nil]); first | done | rfl | (simp only [List.length_drop, List.length_take]; rfl)) ?_; (with_reducible refine (pile_may.calls a0 a1 false _ Aq1.out).mono ?_); rintro e w' ⟨rfl, ⟨nd, rfl⟩⟩; refine ⟨_, rfl, ?_⟩; (try (rw [drewN_self wq0]; generalize hq_ : World.drewN wq0 _ = wq0; have n0_ : Aside0 (wq0.heap[gb331]? = some (.cells #[.int .i64 0, .int .i64 0, .slice none 0 0] 49 (0, 0))) := ⟨by rw [← hq_]; exact (zk BK331)⟩; have n1_ : Aside0 (Below w.heap.size w wq0) := ⟨by rw [← hq_]; exact (zB HB)⟩; clear BK331 HB hq_; have BK331 := n0_; have HB := n1_; clear n0_ n1_)); obtain ⟨hczq0_0, hczq0_1, hczq0_2⟩ := zC3 BK331; obtain ⟨hfzq0_0, hfzq0_1⟩ := zF2 BK331; have hfzq0_2 := blk_frozen BK331.out 2))
 refine bodyPost_ret (results_ct rfl _ _ gb331 49 #[.int .i64 0, .int .i64 0, .slice none 0 0] (0, 0) _ rfl (by refine blk_put (cs := #[.int .i64 0, .int .i64 0, .slice none 0 0]) ?_ 2 _ rfl; refine blk_put (cs := #[.int .i64 0, .int .i64 0, .slice none 0 0]) ?_ 1 _ rfl; refine blk_put (cs := #[.int .i64 0, .int .i64 0, .slice none 0 0]) ?_ 0 _ rfl; (with_reducible repeat (first | refine blk_drewN ?_ _ | refine blk_drew ?_ | refine blk_alloc ?_ _)); exact BK331.out) Try.underlying49 rfl (by kernel_rfl)) rfl ?_
 exact ⟨_, by first | rfl | (simp [errW_none, errW_some] <;> rfl) | (simp [*, errW_none, errW_some] <;> rfl), by first | exact Kd.R_nil _ _ _ _ _ | exact Kd.N_nil _ _ _ _ _ | exact Kd.V_nil _ _ _ _ _ | exact Kd.Q_nil _ _ _ _ _ | exact Kd.S_nil _ _ _ _ _, by repeat (first | (with_reducible first | exact HB.out | apply below_alloc | apply pw_below_drewN | apply below_drew1 | refine below_set ?_ GE331.out) | exact HB.out)⟩
def pile_value.f (a0 : Int) : Option (Bool) := if a0 ≥ 0 then (some (decide (a0 ≤ 255))) else (some false)
set_option maxHeartbeats 8000000 in
set_option maxRecDepth 100000 in
theorem pile_value.calls (a0 : Int) (r : Bool) (w : World) (h : pile_value.f a0 = some r) :
    Calls Try.prog 72 #[.int .i64 a0] w fun e w' => e = .returned (.bool r) ∧ Drawn0 w w' := by
 have H : (if a0 ≥ 0 then (some (decide (a0 ≤ 255))) else (some false)) = some r := h
 clear h
 by_cases cq0 : a0 ≥ 0
 · rw [if_pos cq0] at H
   have c2b0 : decide (0 ≤ a0) = true := decide_eq_true cq0
   clear cq0
   obtain rfl := Option.some.inj H
   go_enter Try.func72, Try.ntmps72
   go_wp2
   go_ret
   exact ⟨by first | rfl | (simp; done) | (simp [*]; done), by repeat (first | exact Drawn0.refl _ | apply Drawn0.step)⟩
 rw [if_neg cq0] at H
 have c2b0 : decide (0 ≤ a0) = false := decide_eq_false cq0
 clear cq0
 obtain rfl := Option.some.inj H
 go_enter Try.func72, Try.ntmps72
 go_wp2
 go_ret
 exact ⟨by first | rfl | (simp; done) | (simp [*]; done), by repeat (first | exact Drawn0.refl _ | apply Drawn0.step)⟩
def pile_Check.l0 : Nat → Int → List (S132) → Int → Int → Int → Int → List (S132) → Option (Int)
  | 0, _, _, _, _, _, _, _ => none
  | k + 1, x3, x13, x14, x15, x334000, x334001, x334002 => if x15 < x14 then (if 0 ≤ x15 then (if x15 < (x13.length : Int) then (if ((rd_T132 x13 x15).f0) ≤ x3 then (some 1) else (if ((rd_T132 x13 x15).f0) ≥ (wrap64 (x334000 * x334001)) then (some 1) else ((pile_value.f ((rd_T132 x13 x15).f1)).bind fun t337 => (if t337 = true then (pile_Check.l0 k ((rd_T132 x13 x15).f0) x13 x14 (wrap64 (x15 + 1)) x334000 x334001 x334002) else (some 1))))) else (none)) else (none)) else (some 0)
def pile_Check.f (k : Nat) (a0_0 : Int) (a0_1 : Int) (l0_2 : List (S132)) : Option (Int) := (pile_may.f a0_0 a0_1).bind fun t334 => (if t334 = true then (pile_Check.l0 k (-1) l0_2 (l0_2.length : Int) 0 a0_0 a0_1 l0_2) else (some 1))
theorem pile_Check.mono_l : ∀ k, (∀ y0 y1 y2 y3 y4 y5 y6, LeO (pile_Check.l0 k y0 y1 y2 y3 y4 y5 y6) (pile_Check.l0 (k + 1) y0 y1 y2 y3 y4 y5 y6))
  | 0 => fun _ _ _ _ _ _ _ r h => by simp [pile_Check.l0] at h
  | k + 1 => by
    have ih0 := pile_Check.mono_l k
    · intro y0 y1 y2 y3 y4 y5 y6
      unfold pile_Check.l0
      repeat' first
      | (with_reducible exact ih0 _ _ _ _ _ _ _)
      | (with_reducible exact LeO.refl _)
      | (with_reducible exact LeO.none _)
      | (with_reducible refine LeO.ite ?_ ?_)
      | (with_reducible refine LeO.bind ?_ (fun _ => ?_))
      | exact ih0 _ _ _ _ _ _ _
      | exact LeO.none _
      | refine LeO.ite ?_ ?_
      | refine LeO.bind ?_ (fun _ => ?_)
theorem pile_Check.mono : ∀ a0 a1 a2 k, LeO (pile_Check.f k a0 a1 a2) (pile_Check.f (k + 1) a0 a1 a2) := by
 intro a0 a1 a2 k
 have ih0 := pile_Check.mono_l k
 unfold pile_Check.f
 repeat' first
     | (with_reducible exact ih0 _ _ _ _ _ _ _)
     | (with_reducible exact LeO.refl _)
     | (with_reducible exact LeO.none _)
     | (with_reducible refine LeO.ite ?_ ?_)
     | (with_reducible refine LeO.bind ?_ (fun _ => ?_))
     | exact ih0 _ _ _ _ _ _ _
     | exact LeO.none _
     | refine LeO.ite ?_ ?_
     | refine LeO.bind ?_ (fun _ => ?_)
set_option maxRecDepth 100000 in
theorem pile_Check.calls.z1 {P : Prop} (h : P := by
  go_wp2_with (first | ((with_reducible refine gate_dst (N := 5) rfl ?_); refine box_event ?hg (N := 5) ?hd (cs := #[.int .i64 0, .int .i64 0]) (t := 132) ?hr ?_; (case hd => rfl); (case hg => rfl); (case hr => go_simp <;> rfl); intro gb336 hg wq1 hbox hb; have BK336 := Aside0.mk (hbox); have GW336 := zg HB hg; have GE336 := zg HB hg; replace HB := zs HB hb; have NB333_336 := zl BK333 hg; have NB336_333 := zr BK333 hg; replace BK333 := zb BK333 hb; clear hb hbox hg; have hnbq0 := NB336_333.out; have hncq0 := NB333_336.out; obtain ⟨hczq1_0, hczq1_1⟩ := zC2 BK336; obtain ⟨hfzq1_0, hfzq1_1⟩ := zF2 BK336; obtain ⟨hczq2_0, hczq2_1, hczq2_2⟩ := zC3 BK333; obtain ⟨hfzq2_0, hfzq2_1⟩ := zF2 BK333; have hfzq2_2 := blk_frozen BK333.out 2) | ((with_reducible refine gate_dst (N := 5) rfl ?_); refine box_event ?hg (N := 5) ?hd (cs := #[.int .i64 0, .int .i64 0]) (t := 132) ?hr ?_; (case hd => rfl); (case hg => rfl); (case hr => go_simp <;> rfl); intro gb336 hg wq1 hbox hb; have BK336 := Aside0.mk (hbox); have GW336 := zg HB hg; have GE336 := zg HB hg; replace HB := zs HB hb; have NB333_336 := zl BK333 hg; have NB336_333 := zr BK333 hg; replace BK333 := zb BK333 hb; clear hb hbox hg; have hnbq0 := NB336_333.out; have hncq0 := NB333_336.out; obtain ⟨hczq1_0, hczq1_1⟩ := zC2 BK336; have hfzq1_0 := blk_frozen BK336.out 0; have hfzq1_1 := blk_frozen BK336.out 1) | (go_at_call 72; (with_reducible refine (pile_value.calls ((rd_T132 l0_2 x15_1).f1) false _ Aq3.out).mono ?_); rintro e w' ⟨rfl, ⟨nd, rfl⟩⟩))
  go_ret
  exact ⟨by first | rfl | (simp [errW_none, errW_some] <;> rfl) | (simp [*, errW_none, errW_some] <;> rfl), by repeat (first | (with_reducible first | exact HB.out | apply below_alloc | apply pw_below_drewN | apply below_drew1 | refine below_set ?_ GE333.out | refine below_set ?_ GE336.out) | exact HB.out)⟩) : P := h
set_option maxHeartbeats 8000000 in
set_option maxRecDepth 100000 in
theorem pile_Check.calls (k : Nat) (a0_0 : Int) (a0_1 : Int) (A0_2 : Option Addr) (c0_2 : Nat) (l0_2 : List (S132)) (r : Int) (w : World) (hr0_2 : Kd.C k132 w A0_2 l0_2.length l0_2) (hc0_2 : l0_2.length ≤ c0_2) (h : pile_Check.f k a0_0 a0_1 l0_2 = some r) :
    Calls Try.prog 71 #[.agg #[.int .i64 a0_0, .int .i64 a0_1, .slice A0_2 l0_2.length c0_2]] w fun e w' => e = .returned (.int .i64 r) ∧ Below w.heap.size w w' := by
 have huq0 := Try.underlying49
 have huq1 := Try.underlying132
 have HRq0_2 := Aside0.mk hr0_2
 have HCq0_2 := Aside0.mk hc0_2
 clear hr0_2 hc0_2
 have HB := Aside0.mk (Below.refl w.heap.size w)
 have H : ((pile_may.f a0_0 a0_1).bind fun t334 => (if t334 = true then (pile_Check.l0 k (-1) l0_2 (l0_2.length : Int) 0 a0_0 a0_1 l0_2) else (some 1))) = some r := h
 clear h
 replace H := Option.bind_eq_some_iff.mp H
 obtain ⟨t334, Aq0, H⟩ := H
 replace H : (if t334 = true then (pile_Check.l0 k (-1) l0_2 (l0_2.length : Int) 0 a0_0 a0_1 l0_2) else (some 1)) = some r := H
 have Aq1 := Aside0.mk Aq0
 clear Aq0
 by_cases c3 : t334 = true
 rotate_left
 · replace c3 := Bool.eq_false_iff.mpr c3
   subst c3
   have H1 : (some 1) = some r := by rw [if_neg (show ¬ (false = true) by decide)] at H; exact H
   clear H
   have H := H1
   clear H1
   obtain rfl := Option.some.inj H
   go_enter Try.func71, Try.ntmps71
   go_wp2_with (first | ((with_reducible refine gate_dst (N := 1) rfl ?_); refine box_event ?hg (N := 1) ?hd (cs := #[.int .i64 a0_0, .int .i64 a0_1, .slice A0_2 l0_2.length c0_2]) (t := 49) ?hr ?_; (case hd => rfl); (case hg => rfl); (case hr => go_simp <;> rfl); intro gb333 hg wq0 hbox hb; have BK333 := Aside0.mk (hbox); have GW333 := zg HB hg; have GE333 := zg HB hg; replace HB := zs HB hb; clear hb hbox hg; obtain ⟨hczq0_0, hczq0_1, hczq0_2⟩ := zC3 BK333; obtain ⟨hfzq0_0, hfzq0_1⟩ := zF2 BK333; have hfzq0_2 := blk_frozen BK333.out 2) | ((with_reducible refine gate_callee (f := 70) rfl ?_); refine goesL_ (some 10) rfl rfl Try.func70 (by kernel_rfl) rfl #[.int .i64 a0_0, .int .i64 a0_1] rfl (by (try simp only [List.map_toArray, List.map_cons, List.map_nil]); first | done | rfl | (simp only [List.length_drop, List.length_take]; rfl)) ?_; (with_reducible refine (pile_may.calls a0_0 a0_1 false _ Aq1.out).mono ?_); rintro e w' ⟨rfl, ⟨nd, rfl⟩⟩; refine ⟨_, rfl, ?_⟩))
   go_ret
   exact ⟨by first | rfl | (simp [errW_none, errW_some] <;> rfl) | (simp [*, errW_none, errW_some] <;> rfl), by repeat (first | (with_reducible first | exact HB.out | apply below_alloc | apply pw_below_drewN | apply below_drew1 | refine below_set ?_ GE333.out) | exact HB.out)⟩
 subst c3
 have H1 : (pile_Check.l0 k (-1) l0_2 (l0_2.length : Int) 0 a0_0 a0_1 l0_2) = some r := by first | (rw [if_pos rfl] at H; exact H) | exact (if_pos rfl).symm.trans H
 clear H
 have H := H1
 clear H1
 have H' := Aside0.mk H
 clear H
 go_enter Try.func71, Try.ntmps71
 go_wp2_with (first | ((with_reducible refine gate_dst (N := 1) rfl ?_); refine box_event ?hg (N := 1) ?hd (cs := #[.int .i64 a0_0, .int .i64 a0_1, .slice A0_2 l0_2.length c0_2]) (t := 49) ?hr ?_; (case hd => rfl); (case hg => rfl); (case hr => go_simp <;> rfl); intro gb333 hg wq0 hbox hb; have BK333 := Aside0.mk (hbox); have GW333 := zg HB hg; have GE333 := zg HB hg; replace HB := zs HB hb; clear hb hbox hg; obtain ⟨hczq0_0, hczq0_1, hczq0_2⟩ := zC3 BK333; obtain ⟨hfzq0_0, hfzq0_1⟩ := zF2 BK333; have hfzq0_2 := blk_frozen BK333.out 2) | ((with_reducible refine gate_callee (f := 70) rfl ?_); refine goesL_ (some 10) rfl rfl Try.func70 (by kernel_rfl) rfl #[.int .i64 a0_0, .int .i64 a0_1] rfl (by (try simp only [List.map_toArray, List.map_cons, List.map_nil]); first | done | rfl | (simp only [List.length_drop, List.length_take]; rfl)) ?_; (with_reducible refine (pile_may.calls a0_0 a0_1 true _ Aq1.out).mono ?_); rintro e w' ⟨rfl, ⟨nd, rfl⟩⟩; refine ⟨_, rfl, ?_⟩))
 go_loopg [3, 15] k (fun kq v3 v15 w' => ∃ (x3_1 : Int) (x15_1 : Int), v3 = .int .i64 x3_1 ∧ v15 = .int .i64 x15_1 ∧ Aside0 (pile_Check.l0 kq x3_1 l0_2 (l0_2.length : Int) x15_1 a0_0 a0_1 l0_2 = some r) ∧ Aside0 (kq ≤ k) ∧ Aside0 (w'.heap[gb333]? = some (.cells #[.int .i64 a0_0, .int .i64 a0_1, (.slice A0_2 l0_2.length c0_2)] 49 (0, 0))) ∧ Aside0 (Below w.heap.size w w'))
 case atStart => exact ⟨((-1)), (0), (by first | rfl | (simp; done) | (simp [*]; done)), (by first | rfl | (simp; done) | (simp [*]; done)), H', ⟨Nat.le_refl _⟩, ⟨by (with_reducible repeat (first | refine blk_drewN ?_ _ | refine blk_drew ?_ | refine blk_alloc ?_ _)); exact BK333.out⟩, ⟨by repeat (first | (with_reducible first | exact HB.out | apply below_alloc | apply pw_below_drewN | apply below_drew1 | refine below_set ?_ GE333.out) | exact HB.out)⟩⟩
 case round =>
  clear H'
  try clear c3
  try clear hczq0_0
  try clear hczq0_1
  try clear hczq0_2
  try clear hfzq0_0
  try clear hfzq0_1
  try clear hfzq0_2
  obtain ⟨x3_1, x15_1, rfl, rfl, HA, HKq0, BK333, HB⟩ := hrel
  cases gk with
  | zero => exact absurd HA.out (by simp [pile_Check.l0])
  | succ k1 => ?_
  have H := HA.out
  clear HA
  simp only [pile_Check.l0] at H
  by_cases cq0 : x15_1 < (l0_2.length : Int)
  rotate_left
  · rw [if_neg cq0] at H
    have c6b0 : decide (x15_1 < (l0_2.length : Int)) = false := decide_eq_false cq0
    clear cq0
    obtain rfl := Option.some.inj H
    go_wp2
    go_ret
    exact ⟨by first | rfl | (simp [errW_none, errW_some] <;> rfl) | (simp [*, errW_none, errW_some] <;> rfl), by repeat (first | (with_reducible first | exact HB.out | apply below_alloc | apply pw_below_drewN | apply below_drew1 | refine below_set ?_ GE333.out) | exact HB.out)⟩
  rw [if_pos cq0] at H
  have c6b0 : decide (x15_1 < (l0_2.length : Int)) = true := decide_eq_true cq0
  clear cq0
  by_cases cq1 : 0 ≤ x15_1
  rotate_left
  · rw [if_neg cq1] at H
    exact absurd H (by simp)
  rw [if_pos cq1] at H
  have cq1b0 : decide (0 ≤ x15_1) = true := decide_eq_true cq1
  clear cq1
  by_cases cq2 : x15_1 < (l0_2.length : Int)
  rotate_left
  · rw [if_neg cq2] at H
    exact absurd H (by simp)
  rw [if_pos cq2] at H
  have cq2b0 : decide (x15_1 < (l0_2.length : Int)) = true := decide_eq_true cq2
  clear cq2
  by_cases cq3 : ((rd_T132 l0_2 x15_1).f0) ≤ x3_1
  · rw [if_pos cq3] at H
    have c9b0 : decide (((rd_T132 l0_2 x15_1).f0) ≤ x3_1) = true := decide_eq_true cq3
    clear cq3
    obtain rfl := Option.some.inj H
    have p335 : 0 ≤ (x15_1 : Int) := zod
    have q335 : x15_1 < (l0_2.length : Int) := zod
    obtain ⟨ad335, e335, hx335_0, hx335_1⟩ := at_T132 HRq0_2.out x15_1 p335 q335
    cases e335
    replace hx335_0 := (HB.out.cell (World.block_lt_of_cell? w _ hx335_0)).trans hx335_0
    replace hx335_1 := (HB.out.cell (World.block_lt_of_cell? w _ hx335_1)).trans hx335_1
    replace p335 := eq_true p335
    replace q335 := eq_true q335
    exact pile_Check.calls.z1
  rw [if_neg cq3] at H
  have c9b0 : decide (((rd_T132 l0_2 x15_1).f0) ≤ x3_1) = false := decide_eq_false cq3
  clear cq3
  by_cases cq4 : ((rd_T132 l0_2 x15_1).f0) ≥ (wrap64 (a0_0 * a0_1))
  · rw [if_pos cq4] at H
    have c13b0 : decide ((wrap64 (a0_0 * a0_1)) ≤ ((rd_T132 l0_2 x15_1).f0)) = true := decide_eq_true cq4
    clear cq4
    obtain rfl := Option.some.inj H
    have p335 : 0 ≤ (x15_1 : Int) := zod
    have q335 : x15_1 < (l0_2.length : Int) := zod
    obtain ⟨ad335, e335, hx335_0, hx335_1⟩ := at_T132 HRq0_2.out x15_1 p335 q335
    cases e335
    replace hx335_0 := (HB.out.cell (World.block_lt_of_cell? w _ hx335_0)).trans hx335_0
    replace hx335_1 := (HB.out.cell (World.block_lt_of_cell? w _ hx335_1)).trans hx335_1
    replace p335 := eq_true p335
    replace q335 := eq_true q335
    exact pile_Check.calls.z1
  rw [if_neg cq4] at H
  have c13b0 : decide ((wrap64 (a0_0 * a0_1)) ≤ ((rd_T132 l0_2 x15_1).f0)) = false := decide_eq_false cq4
  clear cq4
  replace H := Option.bind_eq_some_iff.mp H
  obtain ⟨tq0, Aq2, H⟩ := H
  replace H : (if tq0 = true then (pile_Check.l0 k1 ((rd_T132 l0_2 x15_1).f0) l0_2 (l0_2.length : Int) (wrap64 (x15_1 + 1)) a0_0 a0_1 l0_2) else (some 1)) = some r := H
  have Aq3 := Aside0.mk Aq2
  clear Aq2
  by_cases c19 : tq0 = true
  rotate_left
  · replace c19 := Bool.eq_false_iff.mpr c19
    subst c19
    have H1 : (some 1) = some r := by rw [if_neg (show ¬ (false = true) by decide)] at H; exact H
    clear H
    have H := H1
    clear H1
    obtain rfl := Option.some.inj H
    have p335 : 0 ≤ (x15_1 : Int) := zod
    have q335 : x15_1 < (l0_2.length : Int) := zod
    obtain ⟨ad335, e335, hx335_0, hx335_1⟩ := at_T132 HRq0_2.out x15_1 p335 q335
    cases e335
    replace hx335_0 := (HB.out.cell (World.block_lt_of_cell? w _ hx335_0)).trans hx335_0
    replace hx335_1 := (HB.out.cell (World.block_lt_of_cell? w _ hx335_1)).trans hx335_1
    replace p335 := eq_true p335
    replace q335 := eq_true q335
    exact pile_Check.calls.z1
  subst c19
  have H1 : (pile_Check.l0 k1 ((rd_T132 l0_2 x15_1).f0) l0_2 (l0_2.length : Int) (wrap64 (x15_1 + 1)) a0_0 a0_1 l0_2) = some r := by first | (rw [if_pos rfl] at H; exact H) | exact (if_pos rfl).symm.trans H
  clear H
  have H := H1
  clear H1
  have H' := Aside0.mk H
  clear H
  have p335 : 0 ≤ (x15_1 : Int) := zod
  have q335 : x15_1 < (l0_2.length : Int) := zod
  obtain ⟨ad335, e335, hx335_0, hx335_1⟩ := at_T132 HRq0_2.out x15_1 p335 q335
  cases e335
  replace hx335_0 := (HB.out.cell (World.block_lt_of_cell? w _ hx335_0)).trans hx335_0
  replace hx335_1 := (HB.out.cell (World.block_lt_of_cell? w _ hx335_1)).trans hx335_1
  replace p335 := eq_true p335
  replace q335 := eq_true q335
  go_wp2_with (first | ((with_reducible refine gate_dst (N := 5) rfl ?_); refine box_event ?hg (N := 5) ?hd (cs := #[.int .i64 0, .int .i64 0]) (t := 132) ?hr ?_; (case hd => rfl); (case hg => rfl); (case hr => go_simp <;> rfl); intro gb336 hg wq1 hbox hb; have BK336 := Aside0.mk (hbox); have GW336 := zg HB hg; have GE336 := zg HB hg; replace HB := zs HB hb; have NB333_336 := zl BK333 hg; have NB336_333 := zr BK333 hg; replace BK333 := zb BK333 hb; clear hb hbox hg; have hnbq0 := NB336_333.out; have hncq0 := NB333_336.out; obtain ⟨hczq1_0, hczq1_1⟩ := zC2 BK336; obtain ⟨hfzq1_0, hfzq1_1⟩ := zF2 BK336; obtain ⟨hczq2_0, hczq2_1, hczq2_2⟩ := zC3 BK333; obtain ⟨hfzq2_0, hfzq2_1⟩ := zF2 BK333; have hfzq2_2 := blk_frozen BK333.out 2) | (go_at_call 72; (with_reducible refine (pile_value.calls ((rd_T132 l0_2 x15_1).f1) true _ Aq3.out).mono ?_); rintro e w' ⟨rfl, ⟨nd, rfl⟩⟩))
  go_roundg k1
  case measure => have := HKq0.out; omega
  case rel => exact ⟨((rd_T132 l0_2 x15_1).f0), (wrap64 (x15_1 + 1)), (by first | rfl | (simp; done) | (simp [*]; done)), (by first | rfl | (simp; done) | (simp [*]; done)), H', ⟨by have := HKq0.out; omega⟩, ⟨by refine blk_far ?_ NB333_336.out _; refine blk_far ?_ NB333_336.out _; (with_reducible repeat (first | refine blk_drewN ?_ _ | refine blk_drew ?_ | refine blk_alloc ?_ _)); exact BK333.out⟩, ⟨by repeat (first | (with_reducible first | exact HB.out | apply below_alloc | apply pw_below_drewN | apply below_drew1 | refine below_set ?_ GE333.out | refine below_set ?_ GE336.out) | exact HB.out)⟩⟩
def pile_Put.j0 : Nat → Int → Int → Bool → Int → Int → List (S132) → Option (Int × Int × (List (S132)) × Bool × Int)
  | 0, _, _, _, _, _, _ => none
  | k + 1, x1, x2, x22, x413000, x413001, x413002 => if x22 = true then (some (0, 0, ([] : List (S132)), false, 1)) else ((Clone_syms.f x413002).bind fun t416 => ((BinarySearchFunc_syms.f x413002 x1).bind fun bt419 => (if bt419.2 = true then (some (x413000, x413001, t416, false, 0)) else (if x1 ≥ (wrap64 (x413000 * x413001)) then (some (x413000, x413001, t416, false, 0)) else ((Insert_syms.f t416 bt419.1 (([(⟨x1, x2⟩ : S132)] : List (S132)))).bind fun t424 => (some (x413000, x413001, t424, true, 0)))))))
def pile_Put.f (k : Nat) (a0_0 : Int) (a0_1 : Int) (l0_2 : List (S132)) (a1 : Int) (a2 : Int) : Option (Int × Int × (List (S132)) × Bool × Int) := (pile_Check.f k a0_0 a0_1 l0_2).bind fun t414 => (if t414 = 0 then (if a1 < 0 then (pile_Put.j0 k a1 a2 true a0_0 a0_1 l0_2) else ((pile_value.f a2).bind fun t415 => (pile_Put.j0 k a1 a2 (!t415) a0_0 a0_1 l0_2))) else (pile_Put.j0 k a1 a2 true a0_0 a0_1 l0_2))
set_option maxRecDepth 100000 in
theorem pile_Put.calls.z1 {P : Prop} (h : P := by
  go_wp2_with (first | ((with_reducible refine gate_callee (f := 71) rfl ?_); refine goesL_ (some 12) rfl rfl Try.func71 (by kernel_rfl) rfl #[.agg #[.int .i64 a0_0, .int .i64 a0_1, .slice A0_2 l0_2.length c0_2]] rfl (by (try simp only [List.map_toArray, List.map_cons, List.map_nil]); first | done | rfl | (simp only [List.length_drop, List.length_take]; rfl)) ?_; (with_reducible refine (pile_Check.calls k a0_0 a0_1 _ _ l0_2 t414 _ ?side1 ?side2 Aq1.out).mono ?_); (case side1 => repeat (first | exact (Kd.C_below HRq0_2.out HB.out) | (with_reducible refine Kd.C_alloc ?_ _) | (with_reducible refine Kd.C_drewN ?_ _) | (with_reducible refine Kd.C_drew ?_))); (case side2 => exact HCq0_2.out); rintro e wq2 ⟨rfl, hb⟩; refine ⟨_, rfl, ?_⟩; replace BK412 := zb BK412 hb; replace BK413 := zb BK413 hb; replace HB := zs HB hb; (try clear hb); (try clear hb2); (try clear hk); (try clear hi)) | (go_at_call 72; (with_reducible refine (pile_value.calls a2 t415 _ Aq3.out).mono ?_); rintro e w' ⟨rfl, ⟨nd, rfl⟩⟩))
  go_meet
  first
    | case rel => exact ⟨_, (true), (by first | rfl | (simp; done) | (simp [*]; done)), H', ⟨by first | omega | exact Nat.le_refl _⟩, ⟨by (with_reducible repeat (first | refine blk_drewN ?_ _ | refine blk_drew ?_ | refine blk_alloc ?_ _)); exact BK412.out⟩, ⟨by (with_reducible repeat (first | refine blk_drewN ?_ _ | refine blk_drew ?_ | refine blk_alloc ?_ _)); exact BK413.out⟩, ⟨by repeat (first | (with_reducible first | exact HB.out | apply below_alloc | apply pw_below_drewN | apply below_drew1 | refine below_set ?_ GEq0.out | refine below_set ?_ GEq1.out) | exact HB.out)⟩⟩
    | case rel => exact ⟨_, (!t415), (by first | rfl | (simp; done) | (simp [*]; done)), H', ⟨by first | omega | exact Nat.le_refl _⟩, ⟨by (with_reducible repeat (first | refine blk_drewN ?_ _ | refine blk_drew ?_ | refine blk_alloc ?_ _)); exact BK412.out⟩, ⟨by (with_reducible repeat (first | refine blk_drewN ?_ _ | refine blk_drew ?_ | refine blk_alloc ?_ _)); exact BK413.out⟩, ⟨by repeat (first | (with_reducible first | exact HB.out | apply below_alloc | apply pw_below_drewN | apply below_drew1 | refine below_set ?_ GEq0.out | refine below_set ?_ GEq1.out) | exact HB.out)⟩⟩) : P := h
set_option maxRecDepth 100000 in
theorem pile_Put.calls.z2 {P : Prop} (h : P := by
  go_wp2_with (first | ((with_reducible refine gate_callee (f := 73) rfl ?_); refine goesL_ (some 27) rfl rfl Try.func73 (by kernel_rfl) rfl #[.slice A0_2 l0_2.length c0_2] rfl (by (try simp only [List.map_toArray, List.map_cons, List.map_nil]); first | done | rfl | (simp only [List.length_drop, List.length_take]; rfl)) ?_; (with_reducible refine (Clone_syms.calls _ _ l0_2 t416 _ ?side1 ?side2 Aq1.out).mono ?_); (case side1 => exact Kd.C_below HRq0_2.out (zB HB)); (case side2 => exact HCq0_2.out); rintro e wq2 ⟨v417, rfl, ho0, hb⟩; refine ⟨_, rfl, ?_⟩; have nq0_ := Aside0.mk (Kd.R_lower ho0 (below_size (zB HB))); have nq1_ := zb BK412 hb; have nq2_ := Aside0.mk (blk_below (g := gbq1) (o := .cells #[.int .i64 a0_0, .int .i64 a0_1, .slice A0_2 l0_2.length c0_2] 49 (0, 0)) (by refine blk_put (cs := #[.int .i64 a0_0, .int .i64 a0_1, .slice none 0 0]) ?_ 2 _ rfl; refine blk_put (cs := #[.int .i64 a0_0, .int .i64 0, .slice none 0 0]) ?_ 1 _ rfl; refine blk_put (cs := #[.int .i64 0, .int .i64 0, .slice none 0 0]) ?_ 0 _ rfl; (with_reducible repeat (first | refine blk_drewN ?_ _ | refine blk_drew ?_ | refine blk_alloc ?_ _)); exact BK413.out) hb); have nq3_ := zs HB hb; clear BK412; clear BK413; clear HB; have HO418 := nq0_; have BK412 := nq1_; have BK413 := nq2_; have HB := nq3_; clear nq0_ nq1_ nq2_ nq3_; (try clear hb); (try clear hb2); (try clear hk); (try clear hi); (try clear ho0); obtain ⟨Aoq0, coq0, eoq0⟩ := Kd.R_slice HO418.out; subst eoq0; obtain ⟨hczq2_0, hczq2_1, hczq2_2⟩ := zC3 BK413; obtain ⟨hfzq2_0, hfzq2_1, hfzq2_2⟩ := zF3 BK413; obtain ⟨hczq3_0, hczq3_1, hczq3_2⟩ := zC3 BK412; obtain ⟨hfzq3_0, hfzq3_1⟩ := zF2 BK412; have hfzq3_2 := blk_frozen BK412.out 2) | ((with_reducible refine gate_callee (f := 74) rfl ?_); refine goesL_ (some 33) rfl rfl Try.func74 (by kernel_rfl) rfl #[.slice A0_2 l0_2.length c0_2, .int .i64 a1, .func (.func 75) #[] #[]] rfl (by (try simp only [List.map_toArray, List.map_cons, List.map_nil]); first | done | rfl | (simp only [List.length_drop, List.length_take]; rfl)) ?_; (with_reducible refine (BinarySearchFunc_syms.calls _ _ l0_2 a1  tq0 false _ ?side1 ?side2 Aq3.out).mono ?_); (case side1 => exact Kd.C_below HRq0_2.out (zB HB)); (case side2 => exact HCq0_2.out); rintro e wq3 ⟨rfl, hb⟩; refine ⟨_, rfl, ?_⟩; have nq0_ := Aside0.mk (Kd.R_below (by (with_reducible repeat (first | apply Kd.R_alloc | apply Kd.R_drewN | apply Kd.R_drew)); exact (Kd.R_mono (Kd.R_far (p := ⟨gbq1, 2, none⟩) (Kd.R_types HO418.out BK413.out (by decide)) (fun _ hk => hk.2) (.slice Aoq0 t416.length coq0)) (fun _ h_ => h_.1))) hb); have nq1_ := zb BK412 hb; have nq2_ := Aside0.mk (blk_below (g := gbq1) (o := .cells #[.int .i64 a0_0, .int .i64 a0_1, .slice Aoq0 t416.length coq0] 49 (0, 0)) (by refine blk_put (cs := #[.int .i64 a0_0, .int .i64 a0_1, .slice A0_2 l0_2.length c0_2]) ?_ 2 _ rfl; (with_reducible repeat (first | refine blk_drewN ?_ _ | refine blk_drew ?_ | refine blk_alloc ?_ _)); exact BK413.out) hb); have nq3_ := zs HB hb; clear HO418; clear BK412; clear BK413; clear HB; have HO418 := nq0_; have BK412 := nq1_; have BK413 := nq2_; have HB := nq3_; clear nq0_ nq1_ nq2_ nq3_; (try clear hb); (try clear hb2); (try clear hk); (try clear hi); obtain ⟨hczq4_0, hczq4_1, hczq4_2⟩ := zC3 BK412; obtain ⟨hfzq4_0, hfzq4_1, hfzq4_2⟩ := zF3 BK412; obtain ⟨hczq5_0, hczq5_1, hczq5_2⟩ := zC3 BK413; obtain ⟨hfzq5_0, hfzq5_1⟩ := zF2 BK413; have hfzq5_2 := blk_frozen BK413.out 2) | ((with_reducible refine gate_callee (f := 74) rfl ?_); refine goesL_ (some 33) rfl rfl Try.func74 (by kernel_rfl) rfl #[.slice A0_2 l0_2.length c0_2, .int .i64 a1, .func (.func 75) #[] #[]] rfl (by (try simp only [List.map_toArray, List.map_cons, List.map_nil]); first | done | rfl | (simp only [List.length_drop, List.length_take]; rfl)) ?_; (with_reducible refine (BinarySearchFunc_syms.calls _ _ l0_2 a1  tq0 true _ ?side1 ?side2 Aq3.out).mono ?_); (case side1 => exact Kd.C_below HRq0_2.out (zB HB)); (case side2 => exact HCq0_2.out); rintro e wq3 ⟨rfl, hb⟩; refine ⟨_, rfl, ?_⟩; have nq0_ := Aside0.mk (Kd.R_below (by (with_reducible repeat (first | apply Kd.R_alloc | apply Kd.R_drewN | apply Kd.R_drew)); exact (Kd.R_mono (Kd.R_far (p := ⟨gbq1, 2, none⟩) (Kd.R_types HO418.out BK413.out (by decide)) (fun _ hk => hk.2) (.slice Aoq0 t416.length coq0)) (fun _ h_ => h_.1))) hb); have nq1_ := zb BK412 hb; have nq2_ := Aside0.mk (blk_below (g := gbq1) (o := .cells #[.int .i64 a0_0, .int .i64 a0_1, .slice Aoq0 t416.length coq0] 49 (0, 0)) (by refine blk_put (cs := #[.int .i64 a0_0, .int .i64 a0_1, .slice A0_2 l0_2.length c0_2]) ?_ 2 _ rfl; (with_reducible repeat (first | refine blk_drewN ?_ _ | refine blk_drew ?_ | refine blk_alloc ?_ _)); exact BK413.out) hb); have nq3_ := zs HB hb; clear HO418; clear BK412; clear BK413; clear HB; have HO418 := nq0_; have BK412 := nq1_; have BK413 := nq2_; have HB := nq3_; clear nq0_ nq1_ nq2_ nq3_; (try clear hb); (try clear hb2); (try clear hk); (try clear hi); obtain ⟨hczq4_0, hczq4_1, hczq4_2⟩ := zC3 BK413; obtain ⟨hfzq4_0, hfzq4_1⟩ := zF2 BK413; have hfzq4_2 := blk_frozen BK413.out 2))
  refine bodyPost_ret (results_ctt rfl _ _ gbq1 49 #[.int .i64 a0_0, .int .i64 a0_1, .slice Aoq0 t416.length coq0] (0, 0) _ rfl (by refine blk_put (cs := #[.int .i64 a0_0, .int .i64 a0_1, .slice Aoq0 t416.length coq0]) ?_ 2 _ rfl; refine blk_put (cs := #[.int .i64 a0_0, .int .i64 a0_1, .slice Aoq0 t416.length coq0]) ?_ 1 _ rfl; refine blk_put (cs := #[.int .i64 a0_0, .int .i64 a0_1, .slice Aoq0 t416.length coq0]) ?_ 0 _ rfl; (with_reducible repeat (first | refine blk_drewN ?_ _ | refine blk_drew ?_ | refine blk_alloc ?_ _)); exact BK413.out) Try.underlying49 rfl (by kernel_rfl)) rfl ?_
  exact ⟨_, by first | rfl | (simp [errW_none, errW_some] <;> rfl) | (simp [*, errW_none, errW_some] <;> rfl), by (with_reducible repeat (first | apply Kd.R_alloc | apply Kd.R_drewN | apply Kd.R_drew)); exact Kd.R_mono (Kd.R_far (p := ⟨gbq1, 2, none⟩) (Kd.R_far (p := ⟨gbq1, 1, none⟩) (Kd.R_far (p := ⟨gbq1, 0, none⟩) (Kd.R_types HO418.out BK413.out (by decide)) (fun _ hk => hk.2) (.int .i64 a0_0)) (fun _ hk => hk.2) (.int .i64 a0_1)) (fun _ hk => hk.2) (.slice Aoq0 t416.length coq0)) (fun _ hk => trivial), by repeat (first | (with_reducible first | exact HB.out | apply below_alloc | apply pw_below_drewN | apply below_drew1 | refine below_set ?_ GEq0.out | refine below_set ?_ GEq1.out) | exact HB.out)⟩) : P := h
set_option maxHeartbeats 8000000 in
set_option maxRecDepth 100000 in
theorem pile_Put.calls (k : Nat) (a0_0 : Int) (a0_1 : Int) (A0_2 : Option Addr) (c0_2 : Nat) (l0_2 : List (S132)) (a1 : Int) (a2 : Int) (r1 : Int) (r2 : Int) (r3 : List (S132)) (r4 : Bool) (r5 : Int) (w : World) (hr0_2 : Kd.C k132 w A0_2 l0_2.length l0_2) (hc0_2 : l0_2.length ≤ c0_2) (h : pile_Put.f k a0_0 a0_1 l0_2 a1 a2 = some (r1, r2, r3, r4, r5)) :
    Calls Try.prog 29 #[.agg #[.int .i64 a0_0, .int .i64 a0_1, .slice A0_2 l0_2.length c0_2], .int .i64 a1, .int .i64 a2] w fun e w' => ∃ v2_ : Value, e = .returned (.tuple #[.agg #[.int .i64 r1, .int .i64 r2, v2_], .bool r4, .int .i64 r5]) ∧ Kd.R k132 132 w' w.heap.size (fun _ => True) v2_ r3 ∧ Below w.heap.size w w' := by
 have huq0 := Try.underlying49
 have huq1 := Try.underlying132
 have HRq0_2 := Aside0.mk hr0_2
 have HCq0_2 := Aside0.mk hc0_2
 clear hr0_2 hc0_2
 have HB := Aside0.mk (Below.refl w.heap.size w)
 have H : ((pile_Check.f k a0_0 a0_1 l0_2).bind fun t414 => (if t414 = 0 then (if a1 < 0 then (pile_Put.j0 k a1 a2 true a0_0 a0_1 l0_2) else ((pile_value.f a2).bind fun t415 => (pile_Put.j0 k a1 a2 (!t415) a0_0 a0_1 l0_2))) else (pile_Put.j0 k a1 a2 true a0_0 a0_1 l0_2))) = some (r1, r2, r3, r4, r5) := h
 clear h
 have HCq1 := Aside0.mk H
 clear H
 go_enter Try.func29, Try.ntmps29
 go_upto_region 1 with (first | ((with_reducible refine gate_dst (N := 3) rfl ?_); refine box_event ?hg (N := 3) ?hd (cs := #[.int .i64 a0_0, .int .i64 a0_1, .slice A0_2 l0_2.length c0_2]) (t := 49) ?hr ?_; (case hd => rfl); (case hg => rfl); (case hr => go_simp <;> rfl); intro gbq0 hg wq0 hbox hb; have BK412 := Aside0.mk (hbox); have GWq0 := zg HB hg; have GEq0 := zg HB hg; replace HB := zs HB hb; clear hb hbox hg) | ((with_reducible refine gate_dst (N := 6) rfl ?_); refine box_event ?hg (N := 6) ?hd (cs := #[.int .i64 0, .int .i64 0, .slice none 0 0]) (t := 49) ?hr ?_; (case hd => rfl); (case hg => rfl); (case hr => go_simp <;> rfl); intro gbq1 hg wq1 hbox hb; have BK413 := Aside0.mk (hbox); have GWq1 := zg HB hg; have GEq1 := zg HB hg; replace HB := zs HB hb; have NBq0_413 := zl BK412 hg; have NBq1_412 := zr BK412 hg; replace BK412 := zb BK412 hb; clear hb hbox hg))
 (try simp only [Act.put, List.setIfInBounds_toArray, List.set_cons_zero, List.set_cons_succ])
 go_cut [22] (fun v22 wc => ∃ (kq : Nat) (x22_3 : Bool), v22 = .bool x22_3 ∧ Aside0 (pile_Put.j0 kq a1 a2 x22_3 a0_0 a0_1 l0_2 = some (r1, r2, r3, r4, r5)) ∧ Aside0 (kq ≤ k) ∧ Aside0 (wc.heap[gbq0]? = some (.cells #[.int .i64 a0_0, .int .i64 a0_1, (.slice A0_2 l0_2.length c0_2)] 49 (0, 0))) ∧ Aside0 (wc.heap[gbq1]? = some (.cells #[.int .i64 0, .int .i64 0, (.slice none 0 0)] 49 (0, 0))) ∧ Aside0 (Below w.heap.size w wc))
 case first =>
  have H := HCq1.out
  clear HCq1
  replace H := Option.bind_eq_some_iff.mp H
  obtain ⟨t414, Aq0, H⟩ := H
  replace H : (if t414 = 0 then (if a1 < 0 then (pile_Put.j0 k a1 a2 true a0_0 a0_1 l0_2) else ((pile_value.f a2).bind fun t415 => (pile_Put.j0 k a1 a2 (!t415) a0_0 a0_1 l0_2))) else (pile_Put.j0 k a1 a2 true a0_0 a0_1 l0_2)) = some (r1, r2, r3, r4, r5) := H
  have Aq1 := Aside0.mk Aq0
  clear Aq0
  by_cases cq0 : t414 = 0
  rotate_left
  · rw [if_neg cq0] at H
    have c8b0 : (t414 == 0) = false := beq_eq_false_iff_ne.mpr cq0
    have c8b1 : (t414 != 0) = true := bne_iff_ne.mpr cq0
    (first | rw [c8b0] | (simp only [i64_w, i32_w]; rw [c8b0]) | skip)
    have H' := Aside0.mk H
    clear H
    have hnbq0 := NBq0_413.out
    have hncq0 := NBq1_412.out
    obtain ⟨hczq0_0, hczq0_1, hczq0_2⟩ := zC3 BK412
    obtain ⟨hfzq0_0, hfzq0_1, hfzq0_2⟩ := zF3 BK412
    exact pile_Put.calls.z1
  rw [if_pos cq0] at H
  have c8b0 : (t414 == 0) = true := beq_iff_eq.mpr cq0
  have c8b1 : (t414 != 0) = false := bne_eq_false_iff_eq.mpr cq0
  clear cq0
  (first | rw [c8b0] | (simp only [i64_w, i32_w]; rw [c8b0]) | skip)
  by_cases cq1 : a1 < 0
  · rw [if_pos cq1] at H
    have c9b0 : decide (a1 < 0) = true := decide_eq_true cq1
    clear cq1
    have H' := Aside0.mk H
    clear H
    have hnbq0 := NBq0_413.out
    have hncq0 := NBq1_412.out
    obtain ⟨hczq0_0, hczq0_1, hczq0_2⟩ := zC3 BK412
    obtain ⟨hfzq0_0, hfzq0_1, hfzq0_2⟩ := zF3 BK412
    exact pile_Put.calls.z1
  rw [if_neg cq1] at H
  have c9b0 : decide (a1 < 0) = false := decide_eq_false cq1
  clear cq1
  replace H := Option.bind_eq_some_iff.mp H
  obtain ⟨t415, Aq2, H⟩ := H
  replace H : (pile_Put.j0 k a1 a2 (!t415) a0_0 a0_1 l0_2) = some (r1, r2, r3, r4, r5) := H
  have Aq3 := Aside0.mk Aq2
  clear Aq2
  have H' := Aside0.mk H
  clear H
  have hnbq0 := NBq0_413.out
  have hncq0 := NBq1_412.out
  obtain ⟨hczq0_0, hczq0_1, hczq0_2⟩ := zC3 BK412
  obtain ⟨hfzq0_0, hfzq0_1, hfzq0_2⟩ := zF3 BK412
  exact pile_Put.calls.z1
 clear HCq1
 obtain ⟨kq, x22_3, rfl, HA, HJq0, BK412, BK413, HB⟩ := hcut
 cases kq with
 | zero => exact absurd HA.out (by simp [pile_Put.j0])
 | succ kj3 => ?_
 have H := HA.out
 clear HA
 simp only [pile_Put.j0] at H
 by_cases c20 : x22_3 = true
 · subst c20
   have H1 : (some (0, 0, ([] : List (S132)), false, 1)) = some (r1, r2, r3, r4, r5) := by first | (rw [if_pos rfl] at H; exact H) | exact (if_pos rfl).symm.trans H
   clear H
   have H := H1
   clear H1
   simp only [Option.some.injEq, Prod.mk.injEq] at H
   obtain ⟨rfl, rfl, rfl, rfl, rfl⟩ := H
   have hnbq0 := NBq1_412.out
   have hncq0 := NBq0_413.out
   obtain ⟨hczq0_0, hczq0_1, hczq0_2⟩ := zC3 BK413
   obtain ⟨hfzq0_0, hfzq0_1, hfzq0_2⟩ := zF3 BK413
   go_wp2
   refine bodyPost_ret (results_ctt rfl _ _ gbq1 49 #[.int .i64 0, .int .i64 0, .slice none 0 0] (0, 0) _ rfl (by refine blk_put (cs := #[.int .i64 0, .int .i64 0, .slice none 0 0]) ?_ 2 _ rfl; refine blk_put (cs := #[.int .i64 0, .int .i64 0, .slice none 0 0]) ?_ 1 _ rfl; refine blk_put (cs := #[.int .i64 0, .int .i64 0, .slice none 0 0]) ?_ 0 _ rfl; (with_reducible repeat (first | refine blk_drewN ?_ _ | refine blk_drew ?_ | refine blk_alloc ?_ _)); exact BK413.out) Try.underlying49 rfl (by kernel_rfl)) rfl ?_
   exact ⟨_, by first | rfl | (simp [errW_none, errW_some] <;> rfl) | (simp [*, errW_none, errW_some] <;> rfl), by first | exact Kd.R_nil _ _ _ _ _ | exact Kd.N_nil _ _ _ _ _ | exact Kd.V_nil _ _ _ _ _ | exact Kd.Q_nil _ _ _ _ _ | exact Kd.S_nil _ _ _ _ _, by repeat (first | (with_reducible first | exact HB.out | apply below_alloc | apply pw_below_drewN | apply below_drew1 | refine below_set ?_ GEq0.out | refine below_set ?_ GEq1.out) | exact HB.out)⟩
 replace c20 := Bool.eq_false_iff.mpr c20
 subst c20
 have H1 : ((Clone_syms.f l0_2).bind fun t416 => ((BinarySearchFunc_syms.f l0_2 a1).bind fun bt419 => (if bt419.2 = true then (some (a0_0, a0_1, t416, false, 0)) else (if a1 ≥ (wrap64 (a0_0 * a0_1)) then (some (a0_0, a0_1, t416, false, 0)) else ((Insert_syms.f t416 bt419.1 (([(⟨a1, a2⟩ : S132)] : List (S132)))).bind fun t424 => (some (a0_0, a0_1, t424, true, 0))))))) = some (r1, r2, r3, r4, r5) := by rw [if_neg (show ¬ (false = true) by decide)] at H; exact H
 clear H
 have H := H1
 clear H1
 replace H := Option.bind_eq_some_iff.mp H
 obtain ⟨t416, Aq0, H⟩ := H
 replace H : ((BinarySearchFunc_syms.f l0_2 a1).bind fun bt419 => (if bt419.2 = true then (some (a0_0, a0_1, t416, false, 0)) else (if a1 ≥ (wrap64 (a0_0 * a0_1)) then (some (a0_0, a0_1, t416, false, 0)) else ((Insert_syms.f t416 bt419.1 (([(⟨a1, a2⟩ : S132)] : List (S132)))).bind fun t424 => (some (a0_0, a0_1, t424, true, 0)))))) = some (r1, r2, r3, r4, r5) := H
 have Aq1 := Aside0.mk Aq0
 clear Aq0
 replace H := Option.bind_eq_some_iff.mp H
 obtain ⟨⟨tq0, tq1⟩, Aq2, H⟩ := H
 replace H : (if tq1 = true then (some (a0_0, a0_1, t416, false, 0)) else (if a1 ≥ (wrap64 (a0_0 * a0_1)) then (some (a0_0, a0_1, t416, false, 0)) else ((Insert_syms.f t416 tq0 (([(⟨a1, a2⟩ : S132)] : List (S132)))).bind fun t424 => (some (a0_0, a0_1, t424, true, 0))))) = some (r1, r2, r3, r4, r5) := H
 have Aq3 := Aside0.mk Aq2
 clear Aq2
 by_cases c25 : tq1 = true
 · subst c25
   have H1 : (some (a0_0, a0_1, t416, false, 0)) = some (r1, r2, r3, r4, r5) := by first | (rw [if_pos rfl] at H; exact H) | exact (if_pos rfl).symm.trans H
   clear H
   have H := H1
   clear H1
   simp only [Option.some.injEq, Prod.mk.injEq] at H
   obtain ⟨rfl, rfl, rfl, rfl, rfl⟩ := H
   have hnbq0 := NBq0_413.out
   have hncq0 := NBq1_412.out
   obtain ⟨hczq0_0, hczq0_1, hczq0_2⟩ := zC3 BK412
   obtain ⟨hfzq0_0, hfzq0_1, hfzq0_2⟩ := zF3 BK412
   obtain ⟨hczq1_0, hczq1_1, hczq1_2⟩ := zC3 BK413
   obtain ⟨hfzq1_0, hfzq1_1, hfzq1_2⟩ := zF3 BK413
   exact pile_Put.calls.z2
 replace c25 := Bool.eq_false_iff.mpr c25
 subst c25
 have H1 : (if a1 ≥ (wrap64 (a0_0 * a0_1)) then (some (a0_0, a0_1, t416, false, 0)) else ((Insert_syms.f t416 tq0 (([(⟨a1, a2⟩ : S132)] : List (S132)))).bind fun t424 => (some (a0_0, a0_1, t424, true, 0)))) = some (r1, r2, r3, r4, r5) := by rw [if_neg (show ¬ (false = true) by decide)] at H; exact H
 clear H
 have H := H1
 clear H1
 by_cases cq0 : a1 ≥ (wrap64 (a0_0 * a0_1))
 · rw [if_pos cq0] at H
   have c35b0 : decide ((wrap64 (a0_0 * a0_1)) ≤ a1) = true := decide_eq_true cq0
   clear cq0
   simp only [Option.some.injEq, Prod.mk.injEq] at H
   obtain ⟨rfl, rfl, rfl, rfl, rfl⟩ := H
   have hnbq0 := NBq0_413.out
   have hncq0 := NBq1_412.out
   obtain ⟨hczq0_0, hczq0_1, hczq0_2⟩ := zC3 BK412
   obtain ⟨hfzq0_0, hfzq0_1, hfzq0_2⟩ := zF3 BK412
   obtain ⟨hczq1_0, hczq1_1, hczq1_2⟩ := zC3 BK413
   obtain ⟨hfzq1_0, hfzq1_1, hfzq1_2⟩ := zF3 BK413
   exact pile_Put.calls.z2
 rw [if_neg cq0] at H
 have c35b0 : decide ((wrap64 (a0_0 * a0_1)) ≤ a1) = false := decide_eq_false cq0
 clear cq0
 obtain ⟨y421, hy421⟩ : ∃ y_ : List (S132), y_ = (([(⟨a1, a2⟩ : S132)] : List (S132))) := ⟨_, rfl⟩
 replace H : ((Insert_syms.f t416 tq0 y421).bind fun t424 => (some (a0_0, a0_1, t424, true, 0))) = some (r1, r2, r3, r4, r5) := by first | (rw [hy421]; with_reducible exact H) | (have Hq0_ := (Option.bind_some _ _).symm.trans H; rw [hy421]; with_reducible exact Hq0_) | (have Hq0_ := (Option.bind_some _ _).symm.trans H; with_reducible exact Hq0_) | with_reducible exact H | (rw [hy421]; exact H) | exact H
 have Nyq0 := Aside0.mk hy421
 clear hy421
 replace H := Option.bind_eq_some_iff.mp H
 obtain ⟨t424, Aq4, H⟩ := H
 replace H : (some (a0_0, a0_1, t424, true, 0)) = some (r1, r2, r3, r4, r5) := H
 have Aq5 := Aside0.mk Aq4
 clear Aq4
 simp only [Option.some.injEq, Prod.mk.injEq] at H
 obtain ⟨rfl, rfl, rfl, rfl, rfl⟩ := H
 have hnbq0 := NBq0_413.out
 have hncq0 := NBq1_412.out
 obtain ⟨hczq0_0, hczq0_1, hczq0_2⟩ := zC3 BK412
 obtain ⟨hfzq0_0, hfzq0_1, hfzq0_2⟩ := zF3 BK412
 obtain ⟨hczq1_0, hczq1_1, hczq1_2⟩ := zC3 BK413
 obtain ⟨hfzq1_0, hfzq1_1, hfzq1_2⟩ := zF3 BK413
 go_wp2_with (first | ((with_reducible refine gate_callee (f := 73) rfl ?_); refine goesL_ (some 27) rfl rfl Try.func73 (by kernel_rfl) rfl #[.slice A0_2 l0_2.length c0_2] rfl (by (try simp only [List.map_toArray, List.map_cons, List.map_nil]); first | done | rfl | (simp only [List.length_drop, List.length_take]; rfl)) ?_; (with_reducible refine (Clone_syms.calls _ _ l0_2 t416 _ ?side1 ?side2 Aq1.out).mono ?_); (case side1 => exact Kd.C_below HRq0_2.out (zB HB)); (case side2 => exact HCq0_2.out); rintro e wq2 ⟨v417, rfl, ho0, hb⟩; refine ⟨_, rfl, ?_⟩; have n0_ := Aside0.mk (Kd.R_lower ho0 (below_size (zB HB))); have n1_ := zb BK412 hb; have n2_ := Aside0.mk (blk_below (g := gbq1) (o := .cells #[.int .i64 a0_0, .int .i64 a0_1, .slice A0_2 l0_2.length c0_2] 49 (0, 0)) (by refine blk_put (cs := #[.int .i64 a0_0, .int .i64 a0_1, .slice none 0 0]) ?_ 2 _ rfl; refine blk_put (cs := #[.int .i64 a0_0, .int .i64 0, .slice none 0 0]) ?_ 1 _ rfl; refine blk_put (cs := #[.int .i64 0, .int .i64 0, .slice none 0 0]) ?_ 0 _ rfl; (with_reducible repeat (first | refine blk_drewN ?_ _ | refine blk_drew ?_ | refine blk_alloc ?_ _)); exact BK413.out) hb); have n3_ := zs HB hb; clear BK412; clear BK413; clear HB; have HO418 := n0_; have BK412 := n1_; have BK413 := n2_; have HB := n3_; clear n0_ n1_ n2_ n3_; (try clear hb); (try clear hb2); (try clear hk); (try clear hi); (try clear ho0); obtain ⟨Aoq0, coq0, eoq0⟩ := Kd.R_slice HO418.out; subst eoq0; obtain ⟨hczq2_0, hczq2_1, hczq2_2⟩ := zC3 BK413; obtain ⟨hfzq2_0, hfzq2_1, hfzq2_2⟩ := zF3 BK413; obtain ⟨hczq3_0, hczq3_1, hczq3_2⟩ := zC3 BK412; obtain ⟨hfzq3_0, hfzq3_1⟩ := zF2 BK412; have hfzq3_2 := blk_frozen BK412.out 2) | ((with_reducible refine gate_callee (f := 74) rfl ?_); refine goesL_ (some 33) rfl rfl Try.func74 (by kernel_rfl) rfl #[.slice A0_2 l0_2.length c0_2, .int .i64 a1, .func (.func 75) #[] #[]] rfl (by (try simp only [List.map_toArray, List.map_cons, List.map_nil]); first | done | rfl | (simp only [List.length_drop, List.length_take]; rfl)) ?_; (with_reducible refine (BinarySearchFunc_syms.calls _ _ l0_2 a1  tq0 false _ ?side1 ?side2 Aq3.out).mono ?_); (case side1 => exact Kd.C_below HRq0_2.out (zB HB)); (case side2 => exact HCq0_2.out); rintro e wq3 ⟨rfl, hb⟩; refine ⟨_, rfl, ?_⟩; have n0_ := Aside0.mk (Kd.R_below (by (with_reducible repeat (first | apply Kd.R_alloc | apply Kd.R_drewN | apply Kd.R_drew)); exact (Kd.R_mono (Kd.R_far (p := ⟨gbq1, 2, none⟩) (Kd.R_types HO418.out BK413.out (by decide)) (fun _ hk => hk.2) (.slice Aoq0 t416.length coq0)) (fun _ h_ => h_.1))) hb); have n1_ := zb BK412 hb; have n2_ := Aside0.mk (blk_below (g := gbq1) (o := .cells #[.int .i64 a0_0, .int .i64 a0_1, .slice Aoq0 t416.length coq0] 49 (0, 0)) (by refine blk_put (cs := #[.int .i64 a0_0, .int .i64 a0_1, .slice A0_2 l0_2.length c0_2]) ?_ 2 _ rfl; (with_reducible repeat (first | refine blk_drewN ?_ _ | refine blk_drew ?_ | refine blk_alloc ?_ _)); exact BK413.out) hb); have n3_ := zs HB hb; clear HO418; clear BK412; clear BK413; clear HB; have HO418 := n0_; have BK412 := n1_; have BK413 := n2_; have HB := n3_; clear n0_ n1_ n2_ n3_; (try clear hb); (try clear hb2); (try clear hk); (try clear hi); obtain ⟨hczq4_0, hczq4_1, hczq4_2⟩ := zC3 BK412; obtain ⟨hfzq4_0, hfzq4_1, hfzq4_2⟩ := zF3 BK412; obtain ⟨hczq5_0, hczq5_1, hczq5_2⟩ := zC3 BK413; obtain ⟨hfzq5_0, hfzq5_1⟩ := zF2 BK413; have hfzq5_2 := blk_frozen BK413.out 2) | ((with_reducible refine gate_dst (N := 53) rfl ?_); refine Kd.R_lit k132 _ 132 ?hg (N := 53) ?hd (xs := ([(⟨a1, a2⟩ : S132)] : List (S132))) (inner := [.int .i64 a1, .int .i64 a2]) (ok := fun _ => True) (okp := fun _ => True) ?hr ?hp (fun _ hk => hk) trivial (Below.refl _ _) (Nat.le_refl _) (by simp) ?_; (case hd => rfl); (case hg => rfl); (case hr => go_simp <;> rfl); (case hp => exact (Reps.c2 (show Kd.M k132 _ _ _ (⟨a1, a2⟩ : S132) [.int .i64 a1, .int .i64 a2] from (k132_mkM _ _ _ (⟨a1, a2⟩ : S132) )) (Reps.none _ _))); intro vq0 wq4 hoq0 hb hg_ hnew_; clear hg_ hnew_; (first | rw [← Nyq0.out] at hoq0 | (simp only [Int.reduceToNat] at hoq0; rw [← Nyq0.out] at hoq0)); have HOq0 := Aside0.mk (Kd.R_lower (Kd.R_new' hoq0 (Kd.R_lt (zr_ HO418))) (below_size (zB HB))); replace HO418 := Aside0.mk (Kd.R_elder' (zr_ HO418) (Kd.R_base hoq0) hb); replace BK412 := zb BK412 hb; replace BK413 := zb BK413 hb; replace HB := zs HB hb; clear hb hoq0; obtain ⟨Aoq1, coq1, eoq1⟩ := Kd.R_slice HOq0.out; subst eoq1) | ((with_reducible refine gate_callee (f := 76) rfl ?_); refine goesL_ (some 54) rfl rfl Try.func76 (by kernel_rfl) rfl #[.slice Aoq0 t416.length coq0, .int .i64 tq0, .slice Aoq1 y421.length coq1] rfl (by (try simp only [List.map_toArray, List.map_cons, List.map_nil]); first | done | rfl | (simp only [List.length_drop, List.length_take]; rfl)) ?_; (with_reducible refine (Insert_syms.calls (fun k_ => some k_ = (.slice Aoq0 t416.length coq0 : Value).ownBlock) (.slice Aoq0 t416.length coq0) t416 tq0 (fun k_ => some k_ = (.slice Aoq1 y421.length coq1 : Value).ownBlock) (.slice Aoq1 y421.length coq1) y421 t424 w _ ?side1 ?side2 ?side3 ?side4 ?side5 Aq5.out).mono ?_); (case side1 => repeat (first | (with_reducible first | exact HB.out | apply below_alloc | apply pw_below_drewN | apply below_drew1 | refine below_set ?_ GEq0.out | refine below_set ?_ GEq1.out) | exact HB.out)); (case side2 => exact Kd.R_tight rfl HO418.out); (case side3 => exact fun k_ e_ => (HO418.out.1 k_ e_.symm).2); (case side4 => exact Kd.R_tight rfl HOq0.out); (case side5 => exact fun k_ e_ => (HOq0.out.1 k_ e_.symm).2); rintro e wq5 ⟨vq1, rfl, ho0, hb, hkp⟩; refine ⟨_, rfl, ?_⟩; have n0_ := Aside0.mk (blk_kept (zk BK412) hkp (fun hs_ => Or.elim hs_ (fun e_ => (fun e_ => (Kd.R_ne HO418.out BK412.out (by decide)) e_) e_) (fun e_ => (fun e_ => (Kd.R_ne HOq0.out BK412.out (by decide)) e_) e_))); have n1_ := Aside0.mk (blk_kept (zk BK413) hkp (fun hs_ => Or.elim hs_ (fun e_ => (fun e_ => (Kd.R_ne HO418.out BK413.out (by decide)) e_) e_) (fun e_ => (fun e_ => (Kd.R_ne HOq0.out BK413.out (by decide)) e_) e_))); have n2_ := Aside0.mk (Kd.R_mono (ok' := fun k_ => True) ho0 (fun k_ hk_ => trivial)); have n3_ := Aside0.mk (hb); clear BK412; clear BK413; clear HB; clear HO418; clear HOq0; have BK412 := n0_; have BK413 := n1_; have HOq1 := n2_; have HB := n3_; clear n0_ n1_ n2_ n3_; (try clear hb); (try clear hkp); (try clear ho0); obtain ⟨Aoq2, coq2, eoq2⟩ := Kd.R_slice HOq1.out; subst eoq2; obtain ⟨hczq6_0, hczq6_1, hczq6_2⟩ := zC3 BK413; obtain ⟨hfzq6_0, hfzq6_1⟩ := zF2 BK413; have hfzq6_2 := blk_frozen BK413.out 2))
 refine bodyPost_ret (results_ctt rfl _ _ gbq1 49 #[.int .i64 a0_0, .int .i64 a0_1, .slice Aoq2 t424.length coq2] (0, 0) _ rfl (by refine blk_put (cs := #[.int .i64 a0_0, .int .i64 a0_1, .slice Aoq2 t424.length coq2]) ?_ 2 _ rfl; refine blk_put (cs := #[.int .i64 a0_0, .int .i64 a0_1, .slice Aoq2 t424.length coq2]) ?_ 1 _ rfl; refine blk_put (cs := #[.int .i64 a0_0, .int .i64 a0_1, .slice Aoq2 t424.length coq2]) ?_ 0 _ rfl; refine blk_put (cs := #[.int .i64 a0_0, .int .i64 a0_1, .slice Aoq0 t416.length coq0]) ?_ 2 _ rfl; (with_reducible repeat (first | refine blk_drewN ?_ _ | refine blk_drew ?_ | refine blk_alloc ?_ _)); exact BK413.out) Try.underlying49 rfl (by kernel_rfl)) rfl ?_
 exact ⟨_, by first | rfl | (simp [errW_none, errW_some] <;> rfl) | (simp [*, errW_none, errW_some] <;> rfl), by (with_reducible repeat (first | apply Kd.R_alloc | apply Kd.R_drewN | apply Kd.R_drew)); exact Kd.R_mono (Kd.R_far (p := ⟨gbq1, 2, none⟩) (Kd.R_far (p := ⟨gbq1, 1, none⟩) (Kd.R_far (p := ⟨gbq1, 0, none⟩) (Kd.R_far (p := ⟨gbq1, 2, none⟩) (Kd.R_types HOq1.out BK413.out (by decide)) (fun _ hk => hk.2) (.slice Aoq2 t424.length coq2)) (fun _ hk => hk.2) (.int .i64 a0_0)) (fun _ hk => hk.2) (.int .i64 a0_1)) (fun _ hk => hk.2) (.slice Aoq2 t424.length coq2)) (fun _ hk => trivial), by repeat (first | (with_reducible first | exact HB.out | apply below_alloc | apply pw_below_drewN | apply below_drew1 | refine below_set ?_ GEq0.out | refine below_set ?_ GEq1.out) | exact HB.out)⟩
end Go.Proofs.Ytlolfijadcflaaa.P
