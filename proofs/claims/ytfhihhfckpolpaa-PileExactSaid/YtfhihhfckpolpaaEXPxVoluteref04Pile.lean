/- What the law's proof needs: PxVoluteref04Pile. -/
import Derived.Test.YtfhihhfckpolpaaEXPx0
import Derived.Test.YtfhihhfckpolpaaEXPxVolutekeep
import Derived.Test.YtfhihhfckpolpaaEXPxVoluteref04
import Derived.Test.YtfhihhfckpolpaaEXShort
namespace Go.Proofs.Ytfhihhfckpolpaa.P
open Go.RowKit Go.Proofs.YtfhihhfckpolpaaW.PrintWords Go.Proofs.YtfhihhfckpolpaaW.PrintLast Go.Proofs.YtfhihhfckpolpaaW.PrintMore
attribute [local go_sem] max2_int min2_int max_two min_two max_three min_three max_four min_four   -- for this text's walks alone
set_option linter.unusedVariables false
set_option linter.unusedSimpArgs false
mutual
def voluteref04_Pile.j0 : Nat → Bool → Int → Int → List (S88) → Option (Bool)
  | 0, _, _, _, _ => none
  | k + 1, x18, x430000, x430001, x430002 => if x18 = true then (some false) else (voluteref04_Pile.l0 k 0 x430000 x430001 x430002)
def voluteref04_Pile.l0 : Nat → Int → Int → Int → List (S88) → Option (Bool)
  | 0, _, _, _, _ => none
  | k + 1, x3, x430000, x430001, x430002 => if x3 < (x430002.length : Int) then (if 0 ≤ x3 then (if ((rd_T88 x430002 x3).f0) < 0 then (some false) else (if ((rd_T88 x430002 x3).f0) ≥ (wrap64 (x430000 * x430001)) then (some false) else (if ((rd_T88 x430002 x3).f1) < 0 then (some false) else (if ((rd_T88 x430002 x3).f1) > 255 then (some false) else (if x3 > 0 then (if 0 ≤ (wrap64 (x3 - 1)) then (if (wrap64 (x3 - 1)) < (x430002.length : Int) then (if ((rd_T88 x430002 x3).f0) ≤ ((rd_T88 x430002 (wrap64 (x3 - 1))).f0) then (some false) else (voluteref04_Pile.l0 k (wrap64 (x3 + 1)) x430000 x430001 x430002)) else (none)) else (none)) else (voluteref04_Pile.l0 k (wrap64 (x3 + 1)) x430000 x430001 x430002)))))) else (none)) else (some true)
end
def voluteref04_Pile.f (k : Nat) (a0_0 : Int) (a0_1 : Int) (l0_2 : List (S88)) : Option (Bool) := (voluteref04_N.f a0_0).bind fun t430 => (if t430 = true then (if a0_1 < 1 then (voluteref04_Pile.j0 k true a0_0 a0_1 l0_2) else (voluteref04_Pile.j0 k (decide (a0_1 > 16)) a0_0 a0_1 l0_2)) else (voluteref04_Pile.j0 k true a0_0 a0_1 l0_2))
set_option maxHeartbeats 8000000 in
set_option maxRecDepth 100000 in
theorem voluteref04_Pile.calls (k : Nat) (a0_0 : Int) (a0_1 : Int) (A0_2 : Option Addr) (c0_2 : Nat) (l0_2 : List (S88)) (r : Bool) (w : World) (hr0_2 : Kd.C k88 w A0_2 l0_2.length l0_2) (hc0_2 : l0_2.length ≤ c0_2) (h : voluteref04_Pile.f k a0_0 a0_1 l0_2 = some r) :
    Calls Try.prog 41 #[.agg #[.int .i64 a0_0, .int .i64 a0_1, .slice A0_2 l0_2.length c0_2]] w fun e w' => e = .returned (.bool r) ∧ Below w.heap.size w w' := by
  have hu67 := Try.underlying67
  have hu88 := Try.underlying88
  have HR0_2 := Aside0.mk hr0_2
  have HC0_2 := Aside0.mk hc0_2
  clear hr0_2 hc0_2
  have HB := Aside0.mk (Below.refl w.heap.size w)
  have H : ((voluteref04_N.f a0_0).bind fun t430 => (if t430 = true then (if a0_1 < 1 then (voluteref04_Pile.j0 k true a0_0 a0_1 l0_2) else (voluteref04_Pile.j0 k (decide (a0_1 > 16)) a0_0 a0_1 l0_2)) else (voluteref04_Pile.j0 k true a0_0 a0_1 l0_2))) = some r := h
  clear h
  have HC2 := Aside0.mk H
  clear H
  go_enter Try.func41, Try.ntmps41
  go_upto_region 1 with (first | ((with_reducible refine gate_dst (N := 1) rfl ?_); refine box_event ?hg (N := 1) ?hd (cs := #[.int .i64 a0_0, .int .i64 a0_1, .slice A0_2 l0_2.length c0_2]) (t := 67) ?hr ?_; (case hd => rfl); (case hg => rfl); (case hr => first | (go_simp; done) | (go_simp; rfl)); intro gb429 hg w3 hbox hb; have BK429 := Aside0.mk (hbox); have GW429 := zg HB hg; have GE429 := zg HB hg; replace HB := zs HB hb; clear hb hbox hg))
  repeat (go_quiet (first | ((with_reducible refine gate_dst (N := 1) rfl ?_); refine box_event ?hg (N := 1) ?hd (cs := #[.int .i64 a0_0, .int .i64 a0_1, .slice A0_2 l0_2.length c0_2]) (t := 67) ?hr ?_; (case hd => rfl); (case hg => rfl); (case hr => first | (go_simp; done) | (go_simp; rfl)); intro gb429 hg w3 hbox hb; have BK429 := Aside0.mk (hbox); have GW429 := zg HB hg; have GE429 := zg HB hg; replace HB := zs HB hb; clear hb hbox hg)); go_upto_region 1 with (first | ((with_reducible refine gate_dst (N := 1) rfl ?_); refine box_event ?hg (N := 1) ?hd (cs := #[.int .i64 a0_0, .int .i64 a0_1, .slice A0_2 l0_2.length c0_2]) (t := 67) ?hr ?_; (case hd => rfl); (case hg => rfl); (case hr => first | (go_simp; done) | (go_simp; rfl)); intro gb429 hg w3 hbox hb; have BK429 := Aside0.mk (hbox); have GW429 := zg HB hg; have GE429 := zg HB hg; replace HB := zs HB hb; clear hb hbox hg)))
  (try simp only [Act.put, List.setIfInBounds_toArray, List.set_cons_zero, List.set_cons_succ])
  go_cut [18] (fun v18 wc => ∃ (kq : Nat) (x18_1 : Bool), v18 = .bool x18_1 ∧ Aside0 (voluteref04_Pile.j0 kq x18_1 a0_0 a0_1 l0_2 = some r) ∧ Aside0 (kq ≤ k) ∧ Aside0 (wc.heap[gb429]? = some (.cells #[.int .i64 a0_0, .int .i64 a0_1, (.slice A0_2 l0_2.length c0_2)] 67 (0, 0))) ∧ Aside0 (Below w.heap.size w wc))
  case first =>
    have H := HC2.out
    clear HC2
    replace H := Option.bind_eq_some_iff.mp H
    obtain ⟨t430, A40, H⟩ := H
    replace H : (if t430 = true then (if a0_1 < 1 then (voluteref04_Pile.j0 k true a0_0 a0_1 l0_2) else (voluteref04_Pile.j0 k (decide (a0_1 > 16)) a0_0 a0_1 l0_2)) else (voluteref04_Pile.j0 k true a0_0 a0_1 l0_2)) = some r := H
    have A4 := Aside0.mk A40
    clear A40
    by_cases c5 : t430 = true
    · subst c5
      have H1 : (if a0_1 < 1 then (voluteref04_Pile.j0 k true a0_0 a0_1 l0_2) else (voluteref04_Pile.j0 k (decide (a0_1 > 16)) a0_0 a0_1 l0_2)) = some r := by rw [if_pos rfl] at H; exact H
      clear H
      have H := H1
      clear H1
      by_cases c6 : a0_1 < 1
      · rw [if_pos c6] at H
        have c6b0 : decide (a0_1 < 1) = true := decide_eq_true c6
        clear c6
        (first | rw [c6b0] | (simp only [i64_w, i32_w]; rw [c6b0]) | skip)
        have H' := Aside0.mk H
        clear H
        obtain ⟨hcz7_0, hcz7_1, hcz7_2⟩ := zC3 BK429
        obtain ⟨hfz7_0, hfz7_1, hfz7_2⟩ := zF3 BK429
        go_wp2_with (first | (go_at_call 42; (with_reducible refine (voluteref04_N.calls a0_0 true _ A4.out).mono ?_); rintro e w' ⟨rfl, ⟨nd, rfl⟩⟩; (try first | exact ⟨rfl, _, World.drewN_drewN _ _ _⟩ | exact ⟨rfl, _, Eq.trans (World.drewN_drewN _ _ _) (congrArg (World.drewN _) (Nat.add_assoc _ _ _))⟩)))
        repeat (go_quiet (first | (go_at_call 42; (with_reducible refine (voluteref04_N.calls a0_0 true _ A4.out).mono ?_); rintro e w' ⟨rfl, ⟨nd, rfl⟩⟩; (try first | exact ⟨rfl, _, World.drewN_drewN _ _ _⟩ | exact ⟨rfl, _, Eq.trans (World.drewN_drewN _ _ _) (congrArg (World.drewN _) (Nat.add_assoc _ _ _))⟩))); try go_wp2_with (first | (go_at_call 42; (with_reducible refine (voluteref04_N.calls a0_0 true _ A4.out).mono ?_); rintro e w' ⟨rfl, ⟨nd, rfl⟩⟩; (try first | exact ⟨rfl, _, World.drewN_drewN _ _ _⟩ | exact ⟨rfl, _, Eq.trans (World.drewN_drewN _ _ _) (congrArg (World.drewN _) (Nat.add_assoc _ _ _))⟩))))
        go_meet
        case rel => exact ⟨_, (true), (by first | rfl | (simp; done) | (simp [*]; done)), H', ⟨by first | omega | exact Nat.le_refl _⟩, ⟨by (with_reducible repeat (first | refine blk_drewN ?_ _ | refine blk_drew ?_ | refine blk_alloc ?_ _)); exact BK429.out⟩, ⟨by repeat (first | (with_reducible first | exact HB.out | apply below_alloc | apply pw_below_drewN | apply below_drew1 | refine below_set ?_ GE429.out) | exact HB.out)⟩⟩
      · rw [if_neg c6] at H
        have c6b0 : decide (a0_1 < 1) = false := decide_eq_false c6
        clear c6
        (first | rw [c6b0] | (simp only [i64_w, i32_w]; rw [c6b0]) | skip)
        have H' := Aside0.mk H
        clear H
        obtain ⟨hcz8_0, hcz8_1, hcz8_2⟩ := zC3 BK429
        obtain ⟨hfz8_0, hfz8_1, hfz8_2⟩ := zF3 BK429
        go_wp2_with (first | (go_at_call 42; (with_reducible refine (voluteref04_N.calls a0_0 true _ A4.out).mono ?_); rintro e w' ⟨rfl, ⟨nd, rfl⟩⟩; (try first | exact ⟨rfl, _, World.drewN_drewN _ _ _⟩ | exact ⟨rfl, _, Eq.trans (World.drewN_drewN _ _ _) (congrArg (World.drewN _) (Nat.add_assoc _ _ _))⟩)))
        repeat (go_quiet (first | (go_at_call 42; (with_reducible refine (voluteref04_N.calls a0_0 true _ A4.out).mono ?_); rintro e w' ⟨rfl, ⟨nd, rfl⟩⟩; (try first | exact ⟨rfl, _, World.drewN_drewN _ _ _⟩ | exact ⟨rfl, _, Eq.trans (World.drewN_drewN _ _ _) (congrArg (World.drewN _) (Nat.add_assoc _ _ _))⟩))); try go_wp2_with (first | (go_at_call 42; (with_reducible refine (voluteref04_N.calls a0_0 true _ A4.out).mono ?_); rintro e w' ⟨rfl, ⟨nd, rfl⟩⟩; (try first | exact ⟨rfl, _, World.drewN_drewN _ _ _⟩ | exact ⟨rfl, _, Eq.trans (World.drewN_drewN _ _ _) (congrArg (World.drewN _) (Nat.add_assoc _ _ _))⟩))))
        go_meet
        case rel => exact ⟨_, (decide (a0_1 > 16)), (by first | rfl | (simp; done) | (simp [*]; done)), H', ⟨by first | omega | exact Nat.le_refl _⟩, ⟨by (with_reducible repeat (first | refine blk_drewN ?_ _ | refine blk_drew ?_ | refine blk_alloc ?_ _)); exact BK429.out⟩, ⟨by repeat (first | (with_reducible first | exact HB.out | apply below_alloc | apply pw_below_drewN | apply below_drew1 | refine below_set ?_ GE429.out) | exact HB.out)⟩⟩
    · replace c5 := Bool.eq_false_iff.mpr c5
      subst c5
      have H1 : (voluteref04_Pile.j0 k true a0_0 a0_1 l0_2) = some r := by rw [if_neg (show ¬ (false = true) by decide)] at H; exact H
      clear H
      have H := H1
      clear H1
      have H' := Aside0.mk H
      clear H
      obtain ⟨hcz9_0, hcz9_1, hcz9_2⟩ := zC3 BK429
      obtain ⟨hfz9_0, hfz9_1, hfz9_2⟩ := zF3 BK429
      go_wp2_with (first | (go_at_call 42; (with_reducible refine (voluteref04_N.calls a0_0 false _ A4.out).mono ?_); rintro e w' ⟨rfl, ⟨nd, rfl⟩⟩; (try first | exact ⟨rfl, _, World.drewN_drewN _ _ _⟩ | exact ⟨rfl, _, Eq.trans (World.drewN_drewN _ _ _) (congrArg (World.drewN _) (Nat.add_assoc _ _ _))⟩)))
      repeat (go_quiet (first | (go_at_call 42; (with_reducible refine (voluteref04_N.calls a0_0 false _ A4.out).mono ?_); rintro e w' ⟨rfl, ⟨nd, rfl⟩⟩; (try first | exact ⟨rfl, _, World.drewN_drewN _ _ _⟩ | exact ⟨rfl, _, Eq.trans (World.drewN_drewN _ _ _) (congrArg (World.drewN _) (Nat.add_assoc _ _ _))⟩))); try go_wp2_with (first | (go_at_call 42; (with_reducible refine (voluteref04_N.calls a0_0 false _ A4.out).mono ?_); rintro e w' ⟨rfl, ⟨nd, rfl⟩⟩; (try first | exact ⟨rfl, _, World.drewN_drewN _ _ _⟩ | exact ⟨rfl, _, Eq.trans (World.drewN_drewN _ _ _) (congrArg (World.drewN _) (Nat.add_assoc _ _ _))⟩))))
      go_meet
      case rel => exact ⟨_, (true), (by first | rfl | (simp; done) | (simp [*]; done)), H', ⟨by first | omega | exact Nat.le_refl _⟩, ⟨by (with_reducible repeat (first | refine blk_drewN ?_ _ | refine blk_drew ?_ | refine blk_alloc ?_ _)); exact BK429.out⟩, ⟨by repeat (first | (with_reducible first | exact HB.out | apply below_alloc | apply pw_below_drewN | apply below_drew1 | refine below_set ?_ GE429.out) | exact HB.out)⟩⟩
  case rest =>
    clear HC2
    try clear p2
    try clear c4
    try clear c5
    try clear c6
    try clear c6b0
    try clear hcz7_0
    try clear hcz7_1
    try clear hcz7_2
    try clear hcz8_0
    try clear hcz8_1
    try clear hcz8_2
    try clear hcz9_0
    try clear hcz9_1
    try clear hcz9_2
    try clear hfz7_0
    try clear hfz7_1
    try clear hfz7_2
    try clear hfz8_0
    try clear hfz8_1
    try clear hfz8_2
    try clear hfz9_0
    try clear hfz9_1
    try clear hfz9_2
    obtain ⟨kq, x18_1, rfl, HA, HJ1, BK429, HB⟩ := hcut
    cases kq with
    | zero => exact absurd HA.out (by simp [voluteref04_Pile.j0])
    | succ kj1 =>
      have H := HA.out
      clear HA
      simp only [voluteref04_Pile.j0] at H
      by_cases c10 : x18_1 = true
      · subst c10
        have H1 : (some false) = some r := by rw [if_pos rfl] at H; exact H
        clear H
        have H := H1
        clear H1
        obtain rfl := Option.some.inj H
        go_wp2
        repeat (go_quiet (fail); try go_wp2)
        go_ret
        exact ⟨by first | rfl | (simp [errW_none, errW_some] <;> rfl) | (simp [*, errW_none, errW_some] <;> rfl), by repeat (first | (with_reducible first | exact HB.out | apply below_alloc | apply pw_below_drewN | apply below_drew1 | refine below_set ?_ GE429.out) | exact HB.out)⟩
      · replace c10 := Bool.eq_false_iff.mpr c10
        subst c10
        have H1 : (voluteref04_Pile.l0 kj1 0 a0_0 a0_1 l0_2) = some r := by rw [if_neg (show ¬ (false = true) by decide)] at H; exact H
        clear H
        have H := H1
        clear H1
        have H' := Aside0.mk H
        clear H
        go_wp2
        repeat (go_quiet (fail); try go_wp2)
        go_loopg [3] kj1 (fun kq v3 w' => ∃ (x3_2 : Int), v3 = .int .i64 x3_2 ∧ Aside0 (voluteref04_Pile.l0 kq x3_2 a0_0 a0_1 l0_2 = some r) ∧ Aside0 (kq ≤ kj1) ∧ Aside0 (w'.heap[gb429]? = some (.cells #[.int .i64 a0_0, .int .i64 a0_1, (.slice A0_2 l0_2.length c0_2)] 67 (0, 0))) ∧ Aside0 (Below w.heap.size w w'))
        case atStart => exact ⟨(0), (by first | rfl | (simp; done) | (simp [*]; done)), H', ⟨Nat.le_refl _⟩, ⟨by (with_reducible repeat (first | refine blk_drewN ?_ _ | refine blk_drew ?_ | refine blk_alloc ?_ _)); exact BK429.out⟩, ⟨by repeat (first | (with_reducible first | exact HB.out | apply below_alloc | apply pw_below_drewN | apply below_drew1 | refine below_set ?_ GE429.out) | exact HB.out)⟩⟩
        case round =>
          clear H'
          try clear c1
          try clear p2
          try clear c4
          try clear c5
          try clear c6
          try clear c6b0
          try clear c10
          try clear hcz7_0
          try clear hcz7_1
          try clear hcz7_2
          try clear hcz8_0
          try clear hcz8_1
          try clear hcz8_2
          try clear hcz9_0
          try clear hcz9_1
          try clear hcz9_2
          try clear hfz7_0
          try clear hfz7_1
          try clear hfz7_2
          try clear hfz8_0
          try clear hfz8_1
          try clear hfz8_2
          try clear hfz9_0
          try clear hfz9_1
          try clear hfz9_2
          try clear p2
          obtain ⟨x3_2, rfl, HA, HK2, BK429, HB⟩ := hrel
          cases gk with
          | zero => exact absurd HA.out (by simp [voluteref04_Pile.l0])
          | succ k2 =>
            have H := HA.out
            clear HA
            simp only [voluteref04_Pile.l0] at H
            by_cases c11 : x3_2 < (l0_2.length : Int)
            · rw [if_pos c11] at H
              have c11b0 : decide (x3_2 < (l0_2.length : Int)) = true := decide_eq_true c11
              clear c11
              by_cases c12 : 0 ≤ x3_2
              · rw [if_pos c12] at H
                have c12b0 : decide (0 ≤ x3_2) = true := decide_eq_true c12
                clear c12
                by_cases c13 : ((rd_T88 l0_2 x3_2).f0) < 0
                · rw [if_pos c13] at H
                  have c13b0 : decide (((rd_T88 l0_2 x3_2).f0) < 0) = true := decide_eq_true c13
                  clear c13
                  obtain rfl := Option.some.inj H
                  obtain ⟨hcz14_0, hcz14_1, hcz14_2⟩ := zC3 BK429
                  obtain ⟨hfz14_0, hfz14_1, hfz14_2⟩ := zF3 BK429
                  have p431 : 0 ≤ (x3_2 : Int) := of_decide_eq_true (by first | (with_reducible assumption) | assumption)
                  have q431 : x3_2 < (l0_2.length : Int) := of_decide_eq_true (by first | (with_reducible assumption) | assumption)
                  obtain ⟨ad431, e431, hx431_0, hx431_1⟩ := at_T88 HR0_2.out x3_2 p431 q431
                  cases e431
                  replace hx431_0 := (HB.out.cell (World.block_lt_of_cell? w _ hx431_0)).trans hx431_0
                  replace hx431_1 := (HB.out.cell (World.block_lt_of_cell? w _ hx431_1)).trans hx431_1
                  replace p431 := eq_true p431
                  replace q431 := eq_true q431
                  go_wp2_with (first | ((with_reducible refine gate_dst (N := 4) rfl ?_); refine box_event ?hg (N := 4) ?hd (cs := #[.int .i64 0, .int .i64 0]) (t := 88) ?hr ?_; (case hd => rfl); (case hg => rfl); (case hr => first | (go_simp; done) | (go_simp; rfl)); intro gb432 hg w15 hbox hb; have BK432 := Aside0.mk (hbox); have GW432 := zg HB hg; have GE432 := zg HB hg; replace HB := zs HB hb; have NB429_432 := zl BK429 hg; have NB432_429 := zr BK429 hg; replace BK429 := zb BK429 hb; clear hb hbox hg; have hnb16 := NB432_429.out; have hnc16 := NB429_432.out; obtain ⟨hcz17_0, hcz17_1⟩ := zC2 BK432; have hfz17_0 := blk_frozen BK432.out 0; have hfz17_1 := blk_frozen BK432.out 1))
                  repeat (go_quiet (first | ((with_reducible refine gate_dst (N := 4) rfl ?_); refine box_event ?hg (N := 4) ?hd (cs := #[.int .i64 0, .int .i64 0]) (t := 88) ?hr ?_; (case hd => rfl); (case hg => rfl); (case hr => first | (go_simp; done) | (go_simp; rfl)); intro gb432 hg w15 hbox hb; have BK432 := Aside0.mk (hbox); have GW432 := zg HB hg; have GE432 := zg HB hg; replace HB := zs HB hb; have NB429_432 := zl BK429 hg; have NB432_429 := zr BK429 hg; replace BK429 := zb BK429 hb; clear hb hbox hg; have hnb16 := NB432_429.out; have hnc16 := NB429_432.out; obtain ⟨hcz17_0, hcz17_1⟩ := zC2 BK432; have hfz17_0 := blk_frozen BK432.out 0; have hfz17_1 := blk_frozen BK432.out 1)); try go_wp2_with (first | ((with_reducible refine gate_dst (N := 4) rfl ?_); refine box_event ?hg (N := 4) ?hd (cs := #[.int .i64 0, .int .i64 0]) (t := 88) ?hr ?_; (case hd => rfl); (case hg => rfl); (case hr => first | (go_simp; done) | (go_simp; rfl)); intro gb432 hg w15 hbox hb; have BK432 := Aside0.mk (hbox); have GW432 := zg HB hg; have GE432 := zg HB hg; replace HB := zs HB hb; have NB429_432 := zl BK429 hg; have NB432_429 := zr BK429 hg; replace BK429 := zb BK429 hb; clear hb hbox hg; have hnb16 := NB432_429.out; have hnc16 := NB429_432.out; obtain ⟨hcz17_0, hcz17_1⟩ := zC2 BK432; have hfz17_0 := blk_frozen BK432.out 0; have hfz17_1 := blk_frozen BK432.out 1)))
                  go_ret
                  exact ⟨by first | rfl | (simp [errW_none, errW_some] <;> rfl) | (simp [*, errW_none, errW_some] <;> rfl), by repeat (first | (with_reducible first | exact HB.out | apply below_alloc | apply pw_below_drewN | apply below_drew1 | refine below_set ?_ GE429.out | refine below_set ?_ GE432.out) | exact HB.out)⟩
                · rw [if_neg c13] at H
                  have c13b0 : decide (((rd_T88 l0_2 x3_2).f0) < 0) = false := decide_eq_false c13
                  clear c13
                  by_cases c18 : ((rd_T88 l0_2 x3_2).f0) ≥ (wrap64 (a0_0 * a0_1))
                  · rw [if_pos c18] at H
                    have c18b0 : decide ((wrap64 (a0_0 * a0_1)) ≤ ((rd_T88 l0_2 x3_2).f0)) = true := decide_eq_true c18
                    clear c18
                    obtain rfl := Option.some.inj H
                    obtain ⟨hcz19_0, hcz19_1, hcz19_2⟩ := zC3 BK429
                    obtain ⟨hfz19_0, hfz19_1, hfz19_2⟩ := zF3 BK429
                    have p431 : 0 ≤ (x3_2 : Int) := of_decide_eq_true (by first | (with_reducible assumption) | assumption)
                    have q431 : x3_2 < (l0_2.length : Int) := of_decide_eq_true (by first | (with_reducible assumption) | assumption)
                    obtain ⟨ad431, e431, hx431_0, hx431_1⟩ := at_T88 HR0_2.out x3_2 p431 q431
                    cases e431
                    replace hx431_0 := (HB.out.cell (World.block_lt_of_cell? w _ hx431_0)).trans hx431_0
                    replace hx431_1 := (HB.out.cell (World.block_lt_of_cell? w _ hx431_1)).trans hx431_1
                    replace p431 := eq_true p431
                    replace q431 := eq_true q431
                    go_wp2_with (first | ((with_reducible refine gate_dst (N := 4) rfl ?_); refine box_event ?hg (N := 4) ?hd (cs := #[.int .i64 0, .int .i64 0]) (t := 88) ?hr ?_; (case hd => rfl); (case hg => rfl); (case hr => first | (go_simp; done) | (go_simp; rfl)); intro gb432 hg w20 hbox hb; have BK432 := Aside0.mk (hbox); have GW432 := zg HB hg; have GE432 := zg HB hg; replace HB := zs HB hb; have NB429_432 := zl BK429 hg; have NB432_429 := zr BK429 hg; replace BK429 := zb BK429 hb; clear hb hbox hg; have hnb21 := NB432_429.out; have hnc21 := NB429_432.out; obtain ⟨hcz22_0, hcz22_1⟩ := zC2 BK432; obtain ⟨hfz22_0, hfz22_1⟩ := zF2 BK432; obtain ⟨hcz23_0, hcz23_1, hcz23_2⟩ := zC3 BK429; obtain ⟨hfz23_0, hfz23_1⟩ := zF2 BK429; have hfz23_2 := blk_frozen BK429.out 2))
                    repeat (go_quiet (first | ((with_reducible refine gate_dst (N := 4) rfl ?_); refine box_event ?hg (N := 4) ?hd (cs := #[.int .i64 0, .int .i64 0]) (t := 88) ?hr ?_; (case hd => rfl); (case hg => rfl); (case hr => first | (go_simp; done) | (go_simp; rfl)); intro gb432 hg w20 hbox hb; have BK432 := Aside0.mk (hbox); have GW432 := zg HB hg; have GE432 := zg HB hg; replace HB := zs HB hb; have NB429_432 := zl BK429 hg; have NB432_429 := zr BK429 hg; replace BK429 := zb BK429 hb; clear hb hbox hg; have hnb21 := NB432_429.out; have hnc21 := NB429_432.out; obtain ⟨hcz22_0, hcz22_1⟩ := zC2 BK432; obtain ⟨hfz22_0, hfz22_1⟩ := zF2 BK432; obtain ⟨hcz23_0, hcz23_1, hcz23_2⟩ := zC3 BK429; obtain ⟨hfz23_0, hfz23_1⟩ := zF2 BK429; have hfz23_2 := blk_frozen BK429.out 2)); try go_wp2_with (first | ((with_reducible refine gate_dst (N := 4) rfl ?_); refine box_event ?hg (N := 4) ?hd (cs := #[.int .i64 0, .int .i64 0]) (t := 88) ?hr ?_; (case hd => rfl); (case hg => rfl); (case hr => first | (go_simp; done) | (go_simp; rfl)); intro gb432 hg w20 hbox hb; have BK432 := Aside0.mk (hbox); have GW432 := zg HB hg; have GE432 := zg HB hg; replace HB := zs HB hb; have NB429_432 := zl BK429 hg; have NB432_429 := zr BK429 hg; replace BK429 := zb BK429 hb; clear hb hbox hg; have hnb21 := NB432_429.out; have hnc21 := NB429_432.out; obtain ⟨hcz22_0, hcz22_1⟩ := zC2 BK432; obtain ⟨hfz22_0, hfz22_1⟩ := zF2 BK432; obtain ⟨hcz23_0, hcz23_1, hcz23_2⟩ := zC3 BK429; obtain ⟨hfz23_0, hfz23_1⟩ := zF2 BK429; have hfz23_2 := blk_frozen BK429.out 2)))
                    go_ret
                    exact ⟨by first | rfl | (simp [errW_none, errW_some] <;> rfl) | (simp [*, errW_none, errW_some] <;> rfl), by repeat (first | (with_reducible first | exact HB.out | apply below_alloc | apply pw_below_drewN | apply below_drew1 | refine below_set ?_ GE429.out | refine below_set ?_ GE432.out) | exact HB.out)⟩
                  · rw [if_neg c18] at H
                    have c18b0 : decide ((wrap64 (a0_0 * a0_1)) ≤ ((rd_T88 l0_2 x3_2).f0)) = false := decide_eq_false c18
                    clear c18
                    by_cases c24 : ((rd_T88 l0_2 x3_2).f1) < 0
                    · rw [if_pos c24] at H
                      have c24b0 : decide (((rd_T88 l0_2 x3_2).f1) < 0) = true := decide_eq_true c24
                      clear c24
                      obtain rfl := Option.some.inj H
                      obtain ⟨hcz25_0, hcz25_1, hcz25_2⟩ := zC3 BK429
                      obtain ⟨hfz25_0, hfz25_1, hfz25_2⟩ := zF3 BK429
                      have p431 : 0 ≤ (x3_2 : Int) := of_decide_eq_true (by first | (with_reducible assumption) | assumption)
                      have q431 : x3_2 < (l0_2.length : Int) := of_decide_eq_true (by first | (with_reducible assumption) | assumption)
                      obtain ⟨ad431, e431, hx431_0, hx431_1⟩ := at_T88 HR0_2.out x3_2 p431 q431
                      cases e431
                      replace hx431_0 := (HB.out.cell (World.block_lt_of_cell? w _ hx431_0)).trans hx431_0
                      replace hx431_1 := (HB.out.cell (World.block_lt_of_cell? w _ hx431_1)).trans hx431_1
                      replace p431 := eq_true p431
                      replace q431 := eq_true q431
                      go_wp2_with (first | ((with_reducible refine gate_dst (N := 4) rfl ?_); refine box_event ?hg (N := 4) ?hd (cs := #[.int .i64 0, .int .i64 0]) (t := 88) ?hr ?_; (case hd => rfl); (case hg => rfl); (case hr => first | (go_simp; done) | (go_simp; rfl)); intro gb432 hg w26 hbox hb; have BK432 := Aside0.mk (hbox); have GW432 := zg HB hg; have GE432 := zg HB hg; replace HB := zs HB hb; have NB429_432 := zl BK429 hg; have NB432_429 := zr BK429 hg; replace BK429 := zb BK429 hb; clear hb hbox hg; have hnb27 := NB432_429.out; have hnc27 := NB429_432.out; obtain ⟨hcz28_0, hcz28_1⟩ := zC2 BK432; obtain ⟨hfz28_0, hfz28_1⟩ := zF2 BK432; obtain ⟨hcz29_0, hcz29_1, hcz29_2⟩ := zC3 BK429; obtain ⟨hfz29_0, hfz29_1⟩ := zF2 BK429; have hfz29_2 := blk_frozen BK429.out 2))
                      repeat (go_quiet (first | ((with_reducible refine gate_dst (N := 4) rfl ?_); refine box_event ?hg (N := 4) ?hd (cs := #[.int .i64 0, .int .i64 0]) (t := 88) ?hr ?_; (case hd => rfl); (case hg => rfl); (case hr => first | (go_simp; done) | (go_simp; rfl)); intro gb432 hg w26 hbox hb; have BK432 := Aside0.mk (hbox); have GW432 := zg HB hg; have GE432 := zg HB hg; replace HB := zs HB hb; have NB429_432 := zl BK429 hg; have NB432_429 := zr BK429 hg; replace BK429 := zb BK429 hb; clear hb hbox hg; have hnb27 := NB432_429.out; have hnc27 := NB429_432.out; obtain ⟨hcz28_0, hcz28_1⟩ := zC2 BK432; obtain ⟨hfz28_0, hfz28_1⟩ := zF2 BK432; obtain ⟨hcz29_0, hcz29_1, hcz29_2⟩ := zC3 BK429; obtain ⟨hfz29_0, hfz29_1⟩ := zF2 BK429; have hfz29_2 := blk_frozen BK429.out 2)); try go_wp2_with (first | ((with_reducible refine gate_dst (N := 4) rfl ?_); refine box_event ?hg (N := 4) ?hd (cs := #[.int .i64 0, .int .i64 0]) (t := 88) ?hr ?_; (case hd => rfl); (case hg => rfl); (case hr => first | (go_simp; done) | (go_simp; rfl)); intro gb432 hg w26 hbox hb; have BK432 := Aside0.mk (hbox); have GW432 := zg HB hg; have GE432 := zg HB hg; replace HB := zs HB hb; have NB429_432 := zl BK429 hg; have NB432_429 := zr BK429 hg; replace BK429 := zb BK429 hb; clear hb hbox hg; have hnb27 := NB432_429.out; have hnc27 := NB429_432.out; obtain ⟨hcz28_0, hcz28_1⟩ := zC2 BK432; obtain ⟨hfz28_0, hfz28_1⟩ := zF2 BK432; obtain ⟨hcz29_0, hcz29_1, hcz29_2⟩ := zC3 BK429; obtain ⟨hfz29_0, hfz29_1⟩ := zF2 BK429; have hfz29_2 := blk_frozen BK429.out 2)))
                      go_ret
                      exact ⟨by first | rfl | (simp [errW_none, errW_some] <;> rfl) | (simp [*, errW_none, errW_some] <;> rfl), by repeat (first | (with_reducible first | exact HB.out | apply below_alloc | apply pw_below_drewN | apply below_drew1 | refine below_set ?_ GE429.out | refine below_set ?_ GE432.out) | exact HB.out)⟩
                    · rw [if_neg c24] at H
                      have c24b0 : decide (((rd_T88 l0_2 x3_2).f1) < 0) = false := decide_eq_false c24
                      clear c24
                      by_cases c30 : ((rd_T88 l0_2 x3_2).f1) > 255
                      · rw [if_pos c30] at H
                        have c30b0 : decide (255 < ((rd_T88 l0_2 x3_2).f1)) = true := decide_eq_true c30
                        clear c30
                        obtain rfl := Option.some.inj H
                        obtain ⟨hcz31_0, hcz31_1, hcz31_2⟩ := zC3 BK429
                        obtain ⟨hfz31_0, hfz31_1, hfz31_2⟩ := zF3 BK429
                        have p431 : 0 ≤ (x3_2 : Int) := of_decide_eq_true (by first | (with_reducible assumption) | assumption)
                        have q431 : x3_2 < (l0_2.length : Int) := of_decide_eq_true (by first | (with_reducible assumption) | assumption)
                        obtain ⟨ad431, e431, hx431_0, hx431_1⟩ := at_T88 HR0_2.out x3_2 p431 q431
                        cases e431
                        replace hx431_0 := (HB.out.cell (World.block_lt_of_cell? w _ hx431_0)).trans hx431_0
                        replace hx431_1 := (HB.out.cell (World.block_lt_of_cell? w _ hx431_1)).trans hx431_1
                        replace p431 := eq_true p431
                        replace q431 := eq_true q431
                        go_wp2_with (first | ((with_reducible refine gate_dst (N := 4) rfl ?_); refine box_event ?hg (N := 4) ?hd (cs := #[.int .i64 0, .int .i64 0]) (t := 88) ?hr ?_; (case hd => rfl); (case hg => rfl); (case hr => first | (go_simp; done) | (go_simp; rfl)); intro gb432 hg w32 hbox hb; have BK432 := Aside0.mk (hbox); have GW432 := zg HB hg; have GE432 := zg HB hg; replace HB := zs HB hb; have NB429_432 := zl BK429 hg; have NB432_429 := zr BK429 hg; replace BK429 := zb BK429 hb; clear hb hbox hg; have hnb33 := NB432_429.out; have hnc33 := NB429_432.out; obtain ⟨hcz34_0, hcz34_1⟩ := zC2 BK432; obtain ⟨hfz34_0, hfz34_1⟩ := zF2 BK432; obtain ⟨hcz35_0, hcz35_1, hcz35_2⟩ := zC3 BK429; obtain ⟨hfz35_0, hfz35_1⟩ := zF2 BK429; have hfz35_2 := blk_frozen BK429.out 2))
                        repeat (go_quiet (first | ((with_reducible refine gate_dst (N := 4) rfl ?_); refine box_event ?hg (N := 4) ?hd (cs := #[.int .i64 0, .int .i64 0]) (t := 88) ?hr ?_; (case hd => rfl); (case hg => rfl); (case hr => first | (go_simp; done) | (go_simp; rfl)); intro gb432 hg w32 hbox hb; have BK432 := Aside0.mk (hbox); have GW432 := zg HB hg; have GE432 := zg HB hg; replace HB := zs HB hb; have NB429_432 := zl BK429 hg; have NB432_429 := zr BK429 hg; replace BK429 := zb BK429 hb; clear hb hbox hg; have hnb33 := NB432_429.out; have hnc33 := NB429_432.out; obtain ⟨hcz34_0, hcz34_1⟩ := zC2 BK432; obtain ⟨hfz34_0, hfz34_1⟩ := zF2 BK432; obtain ⟨hcz35_0, hcz35_1, hcz35_2⟩ := zC3 BK429; obtain ⟨hfz35_0, hfz35_1⟩ := zF2 BK429; have hfz35_2 := blk_frozen BK429.out 2)); try go_wp2_with (first | ((with_reducible refine gate_dst (N := 4) rfl ?_); refine box_event ?hg (N := 4) ?hd (cs := #[.int .i64 0, .int .i64 0]) (t := 88) ?hr ?_; (case hd => rfl); (case hg => rfl); (case hr => first | (go_simp; done) | (go_simp; rfl)); intro gb432 hg w32 hbox hb; have BK432 := Aside0.mk (hbox); have GW432 := zg HB hg; have GE432 := zg HB hg; replace HB := zs HB hb; have NB429_432 := zl BK429 hg; have NB432_429 := zr BK429 hg; replace BK429 := zb BK429 hb; clear hb hbox hg; have hnb33 := NB432_429.out; have hnc33 := NB429_432.out; obtain ⟨hcz34_0, hcz34_1⟩ := zC2 BK432; obtain ⟨hfz34_0, hfz34_1⟩ := zF2 BK432; obtain ⟨hcz35_0, hcz35_1, hcz35_2⟩ := zC3 BK429; obtain ⟨hfz35_0, hfz35_1⟩ := zF2 BK429; have hfz35_2 := blk_frozen BK429.out 2)))
                        go_ret
                        exact ⟨by first | rfl | (simp [errW_none, errW_some] <;> rfl) | (simp [*, errW_none, errW_some] <;> rfl), by repeat (first | (with_reducible first | exact HB.out | apply below_alloc | apply pw_below_drewN | apply below_drew1 | refine below_set ?_ GE429.out | refine below_set ?_ GE432.out) | exact HB.out)⟩
                      · rw [if_neg c30] at H
                        have c30b0 : decide (255 < ((rd_T88 l0_2 x3_2).f1)) = false := decide_eq_false c30
                        clear c30
                        by_cases c36 : x3_2 > 0
                        · rw [if_pos c36] at H
                          have c36b0 : decide (0 < x3_2) = true := decide_eq_true c36
                          clear c36
                          obtain ⟨ji37, hji37⟩ : ∃ j_ : Int, (wrap64 (x3_2 - 1)) = j_ := ⟨_, rfl⟩
                          replace H : (if 0 ≤ (ji37) then (if (ji37) < (l0_2.length : Int) then (if ((rd_T88 l0_2 x3_2).f0) ≤ ((rd_T88 l0_2 (ji37)).f0) then (some false) else (voluteref04_Pile.l0 k2 (wrap64 (x3_2 + 1)) a0_0 a0_1 l0_2)) else (none)) else (none)) = some r := by first | (rw [hji37] at H; exact H) | (simp only [hji37] at H ⊢; exact H)
                          have hji37w : (IntKind.i64.wrap (x3_2 - 1)) = ji37 := (i64_w _).trans hji37
                          by_cases c38 : 0 ≤ (ji37)
                          · rw [if_pos c38] at H
                            have c38b0 : decide (0 ≤ (ji37)) = true := decide_eq_true c38
                            clear c38
                            by_cases c39 : (ji37) < (l0_2.length : Int)
                            · rw [if_pos c39] at H
                              have c39b0 : decide ((ji37) < (l0_2.length : Int)) = true := decide_eq_true c39
                              clear c39
                              by_cases c40 : ((rd_T88 l0_2 x3_2).f0) ≤ ((rd_T88 l0_2 (ji37)).f0)
                              · rw [if_pos c40] at H
                                have c40b0 : decide (((rd_T88 l0_2 x3_2).f0) ≤ ((rd_T88 l0_2 (ji37)).f0)) = true := decide_eq_true c40
                                clear c40
                                obtain rfl := Option.some.inj H
                                obtain ⟨hcz41_0, hcz41_1, hcz41_2⟩ := zC3 BK429
                                obtain ⟨hfz41_0, hfz41_1, hfz41_2⟩ := zF3 BK429
                                have p431 : 0 ≤ (x3_2 : Int) := of_decide_eq_true (by first | (with_reducible assumption) | assumption)
                                have q431 : x3_2 < (l0_2.length : Int) := of_decide_eq_true (by first | (with_reducible assumption) | assumption)
                                obtain ⟨ad431, e431, hx431_0, hx431_1⟩ := at_T88 HR0_2.out x3_2 p431 q431
                                cases e431
                                replace hx431_0 := (HB.out.cell (World.block_lt_of_cell? w _ hx431_0)).trans hx431_0
                                replace hx431_1 := (HB.out.cell (World.block_lt_of_cell? w _ hx431_1)).trans hx431_1
                                replace p431 := eq_true p431
                                replace q431 := eq_true q431
                                go_wp2_with (first | ((with_reducible refine gate_dst (N := 4) rfl ?_); refine box_event ?hg (N := 4) ?hd (cs := #[.int .i64 0, .int .i64 0]) (t := 88) ?hr ?_; (case hd => rfl); (case hg => rfl); (case hr => first | (go_simp; done) | (go_simp; rfl)); intro gb432 hg w42 hbox hb; have BK432 := Aside0.mk (hbox); have GW432 := zg HB hg; have GE432 := zg HB hg; replace HB := zs HB hb; have NB429_432 := zl BK429 hg; have NB432_429 := zr BK429 hg; replace BK429 := zb BK429 hb; clear hb hbox hg; have hnb43 := NB432_429.out; have hnc43 := NB429_432.out; obtain ⟨hcz44_0, hcz44_1⟩ := zC2 BK432; obtain ⟨hfz44_0, hfz44_1⟩ := zF2 BK432; obtain ⟨hcz45_0, hcz45_1, hcz45_2⟩ := zC3 BK429; obtain ⟨hfz45_0, hfz45_1, hfz45_2⟩ := zF3 BK429; have p433 : 0 ≤ ((ji37) : Int) := of_decide_eq_true (by first | (with_reducible assumption) | assumption); have q433 : (ji37) < (l0_2.length : Int) := of_decide_eq_true (by first | (with_reducible assumption) | assumption); obtain ⟨ad433, e433, hx433_0, hx433_1⟩ := at_T88 HR0_2.out (ji37) p433 q433; obtain rfl : ad431 = ad433 := (by injection e433); have hn433_0 : ad431.block ≠ gb432 := Nat.ne_of_lt (Nat.lt_of_lt_of_le (by have := World.block_lt_of_cell? _ _ hx433_0; first | rwa [add_block] at this | exact this) GW432.out); have hn433_1 : ad431.block ≠ gb432 := Nat.ne_of_lt (Nat.lt_of_lt_of_le (by have := World.block_lt_of_cell? _ _ hx433_0; first | rwa [add_block] at this | exact this) GW432.out); replace hx433_0 := (HB.out.cell (World.block_lt_of_cell? w _ hx433_0)).trans hx433_0; replace hx433_1 := (HB.out.cell (World.block_lt_of_cell? w _ hx433_1)).trans hx433_1; replace hx433_0 := (cell_far (p := ⟨gb432, 0, none⟩) (by first | (rw [add_block]; exact hn433_0) | (show (Addr.add _ _).block ≠ _; rw [add_block]; exact hn433_0) | exact hn433_0) (.int .i64 ((rd_T88 l0_2 x3_2).f0))).trans hx433_0; replace hx433_1 := (cell_far (p := ⟨gb432, 0, none⟩) (by first | (rw [add_block]; exact hn433_0) | (show (Addr.add _ _).block ≠ _; rw [add_block]; exact hn433_0) | exact hn433_0) (.int .i64 ((rd_T88 l0_2 x3_2).f0))).trans hx433_1; replace hx433_0 := (cell_far (p := ⟨gb432, 1, none⟩) (by first | (rw [add_block]; exact hn433_1) | (show (Addr.add _ _).block ≠ _; rw [add_block]; exact hn433_1) | exact hn433_1) (.int .i64 ((rd_T88 l0_2 x3_2).f1))).trans hx433_0; replace hx433_1 := (cell_far (p := ⟨gb432, 1, none⟩) (by first | (rw [add_block]; exact hn433_1) | (show (Addr.add _ _).block ≠ _; rw [add_block]; exact hn433_1) | exact hn433_1) (.int .i64 ((rd_T88 l0_2 x3_2).f1))).trans hx433_1; (try have hy433_0 := fun (n_ : Nat) => (show ((((w42.drewN n_).setCell ⟨gb432, 0, none⟩ (.int .i64 ((rd_T88 l0_2 x3_2).f0))).setCell ⟨gb432, 1, none⟩ (.int .i64 ((rd_T88 l0_2 x3_2).f1)))).cell? _ = some _ from hx433_0)); (try have hy433_1 := fun (n_ : Nat) => (show ((((w42.drewN n_).setCell ⟨gb432, 0, none⟩ (.int .i64 ((rd_T88 l0_2 x3_2).f0))).setCell ⟨gb432, 1, none⟩ (.int .i64 ((rd_T88 l0_2 x3_2).f1)))).cell? _ = some _ from hx433_1)); clear hn433_0; clear hn433_1; replace p433 := eq_true p433; replace q433 := eq_true q433))
                                repeat (go_quiet (first | ((with_reducible refine gate_dst (N := 4) rfl ?_); refine box_event ?hg (N := 4) ?hd (cs := #[.int .i64 0, .int .i64 0]) (t := 88) ?hr ?_; (case hd => rfl); (case hg => rfl); (case hr => first | (go_simp; done) | (go_simp; rfl)); intro gb432 hg w42 hbox hb; have BK432 := Aside0.mk (hbox); have GW432 := zg HB hg; have GE432 := zg HB hg; replace HB := zs HB hb; have NB429_432 := zl BK429 hg; have NB432_429 := zr BK429 hg; replace BK429 := zb BK429 hb; clear hb hbox hg; have hnb43 := NB432_429.out; have hnc43 := NB429_432.out; obtain ⟨hcz44_0, hcz44_1⟩ := zC2 BK432; obtain ⟨hfz44_0, hfz44_1⟩ := zF2 BK432; obtain ⟨hcz45_0, hcz45_1, hcz45_2⟩ := zC3 BK429; obtain ⟨hfz45_0, hfz45_1, hfz45_2⟩ := zF3 BK429; have p433 : 0 ≤ ((ji37) : Int) := of_decide_eq_true (by first | (with_reducible assumption) | assumption); have q433 : (ji37) < (l0_2.length : Int) := of_decide_eq_true (by first | (with_reducible assumption) | assumption); obtain ⟨ad433, e433, hx433_0, hx433_1⟩ := at_T88 HR0_2.out (ji37) p433 q433; obtain rfl : ad431 = ad433 := (by injection e433); have hn433_0 : ad431.block ≠ gb432 := Nat.ne_of_lt (Nat.lt_of_lt_of_le (by have := World.block_lt_of_cell? _ _ hx433_0; first | rwa [add_block] at this | exact this) GW432.out); have hn433_1 : ad431.block ≠ gb432 := Nat.ne_of_lt (Nat.lt_of_lt_of_le (by have := World.block_lt_of_cell? _ _ hx433_0; first | rwa [add_block] at this | exact this) GW432.out); replace hx433_0 := (HB.out.cell (World.block_lt_of_cell? w _ hx433_0)).trans hx433_0; replace hx433_1 := (HB.out.cell (World.block_lt_of_cell? w _ hx433_1)).trans hx433_1; replace hx433_0 := (cell_far (p := ⟨gb432, 0, none⟩) (by first | (rw [add_block]; exact hn433_0) | (show (Addr.add _ _).block ≠ _; rw [add_block]; exact hn433_0) | exact hn433_0) (.int .i64 ((rd_T88 l0_2 x3_2).f0))).trans hx433_0; replace hx433_1 := (cell_far (p := ⟨gb432, 0, none⟩) (by first | (rw [add_block]; exact hn433_0) | (show (Addr.add _ _).block ≠ _; rw [add_block]; exact hn433_0) | exact hn433_0) (.int .i64 ((rd_T88 l0_2 x3_2).f0))).trans hx433_1; replace hx433_0 := (cell_far (p := ⟨gb432, 1, none⟩) (by first | (rw [add_block]; exact hn433_1) | (show (Addr.add _ _).block ≠ _; rw [add_block]; exact hn433_1) | exact hn433_1) (.int .i64 ((rd_T88 l0_2 x3_2).f1))).trans hx433_0; replace hx433_1 := (cell_far (p := ⟨gb432, 1, none⟩) (by first | (rw [add_block]; exact hn433_1) | (show (Addr.add _ _).block ≠ _; rw [add_block]; exact hn433_1) | exact hn433_1) (.int .i64 ((rd_T88 l0_2 x3_2).f1))).trans hx433_1; (try have hy433_0 := fun (n_ : Nat) => (show ((((w42.drewN n_).setCell ⟨gb432, 0, none⟩ (.int .i64 ((rd_T88 l0_2 x3_2).f0))).setCell ⟨gb432, 1, none⟩ (.int .i64 ((rd_T88 l0_2 x3_2).f1)))).cell? _ = some _ from hx433_0)); (try have hy433_1 := fun (n_ : Nat) => (show ((((w42.drewN n_).setCell ⟨gb432, 0, none⟩ (.int .i64 ((rd_T88 l0_2 x3_2).f0))).setCell ⟨gb432, 1, none⟩ (.int .i64 ((rd_T88 l0_2 x3_2).f1)))).cell? _ = some _ from hx433_1)); clear hn433_0; clear hn433_1; replace p433 := eq_true p433; replace q433 := eq_true q433)); try go_wp2_with (first | ((with_reducible refine gate_dst (N := 4) rfl ?_); refine box_event ?hg (N := 4) ?hd (cs := #[.int .i64 0, .int .i64 0]) (t := 88) ?hr ?_; (case hd => rfl); (case hg => rfl); (case hr => first | (go_simp; done) | (go_simp; rfl)); intro gb432 hg w42 hbox hb; have BK432 := Aside0.mk (hbox); have GW432 := zg HB hg; have GE432 := zg HB hg; replace HB := zs HB hb; have NB429_432 := zl BK429 hg; have NB432_429 := zr BK429 hg; replace BK429 := zb BK429 hb; clear hb hbox hg; have hnb43 := NB432_429.out; have hnc43 := NB429_432.out; obtain ⟨hcz44_0, hcz44_1⟩ := zC2 BK432; obtain ⟨hfz44_0, hfz44_1⟩ := zF2 BK432; obtain ⟨hcz45_0, hcz45_1, hcz45_2⟩ := zC3 BK429; obtain ⟨hfz45_0, hfz45_1, hfz45_2⟩ := zF3 BK429; have p433 : 0 ≤ ((ji37) : Int) := of_decide_eq_true (by first | (with_reducible assumption) | assumption); have q433 : (ji37) < (l0_2.length : Int) := of_decide_eq_true (by first | (with_reducible assumption) | assumption); obtain ⟨ad433, e433, hx433_0, hx433_1⟩ := at_T88 HR0_2.out (ji37) p433 q433; obtain rfl : ad431 = ad433 := (by injection e433); have hn433_0 : ad431.block ≠ gb432 := Nat.ne_of_lt (Nat.lt_of_lt_of_le (by have := World.block_lt_of_cell? _ _ hx433_0; first | rwa [add_block] at this | exact this) GW432.out); have hn433_1 : ad431.block ≠ gb432 := Nat.ne_of_lt (Nat.lt_of_lt_of_le (by have := World.block_lt_of_cell? _ _ hx433_0; first | rwa [add_block] at this | exact this) GW432.out); replace hx433_0 := (HB.out.cell (World.block_lt_of_cell? w _ hx433_0)).trans hx433_0; replace hx433_1 := (HB.out.cell (World.block_lt_of_cell? w _ hx433_1)).trans hx433_1; replace hx433_0 := (cell_far (p := ⟨gb432, 0, none⟩) (by first | (rw [add_block]; exact hn433_0) | (show (Addr.add _ _).block ≠ _; rw [add_block]; exact hn433_0) | exact hn433_0) (.int .i64 ((rd_T88 l0_2 x3_2).f0))).trans hx433_0; replace hx433_1 := (cell_far (p := ⟨gb432, 0, none⟩) (by first | (rw [add_block]; exact hn433_0) | (show (Addr.add _ _).block ≠ _; rw [add_block]; exact hn433_0) | exact hn433_0) (.int .i64 ((rd_T88 l0_2 x3_2).f0))).trans hx433_1; replace hx433_0 := (cell_far (p := ⟨gb432, 1, none⟩) (by first | (rw [add_block]; exact hn433_1) | (show (Addr.add _ _).block ≠ _; rw [add_block]; exact hn433_1) | exact hn433_1) (.int .i64 ((rd_T88 l0_2 x3_2).f1))).trans hx433_0; replace hx433_1 := (cell_far (p := ⟨gb432, 1, none⟩) (by first | (rw [add_block]; exact hn433_1) | (show (Addr.add _ _).block ≠ _; rw [add_block]; exact hn433_1) | exact hn433_1) (.int .i64 ((rd_T88 l0_2 x3_2).f1))).trans hx433_1; (try have hy433_0 := fun (n_ : Nat) => (show ((((w42.drewN n_).setCell ⟨gb432, 0, none⟩ (.int .i64 ((rd_T88 l0_2 x3_2).f0))).setCell ⟨gb432, 1, none⟩ (.int .i64 ((rd_T88 l0_2 x3_2).f1)))).cell? _ = some _ from hx433_0)); (try have hy433_1 := fun (n_ : Nat) => (show ((((w42.drewN n_).setCell ⟨gb432, 0, none⟩ (.int .i64 ((rd_T88 l0_2 x3_2).f0))).setCell ⟨gb432, 1, none⟩ (.int .i64 ((rd_T88 l0_2 x3_2).f1)))).cell? _ = some _ from hx433_1)); clear hn433_0; clear hn433_1; replace p433 := eq_true p433; replace q433 := eq_true q433)))
                                go_ret
                                exact ⟨by first | rfl | (simp [errW_none, errW_some] <;> rfl) | (simp only [← hji37]; first | rfl | (simp [errW_none, errW_some] <;> rfl)) | (simp [*, errW_none, errW_some] <;> rfl), by repeat (first | (with_reducible first | exact HB.out | apply below_alloc | apply pw_below_drewN | apply below_drew1 | refine below_set ?_ GE429.out | refine below_set ?_ GE432.out) | exact HB.out)⟩
                              · rw [if_neg c40] at H
                                have c40b0 : decide (((rd_T88 l0_2 x3_2).f0) ≤ ((rd_T88 l0_2 (ji37)).f0)) = false := decide_eq_false c40
                                clear c40
                                have H' := Aside0.mk H
                                clear H
                                obtain ⟨hcz46_0, hcz46_1, hcz46_2⟩ := zC3 BK429
                                obtain ⟨hfz46_0, hfz46_1, hfz46_2⟩ := zF3 BK429
                                have p431 : 0 ≤ (x3_2 : Int) := of_decide_eq_true (by first | (with_reducible assumption) | assumption)
                                have q431 : x3_2 < (l0_2.length : Int) := of_decide_eq_true (by first | (with_reducible assumption) | assumption)
                                obtain ⟨ad431, e431, hx431_0, hx431_1⟩ := at_T88 HR0_2.out x3_2 p431 q431
                                cases e431
                                replace hx431_0 := (HB.out.cell (World.block_lt_of_cell? w _ hx431_0)).trans hx431_0
                                replace hx431_1 := (HB.out.cell (World.block_lt_of_cell? w _ hx431_1)).trans hx431_1
                                replace p431 := eq_true p431
                                replace q431 := eq_true q431
                                go_wp2_with (first | ((with_reducible refine gate_dst (N := 4) rfl ?_); refine box_event ?hg (N := 4) ?hd (cs := #[.int .i64 0, .int .i64 0]) (t := 88) ?hr ?_; (case hd => rfl); (case hg => rfl); (case hr => first | (go_simp; done) | (go_simp; rfl)); intro gb432 hg w47 hbox hb; have BK432 := Aside0.mk (hbox); have GW432 := zg HB hg; have GE432 := zg HB hg; replace HB := zs HB hb; have NB429_432 := zl BK429 hg; have NB432_429 := zr BK429 hg; replace BK429 := zb BK429 hb; clear hb hbox hg; have hnb48 := NB432_429.out; have hnc48 := NB429_432.out; obtain ⟨hcz49_0, hcz49_1⟩ := zC2 BK432; obtain ⟨hfz49_0, hfz49_1⟩ := zF2 BK432; obtain ⟨hcz50_0, hcz50_1, hcz50_2⟩ := zC3 BK429; obtain ⟨hfz50_0, hfz50_1, hfz50_2⟩ := zF3 BK429; have p433 : 0 ≤ ((ji37) : Int) := of_decide_eq_true (by first | (with_reducible assumption) | assumption); have q433 : (ji37) < (l0_2.length : Int) := of_decide_eq_true (by first | (with_reducible assumption) | assumption); obtain ⟨ad433, e433, hx433_0, hx433_1⟩ := at_T88 HR0_2.out (ji37) p433 q433; obtain rfl : ad431 = ad433 := (by injection e433); have hn433_0 : ad431.block ≠ gb432 := Nat.ne_of_lt (Nat.lt_of_lt_of_le (by have := World.block_lt_of_cell? _ _ hx433_0; first | rwa [add_block] at this | exact this) GW432.out); have hn433_1 : ad431.block ≠ gb432 := Nat.ne_of_lt (Nat.lt_of_lt_of_le (by have := World.block_lt_of_cell? _ _ hx433_0; first | rwa [add_block] at this | exact this) GW432.out); replace hx433_0 := (HB.out.cell (World.block_lt_of_cell? w _ hx433_0)).trans hx433_0; replace hx433_1 := (HB.out.cell (World.block_lt_of_cell? w _ hx433_1)).trans hx433_1; replace hx433_0 := (cell_far (p := ⟨gb432, 0, none⟩) (by first | (rw [add_block]; exact hn433_0) | (show (Addr.add _ _).block ≠ _; rw [add_block]; exact hn433_0) | exact hn433_0) (.int .i64 ((rd_T88 l0_2 x3_2).f0))).trans hx433_0; replace hx433_1 := (cell_far (p := ⟨gb432, 0, none⟩) (by first | (rw [add_block]; exact hn433_0) | (show (Addr.add _ _).block ≠ _; rw [add_block]; exact hn433_0) | exact hn433_0) (.int .i64 ((rd_T88 l0_2 x3_2).f0))).trans hx433_1; replace hx433_0 := (cell_far (p := ⟨gb432, 1, none⟩) (by first | (rw [add_block]; exact hn433_1) | (show (Addr.add _ _).block ≠ _; rw [add_block]; exact hn433_1) | exact hn433_1) (.int .i64 ((rd_T88 l0_2 x3_2).f1))).trans hx433_0; replace hx433_1 := (cell_far (p := ⟨gb432, 1, none⟩) (by first | (rw [add_block]; exact hn433_1) | (show (Addr.add _ _).block ≠ _; rw [add_block]; exact hn433_1) | exact hn433_1) (.int .i64 ((rd_T88 l0_2 x3_2).f1))).trans hx433_1; (try have hy433_0 := fun (n_ : Nat) => (show ((((w47.drewN n_).setCell ⟨gb432, 0, none⟩ (.int .i64 ((rd_T88 l0_2 x3_2).f0))).setCell ⟨gb432, 1, none⟩ (.int .i64 ((rd_T88 l0_2 x3_2).f1)))).cell? _ = some _ from hx433_0)); (try have hy433_1 := fun (n_ : Nat) => (show ((((w47.drewN n_).setCell ⟨gb432, 0, none⟩ (.int .i64 ((rd_T88 l0_2 x3_2).f0))).setCell ⟨gb432, 1, none⟩ (.int .i64 ((rd_T88 l0_2 x3_2).f1)))).cell? _ = some _ from hx433_1)); clear hn433_0; clear hn433_1; replace p433 := eq_true p433; replace q433 := eq_true q433))
                                repeat (go_quiet (first | ((with_reducible refine gate_dst (N := 4) rfl ?_); refine box_event ?hg (N := 4) ?hd (cs := #[.int .i64 0, .int .i64 0]) (t := 88) ?hr ?_; (case hd => rfl); (case hg => rfl); (case hr => first | (go_simp; done) | (go_simp; rfl)); intro gb432 hg w47 hbox hb; have BK432 := Aside0.mk (hbox); have GW432 := zg HB hg; have GE432 := zg HB hg; replace HB := zs HB hb; have NB429_432 := zl BK429 hg; have NB432_429 := zr BK429 hg; replace BK429 := zb BK429 hb; clear hb hbox hg; have hnb48 := NB432_429.out; have hnc48 := NB429_432.out; obtain ⟨hcz49_0, hcz49_1⟩ := zC2 BK432; obtain ⟨hfz49_0, hfz49_1⟩ := zF2 BK432; obtain ⟨hcz50_0, hcz50_1, hcz50_2⟩ := zC3 BK429; obtain ⟨hfz50_0, hfz50_1, hfz50_2⟩ := zF3 BK429; have p433 : 0 ≤ ((ji37) : Int) := of_decide_eq_true (by first | (with_reducible assumption) | assumption); have q433 : (ji37) < (l0_2.length : Int) := of_decide_eq_true (by first | (with_reducible assumption) | assumption); obtain ⟨ad433, e433, hx433_0, hx433_1⟩ := at_T88 HR0_2.out (ji37) p433 q433; obtain rfl : ad431 = ad433 := (by injection e433); have hn433_0 : ad431.block ≠ gb432 := Nat.ne_of_lt (Nat.lt_of_lt_of_le (by have := World.block_lt_of_cell? _ _ hx433_0; first | rwa [add_block] at this | exact this) GW432.out); have hn433_1 : ad431.block ≠ gb432 := Nat.ne_of_lt (Nat.lt_of_lt_of_le (by have := World.block_lt_of_cell? _ _ hx433_0; first | rwa [add_block] at this | exact this) GW432.out); replace hx433_0 := (HB.out.cell (World.block_lt_of_cell? w _ hx433_0)).trans hx433_0; replace hx433_1 := (HB.out.cell (World.block_lt_of_cell? w _ hx433_1)).trans hx433_1; replace hx433_0 := (cell_far (p := ⟨gb432, 0, none⟩) (by first | (rw [add_block]; exact hn433_0) | (show (Addr.add _ _).block ≠ _; rw [add_block]; exact hn433_0) | exact hn433_0) (.int .i64 ((rd_T88 l0_2 x3_2).f0))).trans hx433_0; replace hx433_1 := (cell_far (p := ⟨gb432, 0, none⟩) (by first | (rw [add_block]; exact hn433_0) | (show (Addr.add _ _).block ≠ _; rw [add_block]; exact hn433_0) | exact hn433_0) (.int .i64 ((rd_T88 l0_2 x3_2).f0))).trans hx433_1; replace hx433_0 := (cell_far (p := ⟨gb432, 1, none⟩) (by first | (rw [add_block]; exact hn433_1) | (show (Addr.add _ _).block ≠ _; rw [add_block]; exact hn433_1) | exact hn433_1) (.int .i64 ((rd_T88 l0_2 x3_2).f1))).trans hx433_0; replace hx433_1 := (cell_far (p := ⟨gb432, 1, none⟩) (by first | (rw [add_block]; exact hn433_1) | (show (Addr.add _ _).block ≠ _; rw [add_block]; exact hn433_1) | exact hn433_1) (.int .i64 ((rd_T88 l0_2 x3_2).f1))).trans hx433_1; (try have hy433_0 := fun (n_ : Nat) => (show ((((w47.drewN n_).setCell ⟨gb432, 0, none⟩ (.int .i64 ((rd_T88 l0_2 x3_2).f0))).setCell ⟨gb432, 1, none⟩ (.int .i64 ((rd_T88 l0_2 x3_2).f1)))).cell? _ = some _ from hx433_0)); (try have hy433_1 := fun (n_ : Nat) => (show ((((w47.drewN n_).setCell ⟨gb432, 0, none⟩ (.int .i64 ((rd_T88 l0_2 x3_2).f0))).setCell ⟨gb432, 1, none⟩ (.int .i64 ((rd_T88 l0_2 x3_2).f1)))).cell? _ = some _ from hx433_1)); clear hn433_0; clear hn433_1; replace p433 := eq_true p433; replace q433 := eq_true q433)); try go_wp2_with (first | ((with_reducible refine gate_dst (N := 4) rfl ?_); refine box_event ?hg (N := 4) ?hd (cs := #[.int .i64 0, .int .i64 0]) (t := 88) ?hr ?_; (case hd => rfl); (case hg => rfl); (case hr => first | (go_simp; done) | (go_simp; rfl)); intro gb432 hg w47 hbox hb; have BK432 := Aside0.mk (hbox); have GW432 := zg HB hg; have GE432 := zg HB hg; replace HB := zs HB hb; have NB429_432 := zl BK429 hg; have NB432_429 := zr BK429 hg; replace BK429 := zb BK429 hb; clear hb hbox hg; have hnb48 := NB432_429.out; have hnc48 := NB429_432.out; obtain ⟨hcz49_0, hcz49_1⟩ := zC2 BK432; obtain ⟨hfz49_0, hfz49_1⟩ := zF2 BK432; obtain ⟨hcz50_0, hcz50_1, hcz50_2⟩ := zC3 BK429; obtain ⟨hfz50_0, hfz50_1, hfz50_2⟩ := zF3 BK429; have p433 : 0 ≤ ((ji37) : Int) := of_decide_eq_true (by first | (with_reducible assumption) | assumption); have q433 : (ji37) < (l0_2.length : Int) := of_decide_eq_true (by first | (with_reducible assumption) | assumption); obtain ⟨ad433, e433, hx433_0, hx433_1⟩ := at_T88 HR0_2.out (ji37) p433 q433; obtain rfl : ad431 = ad433 := (by injection e433); have hn433_0 : ad431.block ≠ gb432 := Nat.ne_of_lt (Nat.lt_of_lt_of_le (by have := World.block_lt_of_cell? _ _ hx433_0; first | rwa [add_block] at this | exact this) GW432.out); have hn433_1 : ad431.block ≠ gb432 := Nat.ne_of_lt (Nat.lt_of_lt_of_le (by have := World.block_lt_of_cell? _ _ hx433_0; first | rwa [add_block] at this | exact this) GW432.out); replace hx433_0 := (HB.out.cell (World.block_lt_of_cell? w _ hx433_0)).trans hx433_0; replace hx433_1 := (HB.out.cell (World.block_lt_of_cell? w _ hx433_1)).trans hx433_1; replace hx433_0 := (cell_far (p := ⟨gb432, 0, none⟩) (by first | (rw [add_block]; exact hn433_0) | (show (Addr.add _ _).block ≠ _; rw [add_block]; exact hn433_0) | exact hn433_0) (.int .i64 ((rd_T88 l0_2 x3_2).f0))).trans hx433_0; replace hx433_1 := (cell_far (p := ⟨gb432, 0, none⟩) (by first | (rw [add_block]; exact hn433_0) | (show (Addr.add _ _).block ≠ _; rw [add_block]; exact hn433_0) | exact hn433_0) (.int .i64 ((rd_T88 l0_2 x3_2).f0))).trans hx433_1; replace hx433_0 := (cell_far (p := ⟨gb432, 1, none⟩) (by first | (rw [add_block]; exact hn433_1) | (show (Addr.add _ _).block ≠ _; rw [add_block]; exact hn433_1) | exact hn433_1) (.int .i64 ((rd_T88 l0_2 x3_2).f1))).trans hx433_0; replace hx433_1 := (cell_far (p := ⟨gb432, 1, none⟩) (by first | (rw [add_block]; exact hn433_1) | (show (Addr.add _ _).block ≠ _; rw [add_block]; exact hn433_1) | exact hn433_1) (.int .i64 ((rd_T88 l0_2 x3_2).f1))).trans hx433_1; (try have hy433_0 := fun (n_ : Nat) => (show ((((w47.drewN n_).setCell ⟨gb432, 0, none⟩ (.int .i64 ((rd_T88 l0_2 x3_2).f0))).setCell ⟨gb432, 1, none⟩ (.int .i64 ((rd_T88 l0_2 x3_2).f1)))).cell? _ = some _ from hx433_0)); (try have hy433_1 := fun (n_ : Nat) => (show ((((w47.drewN n_).setCell ⟨gb432, 0, none⟩ (.int .i64 ((rd_T88 l0_2 x3_2).f0))).setCell ⟨gb432, 1, none⟩ (.int .i64 ((rd_T88 l0_2 x3_2).f1)))).cell? _ = some _ from hx433_1)); clear hn433_0; clear hn433_1; replace p433 := eq_true p433; replace q433 := eq_true q433)))
                                go_roundg k2
                                case measure => have := HJ1.out; have := HK2.out; omega
                                case rel => exact ⟨(wrap64 (x3_2 + 1)), (by first | rfl | (simp; done) | (simp [*]; done)), H', ⟨by have := HJ1.out; have := HK2.out; omega⟩, ⟨by (with_reducible repeat (first | refine blk_drewN ?_ _ | refine blk_drew ?_ | refine blk_alloc ?_ _)); refine blk_far ?_ NB429_432.out _; (with_reducible repeat (first | refine blk_drewN ?_ _ | refine blk_drew ?_ | refine blk_alloc ?_ _)); refine blk_far ?_ NB429_432.out _; (with_reducible repeat (first | refine blk_drewN ?_ _ | refine blk_drew ?_ | refine blk_alloc ?_ _)); exact BK429.out⟩, ⟨by repeat (first | (with_reducible first | exact HB.out | apply below_alloc | apply pw_below_drewN | apply below_drew1 | refine below_set ?_ GE429.out | refine below_set ?_ GE432.out) | exact HB.out)⟩⟩
                            · rw [if_neg c39] at H
                              exact absurd H (by simp)
                          · rw [if_neg c38] at H
                            exact absurd H (by simp)
                        · rw [if_neg c36] at H
                          have c36b0 : decide (0 < x3_2) = false := decide_eq_false c36
                          clear c36
                          have H' := Aside0.mk H
                          clear H
                          obtain ⟨hcz51_0, hcz51_1, hcz51_2⟩ := zC3 BK429
                          obtain ⟨hfz51_0, hfz51_1, hfz51_2⟩ := zF3 BK429
                          have p431 : 0 ≤ (x3_2 : Int) := of_decide_eq_true (by first | (with_reducible assumption) | assumption)
                          have q431 : x3_2 < (l0_2.length : Int) := of_decide_eq_true (by first | (with_reducible assumption) | assumption)
                          obtain ⟨ad431, e431, hx431_0, hx431_1⟩ := at_T88 HR0_2.out x3_2 p431 q431
                          cases e431
                          replace hx431_0 := (HB.out.cell (World.block_lt_of_cell? w _ hx431_0)).trans hx431_0
                          replace hx431_1 := (HB.out.cell (World.block_lt_of_cell? w _ hx431_1)).trans hx431_1
                          replace p431 := eq_true p431
                          replace q431 := eq_true q431
                          go_wp2_with (first | ((with_reducible refine gate_dst (N := 4) rfl ?_); refine box_event ?hg (N := 4) ?hd (cs := #[.int .i64 0, .int .i64 0]) (t := 88) ?hr ?_; (case hd => rfl); (case hg => rfl); (case hr => first | (go_simp; done) | (go_simp; rfl)); intro gb432 hg w52 hbox hb; have BK432 := Aside0.mk (hbox); have GW432 := zg HB hg; have GE432 := zg HB hg; replace HB := zs HB hb; have NB429_432 := zl BK429 hg; have NB432_429 := zr BK429 hg; replace BK429 := zb BK429 hb; clear hb hbox hg; have hnb53 := NB432_429.out; have hnc53 := NB429_432.out; obtain ⟨hcz54_0, hcz54_1⟩ := zC2 BK432; obtain ⟨hfz54_0, hfz54_1⟩ := zF2 BK432; obtain ⟨hcz55_0, hcz55_1, hcz55_2⟩ := zC3 BK429; obtain ⟨hfz55_0, hfz55_1⟩ := zF2 BK429; have hfz55_2 := blk_frozen BK429.out 2))
                          repeat (go_quiet (first | ((with_reducible refine gate_dst (N := 4) rfl ?_); refine box_event ?hg (N := 4) ?hd (cs := #[.int .i64 0, .int .i64 0]) (t := 88) ?hr ?_; (case hd => rfl); (case hg => rfl); (case hr => first | (go_simp; done) | (go_simp; rfl)); intro gb432 hg w52 hbox hb; have BK432 := Aside0.mk (hbox); have GW432 := zg HB hg; have GE432 := zg HB hg; replace HB := zs HB hb; have NB429_432 := zl BK429 hg; have NB432_429 := zr BK429 hg; replace BK429 := zb BK429 hb; clear hb hbox hg; have hnb53 := NB432_429.out; have hnc53 := NB429_432.out; obtain ⟨hcz54_0, hcz54_1⟩ := zC2 BK432; obtain ⟨hfz54_0, hfz54_1⟩ := zF2 BK432; obtain ⟨hcz55_0, hcz55_1, hcz55_2⟩ := zC3 BK429; obtain ⟨hfz55_0, hfz55_1⟩ := zF2 BK429; have hfz55_2 := blk_frozen BK429.out 2)); try go_wp2_with (first | ((with_reducible refine gate_dst (N := 4) rfl ?_); refine box_event ?hg (N := 4) ?hd (cs := #[.int .i64 0, .int .i64 0]) (t := 88) ?hr ?_; (case hd => rfl); (case hg => rfl); (case hr => first | (go_simp; done) | (go_simp; rfl)); intro gb432 hg w52 hbox hb; have BK432 := Aside0.mk (hbox); have GW432 := zg HB hg; have GE432 := zg HB hg; replace HB := zs HB hb; have NB429_432 := zl BK429 hg; have NB432_429 := zr BK429 hg; replace BK429 := zb BK429 hb; clear hb hbox hg; have hnb53 := NB432_429.out; have hnc53 := NB429_432.out; obtain ⟨hcz54_0, hcz54_1⟩ := zC2 BK432; obtain ⟨hfz54_0, hfz54_1⟩ := zF2 BK432; obtain ⟨hcz55_0, hcz55_1, hcz55_2⟩ := zC3 BK429; obtain ⟨hfz55_0, hfz55_1⟩ := zF2 BK429; have hfz55_2 := blk_frozen BK429.out 2)))
                          go_roundg k2
                          case measure => have := HJ1.out; have := HK2.out; omega
                          case rel => exact ⟨(wrap64 (x3_2 + 1)), (by first | rfl | (simp; done) | (simp [*]; done)), H', ⟨by have := HJ1.out; have := HK2.out; omega⟩, ⟨by (with_reducible repeat (first | refine blk_drewN ?_ _ | refine blk_drew ?_ | refine blk_alloc ?_ _)); refine blk_far ?_ NB429_432.out _; (with_reducible repeat (first | refine blk_drewN ?_ _ | refine blk_drew ?_ | refine blk_alloc ?_ _)); refine blk_far ?_ NB429_432.out _; (with_reducible repeat (first | refine blk_drewN ?_ _ | refine blk_drew ?_ | refine blk_alloc ?_ _)); exact BK429.out⟩, ⟨by repeat (first | (with_reducible first | exact HB.out | apply below_alloc | apply pw_below_drewN | apply below_drew1 | refine below_set ?_ GE429.out | refine below_set ?_ GE432.out) | exact HB.out)⟩⟩
              · rw [if_neg c12] at H
                exact absurd H (by simp)
            · rw [if_neg c11] at H
              have c11b0 : decide (x3_2 < (l0_2.length : Int)) = false := decide_eq_false c11
              clear c11
              obtain rfl := Option.some.inj H
              obtain ⟨hcz56_0, hcz56_1, hcz56_2⟩ := zC3 BK429
              obtain ⟨hfz56_0, hfz56_1, hfz56_2⟩ := zF3 BK429
              go_wp2
              repeat (go_quiet (fail); try go_wp2)
              go_ret
              exact ⟨by first | rfl | (simp [errW_none, errW_some] <;> rfl) | (simp [*, errW_none, errW_some] <;> rfl), by repeat (first | (with_reducible first | exact HB.out | apply below_alloc | apply pw_below_drewN | apply below_drew1 | refine below_set ?_ GE429.out) | exact HB.out)⟩
mutual
def voluteref04_Put.j0 : Nat → Int → Int → Bool → Int → Int → List (S88) → Option (Int × Int × (List (S88)) × Bool × Int)
  | 0, _, _, _, _, _, _ => none
  | k + 1, x1, x2, x21, x445000, x445001, x445002 => if x21 = true then (some (0, 0, ([] : List (S88)), false, 1)) else ((volutekeep_TwinPile.f x445000 x445001 x445002).bind fun bt446 => (if x1 ≥ (wrap64 (x445000 * x445001)) then (some (bt446.1, bt446.2.1, bt446.2.2, false, 0)) else (voluteref04_Put.l0 k x1 x2 0 bt446.1 bt446.2.1 bt446.2.2)))
def voluteref04_Put.l0 : Nat → Int → Int → Int → Int → Int → List (S88) → Option (Int × Int × (List (S88)) × Bool × Int)
  | 0, _, _, _, _, _, _ => none
  | k + 1, x1, x2, x10, x452000, x452001, x452002 => if x10 < (x452002.length : Int) then (if 0 ≤ x10 then (if ((rd_T88 x452002 x10).f0) < x1 then (voluteref04_Put.l0 k x1 x2 (wrap64 (x10 + 1)) x452000 x452001 x452002) else (if ((rd_T88 x452002 x10).f0) = x1 then (some (x452000, x452001, x452002, false, 0)) else (if x10 ≤ (x452002.length : Int) then ((some (x452002.take (x10 : Int).toNat : List (S88))).bind fun y454 => (if ([] : List (S88)).length + y454.length < 8796093022208 then ((some (([] : List (S88)) ++ y454 : List (S88))).bind fun y458 => (if y458.length < 8796093022208 then ((some (y458 ++ [(⟨x1, x2⟩ : S88)] : List (S88))).bind fun y461 => ((some (x452002.drop (x10 : Int).toNat : List (S88))).bind fun y464 => (if y461.length + y464.length < 8796093022208 then (some (x452000, x452001, (y461 ++ y464), true, 0)) else (none)))) else (none))) else (none))) else (none)))) else (none)) else (if 0 ≤ x10 then (if x10 ≤ (x452002.length : Int) then ((some (x452002.take (x10 : Int).toNat : List (S88))).bind fun y471 => (if ([] : List (S88)).length + y471.length < 8796093022208 then ((some (([] : List (S88)) ++ y471 : List (S88))).bind fun y475 => (if y475.length < 8796093022208 then ((some (y475 ++ [(⟨x1, x2⟩ : S88)] : List (S88))).bind fun y478 => ((some (x452002.drop (x10 : Int).toNat : List (S88))).bind fun y481 => (if y478.length + y481.length < 8796093022208 then (some (x452000, x452001, (y478 ++ y481), true, 0)) else (none)))) else (none))) else (none))) else (none)) else (none))
end
def voluteref04_Put.f (k : Nat) (a0_0 : Int) (a0_1 : Int) (l0_2 : List (S88)) (a1 : Int) (a2 : Int) : Option (Int × Int × (List (S88)) × Bool × Int) := if a1 < 0 then (voluteref04_Put.j0 k a1 a2 true a0_0 a0_1 l0_2) else (if a2 < 0 then (voluteref04_Put.j0 k a1 a2 true a0_0 a0_1 l0_2) else (voluteref04_Put.j0 k a1 a2 (decide (a2 > 255)) a0_0 a0_1 l0_2))
set_option maxHeartbeats 8000000 in
set_option maxRecDepth 100000 in
theorem voluteref04_Put.calls (k : Nat) (a0_0 : Int) (a0_1 : Int) (A0_2 : Option Addr) (c0_2 : Nat) (l0_2 : List (S88)) (a1 : Int) (a2 : Int) (r1 : Int) (r2 : Int) (r3 : List (S88)) (r4 : Bool) (r5 : Int) (w : World) (hr0_2 : Kd.C k88 w A0_2 l0_2.length l0_2) (hc0_2 : l0_2.length ≤ c0_2) (h : voluteref04_Put.f k a0_0 a0_1 l0_2 a1 a2 = some (r1, r2, r3, r4, r5)) :
    Calls Try.prog 44 #[.agg #[.int .i64 a0_0, .int .i64 a0_1, .slice A0_2 l0_2.length c0_2], .int .i64 a1, .int .i64 a2] w fun e w' => ∃ v2_ : Value, e = .returned (.tuple #[.agg #[.int .i64 r1, .int .i64 r2, v2_], .bool r4, .int .i64 r5]) ∧ Kd.R k88 88 w' w.heap.size (fun _ => True) v2_ r3 ∧ Below w.heap.size w w' := by
  have hu67 := Try.underlying67
  have hu88 := Try.underlying88
  have HR0_2 := Aside0.mk hr0_2
  have HC0_2 := Aside0.mk hc0_2
  clear hr0_2 hc0_2
  have HB := Aside0.mk (Below.refl w.heap.size w)
  have H : (if a1 < 0 then (voluteref04_Put.j0 k a1 a2 true a0_0 a0_1 l0_2) else (if a2 < 0 then (voluteref04_Put.j0 k a1 a2 true a0_0 a0_1 l0_2) else (voluteref04_Put.j0 k a1 a2 (decide (a2 > 255)) a0_0 a0_1 l0_2))) = some (r1, r2, r3, r4, r5) := h
  clear h
  have HC4 := Aside0.mk H
  clear H
  go_enter Try.func44, Try.ntmps44
  go_upto_region 1 with (first | ((with_reducible refine gate_dst (N := 3) rfl ?_); refine box_event ?hg (N := 3) ?hd (cs := #[.int .i64 a0_0, .int .i64 a0_1, .slice A0_2 l0_2.length c0_2]) (t := 67) ?hr ?_; (case hd => rfl); (case hg => rfl); (case hr => first | (go_simp; done) | (go_simp; rfl)); intro gb444 hg w5 hbox hb; have BK444 := Aside0.mk (hbox); have GW444 := zg HB hg; have GE444 := zg HB hg; replace HB := zs HB hb; clear hb hbox hg) | ((with_reducible refine gate_dst (N := 6) rfl ?_); refine box_event ?hg (N := 6) ?hd (cs := #[.int .i64 0, .int .i64 0, .slice none 0 0]) (t := 67) ?hr ?_; (case hd => rfl); (case hg => rfl); (case hr => first | (go_simp; done) | (go_simp; rfl)); intro gb445 hg w6 hbox hb; have BK445 := Aside0.mk (hbox); have GW445 := zg HB hg; have GE445 := zg HB hg; replace HB := zs HB hb; have NB444_445 := zl BK444 hg; have NB445_444 := zr BK444 hg; replace BK444 := zb BK444 hb; clear hb hbox hg))
  (try simp only [Act.put, List.setIfInBounds_toArray, List.set_cons_zero, List.set_cons_succ])
  go_cut [21] (fun v21 wc => ∃ (kq : Nat) (x21_3 : Bool), v21 = .bool x21_3 ∧ Aside0 (voluteref04_Put.j0 kq a1 a2 x21_3 a0_0 a0_1 l0_2 = some (r1, r2, r3, r4, r5)) ∧ Aside0 (kq ≤ k) ∧ Aside0 (wc.heap[gb444]? = some (.cells #[.int .i64 a0_0, .int .i64 a0_1, (.slice A0_2 l0_2.length c0_2)] 67 (0, 0))) ∧ Aside0 (wc.heap[gb445]? = some (.cells #[.int .i64 0, .int .i64 0, (.slice none 0 0)] 67 (0, 0))) ∧ Aside0 (Below w.heap.size w wc))
  case first =>
    have H := HC4.out
    clear HC4
    by_cases c7 : a1 < 0
    · rw [if_pos c7] at H
      have c7b0 : decide (a1 < 0) = true := decide_eq_true c7
      clear c7
      (first | rw [c7b0] | (simp only [i64_w, i32_w]; rw [c7b0]) | skip)
      have H' := Aside0.mk H
      clear H
      go_wp2
      go_meet
      case rel => exact ⟨_, (true), (by first | rfl | (simp; done) | (simp [*]; done)), H', ⟨by first | omega | exact Nat.le_refl _⟩, ⟨by (with_reducible repeat (first | refine blk_drewN ?_ _ | refine blk_drew ?_ | refine blk_alloc ?_ _)); exact BK444.out⟩, ⟨by (with_reducible repeat (first | refine blk_drewN ?_ _ | refine blk_drew ?_ | refine blk_alloc ?_ _)); exact BK445.out⟩, ⟨by repeat (first | (with_reducible first | exact HB.out | apply below_alloc | apply pw_below_drewN | apply below_drew1 | refine below_set ?_ GE444.out | refine below_set ?_ GE445.out) | exact HB.out)⟩⟩
    · rw [if_neg c7] at H
      have c7b0 : decide (a1 < 0) = false := decide_eq_false c7
      clear c7
      (first | rw [c7b0] | (simp only [i64_w, i32_w]; rw [c7b0]) | skip)
      by_cases c8 : a2 < 0
      · rw [if_pos c8] at H
        have c8b0 : decide (a2 < 0) = true := decide_eq_true c8
        clear c8
        have H' := Aside0.mk H
        clear H
        go_wp2
        go_meet
        case rel => exact ⟨_, (true), (by first | rfl | (simp; done) | (simp [*]; done)), H', ⟨by first | omega | exact Nat.le_refl _⟩, ⟨by (with_reducible repeat (first | refine blk_drewN ?_ _ | refine blk_drew ?_ | refine blk_alloc ?_ _)); exact BK444.out⟩, ⟨by (with_reducible repeat (first | refine blk_drewN ?_ _ | refine blk_drew ?_ | refine blk_alloc ?_ _)); exact BK445.out⟩, ⟨by repeat (first | (with_reducible first | exact HB.out | apply below_alloc | apply pw_below_drewN | apply below_drew1 | refine below_set ?_ GE444.out | refine below_set ?_ GE445.out) | exact HB.out)⟩⟩
      · rw [if_neg c8] at H
        have c8b0 : decide (a2 < 0) = false := decide_eq_false c8
        clear c8
        have H' := Aside0.mk H
        clear H
        go_wp2
        go_meet
        case rel => exact ⟨_, (decide (a2 > 255)), (by first | rfl | (simp; done) | (simp [*]; done)), H', ⟨by first | omega | exact Nat.le_refl _⟩, ⟨by (with_reducible repeat (first | refine blk_drewN ?_ _ | refine blk_drew ?_ | refine blk_alloc ?_ _)); exact BK444.out⟩, ⟨by (with_reducible repeat (first | refine blk_drewN ?_ _ | refine blk_drew ?_ | refine blk_alloc ?_ _)); exact BK445.out⟩, ⟨by repeat (first | (with_reducible first | exact HB.out | apply below_alloc | apply pw_below_drewN | apply below_drew1 | refine below_set ?_ GE444.out | refine below_set ?_ GE445.out) | exact HB.out)⟩⟩
  case rest =>
    clear HC4
    try clear p2
    try clear c4
    try clear c7
    try clear c7b0
    try clear c8
    try clear c8b0
    obtain ⟨kq, x21_3, rfl, HA, HJ3, BK444, BK445, HB⟩ := hcut
    cases kq with
    | zero => exact absurd HA.out (by simp [voluteref04_Put.j0])
    | succ kj3 =>
      have H := HA.out
      clear HA
      simp only [voluteref04_Put.j0] at H
      by_cases c9 : x21_3 = true
      · subst c9
        have H1 : (some (0, 0, ([] : List (S88)), false, 1)) = some (r1, r2, r3, r4, r5) := by rw [if_pos rfl] at H; exact H
        clear H
        have H := H1
        clear H1
        simp only [Option.some.injEq, Prod.mk.injEq] at H
        obtain ⟨rfl, rfl, rfl, rfl, rfl⟩ := H
        have hnb10 := NB445_444.out
        have hnc10 := NB444_445.out
        obtain ⟨hcz11_0, hcz11_1, hcz11_2⟩ := zC3 BK445
        obtain ⟨hfz11_0, hfz11_1, hfz11_2⟩ := zF3 BK445
        go_wp2
        refine bodyPost_ret (results_ctt rfl _ _ gb445 67 #[.int .i64 0, .int .i64 0, .slice none 0 0] (0, 0) _ rfl (by (with_reducible repeat (first | refine blk_drewN ?_ _ | refine blk_drew ?_ | refine blk_alloc ?_ _)); refine blk_put (cs := #[.int .i64 0, .int .i64 0, .slice none 0 0]) ?_ 2 _ rfl; (with_reducible repeat (first | refine blk_drewN ?_ _ | refine blk_drew ?_ | refine blk_alloc ?_ _)); refine blk_put (cs := #[.int .i64 0, .int .i64 0, .slice none 0 0]) ?_ 1 _ rfl; (with_reducible repeat (first | refine blk_drewN ?_ _ | refine blk_drew ?_ | refine blk_alloc ?_ _)); refine blk_put (cs := #[.int .i64 0, .int .i64 0, .slice none 0 0]) ?_ 0 _ rfl; (with_reducible repeat (first | refine blk_drewN ?_ _ | refine blk_drew ?_ | refine blk_alloc ?_ _)); exact BK445.out) Try.underlying67 rfl (by kernel_rfl)) rfl ?_
        exact ⟨_, by first | rfl | (simp [errW_none, errW_some] <;> rfl) | (simp [*, errW_none, errW_some] <;> rfl), by first | exact Kd.R_nil _ _ _ _ _ | exact Kd.N_nil _ _ _ _ _ | exact Kd.V_nil _ _ _ _ _ | exact Kd.Q_nil _ _ _ _ _ | exact Kd.S_nil _ _ _ _ _, by repeat (first | (with_reducible first | exact HB.out | apply below_alloc | apply pw_below_drewN | apply below_drew1 | refine below_set ?_ GE444.out | refine below_set ?_ GE445.out) | exact HB.out)⟩
      · replace c9 := Bool.eq_false_iff.mpr c9
        subst c9
        have H1 : ((volutekeep_TwinPile.f a0_0 a0_1 l0_2).bind fun bt446 => (if a1 ≥ (wrap64 (a0_0 * a0_1)) then (some (bt446.1, bt446.2.1, bt446.2.2, false, 0)) else (voluteref04_Put.l0 kj3 a1 a2 0 bt446.1 bt446.2.1 bt446.2.2))) = some (r1, r2, r3, r4, r5) := by rw [if_neg (show ¬ (false = true) by decide)] at H; exact H
        clear H
        have H := H1
        clear H1
        replace H := Option.bind_eq_some_iff.mp H
        obtain ⟨⟨t446, t447, t448⟩, A120, H⟩ := H
        replace H : (if a1 ≥ (wrap64 (a0_0 * a0_1)) then (some (t446, t447, t448, false, 0)) else (voluteref04_Put.l0 kj3 a1 a2 0 t446 t447 t448)) = some (r1, r2, r3, r4, r5) := H
        have A12 := Aside0.mk A120
        clear A120
        by_cases c13 : a1 ≥ (wrap64 (a0_0 * a0_1))
        · rw [if_pos c13] at H
          have c13b0 : decide ((wrap64 (a0_0 * a0_1)) ≤ a1) = true := decide_eq_true c13
          clear c13
          simp only [Option.some.injEq, Prod.mk.injEq] at H
          obtain ⟨rfl, rfl, rfl, rfl, rfl⟩ := H
          have hnb14 := NB444_445.out
          have hnc14 := NB445_444.out
          obtain ⟨hcz15_0, hcz15_1, hcz15_2⟩ := zC3 BK444
          obtain ⟨hfz15_0, hfz15_1, hfz15_2⟩ := zF3 BK444
          go_wp2_with (first | ((with_reducible refine gate_callee (f := 40) rfl ?_); refine goesL_ (some 24) rfl rfl Try.func40 (by kernel_rfl) rfl #[.agg #[.int .i64 a0_0, .int .i64 a0_1, .slice A0_2 l0_2.length c0_2]] rfl (by (try simp only [List.map_toArray, List.map_cons, List.map_nil]); first | done | rfl | (simp only [List.length_drop, List.length_take]; rfl)) ?_; (with_reducible refine (volutekeep_TwinPile.calls a0_0 a0_1 _ _ l0_2 t446 t447 t448 _ ?side1 ?side2 A12.out).mono ?_); (case side1 => repeat (first | exact (Kd.C_below HR0_2.out HB.out) | (with_reducible refine Kd.C_alloc ?_ _) | (with_reducible refine Kd.C_drewN ?_ _) | (with_reducible refine Kd.C_drew ?_))); (case side2 => exact HC0_2.out); rintro e w16 ⟨v449, rfl, ho0, hb⟩; refine ⟨_, rfl, ?_⟩; have HO450 := Aside0.mk (Kd.R_lower ho0 (below_size (zB HB))); replace BK444 := zb BK444 hb; replace BK445 := zb BK445 hb; replace HB := zs HB hb; (try clear hb); (try clear hb2); (try clear hk); (try clear hi); (try clear ho0)) | ((with_reducible refine gate_dst (N := 9) rfl ?_); refine box_event ?hg (N := 9) ?hd (cs := #[.int .i64 0, .int .i64 0, .slice none 0 0]) (t := 67) ?hr ?_; (case hd => rfl); (case hg => rfl); (case hr => first | (go_simp; done) | (go_simp; rfl)); intro gb451 hg w17 hbox hb; replace HO450 := zR HO450 hb; have BK451 := Aside0.mk (hbox); have GW451 := zg HB hg; have GE451 := zg HB hg; replace HB := zs HB hb; have NB444_451 := zl BK444 hg; have NB451_444 := zr BK444 hg; replace BK444 := zb BK444 hb; have NB445_451 := zl BK445 hg; have NB451_445 := zr BK445 hg; replace BK445 := zb BK445 hb; clear hb hbox hg; have hnb18 := NB451_444.out; have hnc18 := NB444_451.out; have hnb19 := NB451_445.out; have hnc19 := NB445_451.out; obtain ⟨hcz20_0, hcz20_1, hcz20_2⟩ := zC3 BK451; obtain ⟨hfz20_0, hfz20_1, hfz20_2⟩ := zF3 BK451; obtain ⟨Ao21, co21, eo21⟩ := Kd.R_slice HO450.out; subst eo21; obtain ⟨hcz22_0, hcz22_1, hcz22_2⟩ := zC3 BK444; obtain ⟨hfz22_0, hfz22_1, hfz22_2⟩ := zF3 BK444; obtain ⟨hcz23_0, hcz23_1, hcz23_2⟩ := zC3 BK445; obtain ⟨hfz23_0, hfz23_1⟩ := zF2 BK445; have hfz23_2 := blk_frozen BK445.out 2))
          refine bodyPost_ret (results_ctt rfl _ _ gb445 67 #[.int .i64 t446, .int .i64 t447, .slice Ao21 t448.length co21] (0, 0) _ rfl (by (with_reducible repeat (first | refine blk_drewN ?_ _ | refine blk_drew ?_ | refine blk_alloc ?_ _)); refine blk_put (cs := #[.int .i64 t446, .int .i64 t447, .slice none 0 0]) ?_ 2 _ rfl; (with_reducible repeat (first | refine blk_drewN ?_ _ | refine blk_drew ?_ | refine blk_alloc ?_ _)); refine blk_put (cs := #[.int .i64 t446, .int .i64 0, .slice none 0 0]) ?_ 1 _ rfl; (with_reducible repeat (first | refine blk_drewN ?_ _ | refine blk_drew ?_ | refine blk_alloc ?_ _)); refine blk_put (cs := #[.int .i64 0, .int .i64 0, .slice none 0 0]) ?_ 0 _ rfl; (with_reducible repeat (first | refine blk_drewN ?_ _ | refine blk_drew ?_ | refine blk_alloc ?_ _)); refine blk_far ?_ NB445_451.out _; (with_reducible repeat (first | refine blk_drewN ?_ _ | refine blk_drew ?_ | refine blk_alloc ?_ _)); refine blk_far ?_ NB445_451.out _; (with_reducible repeat (first | refine blk_drewN ?_ _ | refine blk_drew ?_ | refine blk_alloc ?_ _)); refine blk_far ?_ NB445_451.out _; (with_reducible repeat (first | refine blk_drewN ?_ _ | refine blk_drew ?_ | refine blk_alloc ?_ _)); exact BK445.out) Try.underlying67 rfl (by kernel_rfl)) rfl ?_
          exact ⟨_, by first | rfl | (simp [errW_none, errW_some] <;> rfl) | (simp [*, errW_none, errW_some] <;> rfl), by (with_reducible repeat (first | apply Kd.R_alloc | apply Kd.R_drewN | apply Kd.R_drew)); exact Kd.R_mono (Kd.R_far (p := ⟨gb445, 2, none⟩) (Kd.R_far (p := ⟨gb445, 1, none⟩) (Kd.R_far (p := ⟨gb445, 0, none⟩) (Kd.R_far (p := ⟨gb451, 2, none⟩) (Kd.R_far (p := ⟨gb451, 1, none⟩) (Kd.R_far (p := ⟨gb451, 0, none⟩) (Kd.R_types (Kd.R_types HO450.out BK451.out (by decide)) BK445.out (by decide)) (fun _ hk => hk.1.2) (.int .i64 t446)) (fun _ hk => hk.1.2) (.int .i64 t447)) (fun _ hk => hk.1.2) (.slice Ao21 t448.length co21)) (fun _ hk => hk.2) (.int .i64 t446)) (fun _ hk => hk.2) (.int .i64 t447)) (fun _ hk => hk.2) (.slice Ao21 t448.length co21)) (fun _ hk => trivial), by repeat (first | (with_reducible first | exact HB.out | apply below_alloc | apply pw_below_drewN | apply below_drew1 | refine below_set ?_ GE444.out | refine below_set ?_ GE445.out | refine below_set ?_ GE451.out) | exact HB.out)⟩
        · rw [if_neg c13] at H
          have c13b0 : decide ((wrap64 (a0_0 * a0_1)) ≤ a1) = false := decide_eq_false c13
          clear c13
          have H' := Aside0.mk H
          clear H
          have hnb24 := NB444_445.out
          have hnc24 := NB445_444.out
          obtain ⟨hcz25_0, hcz25_1, hcz25_2⟩ := zC3 BK444
          obtain ⟨hfz25_0, hfz25_1, hfz25_2⟩ := zF3 BK444
          go_wp2_with (first | ((with_reducible refine gate_callee (f := 40) rfl ?_); refine goesL_ (some 24) rfl rfl Try.func40 (by kernel_rfl) rfl #[.agg #[.int .i64 a0_0, .int .i64 a0_1, .slice A0_2 l0_2.length c0_2]] rfl (by (try simp only [List.map_toArray, List.map_cons, List.map_nil]); first | done | rfl | (simp only [List.length_drop, List.length_take]; rfl)) ?_; (with_reducible refine (volutekeep_TwinPile.calls a0_0 a0_1 _ _ l0_2 t446 t447 t448 _ ?side1 ?side2 A12.out).mono ?_); (case side1 => repeat (first | exact (Kd.C_below HR0_2.out HB.out) | (with_reducible refine Kd.C_alloc ?_ _) | (with_reducible refine Kd.C_drewN ?_ _) | (with_reducible refine Kd.C_drew ?_))); (case side2 => exact HC0_2.out); rintro e w26 ⟨v449, rfl, ho0, hb⟩; refine ⟨_, rfl, ?_⟩; have HO450 := Aside0.mk (Kd.R_lower ho0 (below_size (zB HB))); replace BK444 := zb BK444 hb; replace BK445 := zb BK445 hb; replace HB := zs HB hb; (try clear hb); (try clear hb2); (try clear hk); (try clear hi); (try clear ho0)) | ((with_reducible refine gate_dst (N := 9) rfl ?_); refine box_event ?hg (N := 9) ?hd (cs := #[.int .i64 0, .int .i64 0, .slice none 0 0]) (t := 67) ?hr ?_; (case hd => rfl); (case hg => rfl); (case hr => first | (go_simp; done) | (go_simp; rfl)); intro gb451 hg w27 hbox hb; replace HO450 := zR HO450 hb; have BK451 := Aside0.mk (hbox); have GW451 := zg HB hg; have GE451 := zg HB hg; replace HB := zs HB hb; have NB444_451 := zl BK444 hg; have NB451_444 := zr BK444 hg; replace BK444 := zb BK444 hb; have NB445_451 := zl BK445 hg; have NB451_445 := zr BK445 hg; replace BK445 := zb BK445 hb; clear hb hbox hg; have hnb28 := NB451_444.out; have hnc28 := NB444_451.out; have hnb29 := NB451_445.out; have hnc29 := NB445_451.out; obtain ⟨hcz30_0, hcz30_1, hcz30_2⟩ := zC3 BK451; obtain ⟨hfz30_0, hfz30_1, hfz30_2⟩ := zF3 BK451; obtain ⟨Ao31, co31, eo31⟩ := Kd.R_slice HO450.out; subst eo31; obtain ⟨hcz32_0, hcz32_1, hcz32_2⟩ := zC3 BK444; obtain ⟨hfz32_0, hfz32_1⟩ := zF2 BK444; have hfz32_2 := blk_frozen BK444.out 2))
          go_loopg [10] kj3 (fun kq v10 w' => ∃ (x10_2 : Int), v10 = .int .i64 x10_2 ∧ Aside0 (voluteref04_Put.l0 kq a1 a2 x10_2 t446 t447 t448 = some (r1, r2, r3, r4, r5)) ∧ Aside0 (kq ≤ kj3) ∧ Aside0 (Kd.R k88 88 w' w.heap.size (fun _ => True) (.slice Ao31 t448.length co31) t448) ∧ Aside0 (w'.heap[gb444]? = some (.cells #[.int .i64 a0_0, .int .i64 a0_1, (.slice A0_2 l0_2.length c0_2)] 67 (0, 0))) ∧ Aside0 (w'.heap[gb445]? = some (.cells #[.int .i64 0, .int .i64 0, (.slice none 0 0)] 67 (0, 0))) ∧ Aside0 (w'.heap[gb451]? = some (.cells #[.int .i64 t446, .int .i64 t447, (.slice Ao31 t448.length co31)] 67 (0, 0))) ∧ Aside0 (Below w.heap.size w w'))
          case atStart => exact ⟨(0), (by first | rfl | (simp; done) | (simp [*]; done)), H', ⟨Nat.le_refl _⟩, ⟨by (with_reducible repeat (first | apply Kd.R_alloc | apply Kd.R_drewN | apply Kd.R_drew)); exact Kd.R_mono (Kd.R_far (p := ⟨gb451, 2, none⟩) (Kd.R_far (p := ⟨gb451, 1, none⟩) (Kd.R_far (p := ⟨gb451, 0, none⟩) (Kd.R_types HO450.out BK451.out (by decide)) (fun _ hk => hk.2) (.int .i64 t446)) (fun _ hk => hk.2) (.int .i64 t447)) (fun _ hk => hk.2) (.slice Ao31 t448.length co31)) (fun _ hk => trivial)⟩, ⟨by (with_reducible repeat (first | refine blk_drewN ?_ _ | refine blk_drew ?_ | refine blk_alloc ?_ _)); refine blk_far ?_ NB444_451.out _; (with_reducible repeat (first | refine blk_drewN ?_ _ | refine blk_drew ?_ | refine blk_alloc ?_ _)); refine blk_far ?_ NB444_451.out _; (with_reducible repeat (first | refine blk_drewN ?_ _ | refine blk_drew ?_ | refine blk_alloc ?_ _)); refine blk_far ?_ NB444_451.out _; (with_reducible repeat (first | refine blk_drewN ?_ _ | refine blk_drew ?_ | refine blk_alloc ?_ _)); exact BK444.out⟩, ⟨by (with_reducible repeat (first | refine blk_drewN ?_ _ | refine blk_drew ?_ | refine blk_alloc ?_ _)); refine blk_far ?_ NB445_451.out _; (with_reducible repeat (first | refine blk_drewN ?_ _ | refine blk_drew ?_ | refine blk_alloc ?_ _)); refine blk_far ?_ NB445_451.out _; (with_reducible repeat (first | refine blk_drewN ?_ _ | refine blk_drew ?_ | refine blk_alloc ?_ _)); refine blk_far ?_ NB445_451.out _; (with_reducible repeat (first | refine blk_drewN ?_ _ | refine blk_drew ?_ | refine blk_alloc ?_ _)); exact BK445.out⟩, ⟨by (with_reducible repeat (first | refine blk_drewN ?_ _ | refine blk_drew ?_ | refine blk_alloc ?_ _)); refine blk_put (cs := #[.int .i64 t446, .int .i64 t447, .slice none 0 0]) ?_ 2 _ rfl; (with_reducible repeat (first | refine blk_drewN ?_ _ | refine blk_drew ?_ | refine blk_alloc ?_ _)); refine blk_put (cs := #[.int .i64 t446, .int .i64 0, .slice none 0 0]) ?_ 1 _ rfl; (with_reducible repeat (first | refine blk_drewN ?_ _ | refine blk_drew ?_ | refine blk_alloc ?_ _)); refine blk_put (cs := #[.int .i64 0, .int .i64 0, .slice none 0 0]) ?_ 0 _ rfl; (with_reducible repeat (first | refine blk_drewN ?_ _ | refine blk_drew ?_ | refine blk_alloc ?_ _)); exact BK451.out⟩, ⟨by repeat (first | (with_reducible first | exact HB.out | apply below_alloc | apply pw_below_drewN | apply below_drew1 | refine below_set ?_ GE444.out | refine below_set ?_ GE445.out | refine below_set ?_ GE451.out) | exact HB.out)⟩⟩
          case round =>
            clear H'
            try clear c1
            try clear c2
            try clear p2
            try clear c4
            try clear p6
            try clear c7
            try clear c7b0
            try clear c8
            try clear c8b0
            try clear c9
            try clear c10
            try clear c13
            try clear c13b0
            try clear c14
            try clear c18
            try clear c19
            try clear c24
            try clear c28
            try clear c29
            try clear hcz11_0
            try clear hcz11_1
            try clear hcz11_2
            try clear hcz15_0
            try clear hcz15_1
            try clear hcz15_2
            try clear hcz20_0
            try clear hcz20_1
            try clear hcz20_2
            try clear hcz22_0
            try clear hcz22_1
            try clear hcz22_2
            try clear hcz23_0
            try clear hcz23_1
            try clear hcz23_2
            try clear hcz25_0
            try clear hcz25_1
            try clear hcz25_2
            try clear hcz30_0
            try clear hcz30_1
            try clear hcz30_2
            try clear hcz32_0
            try clear hcz32_1
            try clear hcz32_2
            try clear hfz11_0
            try clear hfz11_1
            try clear hfz11_2
            try clear hfz15_0
            try clear hfz15_1
            try clear hfz15_2
            try clear hfz20_0
            try clear hfz20_1
            try clear hfz20_2
            try clear hfz22_0
            try clear hfz22_1
            try clear hfz22_2
            try clear hfz23_0
            try clear hfz23_1
            try clear hfz23_2
            try clear hfz25_0
            try clear hfz25_1
            try clear hfz25_2
            try clear hfz30_0
            try clear hfz30_1
            try clear hfz30_2
            try clear hfz32_0
            try clear hfz32_1
            try clear hfz32_2
            try clear p2
            obtain ⟨x10_2, rfl, HA, HK2, HO_452002, BK444, BK445, BK451, HB⟩ := hrel
            cases gk with
            | zero => exact absurd HA.out (by simp [voluteref04_Put.l0])
            | succ k2 =>
              have H := HA.out
              clear HA
              simp only [voluteref04_Put.l0] at H
              by_cases c33 : x10_2 < (t448.length : Int)
              · rw [if_pos c33] at H
                have c33b0 : decide (x10_2 < (t448.length : Int)) = true := decide_eq_true c33
                clear c33
                by_cases c34 : 0 ≤ x10_2
                · rw [if_pos c34] at H
                  have c34b0 : decide (0 ≤ x10_2) = true := decide_eq_true c34
                  clear c34
                  by_cases c35 : ((rd_T88 t448 x10_2).f0) < a1
                  · rw [if_pos c35] at H
                    have c35b0 : decide (((rd_T88 t448 x10_2).f0) < a1) = true := decide_eq_true c35
                    clear c35
                    have H' := Aside0.mk H
                    clear H
                    have hnb36 := NB451_444.out
                    have hnc36 := NB444_451.out
                    have hnb37 := NB451_445.out
                    have hnc37 := NB445_451.out
                    obtain ⟨hcz38_0, hcz38_1, hcz38_2⟩ := zC3 BK451
                    obtain ⟨hfz38_0, hfz38_1, hfz38_2⟩ := zF3 BK451
                    have p452 : 0 ≤ (x10_2 : Int) := of_decide_eq_true (by first | (with_reducible assumption) | assumption)
                    have q452 : x10_2 < (t448.length : Int) := of_decide_eq_true (by first | (with_reducible assumption) | assumption)
                    obtain ⟨ad452, e452, hx452_0, hx452_1⟩ := at_T88 (Kd.R_reads' HO_452002.out).2.2 x10_2 p452 q452
                    cases e452
                    replace p452 := eq_true p452
                    replace q452 := eq_true q452
                    go_wp2
                    go_roundg k2
                    case measure => have := HJ3.out; have := HK2.out; omega
                    case rel => exact ⟨(wrap64 (x10_2 + 1)), (by first | rfl | (simp; done) | (simp [*]; done)), H', ⟨by have := HJ3.out; have := HK2.out; omega⟩, ⟨by (with_reducible repeat (first | apply Kd.R_alloc | apply Kd.R_drewN | apply Kd.R_drew)); exact HO_452002.out⟩, ⟨by (with_reducible repeat (first | refine blk_drewN ?_ _ | refine blk_drew ?_ | refine blk_alloc ?_ _)); exact BK444.out⟩, ⟨by (with_reducible repeat (first | refine blk_drewN ?_ _ | refine blk_drew ?_ | refine blk_alloc ?_ _)); exact BK445.out⟩, ⟨by (with_reducible repeat (first | refine blk_drewN ?_ _ | refine blk_drew ?_ | refine blk_alloc ?_ _)); exact BK451.out⟩, ⟨by repeat (first | (with_reducible first | exact HB.out | apply below_alloc | apply pw_below_drewN | apply below_drew1 | refine below_set ?_ GE444.out | refine below_set ?_ GE445.out | refine below_set ?_ GE451.out) | exact HB.out)⟩⟩
                  · rw [if_neg c35] at H
                    have c35b0 : decide (((rd_T88 t448 x10_2).f0) < a1) = false := decide_eq_false c35
                    clear c35
                    by_cases c39 : ((rd_T88 t448 x10_2).f0) = a1
                    · rw [if_pos c39] at H
                      have c39b0 : (((rd_T88 t448 x10_2).f0) == a1) = true := beq_iff_eq.mpr c39
                      have c39b1 : (((rd_T88 t448 x10_2).f0) != a1) = false := bne_eq_false_iff_eq.mpr c39
                      clear c39
                      simp only [Option.some.injEq, Prod.mk.injEq] at H
                      obtain ⟨rfl, rfl, rfl, rfl, rfl⟩ := H
                      have hnb40 := NB451_444.out
                      have hnc40 := NB444_451.out
                      have hnb41 := NB451_445.out
                      have hnc41 := NB445_451.out
                      obtain ⟨hcz42_0, hcz42_1, hcz42_2⟩ := zC3 BK451
                      obtain ⟨hfz42_0, hfz42_1, hfz42_2⟩ := zF3 BK451
                      have p452 : 0 ≤ (x10_2 : Int) := of_decide_eq_true (by first | (with_reducible assumption) | assumption)
                      have q452 : x10_2 < (t448.length : Int) := of_decide_eq_true (by first | (with_reducible assumption) | assumption)
                      obtain ⟨ad452, e452, hx452_0, hx452_1⟩ := at_T88 (Kd.R_reads' HO_452002.out).2.2 x10_2 p452 q452
                      cases e452
                      replace p452 := eq_true p452
                      replace q452 := eq_true q452
                      have p453 : 0 ≤ (x10_2 : Int) := of_decide_eq_true (by first | (with_reducible assumption) | assumption)
                      have q453 : x10_2 < (t448.length : Int) := of_decide_eq_true (by first | (with_reducible assumption) | assumption)
                      obtain ⟨ad453, e453, hx453_0, hx453_1⟩ := at_T88 (Kd.R_reads' HO_452002.out).2.2 x10_2 p453 q453
                      obtain rfl : ad452 = ad453 := (by injection e453)
                      replace p453 := eq_true p453
                      replace q453 := eq_true q453
                      have hnb43 := NB445_444.out
                      have hnc43 := NB444_445.out
                      obtain ⟨hcz44_0, hcz44_1, hcz44_2⟩ := zC3 BK445
                      obtain ⟨hfz44_0, hfz44_1, hfz44_2⟩ := zF3 BK445
                      go_wp2
                      refine bodyPost_ret (results_ctt rfl _ _ gb445 67 #[.int .i64 t446, .int .i64 t447, .slice (some ad452) t448.length co31] (0, 0) _ rfl (by (with_reducible repeat (first | refine blk_drewN ?_ _ | refine blk_drew ?_ | refine blk_alloc ?_ _)); refine blk_put (cs := #[.int .i64 t446, .int .i64 t447, .slice none 0 0]) ?_ 2 _ rfl; (with_reducible repeat (first | refine blk_drewN ?_ _ | refine blk_drew ?_ | refine blk_alloc ?_ _)); refine blk_put (cs := #[.int .i64 t446, .int .i64 0, .slice none 0 0]) ?_ 1 _ rfl; (with_reducible repeat (first | refine blk_drewN ?_ _ | refine blk_drew ?_ | refine blk_alloc ?_ _)); refine blk_put (cs := #[.int .i64 0, .int .i64 0, .slice none 0 0]) ?_ 0 _ rfl; (with_reducible repeat (first | refine blk_drewN ?_ _ | refine blk_drew ?_ | refine blk_alloc ?_ _)); exact BK445.out) Try.underlying67 rfl (by kernel_rfl)) rfl ?_
                      exact ⟨_, by first | rfl | (simp [errW_none, errW_some] <;> rfl) | (simp [*, errW_none, errW_some] <;> rfl), by (with_reducible repeat (first | apply Kd.R_alloc | apply Kd.R_drewN | apply Kd.R_drew)); exact Kd.R_mono (Kd.R_far (p := ⟨gb445, 2, none⟩) (Kd.R_far (p := ⟨gb445, 1, none⟩) (Kd.R_far (p := ⟨gb445, 0, none⟩) (Kd.R_types HO_452002.out BK445.out (by decide)) (fun _ hk => hk.2) (.int .i64 t446)) (fun _ hk => hk.2) (.int .i64 t447)) (fun _ hk => hk.2) (.slice (some ad452) t448.length co31)) (fun _ hk => trivial), by repeat (first | (with_reducible first | exact HB.out | apply below_alloc | apply pw_below_drewN | apply below_drew1 | refine below_set ?_ GE444.out | refine below_set ?_ GE445.out | refine below_set ?_ GE451.out) | exact HB.out)⟩
                    · rw [if_neg c39] at H
                      have c39b0 : (((rd_T88 t448 x10_2).f0) == a1) = false := beq_eq_false_iff_ne.mpr c39
                      have c39b1 : (((rd_T88 t448 x10_2).f0) != a1) = true := bne_iff_ne.mpr c39
                      have c45b0 := eq_true (of_decide_eq_true (by first | (with_reducible assumption) | assumption) : 0 ≤ x10_2)
                      by_cases c46 : x10_2 ≤ (t448.length : Int)
                      · rw [if_pos c46] at H
                        have c46b0 := eq_true c46
                        have c46b1 : decide (x10_2 ≤ (t448.length : Int)) = true := decide_eq_true c46
                        clear c46
                        obtain ⟨y454, hy454⟩ : ∃ y_ : List (S88), y_ = (t448.take (x10_2 : Int).toNat) := ⟨_, rfl⟩
                        replace H : (if ([] : List (S88)).length + y454.length < 8796093022208 then ((some (([] : List (S88)) ++ y454 : List (S88))).bind fun y458 => (if y458.length < 8796093022208 then ((some (y458 ++ [(⟨a1, a2⟩ : S88)] : List (S88))).bind fun y461 => ((some (t448.drop (x10_2 : Int).toNat : List (S88))).bind fun y464 => (if y461.length + y464.length < 8796093022208 then (some (t446, t447, (y461 ++ y464), true, 0)) else (none)))) else (none))) else (none)) = some (r1, r2, r3, r4, r5) := by first | (rw [hy454]; with_reducible exact H) | (have H2_ := (Option.bind_some _ _).symm.trans H; rw [hy454]; with_reducible exact H2_) | (have H2_ := (Option.bind_some _ _).symm.trans H; with_reducible exact H2_) | with_reducible exact H | (rw [hy454]; exact H) | exact H
                        have Ny454 := Aside0.mk hy454
                        clear hy454
                        by_cases c47 : ([] : List (S88)).length + y454.length < 8796093022208
                        · rw [if_pos c47] at H
                          have LMc47 := Aside0.mk c47
                          clear c47
                          obtain ⟨y458, hy458⟩ : ∃ y_ : List (S88), y_ = (([] : List (S88)) ++ y454) := ⟨_, rfl⟩
                          replace H : (if y458.length < 8796093022208 then ((some (y458 ++ [(⟨a1, a2⟩ : S88)] : List (S88))).bind fun y461 => ((some (t448.drop (x10_2 : Int).toNat : List (S88))).bind fun y464 => (if y461.length + y464.length < 8796093022208 then (some (t446, t447, (y461 ++ y464), true, 0)) else (none)))) else (none)) = some (r1, r2, r3, r4, r5) := by first | (rw [hy458]; with_reducible exact H) | (have H2_ := (Option.bind_some _ _).symm.trans H; rw [hy458]; with_reducible exact H2_) | (have H2_ := (Option.bind_some _ _).symm.trans H; with_reducible exact H2_) | with_reducible exact H | (rw [hy458]; exact H) | exact H
                          have Ny458 := Aside0.mk hy458
                          clear hy458
                          by_cases c48 : y458.length < 8796093022208
                          · rw [if_pos c48] at H
                            have LMc48 := Aside0.mk c48
                            clear c48
                            obtain ⟨y461, hy461⟩ : ∃ y_ : List (S88), y_ = (y458 ++ [(⟨a1, a2⟩ : S88)]) := ⟨_, rfl⟩
                            replace H : ((some (t448.drop (x10_2 : Int).toNat : List (S88))).bind fun y464 => (if y461.length + y464.length < 8796093022208 then (some (t446, t447, (y461 ++ y464), true, 0)) else (none))) = some (r1, r2, r3, r4, r5) := by first | (rw [hy461]; with_reducible exact H) | (have H2_ := (Option.bind_some _ _).symm.trans H; rw [hy461]; with_reducible exact H2_) | (have H2_ := (Option.bind_some _ _).symm.trans H; with_reducible exact H2_) | with_reducible exact H | (rw [hy461]; exact H) | exact H
                            have Ny461 := Aside0.mk hy461
                            clear hy461
                            have c49b0 := eq_true (of_decide_eq_true (by first | (with_reducible assumption) | assumption) : 0 ≤ x10_2)
                            have c50b0 := eq_true (of_decide_eq_true (by first | (with_reducible assumption) | assumption) : x10_2 ≤ (t448.length : Int))
                            obtain ⟨y464, hy464⟩ : ∃ y_ : List (S88), y_ = (t448.drop (x10_2 : Int).toNat) := ⟨_, rfl⟩
                            replace H : (if y461.length + y464.length < 8796093022208 then (some (t446, t447, (y461 ++ y464), true, 0)) else (none)) = some (r1, r2, r3, r4, r5) := by first | (rw [hy464]; with_reducible exact H) | (have H2_ := (Option.bind_some _ _).symm.trans H; rw [hy464]; with_reducible exact H2_) | (have H2_ := (Option.bind_some _ _).symm.trans H; with_reducible exact H2_) | with_reducible exact H | (rw [hy464]; exact H) | exact H
                            have Ny464 := Aside0.mk hy464
                            clear hy464
                            by_cases c51 : y461.length + y464.length < 8796093022208
                            · rw [if_pos c51] at H
                              have LMc51 := Aside0.mk c51
                              clear c51
                              obtain ⟨y468, hy468⟩ : ∃ y_ : List (S88), y_ = (y461 ++ y464) := ⟨_, rfl⟩
                              replace H : (some (t446, t447, y468, true, 0)) = some (r1, r2, r3, r4, r5) := by first | (rw [hy468]; with_reducible exact H) | (have H2_ := (Option.bind_some _ _).symm.trans H; rw [hy468]; with_reducible exact H2_) | (have H2_ := (Option.bind_some _ _).symm.trans H; with_reducible exact H2_) | with_reducible exact H | (rw [hy468]; exact H) | exact H
                              have Ny468 := Aside0.mk hy468
                              clear hy468
                              simp only [Option.some.injEq, Prod.mk.injEq] at H
                              obtain ⟨rfl, rfl, rfl, rfl, rfl⟩ := H
                              have hnb52 := NB451_444.out
                              have hnc52 := NB444_451.out
                              have hnb53 := NB451_445.out
                              have hnc53 := NB445_451.out
                              obtain ⟨hcz54_0, hcz54_1, hcz54_2⟩ := zC3 BK451
                              obtain ⟨hfz54_0, hfz54_1, hfz54_2⟩ := zF3 BK451
                              have p452 : 0 ≤ (x10_2 : Int) := of_decide_eq_true (by first | (with_reducible assumption) | assumption)
                              have q452 : x10_2 < (t448.length : Int) := of_decide_eq_true (by first | (with_reducible assumption) | assumption)
                              obtain ⟨ad452, e452, hx452_0, hx452_1⟩ := at_T88 (Kd.R_reads' HO_452002.out).2.2 x10_2 p452 q452
                              cases e452
                              replace p452 := eq_true p452
                              replace q452 := eq_true q452
                              have p453 : 0 ≤ (x10_2 : Int) := of_decide_eq_true (by first | (with_reducible assumption) | assumption)
                              have q453 : x10_2 < (t448.length : Int) := of_decide_eq_true (by first | (with_reducible assumption) | assumption)
                              obtain ⟨ad453, e453, hx453_0, hx453_1⟩ := at_T88 (Kd.R_reads' HO_452002.out).2.2 x10_2 p453 q453
                              obtain rfl : ad452 = ad453 := (by injection e453)
                              replace p453 := eq_true p453
                              replace q453 := eq_true q453
                              have q55 : (x10_2 : Int) ≤ ((t448.length : Int) : Int) := of_decide_eq_true (by first | (with_reducible assumption) | assumption)
                              obtain ⟨i055, hi055, _, hsz55, _⟩ := info_parts info88
                              have hroom55 : t448.length ≤ co31 := (Kd.R_reads' HO_452002.out).2.1
                              have hC55 : Kd.C k88 _ (some ad452) t448.length t448 := (Kd.R_reads' HO_452002.out).2.2
                              have hcut55 := cut_to (P := Try.prog) 65 88 .i64 Try.underlying65 hi055 (some ad452) t448.length co31 x10_2 (of_decide_eq_true (by first | (with_reducible assumption) | assumption)) q55 hroom55
                              have hr55 := Kd.C_take (m := (x10_2 : Int).toNat) hC55 (by omega)
                              have hy55 : y454.length = (x10_2 : Int).toNat := (by rw [Ny454.out, List.length_take]; omega)
                              rw [← Ny454.out] at hr55
                              rw [← hy55] at hcut55
                              have HR457 := Aside0.mk hr55
                              have HC457 := Aside0.mk (show y454.length ≤ co31 from by omega)
                              clear hr55 hC55 hroom55 hi055 hsz55
                              have KY55 := Aside0.mk hy55
                              clear hy55
                              have KL55 := Aside0.mk (show (x10_2 : Int).toNat ≤ t448.length from by omega)
                              replace q55 := eq_true q55
                              go_wp2_with (first | ((with_reducible refine gate_builtin (b := .append) (xs := #[.tmp 66, .tmp 70]) rfl ?_); at_builtin; refine Kd.R_append_rows k88 (w0 := w) w.heap.size rfl (.tmp 66) (.tmp 70) 65 88 (.agg #[(.int .i64 0), (.int .i64 0)]) 16 rfl Try.underlying65 info88 rfl (by decide) (by omega) (.slice none 0 0) ([] : List (S88)) y454 _ _ _ (fun k_ => some k_ ≠ (.slice (some ad452) t448.length co31 : Value).ownBlock) (fun _ => False) rfl rfl ?aO ?aR (fun _ _ h => h) (fun _ h => h.elim) ?aF ?aB ?aS ?aL ?_; (case aR => repeat (first | exact (by repeat (first | (with_reducible exact HR457.out) | (with_reducible refine Kd.C_alloc ?_ _) | (with_reducible refine Kd.C_drewN ?_ _) | (with_reducible refine Kd.C_drew ?_) | exact HR457.out)) | (with_reducible refine Kd.C_alloc ?_ _) | (with_reducible refine Kd.C_drewN ?_ _) | (with_reducible refine Kd.C_drew ?_))); (case aB => exact (zB HB)); (case aF => exact (fun k_ hk => Kd.fresh' (Kd.R_lt (zr_ HO_452002)) k_ hk)); (case aO => exact ((Kd.R_nil _ _ _ _ (fun k_ => some k_ ≠ (.slice (some ad452) t448.length co31 : Value).ownBlock)))); (case aS => exact (below_size (zB HB))); (case aL => have := LMc47.out; omega); intro v459 w56 ho hb hg hat; rw [← Ny458.out] at ho; have n0_ := Aside0.mk (Kd.R_after (Kd.R_apart_nil (zr_ HO_452002)) hg hat); have n1_ := Aside0.mk (blk_grown (g := gb444) (o := .cells #[.int .i64 a0_0, .int .i64 a0_1, .slice A0_2 l0_2.length c0_2] 67 (0, 0)) (zk BK444) hg (by simp [Value.ownBlock])); have n2_ := Aside0.mk (blk_grown (g := gb445) (o := .cells #[.int .i64 0, .int .i64 0, .slice none 0 0] 67 (0, 0)) (zk BK445) hg (by simp [Value.ownBlock])); have n3_ := Aside0.mk (blk_grown (g := gb451) (o := .cells #[.int .i64 t446, .int .i64 t447, .slice (some ad452) t448.length co31] 67 (0, 0)) (zk BK451) hg (by simp [Value.ownBlock])); have n4_ := Aside0.mk (hb); have n5_ := Aside0.mk ((show Kd.C k88 w56 (some ad452) y454.length y454 from by rw [Ny454.out]; exact Kd.C_take (m := (x10_2 : Int).toNat) ((Kd.R_reads' (Kd.R_after (Kd.R_apart_nil (zr_ HO_452002)) hg hat)).2.2) KL55.out)); have n6_ := Aside0.mk (ho); clear HO_452002; clear BK444; clear BK445; clear BK451; clear HB; clear HR457; have HO_452002 := n0_; have BK444 := n1_; have BK445 := n2_; have BK451 := n3_; have HB := n4_; have HR457 := n5_; have HO460 := n6_; clear n0_ n1_ n2_ n3_ n4_ n5_ n6_; clear ho hb hg hat) | ((with_reducible refine gate_builtin (b := .append) (xs := #[.tmp 72, .tmp 76]) rfl ?_); at_builtin; refine Kd.R_append k88 (w0 := w) w.heap.size rfl (.tmp 72) (.tmp 76) 65 88 (.agg #[(.int .i64 0), (.int .i64 0)]) 16 rfl Try.underlying65 info88 rfl (by decide) (by omega) v459 y458 (⟨a1, a2⟩ : S88) [.int .i64 a1, .int .i64 a2] (fun k_ => some k_ ≠ (.slice (some ad452) t448.length co31 : Value).ownBlock) (fun _ => False) rfl rfl ?aP (fun _ hk => hk.elim) ?aF ?aO ?aB ?aS ?aL ?_; (case aP => exact k88_mkM _ _ _ (⟨a1, a2⟩ : S88)); (case aB => exact (zB HB)); (case aF => exact (fun k_ hk => Kd.fresh' (Kd.R_lt (zr_ HO_452002)) k_ hk)); (case aO => exact (zr_ HO460)); (case aS => exact (below_size (zB HB))); (case aL => have := LMc48.out; omega); intro v462 w57 ho hb hg hat; rw [← Ny461.out] at ho; have n0_ := Aside0.mk (Kd.R_after (ok := (fun _ => True)) (zr_ HO_452002) hg hat); have n1_ := Aside0.mk (blk_grown (g := gb444) (o := .cells #[.int .i64 a0_0, .int .i64 a0_1, .slice A0_2 l0_2.length c0_2] 67 (0, 0)) (zk BK444) hg (Kd.R_ne HO460.out BK444.out (by decide))); have n2_ := Aside0.mk (blk_grown (g := gb445) (o := .cells #[.int .i64 0, .int .i64 0, .slice none 0 0] 67 (0, 0)) (zk BK445) hg (Kd.R_ne HO460.out BK445.out (by decide))); have n3_ := Aside0.mk (blk_grown (g := gb451) (o := .cells #[.int .i64 t446, .int .i64 t447, .slice (some ad452) t448.length co31] 67 (0, 0)) (zk BK451) hg (Kd.R_ne HO460.out BK451.out (by decide))); have n4_ := Aside0.mk (hb); have n5_ := Aside0.mk ((show Kd.C k88 w57 (some ad452) y454.length y454 from by rw [Ny454.out]; exact Kd.C_take (m := (x10_2 : Int).toNat) ((Kd.R_reads' (Kd.R_after (ok := (fun _ => True)) (zr_ HO_452002) hg hat)).2.2) KL55.out)); have n6_ := Aside0.mk (ho); clear HO_452002; clear BK444; clear BK445; clear BK451; clear HB; clear HR457; clear HO460; have HO_452002 := n0_; have BK444 := n1_; have BK445 := n2_; have BK451 := n3_; have HB := n4_; have HR457 := n5_; have HO463 := n6_; clear n0_ n1_ n2_ n3_ n4_ n5_ n6_; clear ho hb hg hat; obtain ⟨hcz58_0, hcz58_1, hcz58_2⟩ := zC3 BK451; obtain ⟨hfz58_0, hfz58_1, hfz58_2⟩ := zF3 BK451; have q59 : (x10_2 : Int) ≤ ((t448.length : Int) : Int) := of_decide_eq_true (by first | (with_reducible assumption) | assumption); obtain ⟨i059, hi059, _, hsz59, _⟩ := info_parts info88; have hroom59 : t448.length ≤ co31 := (Kd.R_reads' HO_452002.out).2.1; have hC59 : Kd.C k88 _ (some ad452) t448.length t448 := (Kd.R_reads' HO_452002.out).2.2; have q059 : (0 : Int) ≤ (x10_2 : Int) := of_decide_eq_true (by first | (with_reducible assumption) | assumption); have hcut59 := cut_from (P := Try.prog) 65 88 .i64 Try.underlying65 hi059 2 hsz59 (some ad452) t448.length co31 x10_2 q059 q59; have hr59 := Kd.C_drop (m := (x10_2 : Int).toNat) (c := co31) hC59 (by omega) hroom59; obtain ⟨A59, hA59⟩ : ∃ A1, A1 = (if co31 = (x10_2 : Int).toNat then (some ad452) else ((some ad452) : Option Addr).map (·.add ((x10_2 : Int).toNat * 2))) := ⟨_, rfl⟩; obtain ⟨c59, hc59⟩ : ∃ c1, c1 = co31 - (x10_2 : Int).toNat := ⟨_, rfl⟩; have hy59 : y464.length = t448.length - (x10_2 : Int).toNat := (by rw [Ny464.out, List.length_drop] <;> omega); rw [show (t448).drop (x10_2 : Int).toNat = y464 from Ny464.out.symm] at hr59; replace hr59 : Kd.C k88 _ A59 y464.length y464 := (by rw [hA59]; exact hr59); rw [← hy59, ← hA59, ← hc59] at hcut59; have HR467 := Aside0.mk hr59; have HC467 := Aside0.mk (show y464.length ≤ c59 from by rw [hy59, hc59]; exact Nat.sub_le_sub_right hroom59 _); clear hr59 hC59 hroom59 hi059 hsz59 hc59; have KY59 := Aside0.mk hy59; have KA59 := Aside0.mk hA59; clear hy59 hA59; have KL59 := Aside0.mk (show (x10_2 : Int).toNat ≤ t448.length from by omega); replace q59 := eq_true q59) | ((with_reducible refine gate_builtin (b := .append) (xs := #[.tmp 78, .tmp 82]) rfl ?_); at_builtin; refine Kd.R_append_rows k88 (w0 := w) w.heap.size rfl (.tmp 78) (.tmp 82) 65 88 (.agg #[(.int .i64 0), (.int .i64 0)]) 16 rfl Try.underlying65 info88 rfl (by decide) (by omega) v462 y461 y464 _ _ _ (fun k_ => some k_ ≠ (.slice (some ad452) t448.length co31 : Value).ownBlock) (fun _ => False) rfl rfl ?aO ?aR (fun _ _ h => h) (fun _ h => h.elim) ?aF ?aB ?aS ?aL ?_; (case aR => repeat (first | exact (by repeat (first | (with_reducible exact HR467.out) | (with_reducible refine Kd.C_alloc ?_ _) | (with_reducible refine Kd.C_drewN ?_ _) | (with_reducible refine Kd.C_drew ?_) | exact HR467.out)) | (with_reducible refine Kd.C_alloc ?_ _) | (with_reducible refine Kd.C_drewN ?_ _) | (with_reducible refine Kd.C_drew ?_))); (case aB => exact (zB HB)); (case aF => exact (fun k_ hk => Kd.fresh' (Kd.R_lt (zr_ HO_452002)) k_ hk)); (case aO => exact (zr_ HO463)); (case aS => exact (below_size (zB HB))); (case aL => have := LMc51.out; omega); intro v469 w60 ho hb hg hat; rw [← Ny468.out] at ho; have n0_ := Aside0.mk (Kd.R_after (ok := (fun _ => True)) (zr_ HO_452002) hg hat); have n1_ := Aside0.mk (blk_grown (g := gb444) (o := .cells #[.int .i64 a0_0, .int .i64 a0_1, .slice A0_2 l0_2.length c0_2] 67 (0, 0)) (zk BK444) hg (Kd.R_ne HO463.out BK444.out (by decide))); have n2_ := Aside0.mk (blk_grown (g := gb445) (o := .cells #[.int .i64 0, .int .i64 0, .slice none 0 0] 67 (0, 0)) (zk BK445) hg (Kd.R_ne HO463.out BK445.out (by decide))); have n3_ := Aside0.mk (blk_grown (g := gb451) (o := .cells #[.int .i64 t446, .int .i64 t447, .slice (some ad452) t448.length co31] 67 (0, 0)) (zk BK451) hg (Kd.R_ne HO463.out BK451.out (by decide))); have n4_ := Aside0.mk (hb); have n5_ := Aside0.mk ((show Kd.C k88 w60 (some ad452) y454.length y454 from by rw [Ny454.out]; exact Kd.C_take (m := (x10_2 : Int).toNat) ((Kd.R_reads' (Kd.R_after (ok := (fun _ => True)) (zr_ HO_452002) hg hat)).2.2) KL55.out)); have n6_ := Aside0.mk ((show Kd.C k88 w60 A59 y464.length y464 from by rw [Ny464.out, KA59.out]; exact Kd.C_drop (m := (x10_2 : Int).toNat) (c := co31) ((Kd.R_reads' (Kd.R_after (ok := (fun _ => True)) (zr_ HO_452002) hg hat)).2.2) KL59.out ((Kd.R_reads' (Kd.R_after (ok := (fun _ => True)) (zr_ HO_452002) hg hat)).2.1))); have n7_ := Aside0.mk (ho); clear HO_452002; clear BK444; clear BK445; clear BK451; clear HB; clear HR457; clear HR467; clear HO463; have HO_452002 := n0_; have BK444 := n1_; have BK445 := n2_; have BK451 := n3_; have HB := n4_; have HR457 := n5_; have HR467 := n6_; have HO470 := n7_; clear n0_ n1_ n2_ n3_ n4_ n5_ n6_ n7_; clear ho hb hg hat; obtain ⟨Ao61, co61, eo61⟩ := Kd.R_slice HO470.out; subst eo61; obtain ⟨hcz62_0, hcz62_1, hcz62_2⟩ := zC3 BK451; obtain ⟨hfz62_0, hfz62_1, hfz62_2⟩ := zF3 BK451; have hnb63 := NB445_444.out; have hnc63 := NB444_445.out; obtain ⟨hcz64_0, hcz64_1, hcz64_2⟩ := zC3 BK445; obtain ⟨hfz64_0, hfz64_1⟩ := zF2 BK445; have hfz64_2 := blk_frozen BK445.out 2))
                              refine bodyPost_ret (results_ctt rfl _ _ gb445 67 #[.int .i64 t446, .int .i64 t447, .slice Ao61 y468.length co61] (0, 0) _ rfl (by (with_reducible repeat (first | refine blk_drewN ?_ _ | refine blk_drew ?_ | refine blk_alloc ?_ _)); refine blk_put (cs := #[.int .i64 t446, .int .i64 t447, .slice none 0 0]) ?_ 2 _ rfl; (with_reducible repeat (first | refine blk_drewN ?_ _ | refine blk_drew ?_ | refine blk_alloc ?_ _)); refine blk_put (cs := #[.int .i64 t446, .int .i64 0, .slice none 0 0]) ?_ 1 _ rfl; (with_reducible repeat (first | refine blk_drewN ?_ _ | refine blk_drew ?_ | refine blk_alloc ?_ _)); refine blk_put (cs := #[.int .i64 0, .int .i64 0, .slice none 0 0]) ?_ 0 _ rfl; (with_reducible repeat (first | refine blk_drewN ?_ _ | refine blk_drew ?_ | refine blk_alloc ?_ _)); refine blk_far ?_ NB445_451.out _; (with_reducible repeat (first | refine blk_drewN ?_ _ | refine blk_drew ?_ | refine blk_alloc ?_ _)); exact BK445.out) Try.underlying67 rfl (by kernel_rfl)) rfl ?_
                              exact ⟨_, by first | rfl | (simp [errW_none, errW_some] <;> rfl) | (simp [*, errW_none, errW_some] <;> rfl), by (with_reducible repeat (first | apply Kd.R_alloc | apply Kd.R_drewN | apply Kd.R_drew)); exact Kd.R_mono (Kd.R_far (p := ⟨gb445, 2, none⟩) (Kd.R_far (p := ⟨gb445, 1, none⟩) (Kd.R_far (p := ⟨gb445, 0, none⟩) (Kd.R_far (p := ⟨gb451, 2, none⟩) (Kd.R_types (Kd.R_types HO470.out BK451.out (by decide)) BK445.out (by decide)) (fun _ hk => hk.1.2) (.slice Ao61 y468.length co61)) (fun _ hk => hk.2) (.int .i64 t446)) (fun _ hk => hk.2) (.int .i64 t447)) (fun _ hk => hk.2) (.slice Ao61 y468.length co61)) (fun _ hk => trivial), by repeat (first | (with_reducible first | exact HB.out | apply below_alloc | apply pw_below_drewN | apply below_drew1 | refine below_set ?_ GE444.out | refine below_set ?_ GE445.out | refine below_set ?_ GE451.out) | exact HB.out)⟩
                            · rw [if_neg c51] at H
                              exact absurd H (by simp)
                          · rw [if_neg c48] at H
                            exact absurd H (by simp)
                        · rw [if_neg c47] at H
                          exact absurd H (by simp)
                      · rw [if_neg c46] at H
                        exact absurd H (by simp)
                · rw [if_neg c34] at H
                  exact absurd H (by simp)
              · rw [if_neg c33] at H
                have c33b0 : decide (x10_2 < (t448.length : Int)) = false := decide_eq_false c33
                clear c33
                by_cases c65 : 0 ≤ x10_2
                · rw [if_pos c65] at H
                  have c65b0 := eq_true c65
                  have c65b1 : decide (0 ≤ x10_2) = true := decide_eq_true c65
                  clear c65
                  by_cases c66 : x10_2 ≤ (t448.length : Int)
                  · rw [if_pos c66] at H
                    have c66b0 := eq_true c66
                    have c66b1 : decide (x10_2 ≤ (t448.length : Int)) = true := decide_eq_true c66
                    clear c66
                    obtain ⟨y471, hy471⟩ : ∃ y_ : List (S88), y_ = (t448.take (x10_2 : Int).toNat) := ⟨_, rfl⟩
                    replace H : (if ([] : List (S88)).length + y471.length < 8796093022208 then ((some (([] : List (S88)) ++ y471 : List (S88))).bind fun y475 => (if y475.length < 8796093022208 then ((some (y475 ++ [(⟨a1, a2⟩ : S88)] : List (S88))).bind fun y478 => ((some (t448.drop (x10_2 : Int).toNat : List (S88))).bind fun y481 => (if y478.length + y481.length < 8796093022208 then (some (t446, t447, (y478 ++ y481), true, 0)) else (none)))) else (none))) else (none)) = some (r1, r2, r3, r4, r5) := by first | (rw [hy471]; with_reducible exact H) | (have H2_ := (Option.bind_some _ _).symm.trans H; rw [hy471]; with_reducible exact H2_) | (have H2_ := (Option.bind_some _ _).symm.trans H; with_reducible exact H2_) | with_reducible exact H | (rw [hy471]; exact H) | exact H
                    have Ny471 := Aside0.mk hy471
                    clear hy471
                    by_cases c67 : ([] : List (S88)).length + y471.length < 8796093022208
                    · rw [if_pos c67] at H
                      have LMc67 := Aside0.mk c67
                      clear c67
                      obtain ⟨y475, hy475⟩ : ∃ y_ : List (S88), y_ = (([] : List (S88)) ++ y471) := ⟨_, rfl⟩
                      replace H : (if y475.length < 8796093022208 then ((some (y475 ++ [(⟨a1, a2⟩ : S88)] : List (S88))).bind fun y478 => ((some (t448.drop (x10_2 : Int).toNat : List (S88))).bind fun y481 => (if y478.length + y481.length < 8796093022208 then (some (t446, t447, (y478 ++ y481), true, 0)) else (none)))) else (none)) = some (r1, r2, r3, r4, r5) := by first | (rw [hy475]; with_reducible exact H) | (have H2_ := (Option.bind_some _ _).symm.trans H; rw [hy475]; with_reducible exact H2_) | (have H2_ := (Option.bind_some _ _).symm.trans H; with_reducible exact H2_) | with_reducible exact H | (rw [hy475]; exact H) | exact H
                      have Ny475 := Aside0.mk hy475
                      clear hy475
                      by_cases c68 : y475.length < 8796093022208
                      · rw [if_pos c68] at H
                        have LMc68 := Aside0.mk c68
                        clear c68
                        obtain ⟨y478, hy478⟩ : ∃ y_ : List (S88), y_ = (y475 ++ [(⟨a1, a2⟩ : S88)]) := ⟨_, rfl⟩
                        replace H : ((some (t448.drop (x10_2 : Int).toNat : List (S88))).bind fun y481 => (if y478.length + y481.length < 8796093022208 then (some (t446, t447, (y478 ++ y481), true, 0)) else (none))) = some (r1, r2, r3, r4, r5) := by first | (rw [hy478]; with_reducible exact H) | (have H2_ := (Option.bind_some _ _).symm.trans H; rw [hy478]; with_reducible exact H2_) | (have H2_ := (Option.bind_some _ _).symm.trans H; with_reducible exact H2_) | with_reducible exact H | (rw [hy478]; exact H) | exact H
                        have Ny478 := Aside0.mk hy478
                        clear hy478
                        have c69b0 := eq_true (of_decide_eq_true (by first | (with_reducible assumption) | assumption) : 0 ≤ x10_2)
                        have c70b0 := eq_true (of_decide_eq_true (by first | (with_reducible assumption) | assumption) : x10_2 ≤ (t448.length : Int))
                        obtain ⟨y481, hy481⟩ : ∃ y_ : List (S88), y_ = (t448.drop (x10_2 : Int).toNat) := ⟨_, rfl⟩
                        replace H : (if y478.length + y481.length < 8796093022208 then (some (t446, t447, (y478 ++ y481), true, 0)) else (none)) = some (r1, r2, r3, r4, r5) := by first | (rw [hy481]; with_reducible exact H) | (have H2_ := (Option.bind_some _ _).symm.trans H; rw [hy481]; with_reducible exact H2_) | (have H2_ := (Option.bind_some _ _).symm.trans H; with_reducible exact H2_) | with_reducible exact H | (rw [hy481]; exact H) | exact H
                        have Ny481 := Aside0.mk hy481
                        clear hy481
                        by_cases c71 : y478.length + y481.length < 8796093022208
                        · rw [if_pos c71] at H
                          have LMc71 := Aside0.mk c71
                          clear c71
                          obtain ⟨y485, hy485⟩ : ∃ y_ : List (S88), y_ = (y478 ++ y481) := ⟨_, rfl⟩
                          replace H : (some (t446, t447, y485, true, 0)) = some (r1, r2, r3, r4, r5) := by first | (rw [hy485]; with_reducible exact H) | (have H2_ := (Option.bind_some _ _).symm.trans H; rw [hy485]; with_reducible exact H2_) | (have H2_ := (Option.bind_some _ _).symm.trans H; with_reducible exact H2_) | with_reducible exact H | (rw [hy485]; exact H) | exact H
                          have Ny485 := Aside0.mk hy485
                          clear hy485
                          simp only [Option.some.injEq, Prod.mk.injEq] at H
                          obtain ⟨rfl, rfl, rfl, rfl, rfl⟩ := H
                          have hnb72 := NB451_444.out
                          have hnc72 := NB444_451.out
                          have hnb73 := NB451_445.out
                          have hnc73 := NB445_451.out
                          obtain ⟨hcz74_0, hcz74_1, hcz74_2⟩ := zC3 BK451
                          obtain ⟨hfz74_0, hfz74_1, hfz74_2⟩ := zF3 BK451
                          have q75 : (x10_2 : Int) ≤ ((t448.length : Int) : Int) := of_decide_eq_true (by first | (with_reducible assumption) | assumption)
                          obtain ⟨i075, hi075, _, hsz75, _⟩ := info_parts info88
                          have hroom75 : t448.length ≤ co31 := (Kd.R_reads' HO_452002.out).2.1
                          have hC75 : Kd.C k88 _ Ao31 t448.length t448 := (Kd.R_reads' HO_452002.out).2.2
                          have hcut75 := cut_to (P := Try.prog) 65 88 .i64 Try.underlying65 hi075 Ao31 t448.length co31 x10_2 (of_decide_eq_true (by first | (with_reducible assumption) | assumption)) q75 hroom75
                          have hr75 := Kd.C_take (m := (x10_2 : Int).toNat) hC75 (by omega)
                          have hy75 : y471.length = (x10_2 : Int).toNat := (by rw [Ny471.out, List.length_take]; omega)
                          rw [← Ny471.out] at hr75
                          rw [← hy75] at hcut75
                          have HR474 := Aside0.mk hr75
                          have HC474 := Aside0.mk (show y471.length ≤ co31 from by omega)
                          clear hr75 hC75 hroom75 hi075 hsz75
                          have KY75 := Aside0.mk hy75
                          clear hy75
                          have KL75 := Aside0.mk (show (x10_2 : Int).toNat ≤ t448.length from by omega)
                          replace q75 := eq_true q75
                          go_wp2_with (first | ((with_reducible refine gate_builtin (b := .append) (xs := #[.tmp 66, .tmp 70]) rfl ?_); at_builtin; refine Kd.R_append_rows k88 (w0 := w) w.heap.size rfl (.tmp 66) (.tmp 70) 65 88 (.agg #[(.int .i64 0), (.int .i64 0)]) 16 rfl Try.underlying65 info88 rfl (by decide) (by omega) (.slice none 0 0) ([] : List (S88)) y471 _ _ _ (fun k_ => some k_ ≠ (.slice Ao31 t448.length co31 : Value).ownBlock) (fun _ => False) rfl rfl ?aO ?aR (fun _ _ h => h) (fun _ h => h.elim) ?aF ?aB ?aS ?aL ?_; (case aR => repeat (first | exact (by repeat (first | (with_reducible exact HR474.out) | (with_reducible refine Kd.C_alloc ?_ _) | (with_reducible refine Kd.C_drewN ?_ _) | (with_reducible refine Kd.C_drew ?_) | exact HR474.out)) | (with_reducible refine Kd.C_alloc ?_ _) | (with_reducible refine Kd.C_drewN ?_ _) | (with_reducible refine Kd.C_drew ?_))); (case aB => exact (zB HB)); (case aF => exact (fun k_ hk => Kd.fresh' (Kd.R_lt (zr_ HO_452002)) k_ hk)); (case aO => exact ((Kd.R_nil _ _ _ _ (fun k_ => some k_ ≠ (.slice Ao31 t448.length co31 : Value).ownBlock)))); (case aS => exact (below_size (zB HB))); (case aL => have := LMc67.out; omega); intro v476 w76 ho hb hg hat; rw [← Ny475.out] at ho; have n0_ := Aside0.mk (Kd.R_after (Kd.R_apart_nil (zr_ HO_452002)) hg hat); have n1_ := Aside0.mk (blk_grown (g := gb444) (o := .cells #[.int .i64 a0_0, .int .i64 a0_1, .slice A0_2 l0_2.length c0_2] 67 (0, 0)) (zk BK444) hg (by simp [Value.ownBlock])); have n2_ := Aside0.mk (blk_grown (g := gb445) (o := .cells #[.int .i64 0, .int .i64 0, .slice none 0 0] 67 (0, 0)) (zk BK445) hg (by simp [Value.ownBlock])); have n3_ := Aside0.mk (blk_grown (g := gb451) (o := .cells #[.int .i64 t446, .int .i64 t447, .slice Ao31 t448.length co31] 67 (0, 0)) (zk BK451) hg (by simp [Value.ownBlock])); have n4_ := Aside0.mk (hb); have n5_ := Aside0.mk ((show Kd.C k88 w76 Ao31 y471.length y471 from by rw [Ny471.out]; exact Kd.C_take (m := (x10_2 : Int).toNat) ((Kd.R_reads' (Kd.R_after (Kd.R_apart_nil (zr_ HO_452002)) hg hat)).2.2) KL75.out)); have n6_ := Aside0.mk (ho); clear HO_452002; clear BK444; clear BK445; clear BK451; clear HB; clear HR474; have HO_452002 := n0_; have BK444 := n1_; have BK445 := n2_; have BK451 := n3_; have HB := n4_; have HR474 := n5_; have HO477 := n6_; clear n0_ n1_ n2_ n3_ n4_ n5_ n6_; clear ho hb hg hat) | ((with_reducible refine gate_builtin (b := .append) (xs := #[.tmp 72, .tmp 76]) rfl ?_); at_builtin; refine Kd.R_append k88 (w0 := w) w.heap.size rfl (.tmp 72) (.tmp 76) 65 88 (.agg #[(.int .i64 0), (.int .i64 0)]) 16 rfl Try.underlying65 info88 rfl (by decide) (by omega) v476 y475 (⟨a1, a2⟩ : S88) [.int .i64 a1, .int .i64 a2] (fun k_ => some k_ ≠ (.slice Ao31 t448.length co31 : Value).ownBlock) (fun _ => False) rfl rfl ?aP (fun _ hk => hk.elim) ?aF ?aO ?aB ?aS ?aL ?_; (case aP => exact k88_mkM _ _ _ (⟨a1, a2⟩ : S88)); (case aB => exact (zB HB)); (case aF => exact (fun k_ hk => Kd.fresh' (Kd.R_lt (zr_ HO_452002)) k_ hk)); (case aO => exact (zr_ HO477)); (case aS => exact (below_size (zB HB))); (case aL => have := LMc68.out; omega); intro v479 w77 ho hb hg hat; rw [← Ny478.out] at ho; have n0_ := Aside0.mk (Kd.R_after (ok := (fun _ => True)) (zr_ HO_452002) hg hat); have n1_ := Aside0.mk (blk_grown (g := gb444) (o := .cells #[.int .i64 a0_0, .int .i64 a0_1, .slice A0_2 l0_2.length c0_2] 67 (0, 0)) (zk BK444) hg (Kd.R_ne HO477.out BK444.out (by decide))); have n2_ := Aside0.mk (blk_grown (g := gb445) (o := .cells #[.int .i64 0, .int .i64 0, .slice none 0 0] 67 (0, 0)) (zk BK445) hg (Kd.R_ne HO477.out BK445.out (by decide))); have n3_ := Aside0.mk (blk_grown (g := gb451) (o := .cells #[.int .i64 t446, .int .i64 t447, .slice Ao31 t448.length co31] 67 (0, 0)) (zk BK451) hg (Kd.R_ne HO477.out BK451.out (by decide))); have n4_ := Aside0.mk (hb); have n5_ := Aside0.mk ((show Kd.C k88 w77 Ao31 y471.length y471 from by rw [Ny471.out]; exact Kd.C_take (m := (x10_2 : Int).toNat) ((Kd.R_reads' (Kd.R_after (ok := (fun _ => True)) (zr_ HO_452002) hg hat)).2.2) KL75.out)); have n6_ := Aside0.mk (ho); clear HO_452002; clear BK444; clear BK445; clear BK451; clear HB; clear HR474; clear HO477; have HO_452002 := n0_; have BK444 := n1_; have BK445 := n2_; have BK451 := n3_; have HB := n4_; have HR474 := n5_; have HO480 := n6_; clear n0_ n1_ n2_ n3_ n4_ n5_ n6_; clear ho hb hg hat; obtain ⟨hcz78_0, hcz78_1, hcz78_2⟩ := zC3 BK451; obtain ⟨hfz78_0, hfz78_1, hfz78_2⟩ := zF3 BK451; have q79 : (x10_2 : Int) ≤ ((t448.length : Int) : Int) := of_decide_eq_true (by first | (with_reducible assumption) | assumption); obtain ⟨i079, hi079, _, hsz79, _⟩ := info_parts info88; have hroom79 : t448.length ≤ co31 := (Kd.R_reads' HO_452002.out).2.1; have hC79 : Kd.C k88 _ Ao31 t448.length t448 := (Kd.R_reads' HO_452002.out).2.2; have q079 : (0 : Int) ≤ (x10_2 : Int) := of_decide_eq_true (by first | (with_reducible assumption) | assumption); have hcut79 := cut_from (P := Try.prog) 65 88 .i64 Try.underlying65 hi079 2 hsz79 Ao31 t448.length co31 x10_2 q079 q79; have hr79 := Kd.C_drop (m := (x10_2 : Int).toNat) (c := co31) hC79 (by omega) hroom79; obtain ⟨A79, hA79⟩ : ∃ A1, A1 = (if co31 = (x10_2 : Int).toNat then Ao31 else (Ao31 : Option Addr).map (·.add ((x10_2 : Int).toNat * 2))) := ⟨_, rfl⟩; obtain ⟨c79, hc79⟩ : ∃ c1, c1 = co31 - (x10_2 : Int).toNat := ⟨_, rfl⟩; have hy79 : y481.length = t448.length - (x10_2 : Int).toNat := (by rw [Ny481.out, List.length_drop] <;> omega); rw [show (t448).drop (x10_2 : Int).toNat = y481 from Ny481.out.symm] at hr79; replace hr79 : Kd.C k88 _ A79 y481.length y481 := (by rw [hA79]; exact hr79); rw [← hy79, ← hA79, ← hc79] at hcut79; have HR484 := Aside0.mk hr79; have HC484 := Aside0.mk (show y481.length ≤ c79 from by rw [hy79, hc79]; exact Nat.sub_le_sub_right hroom79 _); clear hr79 hC79 hroom79 hi079 hsz79 hc79; have KY79 := Aside0.mk hy79; have KA79 := Aside0.mk hA79; clear hy79 hA79; have KL79 := Aside0.mk (show (x10_2 : Int).toNat ≤ t448.length from by omega); replace q79 := eq_true q79) | ((with_reducible refine gate_builtin (b := .append) (xs := #[.tmp 78, .tmp 82]) rfl ?_); at_builtin; refine Kd.R_append_rows k88 (w0 := w) w.heap.size rfl (.tmp 78) (.tmp 82) 65 88 (.agg #[(.int .i64 0), (.int .i64 0)]) 16 rfl Try.underlying65 info88 rfl (by decide) (by omega) v479 y478 y481 _ _ _ (fun k_ => some k_ ≠ (.slice Ao31 t448.length co31 : Value).ownBlock) (fun _ => False) rfl rfl ?aO ?aR (fun _ _ h => h) (fun _ h => h.elim) ?aF ?aB ?aS ?aL ?_; (case aR => repeat (first | exact (by repeat (first | (with_reducible exact HR484.out) | (with_reducible refine Kd.C_alloc ?_ _) | (with_reducible refine Kd.C_drewN ?_ _) | (with_reducible refine Kd.C_drew ?_) | exact HR484.out)) | (with_reducible refine Kd.C_alloc ?_ _) | (with_reducible refine Kd.C_drewN ?_ _) | (with_reducible refine Kd.C_drew ?_))); (case aB => exact (zB HB)); (case aF => exact (fun k_ hk => Kd.fresh' (Kd.R_lt (zr_ HO_452002)) k_ hk)); (case aO => exact (zr_ HO480)); (case aS => exact (below_size (zB HB))); (case aL => have := LMc71.out; omega); intro v486 w80 ho hb hg hat; rw [← Ny485.out] at ho; have n0_ := Aside0.mk (Kd.R_after (ok := (fun _ => True)) (zr_ HO_452002) hg hat); have n1_ := Aside0.mk (blk_grown (g := gb444) (o := .cells #[.int .i64 a0_0, .int .i64 a0_1, .slice A0_2 l0_2.length c0_2] 67 (0, 0)) (zk BK444) hg (Kd.R_ne HO480.out BK444.out (by decide))); have n2_ := Aside0.mk (blk_grown (g := gb445) (o := .cells #[.int .i64 0, .int .i64 0, .slice none 0 0] 67 (0, 0)) (zk BK445) hg (Kd.R_ne HO480.out BK445.out (by decide))); have n3_ := Aside0.mk (blk_grown (g := gb451) (o := .cells #[.int .i64 t446, .int .i64 t447, .slice Ao31 t448.length co31] 67 (0, 0)) (zk BK451) hg (Kd.R_ne HO480.out BK451.out (by decide))); have n4_ := Aside0.mk (hb); have n5_ := Aside0.mk ((show Kd.C k88 w80 Ao31 y471.length y471 from by rw [Ny471.out]; exact Kd.C_take (m := (x10_2 : Int).toNat) ((Kd.R_reads' (Kd.R_after (ok := (fun _ => True)) (zr_ HO_452002) hg hat)).2.2) KL75.out)); have n6_ := Aside0.mk ((show Kd.C k88 w80 A79 y481.length y481 from by rw [Ny481.out, KA79.out]; exact Kd.C_drop (m := (x10_2 : Int).toNat) (c := co31) ((Kd.R_reads' (Kd.R_after (ok := (fun _ => True)) (zr_ HO_452002) hg hat)).2.2) KL79.out ((Kd.R_reads' (Kd.R_after (ok := (fun _ => True)) (zr_ HO_452002) hg hat)).2.1))); have n7_ := Aside0.mk (ho); clear HO_452002; clear BK444; clear BK445; clear BK451; clear HB; clear HR474; clear HR484; clear HO480; have HO_452002 := n0_; have BK444 := n1_; have BK445 := n2_; have BK451 := n3_; have HB := n4_; have HR474 := n5_; have HR484 := n6_; have HO487 := n7_; clear n0_ n1_ n2_ n3_ n4_ n5_ n6_ n7_; clear ho hb hg hat; obtain ⟨Ao81, co81, eo81⟩ := Kd.R_slice HO487.out; subst eo81; obtain ⟨hcz82_0, hcz82_1, hcz82_2⟩ := zC3 BK451; obtain ⟨hfz82_0, hfz82_1, hfz82_2⟩ := zF3 BK451; have hnb83 := NB445_444.out; have hnc83 := NB444_445.out; obtain ⟨hcz84_0, hcz84_1, hcz84_2⟩ := zC3 BK445; obtain ⟨hfz84_0, hfz84_1⟩ := zF2 BK445; have hfz84_2 := blk_frozen BK445.out 2))
                          refine bodyPost_ret (results_ctt rfl _ _ gb445 67 #[.int .i64 t446, .int .i64 t447, .slice Ao81 y485.length co81] (0, 0) _ rfl (by (with_reducible repeat (first | refine blk_drewN ?_ _ | refine blk_drew ?_ | refine blk_alloc ?_ _)); refine blk_put (cs := #[.int .i64 t446, .int .i64 t447, .slice none 0 0]) ?_ 2 _ rfl; (with_reducible repeat (first | refine blk_drewN ?_ _ | refine blk_drew ?_ | refine blk_alloc ?_ _)); refine blk_put (cs := #[.int .i64 t446, .int .i64 0, .slice none 0 0]) ?_ 1 _ rfl; (with_reducible repeat (first | refine blk_drewN ?_ _ | refine blk_drew ?_ | refine blk_alloc ?_ _)); refine blk_put (cs := #[.int .i64 0, .int .i64 0, .slice none 0 0]) ?_ 0 _ rfl; (with_reducible repeat (first | refine blk_drewN ?_ _ | refine blk_drew ?_ | refine blk_alloc ?_ _)); refine blk_far ?_ NB445_451.out _; (with_reducible repeat (first | refine blk_drewN ?_ _ | refine blk_drew ?_ | refine blk_alloc ?_ _)); exact BK445.out) Try.underlying67 rfl (by kernel_rfl)) rfl ?_
                          exact ⟨_, by first | rfl | (simp [errW_none, errW_some] <;> rfl) | (simp [*, errW_none, errW_some] <;> rfl), by (with_reducible repeat (first | apply Kd.R_alloc | apply Kd.R_drewN | apply Kd.R_drew)); exact Kd.R_mono (Kd.R_far (p := ⟨gb445, 2, none⟩) (Kd.R_far (p := ⟨gb445, 1, none⟩) (Kd.R_far (p := ⟨gb445, 0, none⟩) (Kd.R_far (p := ⟨gb451, 2, none⟩) (Kd.R_types (Kd.R_types HO487.out BK451.out (by decide)) BK445.out (by decide)) (fun _ hk => hk.1.2) (.slice Ao81 y485.length co81)) (fun _ hk => hk.2) (.int .i64 t446)) (fun _ hk => hk.2) (.int .i64 t447)) (fun _ hk => hk.2) (.slice Ao81 y485.length co81)) (fun _ hk => trivial), by repeat (first | (with_reducible first | exact HB.out | apply below_alloc | apply pw_below_drewN | apply below_drew1 | refine below_set ?_ GE444.out | refine below_set ?_ GE445.out | refine below_set ?_ GE451.out) | exact HB.out)⟩
                        · rw [if_neg c71] at H
                          exact absurd H (by simp)
                      · rw [if_neg c68] at H
                        exact absurd H (by simp)
                    · rw [if_neg c67] at H
                      exact absurd H (by simp)
                  · rw [if_neg c66] at H
                    exact absurd H (by simp)
                · rw [if_neg c65] at H
                  exact absurd H (by simp)
def voluteref04_Of.l0 : Nat → Int → List Int → List (S88) → Int → Int → Int → List (S88) → Option ((List (S88)))
  | 0, _, _, _, _, _, _, _ => none
  | k + 1, x1, x5, x6, x7, x498000, x498001, x498002 => if x7 < (x498002.length : Int) then (if 0 ≤ x7 then (if x498000 = 0 then (none) else (if 0 ≤ (Int.tmod ((rd_T88 x498002 x7).f0) x498000) then (if (Int.tmod ((rd_T88 x498002 x7).f0) x498000) < (x5.length : Int) then (if (rd x5 (Int.tmod ((rd_T88 x498002 x7).f0) x498000)) = x1 then (if x6.length < 8796093022208 then (voluteref04_Of.l0 k x1 x5 (x6 ++ [(⟨wrap64 (Int.tdiv ((rd_T88 x498002 x7).f0) x498000), (rd_T88 x498002 x7).f1⟩ : S88)]) (wrap64 (x7 + 1)) x498000 x498001 x498002) else (none)) else (voluteref04_Of.l0 k x1 x5 x6 (wrap64 (x7 + 1)) x498000 x498001 x498002)) else (none)) else (none))) else (none)) else (some x6)
def voluteref04_Of.f (k : Nat) (a0_0 : Int) (a0_1 : Int) (l0_2 : List (S88)) (a1 : Int) : Option ((List (S88))) := (voluteref04_Order.f k a0_0).bind fun t498 => (voluteref04_Of.l0 k a1 t498 ([] : List (S88)) 0 a0_0 a0_1 l0_2)
def voluteref04_Of.T6 : Bool × List (List Nat × List Nat) := (true, [([], []), ([], []), ([1], [1]), ([], []), ([2, 3], [2, 3]), ([4], [4]), ([5], [5]), ([], []), ([7], [7]), ([6, 8], [6, 8]), ([0, 9], [0, 9]), ([10], [10]), ([], []), ([11, 12], [11, 12])])
def voluteref04_Of.B6 : List Nat := [0, 0, 2, 0, 14, 30, 62, 0, 128, 510, 1023, 2047, 0, 8191]
theorem voluteref04_Of.tab6 : rtab .any (opsOf Try.f47 6) = voluteref04_Of.T6 := by kernel_rfl
theorem voluteref04_Of.bits6 : waitsOk voluteref04_Of.T6.2 voluteref04_Of.B6 = true := by kernel_rfl
def voluteref04_Of.T7 : Bool × List (List Nat × List Nat) := (true, [([], []), ([], []), ([1], [1]), ([], []), ([2, 3], [2, 3]), ([4], [4]), ([5], [5]), ([], []), ([7], [7]), ([6, 8], [6, 8]), ([], []), ([10], [10]), ([], []), ([11, 12], [11, 12]), ([13], [13]), ([14], [14]), ([9, 15], [9, 15]), ([16], [16]), ([0, 17], [0, 17]), ([18, 18, 0, 1, 2, 3, 4, 5, 6, 7, 8, 9, 10, 11, 12, 13, 14, 15, 16, 17, 18], [0, 18])])
def voluteref04_Of.B7 : List Nat := [0, 0, 2, 0, 14, 30, 62, 0, 128, 510, 0, 1024, 0, 7168, 15360, 31744, 65534, 131070, 262143, 524287]
theorem voluteref04_Of.tab7 : rtab .any (opsOf Try.f47 7) = voluteref04_Of.T7 := by kernel_rfl
theorem voluteref04_Of.bits7 : waitsOk voluteref04_Of.T7.2 voluteref04_Of.B7 = true := by kernel_rfl
set_option maxHeartbeats 8000000 in
set_option maxRecDepth 100000 in
theorem voluteref04_Of.calls (k : Nat) (a0_0 : Int) (a0_1 : Int) (A0_2 : Option Addr) (c0_2 : Nat) (l0_2 : List (S88)) (a1 : Int) (r : List (S88)) (w : World) (hr0_2 : Kd.C k88 w A0_2 l0_2.length l0_2) (hc0_2 : l0_2.length ≤ c0_2) (h : voluteref04_Of.f k a0_0 a0_1 l0_2 a1 = some r) :
    Calls Try.prog 47 #[.agg #[.int .i64 a0_0, .int .i64 a0_1, .slice A0_2 l0_2.length c0_2], .int .i64 a1] w fun e w' => ∃ v0_ : Value, e = .returned (v0_) ∧ Kd.R k88 88 w' w.heap.size (fun _ => True) v0_ r ∧ Below w.heap.size w w' := by
  have hu67 := Try.underlying67
  have hu88 := Try.underlying88
  have HR0_2 := Aside0.mk hr0_2
  have HC0_2 := Aside0.mk hc0_2
  clear hr0_2 hc0_2
  have HB := Aside0.mk (Below.refl w.heap.size w)
  have H : ((voluteref04_Order.f k a0_0).bind fun t498 => (voluteref04_Of.l0 k a1 t498 ([] : List (S88)) 0 a0_0 a0_1 l0_2)) = some r := h
  clear h
  replace H := Option.bind_eq_some_iff.mp H
  obtain ⟨t498, A30, H⟩ := H
  replace H : (voluteref04_Of.l0 k a1 t498 ([] : List (S88)) 0 a0_0 a0_1 l0_2) = some r := H
  have A3 := Aside0.mk A30
  clear A30
  have H' := Aside0.mk H
  clear H
  go_enter Try.func47, Try.ntmps47
  go_wp2_with (first | ((with_reducible refine gate_dst (N := 2) rfl ?_); refine box_event ?hg (N := 2) ?hd (cs := #[.int .i64 a0_0, .int .i64 a0_1, .slice A0_2 l0_2.length c0_2]) (t := 67) ?hr ?_; (case hd => rfl); (case hg => rfl); (case hr => first | (go_simp; done) | (go_simp; rfl)); intro gb497 hg w4 hbox hb; have BK497 := Aside0.mk (hbox); have GW497 := zg HB hg; have GE497 := zg HB hg; replace HB := zs HB hb; clear hb hbox hg; obtain ⟨hcz5_0, hcz5_1, hcz5_2⟩ := zC3 BK497; obtain ⟨hfz5_0, hfz5_1⟩ := zF2 BK497; have hfz5_2 := blk_frozen BK497.out 2) | ((with_reducible refine gate_callee (f := 85) rfl ?_); refine goesL_ (some 10) rfl rfl Try.func85 (by kernel_rfl) rfl #[.int .i64 a0_0] rfl (by (try simp only [List.map_toArray, List.map_cons, List.map_nil]); first | done | rfl | (simp only [List.length_drop, List.length_take]; rfl)) ?_; (with_reducible refine (voluteref04_Order.calls k a0_0 t498 _ A3.out).mono ?_); rintro e w6 ⟨v499, rfl, ho0, hb⟩; refine ⟨_, rfl, ?_⟩; have HO500 := Aside0.mk (Kd.R_lower ho0 (below_size (zB HB))); replace BK497 := zb BK497 hb; replace HB := zs HB hb; (try clear hb); (try clear hb2); (try clear hk); (try clear hi); (try clear ho0)))
  go_loopg [6, 7] k (fun kq v6 v7 w' => ∃ (x6_1 : List (S88)) (x7_1 : Int), v7 = .int .i64 x7_1 ∧ Aside0 (voluteref04_Of.l0 kq a1 t498 x6_1 x7_1 a0_0 a0_1 l0_2 = some r) ∧ Aside0 (kq ≤ k) ∧ Aside0 (Kd.R (Kd.int .i64) 3 w' w.heap.size (fun _ => True) v499 t498) ∧ Aside0 (Kd.R k88 88 w' w.heap.size (fun _ => True) v6 x6_1) ∧ Aside0 (w'.heap[gb497]? = some (.cells #[.int .i64 a0_0, .int .i64 a0_1, (.slice A0_2 l0_2.length c0_2)] 67 (0, 0))) ∧ Aside0 (Below w.heap.size w w'))
  case atStart => exact ⟨(([] : List (S88))), (0), (by first | rfl | (simp; done) | (simp [*]; done)), H', ⟨Nat.le_refl _⟩, ⟨by (with_reducible repeat (first | apply Kd.R_alloc | apply Kd.R_drewN | apply Kd.R_drew)); exact HO500.out⟩, ⟨by first | exact Kd.R_nil _ _ _ _ _ | exact Kd.N_nil _ _ _ _ _ | exact Kd.V_nil _ _ _ _ _ | exact Kd.Q_nil _ _ _ _ _ | exact Kd.S_nil _ _ _ _ _⟩, ⟨by (with_reducible repeat (first | refine blk_drewN ?_ _ | refine blk_drew ?_ | refine blk_alloc ?_ _)); exact BK497.out⟩, ⟨by repeat (first | (with_reducible first | exact HB.out | apply below_alloc | apply pw_below_drewN | apply below_drew1 | refine below_set ?_ GE497.out) | exact HB.out)⟩⟩
  case round =>
    clear H'
    try clear p2
    try clear c4
    try clear hcz5_0
    try clear hcz5_1
    try clear hcz5_2
    try clear hfz5_0
    try clear hfz5_1
    try clear hfz5_2
    obtain ⟨x6_1, x7_1, rfl, HA, HK1, HO_5, HO_6, BK497, HB⟩ := hrel
    cases gk with
    | zero => exact absurd HA.out (by simp [voluteref04_Of.l0])
    | succ k1 =>
      have H := HA.out
      clear HA
      simp only [voluteref04_Of.l0] at H
      by_cases c7 : x7_1 < (l0_2.length : Int)
      · rw [if_pos c7] at H
        have c7b0 : decide (x7_1 < (l0_2.length : Int)) = true := decide_eq_true c7
        clear c7
        by_cases c8 : 0 ≤ x7_1
        · rw [if_pos c8] at H
          have c8b0 : decide (0 ≤ x7_1) = true := decide_eq_true c8
          clear c8
          by_cases c9 : a0_0 = 0
          · rw [if_pos c9] at H
            exact absurd H (by simp)
          · rw [if_neg c9] at H
            have c9b0 : (a0_0 == 0) = false := beq_eq_false_iff_ne.mpr c9
            have c9b1 : (a0_0 != 0) = true := bne_iff_ne.mpr c9
            obtain ⟨ji10, hji10⟩ : ∃ j_ : Int, (Int.tmod ((rd_T88 l0_2 x7_1).f0) a0_0) = j_ := ⟨_, rfl⟩
            replace H : (if 0 ≤ (ji10) then (if (ji10) < (t498.length : Int) then (if (rd t498 (ji10)) = a1 then (if x6_1.length < 8796093022208 then (voluteref04_Of.l0 k1 a1 t498 (x6_1 ++ [(⟨wrap64 (Int.tdiv ((rd_T88 l0_2 x7_1).f0) a0_0), (rd_T88 l0_2 x7_1).f1⟩ : S88)]) (wrap64 (x7_1 + 1)) a0_0 a0_1 l0_2) else (none)) else (voluteref04_Of.l0 k1 a1 t498 x6_1 (wrap64 (x7_1 + 1)) a0_0 a0_1 l0_2)) else (none)) else (none)) = some r := by first | (rw [hji10] at H; exact H) | (simp only [hji10] at H ⊢; exact H)
            by_cases c11 : 0 ≤ (ji10)
            · rw [if_pos c11] at H
              have c11b0 : decide (0 ≤ (ji10)) = true := decide_eq_true c11
              clear c11
              by_cases c12 : (ji10) < (t498.length : Int)
              · rw [if_pos c12] at H
                have c12b0 : decide ((ji10) < (t498.length : Int)) = true := decide_eq_true c12
                clear c12
                by_cases c13 : (rd t498 (ji10)) = a1
                · rw [if_pos c13] at H
                  have c13b0 : ((rd t498 (ji10)) == a1) = true := beq_iff_eq.mpr c13
                  have c13b1 : ((rd t498 (ji10)) != a1) = false := bne_eq_false_iff_eq.mpr c13
                  clear c13
                  by_cases c14 : x6_1.length < 8796093022208
                  · rw [if_pos c14] at H
                    have LMc14 := Aside0.mk c14
                    clear c14
                    obtain ⟨y505, hy505⟩ : ∃ y_ : List (S88), y_ = (x6_1 ++ [(⟨wrap64 (Int.tdiv ((rd_T88 l0_2 x7_1).f0) a0_0), (rd_T88 l0_2 x7_1).f1⟩ : S88)]) := ⟨_, rfl⟩
                    replace H : (voluteref04_Of.l0 k1 a1 t498 y505 (wrap64 (x7_1 + 1)) a0_0 a0_1 l0_2) = some r := by first | (rw [hy505]; with_reducible exact H) | (have H2_ := (Option.bind_some _ _).symm.trans H; rw [hy505]; with_reducible exact H2_) | (have H2_ := (Option.bind_some _ _).symm.trans H; with_reducible exact H2_) | with_reducible exact H | (rw [hy505]; exact H) | exact H
                    have Ny505 := Aside0.mk hy505
                    clear hy505
                    have H' := Aside0.mk H
                    clear H
                    obtain ⟨hcz15_0, hcz15_1, hcz15_2⟩ := zC3 BK497
                    obtain ⟨hfz15_0, hfz15_1, hfz15_2⟩ := zF3 BK497
                    try go_wp2
                    replace HO_5 := Aside0.mk (Kd.R_drew HO_5.out)
                    replace HO_6 := Aside0.mk (Kd.R_drew HO_6.out)
                    replace BK497 := Aside0.mk (blk_drew BK497.out)
                    replace HB := Aside0.mk (below_drew1 HB.out)
                    have p501 : 0 ≤ (x7_1 : Int) := of_decide_eq_true (by first | (with_reducible assumption) | assumption)
                    have q501 : x7_1 < (l0_2.length : Int) := of_decide_eq_true (by first | (with_reducible assumption) | assumption)
                    obtain ⟨ad501, e501, hx501_0, hx501_1⟩ := at_T88 HR0_2.out x7_1 p501 q501
                    have hw501_1 := hx501_1
                    have hw501_0 := hx501_0
                    cases e501
                    replace hx501_0 := (HB.out.cell (World.block_lt_of_cell? w _ hx501_0)).trans hx501_0
                    replace hx501_1 := (HB.out.cell (World.block_lt_of_cell? w _ hx501_1)).trans hx501_1
                    replace p501 := eq_true p501
                    replace q501 := eq_true q501
                    obtain ⟨Ao17, co17, eo17⟩ := Kd.R_slice HO_5.out
                    (first | subst eo17 | (injection eo17 with f1_ f2_ f3_; have f4_ := f1_.symm; have f5_ := f3_.symm; clear f1_ f2_ f3_; subst f4_; subst f5_))
                    have p502 : 0 ≤ ((ji10) : Int) := of_decide_eq_true (by first | (with_reducible assumption) | assumption)
                    have q502 : (ji10) < (t498.length : Int) := of_decide_eq_true (by first | (with_reducible assumption) | assumption)
                    obtain ⟨ad502, e502, hx502_0⟩ := Kd.at_int (Kd.R_reads' HO_5.out).2.2 (ji10) p502 q502
                    cases e502
                    replace p502 := eq_true p502
                    replace q502 := eq_true q502
                    refine start_ (n := 14) (S := fun w' => w'.cell? ⟨gb497, 0, none⟩ = some (.int .i64 a0_0) ∧ w'.cell? ⟨gb497, 1, none⟩ = some (.int .i64 a0_1) ∧ w'.cell? ⟨gb497, 2, none⟩ = some (.slice (some ad501) l0_2.length c0_2) ∧ w'.cell? (ad501.add ((x7_1).toNat * 2)) = some (.int .i64 ((rd_T88 l0_2 x7_1).f0)) ∧ w'.cell? ⟨(ad501.add ((x7_1).toNat * 2)).block, (ad501.add ((x7_1).toNat * 2)).off + 1, none⟩ = some (.int .i64 ((rd_T88 l0_2 x7_1).f1)) ∧ w'.cell? (ad502.add ((ji10)).toNat) = some (.int .i64 (rd t498 (ji10)))) (ds := []) #[false, false, false, false, false, false, false, false, false, false, false, false, false, false] (by kernel_rfl) rfl rfl ⟨(blk_cell BK497.out 0).trans rfl, (blk_cell BK497.out 1).trans rfl, (blk_cell BK497.out 2).trans rfl, ((HB.out.cell (World.block_lt_of_cell? w _ hw501_0)).trans hw501_0), ((HB.out.cell (World.block_lt_of_cell? w _ hw501_1)).trans hw501_1), hx502_0⟩ (fun hHeld => ?_); refine with_tabW voluteref04_Of.tab6 voluteref04_Of.bits6 (fun HT_ HW_ => ?_)
                    generalize wr.drew = w16 at HO_5 HO_6 BK497 HB hx501_0 hx501_1 hx502_0 hHeld ⊢
                    refine pu 0 18 (lb 14 1) rfl rfl (any_of HT_.out (by kernel_rfl)) ?_
                    refine pu 1 19 (lb 14 3) rfl rfl (any_of HT_.out (by kernel_rfl)) ?_
                    refine pu 3 21 (lb 14 11) rfl rfl (any_of HT_.out (by kernel_rfl)) ?_
                    refine pu 7 25 (lb 14 139) rfl rfl (any_of HT_.out (by kernel_rfl)) ?_
                    refine pu 12 30 (lb 14 4235) rfl rfl (any_of HT_.out (by kernel_rfl)) ?_
                    refine take_ (i := 2) (N := some 20) (v := ?_) (a' := ?_) (lb 14 4239) rfl rfl (take_ofW HT_.out HW_.out (by kernel_rfl)) (fun _ _ _ h => h) (Or.inl ⟨by rfl, ?_⟩) hHeld ?_ ?_
                    rotate_left
                    · rintro w' ⟨s0, s1, s2, s3, s4, s5⟩
                      go_simp
                      with_reducible rfl
                    rotate_left
                    · simp only [Act.put, List.setIfInBounds_toArray, List.set_cons_zero, List.set_cons_succ, i64_w, i32_w]
                      rfl
                    refine pu 4 22 (lb 14 4255) rfl rfl (any_of HT_.out (by kernel_rfl)) ?_
                    refine pu 5 23 (lb 14 4287) rfl rfl (any_of HT_.out (by kernel_rfl)) ?_
                    refine take_ (i := 6) (N := some 24) (v := ?_) (a' := ?_) (lb 14 4351) rfl rfl (take_ofW HT_.out HW_.out (by kernel_rfl)) (fun _ _ _ h => h) (Or.inl ⟨by rfl, ?_⟩) hHeld ?_ ?_
                    rotate_left
                    · rintro w' ⟨s0, s1, s2, s3, s4, s5⟩
                      go_simp
                      with_reducible rfl
                    rotate_left
                    · simp only [Act.put, List.setIfInBounds_toArray, List.set_cons_zero, List.set_cons_succ, i64_w, i32_w]
                      rfl
                    refine take_ (i := 8) (N := some 26) (v := ?_) (a' := ?_) (lb 14 4607) rfl rfl (take_ofW HT_.out HW_.out (by kernel_rfl)) (fun _ _ _ h => h) (Or.inl ⟨by rfl, ?_⟩) hHeld ?_ ?_
                    rotate_left
                    · rintro w' ⟨s0, s1, s2, s3, s4, s5⟩
                      go_simp
                      with_reducible rfl
                    rotate_left
                    · simp only [Act.put, List.setIfInBounds_toArray, List.set_cons_zero, List.set_cons_succ, i64_w, i32_w]
                      rfl
                    refine pu 9 27 (lb 14 5119) rfl rfl (any_of HT_.out (by kernel_rfl)) ?_
                    refine pu 10 28 (lb 14 6143) rfl rfl (any_of HT_.out (by kernel_rfl)) ?_
                    refine take_ (i := 11) (N := some 29) (v := ?_) (a' := ?_) (lb 14 8191) rfl rfl (take_ofW HT_.out HW_.out (by kernel_rfl)) (fun _ _ _ h => h) (Or.inl ⟨by rfl, ?_⟩) hHeld ?_ ?_
                    rotate_left
                    · rintro w' ⟨s0, s1, s2, s3, s4, s5⟩
                      go_simp
                      with_reducible rfl
                    rotate_left
                    · simp only [Act.put, List.setIfInBounds_toArray, List.set_cons_zero, List.set_cons_succ, i64_w, i32_w]
                      rfl
                    refine pu 13 31 (lb 14 16383) rfl rfl (any_of HT_.out (by kernel_rfl)) ?_
                    refine done_ (done_of HT_.out (by kernel_rfl)) ?_
                    try go_wp2
                    replace HO_5 := Aside0.mk (Kd.R_drew HO_5.out)
                    replace HO_6 := Aside0.mk (Kd.R_drew HO_6.out)
                    replace BK497 := Aside0.mk (blk_drew BK497.out)
                    replace HB := Aside0.mk (below_drew1 HB.out)
                    have p503 : 0 ≤ (x7_1 : Int) := of_decide_eq_true (by first | (with_reducible assumption) | assumption)
                    have q503 : x7_1 < (l0_2.length : Int) := of_decide_eq_true (by first | (with_reducible assumption) | assumption)
                    obtain ⟨ad503, e503, hx503_0, hx503_1⟩ := at_T88 HR0_2.out x7_1 p503 q503
                    have hw503_1 := hx503_1
                    have hw503_0 := hx503_0
                    obtain rfl : ad501 = ad503 := (by injection e503)
                    replace hx503_0 := (HB.out.cell (World.block_lt_of_cell? w _ hx503_0)).trans hx503_0
                    replace hx503_1 := (HB.out.cell (World.block_lt_of_cell? w _ hx503_1)).trans hx503_1
                    replace p503 := eq_true p503
                    replace q503 := eq_true q503
                    have p504 : 0 ≤ (x7_1 : Int) := of_decide_eq_true (by first | (with_reducible assumption) | assumption)
                    have q504 : x7_1 < (l0_2.length : Int) := of_decide_eq_true (by first | (with_reducible assumption) | assumption)
                    obtain ⟨ad504, e504, hx504_0, hx504_1⟩ := at_T88 HR0_2.out x7_1 p504 q504
                    have hw504_1 := hx504_1
                    have hw504_0 := hx504_0
                    obtain rfl : ad501 = ad504 := (by injection e504)
                    replace hx504_0 := (HB.out.cell (World.block_lt_of_cell? w _ hx504_0)).trans hx504_0
                    replace hx504_1 := (HB.out.cell (World.block_lt_of_cell? w _ hx504_1)).trans hx504_1
                    replace p504 := eq_true p504
                    replace q504 := eq_true q504
                    refine start_ (n := 20) (S := fun w' => w'.cell? ⟨gb497, 0, none⟩ = some (.int .i64 a0_0) ∧ w'.cell? ⟨gb497, 1, none⟩ = some (.int .i64 a0_1) ∧ w'.cell? ⟨gb497, 2, none⟩ = some (.slice (some ad501) l0_2.length c0_2) ∧ w'.cell? (ad501.add ((x7_1).toNat * 2)) = some (.int .i64 ((rd_T88 l0_2 x7_1).f0)) ∧ w'.cell? ⟨(ad501.add ((x7_1).toNat * 2)).block, (ad501.add ((x7_1).toNat * 2)).off + 1, none⟩ = some (.int .i64 ((rd_T88 l0_2 x7_1).f1)) ∧ w'.cell? (ad501.add ((x7_1).toNat * 2)) = some (.int .i64 ((rd_T88 l0_2 x7_1).f0)) ∧ w'.cell? ⟨(ad501.add ((x7_1).toNat * 2)).block, (ad501.add ((x7_1).toNat * 2)).off + 1, none⟩ = some (.int .i64 ((rd_T88 l0_2 x7_1).f1))) (ds := []) #[false, false, false, false, false, false, false, false, false, false, false, false, false, false, false, false, false, false, false, false] (by kernel_rfl) rfl rfl ⟨(blk_cell BK497.out 0).trans rfl, (blk_cell BK497.out 1).trans rfl, (blk_cell BK497.out 2).trans rfl, ((HB.out.cell (World.block_lt_of_cell? w _ hw503_0)).trans hw503_0), ((HB.out.cell (World.block_lt_of_cell? w _ hw503_1)).trans hw503_1), ((HB.out.cell (World.block_lt_of_cell? w _ hw504_0)).trans hw504_0), ((HB.out.cell (World.block_lt_of_cell? w _ hw504_1)).trans hw504_1)⟩ (fun hHeld => ?_); refine with_tabW voluteref04_Of.tab7 voluteref04_Of.bits7 (fun HT_ HW_ => ?_)
                    generalize w16.drew = w18 at HO_5 HO_6 BK497 HB hx503_0 hx503_1 hx504_0 hx504_1 hHeld ⊢
                    refine pu 0 32 (lb 20 1) rfl rfl (any_of HT_.out (by kernel_rfl)) ?_
                    refine pu 1 33 (lb 20 3) rfl rfl (any_of HT_.out (by kernel_rfl)) ?_
                    refine pu 3 35 (lb 20 11) rfl rfl (any_of HT_.out (by kernel_rfl)) ?_
                    refine pu 7 39 (lb 20 139) rfl rfl (any_of HT_.out (by kernel_rfl)) ?_
                    refine pu 10 42 (lb 20 1163) rfl rfl (any_of HT_.out (by kernel_rfl)) ?_
                    refine pu 12 44 (lb 20 5259) rfl rfl (any_of HT_.out (by kernel_rfl)) ?_
                    refine take_ (i := 2) (N := some 34) (v := ?_) (a' := ?_) (lb 20 5263) rfl rfl (take_ofW HT_.out HW_.out (by kernel_rfl)) (fun _ _ _ h => h) (Or.inl ⟨by rfl, ?_⟩) hHeld ?_ ?_
                    rotate_left
                    · rintro w' ⟨s0, s1, s2, s3, s4, s5, s6⟩
                      go_simp
                      with_reducible rfl
                    rotate_left
                    · simp only [Act.put, List.setIfInBounds_toArray, List.set_cons_zero, List.set_cons_succ, i64_w, i32_w]
                      rfl
                    refine pu 4 36 (lb 20 5279) rfl rfl (any_of HT_.out (by kernel_rfl)) ?_
                    refine pu 5 37 (lb 20 5311) rfl rfl (any_of HT_.out (by kernel_rfl)) ?_
                    refine take_ (i := 6) (N := some 38) (v := ?_) (a' := ?_) (lb 20 5375) rfl rfl (take_ofW HT_.out HW_.out (by kernel_rfl)) (fun _ _ _ h => h) (Or.inl ⟨by rfl, ?_⟩) hHeld ?_ ?_
                    rotate_left
                    · rintro w' ⟨s0, s1, s2, s3, s4, s5, s6⟩
                      go_simp
                      with_reducible rfl
                    rotate_left
                    · simp only [Act.put, List.setIfInBounds_toArray, List.set_cons_zero, List.set_cons_succ, i64_w, i32_w]
                      rfl
                    refine take_ (i := 8) (N := some 40) (v := ?_) (a' := ?_) (lb 20 5631) rfl rfl (take_ofW HT_.out HW_.out (by kernel_rfl)) (fun _ _ _ h => h) (Or.inl ⟨by rfl, ?_⟩) hHeld ?_ ?_
                    rotate_left
                    · rintro w' ⟨s0, s1, s2, s3, s4, s5, s6⟩
                      go_simp
                      with_reducible rfl
                    rotate_left
                    · simp only [Act.put, List.setIfInBounds_toArray, List.set_cons_zero, List.set_cons_succ, i64_w, i32_w]
                      rfl
                    refine pu 9 41 (lb 20 6143) rfl rfl (any_of HT_.out (by kernel_rfl)) ?_
                    refine take_ (i := 11) (N := some 43) (v := ?_) (a' := ?_) (lb 20 8191) rfl rfl (take_ofW HT_.out HW_.out (by kernel_rfl)) (fun _ _ _ h => h) (Or.inl ⟨by rfl, ?_⟩) hHeld ?_ ?_
                    rotate_left
                    · rintro w' ⟨s0, s1, s2, s3, s4, s5, s6⟩
                      go_simp
                      with_reducible rfl
                    rotate_left
                    · simp only [Act.put, List.setIfInBounds_toArray, List.set_cons_zero, List.set_cons_succ, i64_w, i32_w]
                      rfl
                    refine pu 13 45 (lb 20 16383) rfl rfl (any_of HT_.out (by kernel_rfl)) ?_
                    refine pu 14 46 (lb 20 32767) rfl rfl (any_of HT_.out (by kernel_rfl)) ?_
                    refine take_ (i := 15) (N := some 47) (v := ?_) (a' := ?_) (lb 20 65535) rfl rfl (take_ofW HT_.out HW_.out (by kernel_rfl)) (fun _ _ _ h => h) (Or.inl ⟨by rfl, ?_⟩) hHeld ?_ ?_
                    rotate_left
                    · rintro w' ⟨s0, s1, s2, s3, s4, s5, s6⟩
                      go_simp
                      with_reducible rfl
                    rotate_left
                    · simp only [Act.put, List.setIfInBounds_toArray, List.set_cons_zero, List.set_cons_succ, i64_w, i32_w]
                      rfl
                    refine pu 16 48 (lb 20 131071) rfl rfl (any_of HT_.out (by kernel_rfl)) ?_
                    refine one_ (i := 17) (N := some 49) (lb 20 262143) rfl rfl (one_of HT_.out (by kernel_rfl)) (by decide) (fun K hK => ?_)
                    refine value_ (w1 := ?_) (v := ?_) (by rfl) rfl ?_ ?_
                    rotate_left 2
                    · go_simp
                      constructor
                      · rfl
                      · rfl
                    refine hK.out _ _ ⟨(blk_cell (blk_alloc BK497.out _) 0).trans rfl, (blk_cell (blk_alloc BK497.out _) 1).trans rfl, (blk_cell (blk_alloc BK497.out _) 2).trans rfl, (World.cell?_alloc_lt _ _ _ (World.block_lt_of_cell? _ _ (((HB.out.cell (World.block_lt_of_cell? w _ hw503_0)).trans hw503_0)))).trans (((HB.out.cell (World.block_lt_of_cell? w _ hw503_0)).trans hw503_0)), (World.cell?_alloc_lt _ _ _ (World.block_lt_of_cell? _ _ (((HB.out.cell (World.block_lt_of_cell? w _ hw503_1)).trans hw503_1)))).trans (((HB.out.cell (World.block_lt_of_cell? w _ hw503_1)).trans hw503_1)), (World.cell?_alloc_lt _ _ _ (World.block_lt_of_cell? _ _ (((HB.out.cell (World.block_lt_of_cell? w _ hw504_0)).trans hw504_0)))).trans (((HB.out.cell (World.block_lt_of_cell? w _ hw504_0)).trans hw504_0)), (World.cell?_alloc_lt _ _ _ (World.block_lt_of_cell? _ _ (((HB.out.cell (World.block_lt_of_cell? w _ hw504_1)).trans hw504_1)))).trans (((HB.out.cell (World.block_lt_of_cell? w _ hw504_1)).trans hw504_1))⟩ (fun hHeld => ?_)
                    clear hK K
                    refine norm_ (a' := ?_) ?_ ?_
                    rotate_left
                    · show Act.put _ (some 49) _ = _
                      simp only [Act.put, List.setIfInBounds_toArray, List.set_cons_zero, List.set_cons_succ, i64_w, i32_w]
                      rfl
                    refine one_ (i := 18) (N := some 50) (lb 20 524287) rfl rfl (one_of HT_.out (by kernel_rfl)) (by decide) (fun K hK => ?_)
                    refine Kd.R_append_step k88 (w0 := w) w.heap.size (by rfl) (.tmp 32) (.tmp 49) 65 88 (.agg #[(.int .i64 0), (.int .i64 0)]) 16 rfl Try.underlying65 info88 rfl (by decide) (by omega) u6 x6_1 (⟨wrap64 (Int.tdiv ((rd_T88 l0_2 x7_1).f0) a0_0), (rd_T88 l0_2 x7_1).f1⟩ : S88) [.int .i64 (wrap64 (Int.tdiv ((rd_T88 l0_2 x7_1).f0) a0_0)), .int .i64 ((rd_T88 l0_2 x7_1).f1)] (fun _ => True) (fun _ => False) rfl rfl ?aP (fun _ hk => hk.elim) ?aF ?aO ?aB ?aS ?aL ?_
                    (case aP => exact k88_mkM _ _ _ (⟨wrap64 (Int.tdiv ((rd_T88 l0_2 x7_1).f0) a0_0), (rd_T88 l0_2 x7_1).f1⟩ : S88))
                    (case aB => exact (zB HB))
                    (case aF => exact (fun _ _ => trivial))
                    (case aO => exact (zr_ HO_6))
                    (case aS => exact (below_size (zB HB)))
                    (case aL => have := LMc14.out; omega)
                    intro v506 w19 ho hb hg hat
                    rw [← Ny505.out] at ho
                    have n0_ := Aside0.mk (Kd.R_over' (zr_ HO_5) (Kd.R_typed (zr_ HO_6)) (by decide) hg)
                    have n1_ := Aside0.mk (blk_grown (g := gb497) (o := .cells #[.int .i64 a0_0, .int .i64 a0_1, .slice (some ad501) l0_2.length c0_2] 67 (0, 0)) (zk BK497) hg (Kd.R_ne HO_6.out BK497.out (by decide)))
                    have n2_ := Aside0.mk (hb)
                    have n3_ := Aside0.mk (ho)
                    clear HO_5
                    clear BK497
                    clear HB
                    clear HO_6
                    have HO_5 := n0_
                    have BK497 := n1_
                    have HB := n2_
                    have HO507 := n3_
                    clear n0_ n1_ n2_ n3_
                    clear ho hb hg hat
                    refine hK.out _ _ ⟨(blk_cell BK497.out 0).trans rfl, (blk_cell BK497.out 1).trans rfl, (blk_cell BK497.out 2).trans rfl, ((HB.out.cell (World.block_lt_of_cell? w _ hw503_0)).trans hw503_0), ((HB.out.cell (World.block_lt_of_cell? w _ hw503_1)).trans hw503_1), ((HB.out.cell (World.block_lt_of_cell? w _ hw504_0)).trans hw504_0), ((HB.out.cell (World.block_lt_of_cell? w _ hw504_1)).trans hw504_1)⟩ (fun hHeld => ?_)
                    clear hK K
                    refine norm_ (a' := ?_) ?_ ?_
                    rotate_left
                    · show Act.put _ (some 50) _ = _
                      simp only [Act.put, List.setIfInBounds_toArray, List.set_cons_zero, List.set_cons_succ, i64_w, i32_w]
                      rfl
                    refine pu 19 6 (lb 20 1048575) rfl rfl (any_of HT_.out (by kernel_rfl)) ?_
                    refine done_ (done_of HT_.out (by kernel_rfl)) ?_
                    try go_wp2
                    go_roundg k1
                    case measure => have := HK1.out; omega
                    case rel => exact ⟨(y505), (wrap64 (x7_1 + 1)), (by first | rfl | (simp; done) | (simp [*]; done)), H', ⟨by have := HK1.out; omega⟩, ⟨by (with_reducible repeat (first | apply Kd.R_alloc | apply Kd.R_drewN | apply Kd.R_drew)); exact HO_5.out⟩, ⟨by (with_reducible repeat (first | apply Kd.R_alloc | apply Kd.R_drewN | apply Kd.R_drew)); exact HO507.out⟩, ⟨by (with_reducible repeat (first | refine blk_drewN ?_ _ | refine blk_drew ?_ | refine blk_alloc ?_ _)); exact BK497.out⟩, ⟨by repeat (first | (with_reducible first | exact HB.out | apply below_alloc | apply pw_below_drewN | apply below_drew1 | refine below_set ?_ GE497.out) | exact HB.out)⟩⟩
                  · rw [if_neg c14] at H
                    exact absurd H (by simp)
                · rw [if_neg c13] at H
                  have c13b0 : ((rd t498 (ji10)) == a1) = false := beq_eq_false_iff_ne.mpr c13
                  have c13b1 : ((rd t498 (ji10)) != a1) = true := bne_iff_ne.mpr c13
                  have H' := Aside0.mk H
                  clear H
                  obtain ⟨hcz20_0, hcz20_1, hcz20_2⟩ := zC3 BK497
                  obtain ⟨hfz20_0, hfz20_1, hfz20_2⟩ := zF3 BK497
                  try go_wp2
                  replace HO_5 := Aside0.mk (Kd.R_drew HO_5.out)
                  replace HO_6 := Aside0.mk (Kd.R_drew HO_6.out)
                  replace BK497 := Aside0.mk (blk_drew BK497.out)
                  replace HB := Aside0.mk (below_drew1 HB.out)
                  have p501 : 0 ≤ (x7_1 : Int) := of_decide_eq_true (by first | (with_reducible assumption) | assumption)
                  have q501 : x7_1 < (l0_2.length : Int) := of_decide_eq_true (by first | (with_reducible assumption) | assumption)
                  obtain ⟨ad501, e501, hx501_0, hx501_1⟩ := at_T88 HR0_2.out x7_1 p501 q501
                  have hw501_1 := hx501_1
                  have hw501_0 := hx501_0
                  cases e501
                  replace hx501_0 := (HB.out.cell (World.block_lt_of_cell? w _ hx501_0)).trans hx501_0
                  replace hx501_1 := (HB.out.cell (World.block_lt_of_cell? w _ hx501_1)).trans hx501_1
                  replace p501 := eq_true p501
                  replace q501 := eq_true q501
                  obtain ⟨Ao22, co22, eo22⟩ := Kd.R_slice HO_5.out
                  (first | subst eo22 | (injection eo22 with f1_ f2_ f3_; have f4_ := f1_.symm; have f5_ := f3_.symm; clear f1_ f2_ f3_; subst f4_; subst f5_))
                  have p502 : 0 ≤ ((ji10) : Int) := of_decide_eq_true (by first | (with_reducible assumption) | assumption)
                  have q502 : (ji10) < (t498.length : Int) := of_decide_eq_true (by first | (with_reducible assumption) | assumption)
                  obtain ⟨ad502, e502, hx502_0⟩ := Kd.at_int (Kd.R_reads' HO_5.out).2.2 (ji10) p502 q502
                  cases e502
                  replace p502 := eq_true p502
                  replace q502 := eq_true q502
                  refine start_ (n := 14) (S := fun w' => w'.cell? ⟨gb497, 0, none⟩ = some (.int .i64 a0_0) ∧ w'.cell? ⟨gb497, 1, none⟩ = some (.int .i64 a0_1) ∧ w'.cell? ⟨gb497, 2, none⟩ = some (.slice (some ad501) l0_2.length c0_2) ∧ w'.cell? (ad501.add ((x7_1).toNat * 2)) = some (.int .i64 ((rd_T88 l0_2 x7_1).f0)) ∧ w'.cell? ⟨(ad501.add ((x7_1).toNat * 2)).block, (ad501.add ((x7_1).toNat * 2)).off + 1, none⟩ = some (.int .i64 ((rd_T88 l0_2 x7_1).f1)) ∧ w'.cell? (ad502.add ((ji10)).toNat) = some (.int .i64 (rd t498 (ji10)))) (ds := []) #[false, false, false, false, false, false, false, false, false, false, false, false, false, false] (by kernel_rfl) rfl rfl ⟨(blk_cell BK497.out 0).trans rfl, (blk_cell BK497.out 1).trans rfl, (blk_cell BK497.out 2).trans rfl, ((HB.out.cell (World.block_lt_of_cell? w _ hw501_0)).trans hw501_0), ((HB.out.cell (World.block_lt_of_cell? w _ hw501_1)).trans hw501_1), hx502_0⟩ (fun hHeld => ?_); refine with_tabW voluteref04_Of.tab6 voluteref04_Of.bits6 (fun HT_ HW_ => ?_)
                  generalize wr.drew = w21 at HO_5 HO_6 BK497 HB hx501_0 hx501_1 hx502_0 hHeld ⊢
                  refine pu 0 18 (lb 14 1) rfl rfl (any_of HT_.out (by kernel_rfl)) ?_
                  refine pu 1 19 (lb 14 3) rfl rfl (any_of HT_.out (by kernel_rfl)) ?_
                  refine pu 3 21 (lb 14 11) rfl rfl (any_of HT_.out (by kernel_rfl)) ?_
                  refine pu 7 25 (lb 14 139) rfl rfl (any_of HT_.out (by kernel_rfl)) ?_
                  refine pu 12 30 (lb 14 4235) rfl rfl (any_of HT_.out (by kernel_rfl)) ?_
                  refine take_ (i := 2) (N := some 20) (v := ?_) (a' := ?_) (lb 14 4239) rfl rfl (take_ofW HT_.out HW_.out (by kernel_rfl)) (fun _ _ _ h => h) (Or.inl ⟨by rfl, ?_⟩) hHeld ?_ ?_
                  rotate_left
                  · rintro w' ⟨s0, s1, s2, s3, s4, s5⟩
                    go_simp
                    with_reducible rfl
                  rotate_left
                  · simp only [Act.put, List.setIfInBounds_toArray, List.set_cons_zero, List.set_cons_succ, i64_w, i32_w]
                    rfl
                  refine pu 4 22 (lb 14 4255) rfl rfl (any_of HT_.out (by kernel_rfl)) ?_
                  refine pu 5 23 (lb 14 4287) rfl rfl (any_of HT_.out (by kernel_rfl)) ?_
                  refine take_ (i := 6) (N := some 24) (v := ?_) (a' := ?_) (lb 14 4351) rfl rfl (take_ofW HT_.out HW_.out (by kernel_rfl)) (fun _ _ _ h => h) (Or.inl ⟨by rfl, ?_⟩) hHeld ?_ ?_
                  rotate_left
                  · rintro w' ⟨s0, s1, s2, s3, s4, s5⟩
                    go_simp
                    with_reducible rfl
                  rotate_left
                  · simp only [Act.put, List.setIfInBounds_toArray, List.set_cons_zero, List.set_cons_succ, i64_w, i32_w]
                    rfl
                  refine take_ (i := 8) (N := some 26) (v := ?_) (a' := ?_) (lb 14 4607) rfl rfl (take_ofW HT_.out HW_.out (by kernel_rfl)) (fun _ _ _ h => h) (Or.inl ⟨by rfl, ?_⟩) hHeld ?_ ?_
                  rotate_left
                  · rintro w' ⟨s0, s1, s2, s3, s4, s5⟩
                    go_simp
                    with_reducible rfl
                  rotate_left
                  · simp only [Act.put, List.setIfInBounds_toArray, List.set_cons_zero, List.set_cons_succ, i64_w, i32_w]
                    rfl
                  refine pu 9 27 (lb 14 5119) rfl rfl (any_of HT_.out (by kernel_rfl)) ?_
                  refine pu 10 28 (lb 14 6143) rfl rfl (any_of HT_.out (by kernel_rfl)) ?_
                  refine take_ (i := 11) (N := some 29) (v := ?_) (a' := ?_) (lb 14 8191) rfl rfl (take_ofW HT_.out HW_.out (by kernel_rfl)) (fun _ _ _ h => h) (Or.inl ⟨by rfl, ?_⟩) hHeld ?_ ?_
                  rotate_left
                  · rintro w' ⟨s0, s1, s2, s3, s4, s5⟩
                    go_simp
                    with_reducible rfl
                  rotate_left
                  · simp only [Act.put, List.setIfInBounds_toArray, List.set_cons_zero, List.set_cons_succ, i64_w, i32_w]
                    rfl
                  refine pu 13 31 (lb 14 16383) rfl rfl (any_of HT_.out (by kernel_rfl)) ?_
                  refine done_ (done_of HT_.out (by kernel_rfl)) ?_
                  try go_wp2
                  go_roundg k1
                  case measure => have := HK1.out; omega
                  case rel => exact ⟨(x6_1), (wrap64 (x7_1 + 1)), (by first | rfl | (simp; done) | (simp [*]; done)), H', ⟨by have := HK1.out; omega⟩, ⟨by (with_reducible repeat (first | apply Kd.R_alloc | apply Kd.R_drewN | apply Kd.R_drew)); exact HO_5.out⟩, ⟨by (with_reducible repeat (first | apply Kd.R_alloc | apply Kd.R_drewN | apply Kd.R_drew)); exact HO_6.out⟩, ⟨by (with_reducible repeat (first | refine blk_drewN ?_ _ | refine blk_drew ?_ | refine blk_alloc ?_ _)); exact BK497.out⟩, ⟨by repeat (first | (with_reducible first | exact HB.out | apply below_alloc | apply pw_below_drewN | apply below_drew1 | refine below_set ?_ GE497.out) | exact HB.out)⟩⟩
              · rw [if_neg c12] at H
                exact absurd H (by simp)
            · rw [if_neg c11] at H
              exact absurd H (by simp)
        · rw [if_neg c8] at H
          exact absurd H (by simp)
      · rw [if_neg c7] at H
        have c7b0 : decide (x7_1 < (l0_2.length : Int)) = false := decide_eq_false c7
        clear c7
        obtain rfl := Option.some.inj H
        obtain ⟨hcz23_0, hcz23_1, hcz23_2⟩ := zC3 BK497
        obtain ⟨hfz23_0, hfz23_1, hfz23_2⟩ := zF3 BK497
        go_wp2
        go_ret
        exact ⟨_, by first | rfl | (simp [errW_none, errW_some] <;> rfl) | (simp [*, errW_none, errW_some] <;> rfl), by (with_reducible repeat (first | apply Kd.R_alloc | apply Kd.R_drewN | apply Kd.R_drew)); exact HO_6.out, by repeat (first | (with_reducible first | exact HB.out | apply below_alloc | apply pw_below_drewN | apply below_drew1 | refine below_set ?_ GE497.out) | exact HB.out)⟩
end Go.Proofs.Ytfhihhfckpolpaa.P
