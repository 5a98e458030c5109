/- What the law's proof needs: PxVoluteref04Pile. -/
import Derived.Test.YtlolfijadcflaaaBfPx0
import Derived.Test.YtlolfijadcflaaaBfPxVoluteref04
namespace Go.Proofs.Ytlolfijadcflaaa.P
open Go.RowKit Go.Proofs.YtlolfijadcflaaaW.PrintWords Go.Proofs.YtlolfijadcflaaaW.PrintLast Go.Proofs.YtlolfijadcflaaaW.PrintMore
attribute [local go_sem] max2_int min2_int max_two min_two max_three min_three max_four min_four   -- for this text's walks alone
set_option linter.unusedVariables false
set_option linter.unusedSimpArgs false
mutual
def voluteref04_Pile.j0 : Nat → Bool → Int → Int → List (S132) → Option (Bool)
  | 0, _, _, _, _ => none
  | k + 1, x18, x610000, x610001, x610002 => if x18 = true then (some false) else (voluteref04_Pile.l0 k 0 x610000 x610001 x610002)
def voluteref04_Pile.l0 : Nat → Int → Int → Int → List (S132) → Option (Bool)
  | 0, _, _, _, _ => none
  | k + 1, x3, x610000, x610001, x610002 => if x3 < (x610002.length : Int) then (if 0 ≤ x3 then (if ((rd_T132 x610002 x3).f0) < 0 then (some false) else (if ((rd_T132 x610002 x3).f0) ≥ (wrap64 (x610000 * x610001)) then (some false) else (if ((rd_T132 x610002 x3).f1) < 0 then (some false) else (if ((rd_T132 x610002 x3).f1) > 255 then (some false) else (if x3 > 0 then (if 0 ≤ (wrap64 (x3 - 1)) then (if (wrap64 (x3 - 1)) < (x610002.length : Int) then (if ((rd_T132 x610002 x3).f0) ≤ ((rd_T132 x610002 (wrap64 (x3 - 1))).f0) then (some false) else (voluteref04_Pile.l0 k (wrap64 (x3 + 1)) x610000 x610001 x610002)) else (none)) else (none)) else (voluteref04_Pile.l0 k (wrap64 (x3 + 1)) x610000 x610001 x610002)))))) else (none)) else (some true)
end
def voluteref04_Pile.f (k : Nat) (a0_0 : Int) (a0_1 : Int) (l0_2 : List (S132)) : Option (Bool) := (voluteref04_N.f a0_0).bind fun t610 => (if t610 = true then (if a0_1 < 1 then (voluteref04_Pile.j0 k true a0_0 a0_1 l0_2) else (voluteref04_Pile.j0 k (decide (a0_1 > 16)) a0_0 a0_1 l0_2)) else (voluteref04_Pile.j0 k true a0_0 a0_1 l0_2))
set_option maxRecDepth 100000 in
theorem voluteref04_Pile.calls.z1 {P : Prop} (h : P := by
  iterate 5 ((try go_quiet (first | (go_at_call 85; (with_reducible refine (voluteref04_N.calls a0_0 true _ Aq1.out).mono ?_); rintro e w' ⟨rfl, ⟨nd, rfl⟩⟩; (try first | exact ⟨rfl, _, World.drewN_drewN _ _ _⟩ | exact ⟨rfl, _, Eq.trans (World.drewN_drewN _ _ _) (congrArg (World.drewN _) (Nat.add_assoc _ _ _))⟩)) | (go_at_call 85; (with_reducible refine (voluteref04_N.calls a0_0 false _ Aq1.out).mono ?_); rintro e w' ⟨rfl, ⟨nd, rfl⟩⟩; (try first | exact ⟨rfl, _, World.drewN_drewN _ _ _⟩ | exact ⟨rfl, _, Eq.trans (World.drewN_drewN _ _ _) (congrArg (World.drewN _) (Nat.add_assoc _ _ _))⟩)))); try go_wp2_with (first | (go_at_call 85; (with_reducible refine (voluteref04_N.calls a0_0 true _ Aq1.out).mono ?_); rintro e w' ⟨rfl, ⟨nd, rfl⟩⟩; (try first | exact ⟨rfl, _, World.drewN_drewN _ _ _⟩ | exact ⟨rfl, _, Eq.trans (World.drewN_drewN _ _ _) (congrArg (World.drewN _) (Nat.add_assoc _ _ _))⟩)) | (go_at_call 85; (with_reducible refine (voluteref04_N.calls a0_0 false _ Aq1.out).mono ?_); rintro e w' ⟨rfl, ⟨nd, rfl⟩⟩; (try first | exact ⟨rfl, _, World.drewN_drewN _ _ _⟩ | exact ⟨rfl, _, Eq.trans (World.drewN_drewN _ _ _) (congrArg (World.drewN _) (Nat.add_assoc _ _ _))⟩))))
  go_meet
  first
    | case rel => exact ⟨_, (true), (by first | rfl | (simp; done) | (simp [*]; done)), H', ⟨by first | omega | exact Nat.le_refl _⟩, ⟨by (with_reducible repeat (first | refine blk_drewN ?_ _ | refine blk_drew ?_ | refine blk_alloc ?_ _)); exact BK609.out⟩, ⟨by repeat (first | (with_reducible first | exact HB.out | apply below_alloc | apply pw_below_drewN | apply below_drew1 | refine below_set ?_ GE609.out) | exact HB.out)⟩⟩
    | case rel => exact ⟨_, (decide (a0_1 > 16)), (by first | rfl | (simp; done) | (simp [*]; done)), H', ⟨by first | omega | exact Nat.le_refl _⟩, ⟨by (with_reducible repeat (first | refine blk_drewN ?_ _ | refine blk_drew ?_ | refine blk_alloc ?_ _)); exact BK609.out⟩, ⟨by repeat (first | (with_reducible first | exact HB.out | apply below_alloc | apply pw_below_drewN | apply below_drew1 | refine below_set ?_ GE609.out) | exact HB.out)⟩⟩) : P := h
set_option maxRecDepth 100000 in
theorem voluteref04_Pile.calls.z2 {P : Prop} (h : P := by
  iterate 5 ((try go_quiet (first | ((with_reducible refine gate_dst (N := 4) rfl ?_); refine box_event ?hg (N := 4) ?hd (cs := #[.int .i64 0, .int .i64 0]) (t := 132) ?hr ?_; (case hd => rfl); (case hg => rfl); (case hr => go_simp <;> rfl); intro gb612 hg wq0 hbox hb; have BK612 := Aside0.mk (hbox); have GW612 := zg HB hg; have GE612 := zg HB hg; replace HB := zs HB hb; have NB609_612 := zl BK609 hg; have NB612_609 := zr BK609 hg; replace BK609 := zb BK609 hb; clear hb hbox hg; have hnbq0 := NB612_609.out; have hncq0 := NB609_612.out; obtain ⟨hczq1_0, hczq1_1⟩ := zC2 BK612; obtain ⟨hfzq1_0, hfzq1_1⟩ := zF2 BK612; obtain ⟨hczq2_0, hczq2_1, hczq2_2⟩ := zC3 BK609; obtain ⟨hfzq2_0, hfzq2_1, hfzq2_2⟩ := zF3 BK609; have p613 : 0 ≤ ((ji37) : Int) := zod; have q613 : (ji37) < (l0_2.length : Int) := zod; obtain ⟨ad613, e613, hx613_0, hx613_1⟩ := at_T132 HRq0_2.out (ji37) p613 q613; obtain rfl : ad611 = ad613 := (by injection e613); have hn613_0 : ad611.block ≠ gb612 := Nat.ne_of_lt (Nat.lt_of_lt_of_le (by have := World.block_lt_of_cell? _ _ hx613_0; first | rwa [add_block] at this | exact this) GW612.out); have hn613_1 : ad611.block ≠ gb612 := Nat.ne_of_lt (Nat.lt_of_lt_of_le (by have := World.block_lt_of_cell? _ _ hx613_0; first | rwa [add_block] at this | exact this) GW612.out); replace hx613_0 := (HB.out.cell (World.block_lt_of_cell? w _ hx613_0)).trans hx613_0; replace hx613_1 := (HB.out.cell (World.block_lt_of_cell? w _ hx613_1)).trans hx613_1; replace hx613_0 := (cell_far (p := ⟨gb612, 0, none⟩) (by first | (rw [add_block]; exact hn613_0) | (show (Addr.add _ _).block ≠ _; rw [add_block]; exact hn613_0) | exact hn613_0) (.int .i64 ((rd_T132 l0_2 x3_2).f0))).trans hx613_0; replace hx613_1 := (cell_far (p := ⟨gb612, 0, none⟩) (by first | (rw [add_block]; exact hn613_0) | (show (Addr.add _ _).block ≠ _; rw [add_block]; exact hn613_0) | exact hn613_0) (.int .i64 ((rd_T132 l0_2 x3_2).f0))).trans hx613_1; replace hx613_0 := (cell_far (p := ⟨gb612, 1, none⟩) (by first | (rw [add_block]; exact hn613_1) | (show (Addr.add _ _).block ≠ _; rw [add_block]; exact hn613_1) | exact hn613_1) (.int .i64 ((rd_T132 l0_2 x3_2).f1))).trans hx613_0; replace hx613_1 := (cell_far (p := ⟨gb612, 1, none⟩) (by first | (rw [add_block]; exact hn613_1) | (show (Addr.add _ _).block ≠ _; rw [add_block]; exact hn613_1) | exact hn613_1) (.int .i64 ((rd_T132 l0_2 x3_2).f1))).trans hx613_1; (try have hy613_0 := fun (n_ : Nat) => (show ((((wq0.drewN n_).setCell ⟨gb612, 0, none⟩ (.int .i64 ((rd_T132 l0_2 x3_2).f0))).setCell ⟨gb612, 1, none⟩ (.int .i64 ((rd_T132 l0_2 x3_2).f1)))).cell? _ = some _ from hx613_0)); (try have hy613_1 := fun (n_ : Nat) => (show ((((wq0.drewN n_).setCell ⟨gb612, 0, none⟩ (.int .i64 ((rd_T132 l0_2 x3_2).f0))).setCell ⟨gb612, 1, none⟩ (.int .i64 ((rd_T132 l0_2 x3_2).f1)))).cell? _ = some _ from hx613_1)); clear hn613_0; clear hn613_1; replace p613 := eq_true p613; replace q613 := eq_true q613) | ((with_reducible refine gate_dst (N := 4) rfl ?_); refine box_event ?hg (N := 4) ?hd (cs := #[.int .i64 0, .int .i64 0]) (t := 132) ?hr ?_; (case hd => rfl); (case hg => rfl); (case hr => go_simp <;> rfl); intro gb612 hg wq0 hbox hb; have BK612 := Aside0.mk (hbox); have GW612 := zg HB hg; have GE612 := zg HB hg; replace HB := zs HB hb; have NB609_612 := zl BK609 hg; have NB612_609 := zr BK609 hg; replace BK609 := zb BK609 hb; clear hb hbox hg; have hnbq0 := NB612_609.out; have hncq0 := NB609_612.out; obtain ⟨hczq1_0, hczq1_1⟩ := zC2 BK612; obtain ⟨hfzq1_0, hfzq1_1⟩ := zF2 BK612; obtain ⟨hczq2_0, hczq2_1, hczq2_2⟩ := zC3 BK609; obtain ⟨hfzq2_0, hfzq2_1⟩ := zF2 BK609; have hfzq2_2 := blk_frozen BK609.out 2) | ((with_reducible refine gate_dst (N := 4) rfl ?_); refine box_event ?hg (N := 4) ?hd (cs := #[.int .i64 0, .int .i64 0]) (t := 132) ?hr ?_; (case hd => rfl); (case hg => rfl); (case hr => go_simp <;> rfl); intro gb612 hg wq0 hbox hb; have BK612 := Aside0.mk (hbox); have GW612 := zg HB hg; have GE612 := zg HB hg; replace HB := zs HB hb; have NB609_612 := zl BK609 hg; have NB612_609 := zr BK609 hg; replace BK609 := zb BK609 hb; clear hb hbox hg; have hnbq0 := NB612_609.out; have hncq0 := NB609_612.out; obtain ⟨hczq1_0, hczq1_1⟩ := zC2 BK612; have hfzq1_0 := blk_frozen BK612.out 0; have hfzq1_1 := blk_frozen BK612.out 1))); try go_wp2_with (first | ((with_reducible refine gate_dst (N := 4) rfl ?_); refine box_event ?hg (N := 4) ?hd (cs := #[.int .i64 0, .int .i64 0]) (t := 132) ?hr ?_; (case hd => rfl); (case hg => rfl); (case hr => go_simp <;> rfl); intro gb612 hg wq0 hbox hb; have BK612 := Aside0.mk (hbox); have GW612 := zg HB hg; have GE612 := zg HB hg; replace HB := zs HB hb; have NB609_612 := zl BK609 hg; have NB612_609 := zr BK609 hg; replace BK609 := zb BK609 hb; clear hb hbox hg; have hnbq0 := NB612_609.out; have hncq0 := NB609_612.out; obtain ⟨hczq1_0, hczq1_1⟩ := zC2 BK612; obtain ⟨hfzq1_0, hfzq1_1⟩ := zF2 BK612; obtain ⟨hczq2_0, hczq2_1, hczq2_2⟩ := zC3 BK609; obtain ⟨hfzq2_0, hfzq2_1, hfzq2_2⟩ := zF3 BK609; have p613 : 0 ≤ ((ji37) : Int) := zod; have q613 : (ji37) < (l0_2.length : Int) := zod; obtain ⟨ad613, e613, hx613_0, hx613_1⟩ := at_T132 HRq0_2.out (ji37) p613 q613; obtain rfl : ad611 = ad613 := (by injection e613); have hn613_0 : ad611.block ≠ gb612 := Nat.ne_of_lt (Nat.lt_of_lt_of_le (by have := World.block_lt_of_cell? _ _ hx613_0; first | rwa [add_block] at this | exact this) GW612.out); have hn613_1 : ad611.block ≠ gb612 := Nat.ne_of_lt (Nat.lt_of_lt_of_le (by have := World.block_lt_of_cell? _ _ hx613_0; first | rwa [add_block] at this | exact this) GW612.out); replace hx613_0 := (HB.out.cell (World.block_lt_of_cell? w _ hx613_0)).trans hx613_0; replace hx613_1 := (HB.out.cell (World.block_lt_of_cell? w _ hx613_1)).trans hx613_1; replace hx613_0 := (cell_far (p := ⟨gb612, 0, none⟩) (by first | (rw [add_block]; exact hn613_0) | (show (Addr.add _ _).block ≠ _; rw [add_block]; exact hn613_0) | exact hn613_0) (.int .i64 ((rd_T132 l0_2 x3_2).f0))).trans hx613_0; replace hx613_1 := (cell_far (p := ⟨gb612, 0, none⟩) (by first | (rw [add_block]; exact hn613_0) | (show (Addr.add _ _).block ≠ _; rw [add_block]; exact hn613_0) | exact hn613_0) (.int .i64 ((rd_T132 l0_2 x3_2).f0))).trans hx613_1; replace hx613_0 := (cell_far (p := ⟨gb612, 1, none⟩) (by first | (rw [add_block]; exact hn613_1) | (show (Addr.add _ _).block ≠ _; rw [add_block]; exact hn613_1) | exact hn613_1) (.int .i64 ((rd_T132 l0_2 x3_2).f1))).trans hx613_0; replace hx613_1 := (cell_far (p := ⟨gb612, 1, none⟩) (by first | (rw [add_block]; exact hn613_1) | (show (Addr.add _ _).block ≠ _; rw [add_block]; exact hn613_1) | exact hn613_1) (.int .i64 ((rd_T132 l0_2 x3_2).f1))).trans hx613_1; (try have hy613_0 := fun (n_ : Nat) => (show ((((wq0.drewN n_).setCell ⟨gb612, 0, none⟩ (.int .i64 ((rd_T132 l0_2 x3_2).f0))).setCell ⟨gb612, 1, none⟩ (.int .i64 ((rd_T132 l0_2 x3_2).f1)))).cell? _ = some _ from hx613_0)); (try have hy613_1 := fun (n_ : Nat) => (show ((((wq0.drewN n_).setCell ⟨gb612, 0, none⟩ (.int .i64 ((rd_T132 l0_2 x3_2).f0))).setCell ⟨gb612, 1, none⟩ (.int .i64 ((rd_T132 l0_2 x3_2).f1)))).cell? _ = some _ from hx613_1)); clear hn613_0; clear hn613_1; replace p613 := eq_true p613; replace q613 := eq_true q613) | ((with_reducible refine gate_dst (N := 4) rfl ?_); refine box_event ?hg (N := 4) ?hd (cs := #[.int .i64 0, .int .i64 0]) (t := 132) ?hr ?_; (case hd => rfl); (case hg => rfl); (case hr => go_simp <;> rfl); intro gb612 hg wq0 hbox hb; have BK612 := Aside0.mk (hbox); have GW612 := zg HB hg; have GE612 := zg HB hg; replace HB := zs HB hb; have NB609_612 := zl BK609 hg; have NB612_609 := zr BK609 hg; replace BK609 := zb BK609 hb; clear hb hbox hg; have hnbq0 := NB612_609.out; have hncq0 := NB609_612.out; obtain ⟨hczq1_0, hczq1_1⟩ := zC2 BK612; obtain ⟨hfzq1_0, hfzq1_1⟩ := zF2 BK612; obtain ⟨hczq2_0, hczq2_1, hczq2_2⟩ := zC3 BK609; obtain ⟨hfzq2_0, hfzq2_1⟩ := zF2 BK609; have hfzq2_2 := blk_frozen BK609.out 2) | ((with_reducible refine gate_dst (N := 4) rfl ?_); refine box_event ?hg (N := 4) ?hd (cs := #[.int .i64 0, .int .i64 0]) (t := 132) ?hr ?_; (case hd => rfl); (case hg => rfl); (case hr => go_simp <;> rfl); intro gb612 hg wq0 hbox hb; have BK612 := Aside0.mk (hbox); have GW612 := zg HB hg; have GE612 := zg HB hg; replace HB := zs HB hb; have NB609_612 := zl BK609 hg; have NB612_609 := zr BK609 hg; replace BK609 := zb BK609 hb; clear hb hbox hg; have hnbq0 := NB612_609.out; have hncq0 := NB609_612.out; obtain ⟨hczq1_0, hczq1_1⟩ := zC2 BK612; have hfzq1_0 := blk_frozen BK612.out 0; have hfzq1_1 := blk_frozen BK612.out 1)))
  go_ret
  first
    | exact ⟨by first | rfl | (simp [errW_none, errW_some] <;> rfl) | (simp [*, errW_none, errW_some] <;> rfl), by repeat (first | (with_reducible first | exact HB.out | apply below_alloc | apply pw_below_drewN | apply below_drew1 | refine below_set ?_ GE609.out | refine below_set ?_ GE612.out) | exact HB.out)⟩
    | exact ⟨by first | rfl | (simp [errW_none, errW_some] <;> rfl) | (simp only [← hji37]; first | rfl | (simp [errW_none, errW_some] <;> rfl)) | (simp [*, errW_none, errW_some] <;> rfl), by repeat (first | (with_reducible first | exact HB.out | apply below_alloc | apply pw_below_drewN | apply below_drew1 | refine below_set ?_ GE609.out | refine below_set ?_ GE612.out) | exact HB.out)⟩) : P := h
set_option maxHeartbeats 8000000 in
set_option maxRecDepth 100000 in
theorem voluteref04_Pile.calls (k : Nat) (a0_0 : Int) (a0_1 : Int) (A0_2 : Option Addr) (c0_2 : Nat) (l0_2 : List (S132)) (r : Bool) (w : World) (hr0_2 : Kd.C k132 w A0_2 l0_2.length l0_2) (hc0_2 : l0_2.length ≤ c0_2) (h : voluteref04_Pile.f k a0_0 a0_1 l0_2 = some r) :
    Calls Try.prog 34 #[.agg #[.int .i64 a0_0, .int .i64 a0_1, .slice A0_2 l0_2.length c0_2]] w fun e w' => e = .returned (.bool r) ∧ Below w.heap.size w w' := by
 have huq0 := Try.underlying49
 have huq1 := Try.underlying132
 have HRq0_2 := Aside0.mk hr0_2
 have HCq0_2 := Aside0.mk hc0_2
 clear hr0_2 hc0_2
 have HB := Aside0.mk (Below.refl w.heap.size w)
 have H : ((voluteref04_N.f a0_0).bind fun t610 => (if t610 = true then (if a0_1 < 1 then (voluteref04_Pile.j0 k true a0_0 a0_1 l0_2) else (voluteref04_Pile.j0 k (decide (a0_1 > 16)) a0_0 a0_1 l0_2)) else (voluteref04_Pile.j0 k true a0_0 a0_1 l0_2))) = some r := h
 clear h
 have HCq1 := Aside0.mk H
 clear H
 go_enter Try.func34, Try.ntmps34
 go_upto_region 1 with (first | ((with_reducible refine gate_dst (N := 1) rfl ?_); refine box_event ?hg (N := 1) ?hd (cs := #[.int .i64 a0_0, .int .i64 a0_1, .slice A0_2 l0_2.length c0_2]) (t := 49) ?hr ?_; (case hd => rfl); (case hg => rfl); (case hr => go_simp <;> rfl); intro gb609 hg w3 hbox hb; have BK609 := Aside0.mk (hbox); have GW609 := zg HB hg; have GE609 := zg HB hg; replace HB := zs HB hb; clear hb hbox hg))
 repeat (go_quiet (first | ((with_reducible refine gate_dst (N := 1) rfl ?_); refine box_event ?hg (N := 1) ?hd (cs := #[.int .i64 a0_0, .int .i64 a0_1, .slice A0_2 l0_2.length c0_2]) (t := 49) ?hr ?_; (case hd => rfl); (case hg => rfl); (case hr => go_simp <;> rfl); intro gb609 hg w3 hbox hb; have BK609 := Aside0.mk (hbox); have GW609 := zg HB hg; have GE609 := zg HB hg; replace HB := zs HB hb; clear hb hbox hg)); go_upto_region 1 with (first | ((with_reducible refine gate_dst (N := 1) rfl ?_); refine box_event ?hg (N := 1) ?hd (cs := #[.int .i64 a0_0, .int .i64 a0_1, .slice A0_2 l0_2.length c0_2]) (t := 49) ?hr ?_; (case hd => rfl); (case hg => rfl); (case hr => go_simp <;> rfl); intro gb609 hg w3 hbox hb; have BK609 := Aside0.mk (hbox); have GW609 := zg HB hg; have GE609 := zg HB hg; replace HB := zs HB hb; clear hb hbox hg)))
 (try simp only [Act.put, List.setIfInBounds_toArray, List.set_cons_zero, List.set_cons_succ])
 go_cut [18] (fun v18 wc => ∃ (kq : Nat) (x18_1 : Bool), v18 = .bool x18_1 ∧ Aside0 (voluteref04_Pile.j0 kq x18_1 a0_0 a0_1 l0_2 = some r) ∧ Aside0 (kq ≤ k) ∧ Aside0 (wc.heap[gb609]? = some (.cells #[.int .i64 a0_0, .int .i64 a0_1, (.slice A0_2 l0_2.length c0_2)] 49 (0, 0))) ∧ Aside0 (Below w.heap.size w wc))
 case first =>
  have H := HCq1.out
  clear HCq1
  replace H := Option.bind_eq_some_iff.mp H
  obtain ⟨t610, Aq0, H⟩ := H
  replace H : (if t610 = true then (if a0_1 < 1 then (voluteref04_Pile.j0 k true a0_0 a0_1 l0_2) else (voluteref04_Pile.j0 k (decide (a0_1 > 16)) a0_0 a0_1 l0_2)) else (voluteref04_Pile.j0 k true a0_0 a0_1 l0_2)) = some r := H
  have Aq1 := Aside0.mk Aq0
  clear Aq0
  by_cases c5 : t610 = true
  rotate_left
  · replace c5 := Bool.eq_false_iff.mpr c5
    subst c5
    have H1 : (voluteref04_Pile.j0 k true a0_0 a0_1 l0_2) = some r := by rw [if_neg (show ¬ (false = true) by decide)] at H; exact H
    clear H
    have H := H1
    clear H1
    have H' := Aside0.mk H
    clear H
    obtain ⟨hczq0_0, hczq0_1, hczq0_2⟩ := zC3 BK609
    obtain ⟨hfzq0_0, hfzq0_1, hfzq0_2⟩ := zF3 BK609
    exact voluteref04_Pile.calls.z1
  subst c5
  have H1 : (if a0_1 < 1 then (voluteref04_Pile.j0 k true a0_0 a0_1 l0_2) else (voluteref04_Pile.j0 k (decide (a0_1 > 16)) a0_0 a0_1 l0_2)) = some r := by first | (rw [if_pos rfl] at H; exact H) | exact (if_pos rfl).symm.trans H
  clear H
  have H := H1
  clear H1
  by_cases cq0 : a0_1 < 1
  · rw [if_pos cq0] at H
    have c6b0 : decide (a0_1 < 1) = true := decide_eq_true cq0
    clear cq0
    (first | rw [c6b0] | (simp only [i64_w, i32_w]; rw [c6b0]) | skip)
    have H' := Aside0.mk H
    clear H
    obtain ⟨hczq0_0, hczq0_1, hczq0_2⟩ := zC3 BK609
    obtain ⟨hfzq0_0, hfzq0_1, hfzq0_2⟩ := zF3 BK609
    exact voluteref04_Pile.calls.z1
  rw [if_neg cq0] at H
  have c6b0 : decide (a0_1 < 1) = false := decide_eq_false cq0
  clear cq0
  (first | rw [c6b0] | (simp only [i64_w, i32_w]; rw [c6b0]) | skip)
  have H' := Aside0.mk H
  clear H
  obtain ⟨hczq0_0, hczq0_1, hczq0_2⟩ := zC3 BK609
  obtain ⟨hfzq0_0, hfzq0_1, hfzq0_2⟩ := zF3 BK609
  exact voluteref04_Pile.calls.z1
 clear HCq1
 obtain ⟨kq, x18_1, rfl, HA, HJq0, BK609, HB⟩ := hcut
 cases kq with
 | zero => exact absurd HA.out (by simp [voluteref04_Pile.j0])
 | succ kj1 => ?_
 have H := HA.out
 clear HA
 simp only [voluteref04_Pile.j0] at H
 by_cases c10 : x18_1 = true
 · subst c10
   have H1 : (some false) = some r := by first | (rw [if_pos rfl] at H; exact H) | exact (if_pos rfl).symm.trans H
   clear H
   have H := H1
   clear H1
   obtain rfl := Option.some.inj H
   go_wp2
   repeat (go_quiet (fail); try go_wp2)
   go_ret
   exact ⟨by first | rfl | (simp [errW_none, errW_some] <;> rfl) | (simp [*, errW_none, errW_some] <;> rfl), by repeat (first | (with_reducible first | exact HB.out | apply below_alloc | apply pw_below_drewN | apply below_drew1 | refine below_set ?_ GE609.out) | exact HB.out)⟩
 replace c10 := Bool.eq_false_iff.mpr c10
 subst c10
 have H1 : (voluteref04_Pile.l0 kj1 0 a0_0 a0_1 l0_2) = some r := by rw [if_neg (show ¬ (false = true) by decide)] at H; exact H
 clear H
 have H := H1
 clear H1
 have H' := Aside0.mk H
 clear H
 go_wp2
 repeat (go_quiet (fail); try go_wp2)
 go_loopg [3] kj1 (fun kq v3 w' => ∃ (x3_2 : Int), v3 = .int .i64 x3_2 ∧ Aside0 (voluteref04_Pile.l0 kq x3_2 a0_0 a0_1 l0_2 = some r) ∧ Aside0 (kq ≤ kj1) ∧ Aside0 (w'.heap[gb609]? = some (.cells #[.int .i64 a0_0, .int .i64 a0_1, (.slice A0_2 l0_2.length c0_2)] 49 (0, 0))) ∧ Aside0 (Below w.heap.size w w'))
 case atStart => exact ⟨(0), (by first | rfl | (simp; done) | (simp [*]; done)), H', ⟨Nat.le_refl _⟩, ⟨by (with_reducible repeat (first | refine blk_drewN ?_ _ | refine blk_drew ?_ | refine blk_alloc ?_ _)); exact BK609.out⟩, ⟨by repeat (first | (with_reducible first | exact HB.out | apply below_alloc | apply pw_below_drewN | apply below_drew1 | refine below_set ?_ GE609.out) | exact HB.out)⟩⟩
 case round =>
  clear H'
  try clear c10
  obtain ⟨x3_2, rfl, HA, HKq0, BK609, HB⟩ := hrel
  cases gk with
  | zero => exact absurd HA.out (by simp [voluteref04_Pile.l0])
  | succ k2 => ?_
  have H := HA.out
  clear HA
  simp only [voluteref04_Pile.l0] at H
  by_cases cq0 : x3_2 < (l0_2.length : Int)
  rotate_left
  · rw [if_neg cq0] at H
    have c11b0 : decide (x3_2 < (l0_2.length : Int)) = false := decide_eq_false cq0
    clear cq0
    obtain rfl := Option.some.inj H
    obtain ⟨hczq0_0, hczq0_1, hczq0_2⟩ := zC3 BK609
    obtain ⟨hfzq0_0, hfzq0_1, hfzq0_2⟩ := zF3 BK609
    go_wp2
    repeat (go_quiet (fail); try go_wp2)
    go_ret
    exact ⟨by first | rfl | (simp [errW_none, errW_some] <;> rfl) | (simp [*, errW_none, errW_some] <;> rfl), by repeat (first | (with_reducible first | exact HB.out | apply below_alloc | apply pw_below_drewN | apply below_drew1 | refine below_set ?_ GE609.out) | exact HB.out)⟩
  rw [if_pos cq0] at H
  have c11b0 : decide (x3_2 < (l0_2.length : Int)) = true := decide_eq_true cq0
  clear cq0
  by_cases cq1 : 0 ≤ x3_2
  rotate_left
  · rw [if_neg cq1] at H
    exact absurd H (by simp)
  rw [if_pos cq1] at H
  have cq1b0 : decide (0 ≤ x3_2) = true := decide_eq_true cq1
  clear cq1
  by_cases cq2 : ((rd_T132 l0_2 x3_2).f0) < 0
  · rw [if_pos cq2] at H
    have c13b0 : decide (((rd_T132 l0_2 x3_2).f0) < 0) = true := decide_eq_true cq2
    clear cq2
    obtain rfl := Option.some.inj H
    obtain ⟨hczq0_0, hczq0_1, hczq0_2⟩ := zC3 BK609
    obtain ⟨hfzq0_0, hfzq0_1, hfzq0_2⟩ := zF3 BK609
    have p611 : 0 ≤ (x3_2 : Int) := zod
    have q611 : x3_2 < (l0_2.length : Int) := zod
    obtain ⟨ad611, e611, hx611_0, hx611_1⟩ := at_T132 HRq0_2.out x3_2 p611 q611
    cases e611
    replace hx611_0 := (HB.out.cell (World.block_lt_of_cell? w _ hx611_0)).trans hx611_0
    replace hx611_1 := (HB.out.cell (World.block_lt_of_cell? w _ hx611_1)).trans hx611_1
    replace p611 := eq_true p611
    replace q611 := eq_true q611
    exact voluteref04_Pile.calls.z2
  rw [if_neg cq2] at H
  have c13b0 : decide (((rd_T132 l0_2 x3_2).f0) < 0) = false := decide_eq_false cq2
  clear cq2
  by_cases cq3 : ((rd_T132 l0_2 x3_2).f0) ≥ (wrap64 (a0_0 * a0_1))
  · rw [if_pos cq3] at H
    have c18b0 : decide ((wrap64 (a0_0 * a0_1)) ≤ ((rd_T132 l0_2 x3_2).f0)) = true := decide_eq_true cq3
    clear cq3
    obtain rfl := Option.some.inj H
    obtain ⟨hczq0_0, hczq0_1, hczq0_2⟩ := zC3 BK609
    obtain ⟨hfzq0_0, hfzq0_1, hfzq0_2⟩ := zF3 BK609
    have p611 : 0 ≤ (x3_2 : Int) := zod
    have q611 : x3_2 < (l0_2.length : Int) := zod
    obtain ⟨ad611, e611, hx611_0, hx611_1⟩ := at_T132 HRq0_2.out x3_2 p611 q611
    cases e611
    replace hx611_0 := (HB.out.cell (World.block_lt_of_cell? w _ hx611_0)).trans hx611_0
    replace hx611_1 := (HB.out.cell (World.block_lt_of_cell? w _ hx611_1)).trans hx611_1
    replace p611 := eq_true p611
    replace q611 := eq_true q611
    exact voluteref04_Pile.calls.z2
  rw [if_neg cq3] at H
  have c18b0 : decide ((wrap64 (a0_0 * a0_1)) ≤ ((rd_T132 l0_2 x3_2).f0)) = false := decide_eq_false cq3
  clear cq3
  by_cases cq4 : ((rd_T132 l0_2 x3_2).f1) < 0
  · rw [if_pos cq4] at H
    have c24b0 : decide (((rd_T132 l0_2 x3_2).f1) < 0) = true := decide_eq_true cq4
    clear cq4
    obtain rfl := Option.some.inj H
    obtain ⟨hczq0_0, hczq0_1, hczq0_2⟩ := zC3 BK609
    obtain ⟨hfzq0_0, hfzq0_1, hfzq0_2⟩ := zF3 BK609
    have p611 : 0 ≤ (x3_2 : Int) := zod
    have q611 : x3_2 < (l0_2.length : Int) := zod
    obtain ⟨ad611, e611, hx611_0, hx611_1⟩ := at_T132 HRq0_2.out x3_2 p611 q611
    cases e611
    replace hx611_0 := (HB.out.cell (World.block_lt_of_cell? w _ hx611_0)).trans hx611_0
    replace hx611_1 := (HB.out.cell (World.block_lt_of_cell? w _ hx611_1)).trans hx611_1
    replace p611 := eq_true p611
    replace q611 := eq_true q611
    exact voluteref04_Pile.calls.z2
  rw [if_neg cq4] at H
  have c24b0 : decide (((rd_T132 l0_2 x3_2).f1) < 0) = false := decide_eq_false cq4
  clear cq4
  by_cases cq5 : ((rd_T132 l0_2 x3_2).f1) > 255
  · rw [if_pos cq5] at H
    have c30b0 : decide (255 < ((rd_T132 l0_2 x3_2).f1)) = true := decide_eq_true cq5
    clear cq5
    obtain rfl := Option.some.inj H
    obtain ⟨hczq0_0, hczq0_1, hczq0_2⟩ := zC3 BK609
    obtain ⟨hfzq0_0, hfzq0_1, hfzq0_2⟩ := zF3 BK609
    have p611 : 0 ≤ (x3_2 : Int) := zod
    have q611 : x3_2 < (l0_2.length : Int) := zod
    obtain ⟨ad611, e611, hx611_0, hx611_1⟩ := at_T132 HRq0_2.out x3_2 p611 q611
    cases e611
    replace hx611_0 := (HB.out.cell (World.block_lt_of_cell? w _ hx611_0)).trans hx611_0
    replace hx611_1 := (HB.out.cell (World.block_lt_of_cell? w _ hx611_1)).trans hx611_1
    replace p611 := eq_true p611
    replace q611 := eq_true q611
    exact voluteref04_Pile.calls.z2
  rw [if_neg cq5] at H
  have c30b0 : decide (255 < ((rd_T132 l0_2 x3_2).f1)) = false := decide_eq_false cq5
  clear cq5
  by_cases cq6 : x3_2 > 0
  rotate_left
  · rw [if_neg cq6] at H
    have c36b0 : decide (0 < x3_2) = false := decide_eq_false cq6
    clear cq6
    have H' := Aside0.mk H
    clear H
    obtain ⟨hczq0_0, hczq0_1, hczq0_2⟩ := zC3 BK609
    obtain ⟨hfzq0_0, hfzq0_1, hfzq0_2⟩ := zF3 BK609
    have p611 : 0 ≤ (x3_2 : Int) := zod
    have q611 : x3_2 < (l0_2.length : Int) := zod
    obtain ⟨ad611, e611, hx611_0, hx611_1⟩ := at_T132 HRq0_2.out x3_2 p611 q611
    cases e611
    replace hx611_0 := (HB.out.cell (World.block_lt_of_cell? w _ hx611_0)).trans hx611_0
    replace hx611_1 := (HB.out.cell (World.block_lt_of_cell? w _ hx611_1)).trans hx611_1
    replace p611 := eq_true p611
    replace q611 := eq_true q611
    iterate 5 ((try go_quiet (first | ((with_reducible refine gate_dst (N := 4) rfl ?_); refine box_event ?hg (N := 4) ?hd (cs := #[.int .i64 0, .int .i64 0]) (t := 132) ?hr ?_; (case hd => rfl); (case hg => rfl); (case hr => go_simp <;> rfl); intro gb612 hg wq0 hbox hb; have BK612 := Aside0.mk (hbox); have GW612 := zg HB hg; have GE612 := zg HB hg; replace HB := zs HB hb; have NB609_612 := zl BK609 hg; have NB612_609 := zr BK609 hg; replace BK609 := zb BK609 hb; clear hb hbox hg; have hnbq0 := NB612_609.out; have hncq0 := NB609_612.out; obtain ⟨hczq1_0, hczq1_1⟩ := zC2 BK612; obtain ⟨hfzq1_0, hfzq1_1⟩ := zF2 BK612; obtain ⟨hczq2_0, hczq2_1, hczq2_2⟩ := zC3 BK609; obtain ⟨hfzq2_0, hfzq2_1⟩ := zF2 BK609; have hfzq2_2 := blk_frozen BK609.out 2))); try go_wp2_with (first | ((with_reducible refine gate_dst (N := 4) rfl ?_); refine box_event ?hg (N := 4) ?hd (cs := #[.int .i64 0, .int .i64 0]) (t := 132) ?hr ?_; (case hd => rfl); (case hg => rfl); (case hr => go_simp <;> rfl); intro gb612 hg wq0 hbox hb; have BK612 := Aside0.mk (hbox); have GW612 := zg HB hg; have GE612 := zg HB hg; replace HB := zs HB hb; have NB609_612 := zl BK609 hg; have NB612_609 := zr BK609 hg; replace BK609 := zb BK609 hb; clear hb hbox hg; have hnbq0 := NB612_609.out; have hncq0 := NB609_612.out; obtain ⟨hczq1_0, hczq1_1⟩ := zC2 BK612; obtain ⟨hfzq1_0, hfzq1_1⟩ := zF2 BK612; obtain ⟨hczq2_0, hczq2_1, hczq2_2⟩ := zC3 BK609; obtain ⟨hfzq2_0, hfzq2_1⟩ := zF2 BK609; have hfzq2_2 := blk_frozen BK609.out 2)))
    go_roundg k2
    case measure => have := HJq0.out; have := HKq0.out; omega
    case rel => exact ⟨(wrap64 (x3_2 + 1)), (by first | rfl | (simp; done) | (simp [*]; done)), H', ⟨by have := HJq0.out; have := HKq0.out; omega⟩, ⟨by refine blk_far ?_ NB609_612.out _; refine blk_far ?_ NB609_612.out _; (with_reducible repeat (first | refine blk_drewN ?_ _ | refine blk_drew ?_ | refine blk_alloc ?_ _)); exact BK609.out⟩, ⟨by repeat (first | (with_reducible first | exact HB.out | apply below_alloc | apply pw_below_drewN | apply below_drew1 | refine below_set ?_ GE609.out | refine below_set ?_ GE612.out) | exact HB.out)⟩⟩
  rw [if_pos cq6] at H
  have c36b0 : decide (0 < x3_2) = true := decide_eq_true cq6
  clear cq6
  obtain ⟨ji37, hji37⟩ : ∃ j_ : Int, (wrap64 (x3_2 - 1)) = j_ := ⟨_, rfl⟩
  replace H : (if 0 ≤ (ji37) then (if (ji37) < (l0_2.length : Int) then (if ((rd_T132 l0_2 x3_2).f0) ≤ ((rd_T132 l0_2 (ji37)).f0) then (some false) else (voluteref04_Pile.l0 k2 (wrap64 (x3_2 + 1)) a0_0 a0_1 l0_2)) else (none)) else (none)) = some r := by first | (rw [hji37] at H; exact H) | (simp only [hji37] at H ⊢; exact H)
  have hjiq0w : (IntKind.i64.wrap (x3_2 - 1)) = ji37 := (i64_w _).trans hji37
  by_cases cq7 : 0 ≤ (ji37)
  rotate_left
  · rw [if_neg cq7] at H
    exact absurd H (by simp)
  rw [if_pos cq7] at H
  have cq7b0 : decide (0 ≤ (ji37)) = true := decide_eq_true cq7
  clear cq7
  by_cases cq8 : (ji37) < (l0_2.length : Int)
  rotate_left
  · rw [if_neg cq8] at H
    exact absurd H (by simp)
  rw [if_pos cq8] at H
  have cq8b0 : decide ((ji37) < (l0_2.length : Int)) = true := decide_eq_true cq8
  clear cq8
  by_cases cq9 : ((rd_T132 l0_2 x3_2).f0) ≤ ((rd_T132 l0_2 (ji37)).f0)
  · rw [if_pos cq9] at H
    have c40b0 : decide (((rd_T132 l0_2 x3_2).f0) ≤ ((rd_T132 l0_2 (ji37)).f0)) = true := decide_eq_true cq9
    clear cq9
    obtain rfl := Option.some.inj H
    obtain ⟨hczq0_0, hczq0_1, hczq0_2⟩ := zC3 BK609
    obtain ⟨hfzq0_0, hfzq0_1, hfzq0_2⟩ := zF3 BK609
    have p611 : 0 ≤ (x3_2 : Int) := zod
    have q611 : x3_2 < (l0_2.length : Int) := zod
    obtain ⟨ad611, e611, hx611_0, hx611_1⟩ := at_T132 HRq0_2.out x3_2 p611 q611
    cases e611
    replace hx611_0 := (HB.out.cell (World.block_lt_of_cell? w _ hx611_0)).trans hx611_0
    replace hx611_1 := (HB.out.cell (World.block_lt_of_cell? w _ hx611_1)).trans hx611_1
    replace p611 := eq_true p611
    replace q611 := eq_true q611
    exact voluteref04_Pile.calls.z2
  rw [if_neg cq9] at H
  have c40b0 : decide (((rd_T132 l0_2 x3_2).f0) ≤ ((rd_T132 l0_2 (ji37)).f0)) = false := decide_eq_false cq9
  clear cq9
  have H' := Aside0.mk H
  clear H
  obtain ⟨hczq0_0, hczq0_1, hczq0_2⟩ := zC3 BK609
  obtain ⟨hfzq0_0, hfzq0_1, hfzq0_2⟩ := zF3 BK609
  have p611 : 0 ≤ (x3_2 : Int) := zod
  have q611 : x3_2 < (l0_2.length : Int) := zod
  obtain ⟨ad611, e611, hx611_0, hx611_1⟩ := at_T132 HRq0_2.out x3_2 p611 q611
  cases e611
  replace hx611_0 := (HB.out.cell (World.block_lt_of_cell? w _ hx611_0)).trans hx611_0
  replace hx611_1 := (HB.out.cell (World.block_lt_of_cell? w _ hx611_1)).trans hx611_1
  replace p611 := eq_true p611
  replace q611 := eq_true q611
  iterate 5 ((try go_quiet (first | ((with_reducible refine gate_dst (N := 4) rfl ?_); refine box_event ?hg (N := 4) ?hd (cs := #[.int .i64 0, .int .i64 0]) (t := 132) ?hr ?_; (case hd => rfl); (case hg => rfl); (case hr => go_simp <;> rfl); intro gb612 hg wq0 hbox hb; have BK612 := Aside0.mk (hbox); have GW612 := zg HB hg; have GE612 := zg HB hg; replace HB := zs HB hb; have NB609_612 := zl BK609 hg; have NB612_609 := zr BK609 hg; replace BK609 := zb BK609 hb; clear hb hbox hg; have hnbq0 := NB612_609.out; have hncq0 := NB609_612.out; obtain ⟨hczq1_0, hczq1_1⟩ := zC2 BK612; obtain ⟨hfzq1_0, hfzq1_1⟩ := zF2 BK612; obtain ⟨hczq2_0, hczq2_1, hczq2_2⟩ := zC3 BK609; obtain ⟨hfzq2_0, hfzq2_1, hfzq2_2⟩ := zF3 BK609; have p613 : 0 ≤ ((ji37) : Int) := zod; have q613 : (ji37) < (l0_2.length : Int) := zod; obtain ⟨ad613, e613, hx613_0, hx613_1⟩ := at_T132 HRq0_2.out (ji37) p613 q613; obtain rfl : ad611 = ad613 := (by injection e613); have hn613_0 : ad611.block ≠ gb612 := Nat.ne_of_lt (Nat.lt_of_lt_of_le (by have := World.block_lt_of_cell? _ _ hx613_0; first | rwa [add_block] at this | exact this) GW612.out); have hn613_1 : ad611.block ≠ gb612 := Nat.ne_of_lt (Nat.lt_of_lt_of_le (by have := World.block_lt_of_cell? _ _ hx613_0; first | rwa [add_block] at this | exact this) GW612.out); replace hx613_0 := (HB.out.cell (World.block_lt_of_cell? w _ hx613_0)).trans hx613_0; replace hx613_1 := (HB.out.cell (World.block_lt_of_cell? w _ hx613_1)).trans hx613_1; replace hx613_0 := (cell_far (p := ⟨gb612, 0, none⟩) (by first | (rw [add_block]; exact hn613_0) | (show (Addr.add _ _).block ≠ _; rw [add_block]; exact hn613_0) | exact hn613_0) (.int .i64 ((rd_T132 l0_2 x3_2).f0))).trans hx613_0; replace hx613_1 := (cell_far (p := ⟨gb612, 0, none⟩) (by first | (rw [add_block]; exact hn613_0) | (show (Addr.add _ _).block ≠ _; rw [add_block]; exact hn613_0) | exact hn613_0) (.int .i64 ((rd_T132 l0_2 x3_2).f0))).trans hx613_1; replace hx613_0 := (cell_far (p := ⟨gb612, 1, none⟩) (by first | (rw [add_block]; exact hn613_1) | (show (Addr.add _ _).block ≠ _; rw [add_block]; exact hn613_1) | exact hn613_1) (.int .i64 ((rd_T132 l0_2 x3_2).f1))).trans hx613_0; replace hx613_1 := (cell_far (p := ⟨gb612, 1, none⟩) (by first | (rw [add_block]; exact hn613_1) | (show (Addr.add _ _).block ≠ _; rw [add_block]; exact hn613_1) | exact hn613_1) (.int .i64 ((rd_T132 l0_2 x3_2).f1))).trans hx613_1; (try have hy613_0 := fun (n_ : Nat) => (show ((((wq0.drewN n_).setCell ⟨gb612, 0, none⟩ (.int .i64 ((rd_T132 l0_2 x3_2).f0))).setCell ⟨gb612, 1, none⟩ (.int .i64 ((rd_T132 l0_2 x3_2).f1)))).cell? _ = some _ from hx613_0)); (try have hy613_1 := fun (n_ : Nat) => (show ((((wq0.drewN n_).setCell ⟨gb612, 0, none⟩ (.int .i64 ((rd_T132 l0_2 x3_2).f0))).setCell ⟨gb612, 1, none⟩ (.int .i64 ((rd_T132 l0_2 x3_2).f1)))).cell? _ = some _ from hx613_1)); clear hn613_0; clear hn613_1; replace p613 := eq_true p613; replace q613 := eq_true q613))); try go_wp2_with (first | ((with_reducible refine gate_dst (N := 4) rfl ?_); refine box_event ?hg (N := 4) ?hd (cs := #[.int .i64 0, .int .i64 0]) (t := 132) ?hr ?_; (case hd => rfl); (case hg => rfl); (case hr => go_simp <;> rfl); intro gb612 hg wq0 hbox hb; have BK612 := Aside0.mk (hbox); have GW612 := zg HB hg; have GE612 := zg HB hg; replace HB := zs HB hb; have NB609_612 := zl BK609 hg; have NB612_609 := zr BK609 hg; replace BK609 := zb BK609 hb; clear hb hbox hg; have hnbq0 := NB612_609.out; have hncq0 := NB609_612.out; obtain ⟨hczq1_0, hczq1_1⟩ := zC2 BK612; obtain ⟨hfzq1_0, hfzq1_1⟩ := zF2 BK612; obtain ⟨hczq2_0, hczq2_1, hczq2_2⟩ := zC3 BK609; obtain ⟨hfzq2_0, hfzq2_1, hfzq2_2⟩ := zF3 BK609; have p613 : 0 ≤ ((ji37) : Int) := zod; have q613 : (ji37) < (l0_2.length : Int) := zod; obtain ⟨ad613, e613, hx613_0, hx613_1⟩ := at_T132 HRq0_2.out (ji37) p613 q613; obtain rfl : ad611 = ad613 := (by injection e613); have hn613_0 : ad611.block ≠ gb612 := Nat.ne_of_lt (Nat.lt_of_lt_of_le (by have := World.block_lt_of_cell? _ _ hx613_0; first | rwa [add_block] at this | exact this) GW612.out); have hn613_1 : ad611.block ≠ gb612 := Nat.ne_of_lt (Nat.lt_of_lt_of_le (by have := World.block_lt_of_cell? _ _ hx613_0; first | rwa [add_block] at this | exact this) GW612.out); replace hx613_0 := (HB.out.cell (World.block_lt_of_cell? w _ hx613_0)).trans hx613_0; replace hx613_1 := (HB.out.cell (World.block_lt_of_cell? w _ hx613_1)).trans hx613_1; replace hx613_0 := (cell_far (p := ⟨gb612, 0, none⟩) (by first | (rw [add_block]; exact hn613_0) | (show (Addr.add _ _).block ≠ _; rw [add_block]; exact hn613_0) | exact hn613_0) (.int .i64 ((rd_T132 l0_2 x3_2).f0))).trans hx613_0; replace hx613_1 := (cell_far (p := ⟨gb612, 0, none⟩) (by first | (rw [add_block]; exact hn613_0) | (show (Addr.add _ _).block ≠ _; rw [add_block]; exact hn613_0) | exact hn613_0) (.int .i64 ((rd_T132 l0_2 x3_2).f0))).trans hx613_1; replace hx613_0 := (cell_far (p := ⟨gb612, 1, none⟩) (by first | (rw [add_block]; exact hn613_1) | (show (Addr.add _ _).block ≠ _; rw [add_block]; exact hn613_1) | exact hn613_1) (.int .i64 ((rd_T132 l0_2 x3_2).f1))).trans hx613_0; replace hx613_1 := (cell_far (p := ⟨gb612, 1, none⟩) (by first | (rw [add_block]; exact hn613_1) | (show (Addr.add _ _).block ≠ _; rw [add_block]; exact hn613_1) | exact hn613_1) (.int .i64 ((rd_T132 l0_2 x3_2).f1))).trans hx613_1; (try have hy613_0 := fun (n_ : Nat) => (show ((((wq0.drewN n_).setCell ⟨gb612, 0, none⟩ (.int .i64 ((rd_T132 l0_2 x3_2).f0))).setCell ⟨gb612, 1, none⟩ (.int .i64 ((rd_T132 l0_2 x3_2).f1)))).cell? _ = some _ from hx613_0)); (try have hy613_1 := fun (n_ : Nat) => (show ((((wq0.drewN n_).setCell ⟨gb612, 0, none⟩ (.int .i64 ((rd_T132 l0_2 x3_2).f0))).setCell ⟨gb612, 1, none⟩ (.int .i64 ((rd_T132 l0_2 x3_2).f1)))).cell? _ = some _ from hx613_1)); clear hn613_0; clear hn613_1; replace p613 := eq_true p613; replace q613 := eq_true q613)))
  go_roundg k2
  case measure => have := HJq0.out; have := HKq0.out; omega
  case rel => exact ⟨(wrap64 (x3_2 + 1)), (by first | rfl | (simp; done) | (simp [*]; done)), H', ⟨by have := HJq0.out; have := HKq0.out; omega⟩, ⟨by refine blk_far ?_ NB609_612.out _; refine blk_far ?_ NB609_612.out _; (with_reducible repeat (first | refine blk_drewN ?_ _ | refine blk_drew ?_ | refine blk_alloc ?_ _)); exact BK609.out⟩, ⟨by repeat (first | (with_reducible first | exact HB.out | apply below_alloc | apply pw_below_drewN | apply below_drew1 | refine below_set ?_ GE609.out | refine below_set ?_ GE612.out) | exact HB.out)⟩⟩
end Go.Proofs.Ytlolfijadcflaaa.P
