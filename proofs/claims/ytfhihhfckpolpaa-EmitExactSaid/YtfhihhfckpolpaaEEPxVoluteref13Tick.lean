/- What the law's proof needs: PxVoluteref13Tick. -/
import Derived.Test.YtfhihhfckpolpaaEEPx0
import Derived.Test.YtfhihhfckpolpaaEEPxVolutekeep
import Derived.Test.YtfhihhfckpolpaaEEPxVoluteref04
import Derived.Test.YtfhihhfckpolpaaEEPxVoluteref13
import Derived.Test.YtfhihhfckpolpaaEEPxVoluteref13Packet
import Derived.Test.YtfhihhfckpolpaaEEShort
namespace Go.Proofs.Ytfhihhfckpolpaa.P
open Go.RowKit Go.Proofs.YtfhihhfckpolpaaW.PrintWords Go.Proofs.YtfhihhfckpolpaaW.PrintLast Go.Proofs.YtfhihhfckpolpaaW.PrintMore
attribute [local go_sem] max2_int min2_int max_two min_two max_three min_three max_four min_four   -- for this text's walks alone
set_option linter.unusedVariables false
set_option linter.unusedSimpArgs false
def voluteref13_Tick.f (k : Nat) (a0_0 : Int) (a0_1 : Int) (a0_2 : Int) (a0_3 : Int) (a0_4 : Int) (a0_5 : Int) (a0_6 : Int) (a0_7 : Int) (a0_8 : Int) (a0_9 : Int) (a1_0 : Int) (a1_1 : Int) (a1_2 : Int) (a1_3 : Bool) (l1_4 : List Int) : Option (Int × Int × Int × Bool × List Int × List Int) := (volutekeep_Twin.f l1_4).bind fun t788 => (if a1_3 = true then (some (a1_0, a1_1, a1_2, a1_3, t788, ([] : List Int))) else ((voluteref13_Most.f a0_0 a0_1 a0_2 a0_3 a0_4 a0_5 a0_6 a0_7 a0_8 a0_9).bind fun t791 => (if a1_2 = t791 then ((voluteref13_Most.f a0_0 a0_1 a0_2 a0_3 a0_4 a0_5 a0_6 a0_7 a0_8 a0_9).bind fun t792 => ((voluteref04_Encode.f k t788 0 (mn a0_6 (wrap64 (t792 - 0)))).bind fun t793 => ((voluteref13_Packet.f k a1_0 (Int.tmod (wrap64 (a1_1 + 1)) 256) 0 t793).bind fun t796 => (some (a1_0, Int.tmod (wrap64 (a1_1 + 1)) 256, wrap64 (0 + (mn a0_6 (wrap64 (t792 - 0)))), a1_3, t788, t796))))) else ((voluteref13_Most.f a0_0 a0_1 a0_2 a0_3 a0_4 a0_5 a0_6 a0_7 a0_8 a0_9).bind fun t799 => ((voluteref04_Encode.f k t788 a1_2 (mn a0_6 (wrap64 (t799 - a1_2)))).bind fun t800 => ((voluteref13_Packet.f k a1_0 a1_1 a1_2 t800).bind fun t803 => (some (a1_0, a1_1, wrap64 (a1_2 + (mn a0_6 (wrap64 (t799 - a1_2)))), a1_3, t788, t803))))))))
def voluteref13_Tick.T6 : Bool × List (List Nat × List Nat) := (true, [([], []), ([0], [0]), ([], []), ([2], [2]), ([], []), ([4], [4]), ([3, 5], [3, 5]), ([1, 6], [1, 6]), ([7, 3, 0, 1, 2, 3, 4, 5, 6, 7], [7])])
def voluteref13_Tick.B6 : List Nat := [0, 1, 0, 4, 0, 16, 60, 127, 255]
theorem voluteref13_Tick.tab6 : rtab .any (opsOf Try.f56 6) = voluteref13_Tick.T6 := by kernel_rfl
theorem voluteref13_Tick.bits6 : waitsOk voluteref13_Tick.T6.2 voluteref13_Tick.B6 = true := by kernel_rfl
def voluteref13_Tick.T7 : Bool × List (List Nat × List Nat) := (true, [([], []), ([0], [0]), ([], []), ([2], [2]), ([], []), ([4], [4]), ([], []), ([6], [6]), ([], []), ([8], [8]), ([], []), ([7, 9, 10], [7, 9, 10]), ([1, 3, 5, 11], [1, 3, 5, 11]), ([12, 11], [12]), ([13, 13, 0, 1, 2, 3, 4, 5, 6, 7, 8, 9, 10, 11, 12, 13], [13])])
def voluteref13_Tick.B7 : List Nat := [0, 1, 0, 4, 0, 16, 0, 64, 0, 256, 0, 1984, 4095, 8191, 16383]
theorem voluteref13_Tick.tab7 : rtab .any (opsOf Try.f56 7) = voluteref13_Tick.T7 := by kernel_rfl
theorem voluteref13_Tick.bits7 : waitsOk voluteref13_Tick.T7.2 voluteref13_Tick.B7 = true := by kernel_rfl
set_option maxHeartbeats 8000000 in
set_option maxRecDepth 100000 in
theorem voluteref13_Tick.calls (k : Nat) (a0_0 : Int) (a0_1 : Int) (a0_2 : Int) (a0_3 : Int) (a0_4 : Int) (a0_5 : Int) (a0_6 : Int) (a0_7 : Int) (a0_8 : Int) (a0_9 : Int) (a1_0 : Int) (a1_1 : Int) (a1_2 : Int) (a1_3 : Bool) (A1_4 : Option Addr) (c1_4 : Nat) (l1_4 : List Int) (r1 : Int) (r2 : Int) (r3 : Int) (r4 : Bool) (r5 : List Int) (r6 : List Int) (w : World) (hr1_4 : Kd.C (Kd.int .u8) w A1_4 l1_4.length l1_4) (hc1_4 : l1_4.length ≤ c1_4) (h : voluteref13_Tick.f k a0_0 a0_1 a0_2 a0_3 a0_4 a0_5 a0_6 a0_7 a0_8 a0_9 a1_0 a1_1 a1_2 a1_3 l1_4 = some (r1, r2, r3, r4, r5, r6)) :
    Calls Try.prog 56 #[.agg #[.int .i64 a0_0, .int .i64 a0_1, .int .i64 a0_2, .int .i64 a0_3, .int .i64 a0_4, .int .i64 a0_5, .int .i64 a0_6, .int .i64 a0_7, .int .i64 a0_8, .int .i64 a0_9], .agg #[.int .i64 a1_0, .int .i64 a1_1, .int .i64 a1_2, .bool a1_3, .slice A1_4 l1_4.length c1_4]] w fun e w' => ∃ v4_ v5_ : Value, e = .returned (.tuple #[.agg #[.int .i64 r1, .int .i64 r2, .int .i64 r3, .bool r4, v4_], v5_]) ∧ Kd.R (Kd.int .u8) 5 w' w.heap.size (fun k_ => some k_ ≠ (v5_ : Value).ownBlock) v4_ r5 ∧ Kd.R (Kd.int .u8) 5 w' w.heap.size (fun k_ => some k_ ≠ (v4_ : Value).ownBlock) v5_ r6 ∧ Below w.heap.size w w' := by
  have hu91 := Try.underlying91
  have hu93 := Try.underlying93
  have hu108 := Try.underlying108
  have HR1_4 := Aside0.mk hr1_4
  have HC1_4 := Aside0.mk hc1_4
  clear hr1_4 hc1_4
  have HB := Aside0.mk (Below.refl w.heap.size w)
  have H : ((volutekeep_Twin.f l1_4).bind fun t788 => (if a1_3 = true then (some (a1_0, a1_1, a1_2, a1_3, t788, ([] : List Int))) else ((voluteref13_Most.f a0_0 a0_1 a0_2 a0_3 a0_4 a0_5 a0_6 a0_7 a0_8 a0_9).bind fun t791 => (if a1_2 = t791 then ((voluteref13_Most.f a0_0 a0_1 a0_2 a0_3 a0_4 a0_5 a0_6 a0_7 a0_8 a0_9).bind fun t792 => ((voluteref04_Encode.f k t788 0 (mn a0_6 (wrap64 (t792 - 0)))).bind fun t793 => ((voluteref13_Packet.f k a1_0 (Int.tmod (wrap64 (a1_1 + 1)) 256) 0 t793).bind fun t796 => (some (a1_0, Int.tmod (wrap64 (a1_1 + 1)) 256, wrap64 (0 + (mn a0_6 (wrap64 (t792 - 0)))), a1_3, t788, t796))))) else ((voluteref13_Most.f a0_0 a0_1 a0_2 a0_3 a0_4 a0_5 a0_6 a0_7 a0_8 a0_9).bind fun t799 => ((voluteref04_Encode.f k t788 a1_2 (mn a0_6 (wrap64 (t799 - a1_2)))).bind fun t800 => ((voluteref13_Packet.f k a1_0 a1_1 a1_2 t800).bind fun t803 => (some (a1_0, a1_1, wrap64 (a1_2 + (mn a0_6 (wrap64 (t799 - a1_2)))), a1_3, t788, t803))))))))) = some (r1, r2, r3, r4, r5, r6) := h
  clear h
  replace H := Option.bind_eq_some_iff.mp H
  obtain ⟨t788, A30, H⟩ := H
  replace H : (if a1_3 = true then (some (a1_0, a1_1, a1_2, a1_3, t788, ([] : List Int))) else ((voluteref13_Most.f a0_0 a0_1 a0_2 a0_3 a0_4 a0_5 a0_6 a0_7 a0_8 a0_9).bind fun t791 => (if a1_2 = t791 then ((voluteref13_Most.f a0_0 a0_1 a0_2 a0_3 a0_4 a0_5 a0_6 a0_7 a0_8 a0_9).bind fun t792 => ((voluteref04_Encode.f k t788 0 (mn a0_6 (wrap64 (t792 - 0)))).bind fun t793 => ((voluteref13_Packet.f k a1_0 (Int.tmod (wrap64 (a1_1 + 1)) 256) 0 t793).bind fun t796 => (some (a1_0, Int.tmod (wrap64 (a1_1 + 1)) 256, wrap64 (0 + (mn a0_6 (wrap64 (t792 - 0)))), a1_3, t788, t796))))) else ((voluteref13_Most.f a0_0 a0_1 a0_2 a0_3 a0_4 a0_5 a0_6 a0_7 a0_8 a0_9).bind fun t799 => ((voluteref04_Encode.f k t788 a1_2 (mn a0_6 (wrap64 (t799 - a1_2)))).bind fun t800 => ((voluteref13_Packet.f k a1_0 a1_1 a1_2 t800).bind fun t803 => (some (a1_0, a1_1, wrap64 (a1_2 + (mn a0_6 (wrap64 (t799 - a1_2)))), a1_3, t788, t803)))))))) = some (r1, r2, r3, r4, r5, r6) := H
  have A3 := Aside0.mk A30
  clear A30
  by_cases c4 : a1_3 = true
  · subst c4
    have H1 : (some (a1_0, a1_1, a1_2, true, t788, ([] : List Int))) = some (r1, r2, r3, r4, r5, r6) := by rw [if_pos rfl] at H; exact H
    clear H
    have H := H1
    clear H1
    simp only [Option.some.injEq, Prod.mk.injEq] at H
    obtain ⟨rfl, rfl, rfl, rfl, rfl, rfl⟩ := H
    go_enter Try.func56, Try.ntmps56
    go_wp2_with (first | ((with_reducible refine gate_dst (N := 2) rfl ?_); refine box_event ?hg (N := 2) ?hd (cs := #[.int .i64 a0_0, .int .i64 a0_1, .int .i64 a0_2, .int .i64 a0_3, .int .i64 a0_4, .int .i64 a0_5, .int .i64 a0_6, .int .i64 a0_7, .int .i64 a0_8, .int .i64 a0_9]) (t := 91) ?hr ?_; (case hd => rfl); (case hg => rfl); (case hr => first | (go_simp; done) | (go_simp; rfl)); intro gb785 hg w5 hbox hb; have BK785 := Aside0.mk (hbox); have GW785 := zg HB hg; have GE785 := zg HB hg; replace HB := zs HB hb; clear hb hbox hg) | ((with_reducible refine gate_dst (N := 3) rfl ?_); refine box_event ?hg (N := 3) ?hd (cs := #[.int .i64 a1_0, .int .i64 a1_1, .int .i64 a1_2, .bool true, .slice A1_4 l1_4.length c1_4]) (t := 93) ?hr ?_; (case hd => rfl); (case hg => rfl); (case hr => first | (go_simp; done) | (go_simp; rfl)); intro gb786 hg w6 hbox hb; have BK786 := Aside0.mk (hbox); have GW786 := zg HB hg; have GE786 := zg HB hg; replace HB := zs HB hb; have NB785_786 := zl BK785 hg; have NB786_785 := zr BK785 hg; replace BK785 := zb BK785 hb; clear hb hbox hg) | ((with_reducible refine gate_dst (N := 4) rfl ?_); refine box_event ?hg (N := 4) ?hd (cs := #[.int .i64 0, .int .i64 0, .int .i64 0, .bool false, .slice none 0 0]) (t := 93) ?hr ?_; (case hd => rfl); (case hg => rfl); (case hr => first | (go_simp; done) | (go_simp; rfl)); intro gb787 hg w7 hbox hb; have BK787 := Aside0.mk (hbox); have GW787 := zg HB hg; have GE787 := zg HB hg; replace HB := zs HB hb; have NB785_787 := zl BK785 hg; have NB787_785 := zr BK785 hg; replace BK785 := zb BK785 hb; have NB786_787 := zl BK786 hg; have NB787_786 := zr BK786 hg; replace BK786 := zb BK786 hb; clear hb hbox hg; have hnb8 := NB786_785.out; have hnc8 := NB785_786.out; have hnb9 := NB786_787.out; have hnc9 := NB787_786.out; obtain ⟨hcz10_0, hcz10_1, hcz10_2, hcz10_3, hcz10_4⟩ := zC5 BK786; obtain ⟨hfz10_0, hfz10_1, hfz10_2, hfz10_3⟩ := zF4 BK786; have hfz10_4 := blk_frozen BK786.out 4) | ((with_reducible refine gate_callee (f := 48) rfl ?_); refine goesL_ (some 10) rfl rfl Try.func48 (by kernel_rfl) rfl #[.slice A1_4 l1_4.length c1_4] rfl (by (try simp only [List.map_toArray, List.map_cons, List.map_nil]); first | done | rfl | (simp only [List.length_drop, List.length_take]; rfl)) ?_; (with_reducible refine (volutekeep_Twin.calls _ _ l1_4 t788 _ ?side1 ?side2 A3.out).mono ?_); (case side1 => repeat (first | exact (Kd.C_below HR1_4.out HB.out) | (with_reducible refine Kd.C_alloc ?_ _) | (with_reducible refine Kd.C_drewN ?_ _) | (with_reducible refine Kd.C_drew ?_))); (case side2 => exact HC1_4.out); rintro e w11 ⟨v789, rfl, ho0, hb⟩; refine ⟨_, rfl, ?_⟩; have HO790 := Aside0.mk (Kd.R_lower ho0 (below_size (zB HB))); replace BK785 := zb BK785 hb; replace BK786 := zb BK786 hb; replace BK787 := zb BK787 hb; replace HB := zs HB hb; (try clear hb); (try clear hb2); (try clear hk); (try clear hi); (try clear ho0); obtain ⟨Ao12, co12, eo12⟩ := Kd.R_slice HO790.out; subst eo12; obtain ⟨hcz13_0, hcz13_1, hcz13_2, hcz13_3, hcz13_4⟩ := zC5 BK786; obtain ⟨hfz13_0, hfz13_1, hfz13_2, hfz13_3, hfz13_4⟩ := zF5 BK786; have hnb14 := NB787_785.out; have hnc14 := NB785_787.out; obtain ⟨hcz15_0, hcz15_1, hcz15_2, hcz15_3, hcz15_4⟩ := zC5 BK787; obtain ⟨hfz15_0, hfz15_1, hfz15_2, hfz15_3⟩ := zF4 BK787; have hfz15_4 := blk_frozen BK787.out 4))
    refine bodyPost_ret (results_ct rfl _ _ gb787 93 #[.int .i64 a1_0, .int .i64 a1_1, .int .i64 a1_2, .bool true, .slice Ao12 t788.length co12] (0, 0) _ rfl (by (with_reducible repeat (first | refine blk_drewN ?_ _ | refine blk_drew ?_ | refine blk_alloc ?_ _)); refine blk_put (cs := #[.int .i64 a1_0, .int .i64 a1_1, .int .i64 a1_2, .bool true, .slice none 0 0]) ?_ 4 _ rfl; (with_reducible repeat (first | refine blk_drewN ?_ _ | refine blk_drew ?_ | refine blk_alloc ?_ _)); refine blk_put (cs := #[.int .i64 a1_0, .int .i64 a1_1, .int .i64 a1_2, .bool false, .slice none 0 0]) ?_ 3 _ rfl; (with_reducible repeat (first | refine blk_drewN ?_ _ | refine blk_drew ?_ | refine blk_alloc ?_ _)); refine blk_put (cs := #[.int .i64 a1_0, .int .i64 a1_1, .int .i64 0, .bool false, .slice none 0 0]) ?_ 2 _ rfl; (with_reducible repeat (first | refine blk_drewN ?_ _ | refine blk_drew ?_ | refine blk_alloc ?_ _)); refine blk_put (cs := #[.int .i64 a1_0, .int .i64 0, .int .i64 0, .bool false, .slice none 0 0]) ?_ 1 _ rfl; (with_reducible repeat (first | refine blk_drewN ?_ _ | refine blk_drew ?_ | refine blk_alloc ?_ _)); refine blk_put (cs := #[.int .i64 0, .int .i64 0, .int .i64 0, .bool false, .slice none 0 0]) ?_ 0 _ rfl; (with_reducible repeat (first | refine blk_drewN ?_ _ | refine blk_drew ?_ | refine blk_alloc ?_ _)); refine blk_far ?_ NB787_786.out _; (with_reducible repeat (first | refine blk_drewN ?_ _ | refine blk_drew ?_ | refine blk_alloc ?_ _)); exact BK787.out) Try.underlying93 rfl (by kernel_rfl)) rfl ?_
    exact ⟨_, _, by first | rfl | (simp [errW_none, errW_some] <;> rfl) | (simp [*, errW_none, errW_some] <;> rfl), by (with_reducible repeat (first | apply Kd.R_alloc | apply Kd.R_drewN | apply Kd.R_drew)); exact Kd.R_mono (Kd.R_far (p := ⟨gb787, 4, none⟩) (Kd.R_far (p := ⟨gb787, 3, none⟩) (Kd.R_far (p := ⟨gb787, 2, none⟩) (Kd.R_far (p := ⟨gb787, 1, none⟩) (Kd.R_far (p := ⟨gb787, 0, none⟩) (Kd.R_far (p := ⟨gb786, 4, none⟩) (Kd.R_types (Kd.R_types HO790.out BK786.out (by decide)) BK787.out (by decide)) (fun _ hk => hk.1.2) (.slice Ao12 t788.length co12)) (fun _ hk => hk.2) (.int .i64 a1_0)) (fun _ hk => hk.2) (.int .i64 a1_1)) (fun _ hk => hk.2) (.int .i64 a1_2)) (fun _ hk => hk.2) (.bool true)) (fun _ hk => hk.2) (.slice Ao12 t788.length co12)) (fun _ hk => (by simp [Value.ownBlock])), by first | exact Kd.R_nil _ _ _ _ _ | exact Kd.N_nil _ _ _ _ _ | exact Kd.V_nil _ _ _ _ _ | exact Kd.Q_nil _ _ _ _ _ | exact Kd.S_nil _ _ _ _ _, by repeat (first | (with_reducible first | exact HB.out | apply below_alloc | apply pw_below_drewN | apply below_drew1 | refine below_set ?_ GE785.out | refine below_set ?_ GE786.out | refine below_set ?_ GE787.out) | exact HB.out)⟩
  · replace c4 := Bool.eq_false_iff.mpr c4
    subst c4
    have H1 : ((voluteref13_Most.f a0_0 a0_1 a0_2 a0_3 a0_4 a0_5 a0_6 a0_7 a0_8 a0_9).bind fun t791 => (if a1_2 = t791 then ((voluteref13_Most.f a0_0 a0_1 a0_2 a0_3 a0_4 a0_5 a0_6 a0_7 a0_8 a0_9).bind fun t792 => ((voluteref04_Encode.f k t788 0 (mn a0_6 (wrap64 (t792 - 0)))).bind fun t793 => ((voluteref13_Packet.f k a1_0 (Int.tmod (wrap64 (a1_1 + 1)) 256) 0 t793).bind fun t796 => (some (a1_0, Int.tmod (wrap64 (a1_1 + 1)) 256, wrap64 (0 + (mn a0_6 (wrap64 (t792 - 0)))), false, t788, t796))))) else ((voluteref13_Most.f a0_0 a0_1 a0_2 a0_3 a0_4 a0_5 a0_6 a0_7 a0_8 a0_9).bind fun t799 => ((voluteref04_Encode.f k t788 a1_2 (mn a0_6 (wrap64 (t799 - a1_2)))).bind fun t800 => ((voluteref13_Packet.f k a1_0 a1_1 a1_2 t800).bind fun t803 => (some (a1_0, a1_1, wrap64 (a1_2 + (mn a0_6 (wrap64 (t799 - a1_2)))), false, t788, t803))))))) = some (r1, r2, r3, r4, r5, r6) := by rw [if_neg (show ¬ (false = true) by decide)] at H; exact H
    clear H
    have H := H1
    clear H1
    replace H := Option.bind_eq_some_iff.mp H
    obtain ⟨t791, A160, H⟩ := H
    replace H : (if a1_2 = t791 then ((voluteref13_Most.f a0_0 a0_1 a0_2 a0_3 a0_4 a0_5 a0_6 a0_7 a0_8 a0_9).bind fun t792 => ((voluteref04_Encode.f k t788 0 (mn a0_6 (wrap64 (t792 - 0)))).bind fun t793 => ((voluteref13_Packet.f k a1_0 (Int.tmod (wrap64 (a1_1 + 1)) 256) 0 t793).bind fun t796 => (some (a1_0, Int.tmod (wrap64 (a1_1 + 1)) 256, wrap64 (0 + (mn a0_6 (wrap64 (t792 - 0)))), false, t788, t796))))) else ((voluteref13_Most.f a0_0 a0_1 a0_2 a0_3 a0_4 a0_5 a0_6 a0_7 a0_8 a0_9).bind fun t799 => ((voluteref04_Encode.f k t788 a1_2 (mn a0_6 (wrap64 (t799 - a1_2)))).bind fun t800 => ((voluteref13_Packet.f k a1_0 a1_1 a1_2 t800).bind fun t803 => (some (a1_0, a1_1, wrap64 (a1_2 + (mn a0_6 (wrap64 (t799 - a1_2)))), false, t788, t803)))))) = some (r1, r2, r3, r4, r5, r6) := H
    have A16 := Aside0.mk A160
    clear A160
    by_cases c17 : a1_2 = t791
    · rw [if_pos c17] at H
      have c17b0 : (a1_2 == t791) = true := beq_iff_eq.mpr c17
      have c17b1 : (a1_2 != t791) = false := bne_eq_false_iff_eq.mpr c17
      clear c17
      replace H := Option.bind_eq_some_iff.mp H
      obtain ⟨t792, A180, H⟩ := H
      replace H : ((voluteref04_Encode.f k t788 0 (mn a0_6 (wrap64 (t792 - 0)))).bind fun t793 => ((voluteref13_Packet.f k a1_0 (Int.tmod (wrap64 (a1_1 + 1)) 256) 0 t793).bind fun t796 => (some (a1_0, Int.tmod (wrap64 (a1_1 + 1)) 256, wrap64 (0 + (mn a0_6 (wrap64 (t792 - 0)))), false, t788, t796)))) = some (r1, r2, r3, r4, r5, r6) := H
      have A18 := Aside0.mk A180
      clear A180
      obtain ⟨ji19, hji19⟩ : ∃ j_ : Int, (mn a0_6 (wrap64 (t792 - 0))) = j_ := ⟨_, rfl⟩
      replace H : ((voluteref04_Encode.f k t788 0 (ji19)).bind fun t793 => ((voluteref13_Packet.f k a1_0 (Int.tmod (wrap64 (a1_1 + 1)) 256) 0 t793).bind fun t796 => (some (a1_0, Int.tmod (wrap64 (a1_1 + 1)) 256, wrap64 (0 + (ji19)), false, t788, t796)))) = some (r1, r2, r3, r4, r5, r6) := by first | (rw [hji19] at H; exact H) | (simp only [hji19] at H ⊢; exact H)
      (try rw [hji19] at A3)
      (try rw [hji19] at A16)
      (try rw [hji19] at A18)
      have hji19_ : (if (wrap64 (t792 - 0)) < a0_6 then (wrap64 (t792 - 0)) else a0_6) = ji19 := hji19
      (try simp only [Int.sub_zero] at hji19_)
      replace H := Option.bind_eq_some_iff.mp H
      obtain ⟨t793, A200, H⟩ := H
      replace H : ((voluteref13_Packet.f k a1_0 (Int.tmod (wrap64 (a1_1 + 1)) 256) 0 t793).bind fun t796 => (some (a1_0, Int.tmod (wrap64 (a1_1 + 1)) 256, wrap64 (0 + (ji19)), false, t788, t796))) = some (r1, r2, r3, r4, r5, r6) := H
      have A20 := Aside0.mk A200
      clear A200
      replace H := Option.bind_eq_some_iff.mp H
      obtain ⟨t796, A210, H⟩ := H
      replace H : (some (a1_0, Int.tmod (wrap64 (a1_1 + 1)) 256, wrap64 (0 + (ji19)), false, t788, t796)) = some (r1, r2, r3, r4, r5, r6) := H
      have A21 := Aside0.mk A210
      clear A210
      replace H := (show wrap64 (0 + ji19) = wrap64 ji19 by rw [Int.zero_add]) ▸ H
      simp only [Option.some.injEq, Prod.mk.injEq] at H
      obtain ⟨rfl, rfl, rfl, rfl, rfl, rfl⟩ := H
      go_enter Try.func56, Try.ntmps56
      try go_wp2_with (first | ((with_reducible refine gate_dst (N := 2) rfl ?_); refine box_event ?hg (N := 2) ?hd (cs := #[.int .i64 a0_0, .int .i64 a0_1, .int .i64 a0_2, .int .i64 a0_3, .int .i64 a0_4, .int .i64 a0_5, .int .i64 a0_6, .int .i64 a0_7, .int .i64 a0_8, .int .i64 a0_9]) (t := 91) ?hr ?_; (case hd => rfl); (case hg => rfl); (case hr => first | (go_simp; done) | (go_simp; rfl)); intro gb785 hg w22 hbox hb; have BK785 := Aside0.mk (hbox); have GW785 := zg HB hg; have GE785 := zg HB hg; replace HB := zs HB hb; clear hb hbox hg) | ((with_reducible refine gate_dst (N := 3) rfl ?_); refine box_event ?hg (N := 3) ?hd (cs := #[.int .i64 a1_0, .int .i64 a1_1, .int .i64 a1_2, .bool false, .slice A1_4 l1_4.length c1_4]) (t := 93) ?hr ?_; (case hd => rfl); (case hg => rfl); (case hr => first | (go_simp; done) | (go_simp; rfl)); intro gb786 hg w23 hbox hb; have BK786 := Aside0.mk (hbox); have GW786 := zg HB hg; have GE786 := zg HB hg; replace HB := zs HB hb; have NB785_786 := zl BK785 hg; have NB786_785 := zr BK785 hg; replace BK785 := zb BK785 hb; clear hb hbox hg) | ((with_reducible refine gate_dst (N := 4) rfl ?_); refine box_event ?hg (N := 4) ?hd (cs := #[.int .i64 0, .int .i64 0, .int .i64 0, .bool false, .slice none 0 0]) (t := 93) ?hr ?_; (case hd => rfl); (case hg => rfl); (case hr => first | (go_simp; done) | (go_simp; rfl)); intro gb787 hg w24 hbox hb; have BK787 := Aside0.mk (hbox); have GW787 := zg HB hg; have GE787 := zg HB hg; replace HB := zs HB hb; have NB785_787 := zl BK785 hg; have NB787_785 := zr BK785 hg; replace BK785 := zb BK785 hb; have NB786_787 := zl BK786 hg; have NB787_786 := zr BK786 hg; replace BK786 := zb BK786 hb; clear hb hbox hg; have hnb25 := NB786_785.out; have hnc25 := NB785_786.out; have hnb26 := NB786_787.out; have hnc26 := NB787_786.out; obtain ⟨hcz27_0, hcz27_1, hcz27_2, hcz27_3, hcz27_4⟩ := zC5 BK786; obtain ⟨hfz27_0, hfz27_1, hfz27_2, hfz27_3⟩ := zF4 BK786; have hfz27_4 := blk_frozen BK786.out 4) | ((with_reducible refine gate_callee (f := 48) rfl ?_); refine goesL_ (some 10) rfl rfl Try.func48 (by kernel_rfl) rfl #[.slice A1_4 l1_4.length c1_4] rfl (by (try simp only [List.map_toArray, List.map_cons, List.map_nil]); first | done | rfl | (simp only [List.length_drop, List.length_take]; rfl)) ?_; (with_reducible refine (volutekeep_Twin.calls _ _ l1_4 t788 _ ?side1 ?side2 A3.out).mono ?_); (case side1 => repeat (first | exact (Kd.C_below HR1_4.out HB.out) | (with_reducible refine Kd.C_alloc ?_ _) | (with_reducible refine Kd.C_drewN ?_ _) | (with_reducible refine Kd.C_drew ?_))); (case side2 => exact HC1_4.out); rintro e w28 ⟨v789, rfl, ho0, hb⟩; refine ⟨_, rfl, ?_⟩; have HO790 := Aside0.mk (Kd.R_lower ho0 (below_size (zB HB))); replace BK785 := zb BK785 hb; replace BK786 := zb BK786 hb; replace BK787 := zb BK787 hb; replace HB := zs HB hb; (try clear hb); (try clear hb2); (try clear hk); (try clear hi); (try clear ho0); obtain ⟨Ao29, co29, eo29⟩ := Kd.R_slice HO790.out; subst eo29; obtain ⟨hcz30_0, hcz30_1, hcz30_2, hcz30_3, hcz30_4⟩ := zC5 BK786; obtain ⟨hfz30_0, hfz30_1, hfz30_2, hfz30_3⟩ := zF4 BK786; have hfz30_4 := blk_frozen BK786.out 4))
      have n0_ : Aside0 (Kd.R (Kd.int .u8) 5 (w28.setCell ⟨gb786, 4, none⟩ (.slice Ao29 t788.length co29)) w.heap.size (fun _ => True) (.slice Ao29 t788.length co29) t788) := ⟨by (with_reducible repeat (first | apply Kd.R_alloc | apply Kd.R_drewN | apply Kd.R_drew)); exact Kd.R_mono (Kd.R_far (p := ⟨gb786, 4, none⟩) (Kd.R_types HO790.out BK786.out (by decide)) (fun _ hk => hk.2) (.slice Ao29 t788.length co29)) (fun _ hk => trivial)⟩
      have n1_ : Aside0 ((w28.setCell ⟨gb786, 4, none⟩ (.slice Ao29 t788.length co29)).heap[gb785]? = some (.cells #[.int .i64 a0_0, .int .i64 a0_1, .int .i64 a0_2, .int .i64 a0_3, .int .i64 a0_4, .int .i64 a0_5, .int .i64 a0_6, .int .i64 a0_7, .int .i64 a0_8, .int .i64 a0_9] 91 (0, 0))) := ⟨by (with_reducible repeat (first | refine blk_drewN ?_ _ | refine blk_drew ?_ | refine blk_alloc ?_ _)); refine blk_far ?_ NB785_786.out _; (with_reducible repeat (first | refine blk_drewN ?_ _ | refine blk_drew ?_ | refine blk_alloc ?_ _)); exact BK785.out⟩
      have n2_ : Aside0 ((w28.setCell ⟨gb786, 4, none⟩ (.slice Ao29 t788.length co29)).heap[gb786]? = some (.cells #[.int .i64 a1_0, .int .i64 a1_1, .int .i64 a1_2, .bool false, .slice Ao29 t788.length co29] 93 (0, 0))) := ⟨by (with_reducible repeat (first | refine blk_drewN ?_ _ | refine blk_drew ?_ | refine blk_alloc ?_ _)); refine blk_put (cs := #[.int .i64 a1_0, .int .i64 a1_1, .int .i64 a1_2, .bool false, .slice A1_4 l1_4.length c1_4]) ?_ 4 _ rfl; (with_reducible repeat (first | refine blk_drewN ?_ _ | refine blk_drew ?_ | refine blk_alloc ?_ _)); exact BK786.out⟩
      have n3_ : Aside0 ((w28.setCell ⟨gb786, 4, none⟩ (.slice Ao29 t788.length co29)).heap[gb787]? = some (.cells #[.int .i64 0, .int .i64 0, .int .i64 0, .bool false, .slice none 0 0] 93 (0, 0))) := ⟨by (with_reducible repeat (first | refine blk_drewN ?_ _ | refine blk_drew ?_ | refine blk_alloc ?_ _)); refine blk_far ?_ NB787_786.out _; (with_reducible repeat (first | refine blk_drewN ?_ _ | refine blk_drew ?_ | refine blk_alloc ?_ _)); exact BK787.out⟩
      have n4_ : Aside0 (Below w.heap.size w (w28.setCell ⟨gb786, 4, none⟩ (.slice Ao29 t788.length co29))) := ⟨by repeat (first | (with_reducible first | exact HB.out | apply below_alloc | apply pw_below_drewN | apply below_drew1 | refine below_set ?_ GE785.out | refine below_set ?_ GE786.out | refine below_set ?_ GE787.out) | exact HB.out)⟩
      (try clear HO790)
      (try clear BK785)
      (try clear BK786)
      (try clear BK787)
      (try clear HB)
      generalize (w28.setCell ⟨gb786, 4, none⟩ (.slice Ao29 t788.length co29)) = w31 at n0_ n1_ n2_ n3_ n4_ ⊢
      have HO790 := n0_
      have BK785 := n1_
      have BK786 := n2_
      have BK787 := n3_
      have HB := n4_
      clear n0_ n1_ n2_ n3_ n4_
      replace HO790 := Aside0.mk (Kd.R_drew HO790.out)
      replace BK785 := Aside0.mk (blk_drew BK785.out)
      replace BK786 := Aside0.mk (blk_drew BK786.out)
      replace BK787 := Aside0.mk (blk_drew BK787.out)
      replace HB := Aside0.mk (below_drew1 HB.out)
      refine start_ (n := 5) (S := fun w' => w'.cell? ⟨gb786, 0, none⟩ = some (.int .i64 a1_0) ∧ w'.cell? ⟨gb786, 1, none⟩ = some (.int .i64 a1_1) ∧ w'.cell? ⟨gb786, 2, none⟩ = some (.int .i64 a1_2) ∧ w'.cell? ⟨gb786, 3, none⟩ = some (.bool false) ∧ w'.cell? ⟨gb786, 4, none⟩ = some (.slice Ao29 t788.length co29) ∧ w'.cell? ⟨gb785, 0, none⟩ = some (.int .i64 a0_0) ∧ w'.cell? ⟨gb785, 1, none⟩ = some (.int .i64 a0_1) ∧ w'.cell? ⟨gb785, 2, none⟩ = some (.int .i64 a0_2) ∧ w'.cell? ⟨gb785, 3, none⟩ = some (.int .i64 a0_3) ∧ w'.cell? ⟨gb785, 4, none⟩ = some (.int .i64 a0_4) ∧ w'.cell? ⟨gb785, 5, none⟩ = some (.int .i64 a0_5) ∧ w'.cell? ⟨gb785, 6, none⟩ = some (.int .i64 a0_6) ∧ w'.cell? ⟨gb785, 7, none⟩ = some (.int .i64 a0_7) ∧ w'.cell? ⟨gb785, 8, none⟩ = some (.int .i64 a0_8) ∧ w'.cell? ⟨gb785, 9, none⟩ = some (.int .i64 a0_9)) (ds := []) #[false, false, false, false, false] (by kernel_rfl) rfl rfl ⟨(blk_cell BK786.out 0).trans rfl, (blk_cell BK786.out 1).trans rfl, (blk_cell BK786.out 2).trans rfl, (blk_cell BK786.out 3).trans rfl, (blk_cell BK786.out 4).trans rfl, (blk_cell BK785.out 0).trans rfl, (blk_cell BK785.out 1).trans rfl, (blk_cell BK785.out 2).trans rfl, (blk_cell BK785.out 3).trans rfl, (blk_cell BK785.out 4).trans rfl, (blk_cell BK785.out 5).trans rfl, (blk_cell BK785.out 6).trans rfl, (blk_cell BK785.out 7).trans rfl, (blk_cell BK785.out 8).trans rfl, (blk_cell BK785.out 9).trans rfl⟩ (fun hHeld => ?_)
      generalize w31.drew = w32 at HO790 BK785 BK786 BK787 HB hHeld ⊢
      refine pu 0 15 (lb 5 1) rfl rfl (by kernel_rfl) ?_
      refine take_ (i := 1) (N := some 16) (v := ?_) (a' := ?_) (lb 5 3) rfl rfl (by kernel_rfl) (fun _ _ _ h => h) (Or.inl ⟨by rfl, ?_⟩) hHeld ?_ ?_
      rotate_left
      · rintro w' ⟨s0, s1, s2, s3, s4, s5, s6, s7, s8, s9, s10, s11, s12, s13, s14⟩
        go_simp
        with_reducible rfl
      rotate_left
      · simp only [Act.put, List.setIfInBounds_toArray, List.set_cons_zero, List.set_cons_succ, i64_w, i32_w]
        rfl
      refine take_ (i := 2) (N := some 17) (v := ?_) (a' := ?_) (lb 5 7) rfl rfl (by kernel_rfl) (fun _ _ _ h => h) (Or.inl ⟨by rfl, ?_⟩) hHeld ?_ ?_
      rotate_left
      · rintro w' ⟨s0, s1, s2, s3, s4, s5, s6, s7, s8, s9, s10, s11, s12, s13, s14⟩
        go_simp
        with_reducible rfl
      rotate_left
      · simp only [Act.put, List.setIfInBounds_toArray, List.set_cons_zero, List.set_cons_succ, i64_w, i32_w]
        rfl
      refine one_ (i := 3) (N := some 18) (lb 5 15) rfl rfl (by kernel_rfl) (by decide) (fun K hK => ?_)
      refine goes_ Try.func59 (by kernel_rfl) rfl #[.agg #[.int .i64 a0_0, .int .i64 a0_1, .int .i64 a0_2, .int .i64 a0_3, .int .i64 a0_4, .int .i64 a0_5, .int .i64 a0_6, .int .i64 a0_7, .int .i64 a0_8, .int .i64 a0_9]] (by rfl) rfl rfl (by (try simp only [List.map_toArray, List.map_cons, List.map_nil]); first | done | rfl | (simp only [List.length_drop, List.length_take]; rfl)) ?_
      with_reducible refine (voluteref13_Most.calls a0_0 a0_1 a0_2 a0_3 a0_4 a0_5 a0_6 a0_7 a0_8 a0_9 t791 _ A16.out).mono ?_
      rintro e w33 ⟨rfl, hb⟩
      refine ⟨_, rfl, ?_⟩
      replace HO790 := zR HO790 hb
      replace BK785 := zb BK785 hb
      replace BK786 := zb BK786 hb
      replace BK787 := zb BK787 hb
      replace HB := zs HB hb
      (try clear hb)
      (try clear hb2)
      (try clear hk)
      (try clear hi)
      refine hK.out _ _ ⟨(blk_cell BK786.out 0).trans rfl, (blk_cell BK786.out 1).trans rfl, (blk_cell BK786.out 2).trans rfl, (blk_cell BK786.out 3).trans rfl, (blk_cell BK786.out 4).trans rfl, (blk_cell BK785.out 0).trans rfl, (blk_cell BK785.out 1).trans rfl, (blk_cell BK785.out 2).trans rfl, (blk_cell BK785.out 3).trans rfl, (blk_cell BK785.out 4).trans rfl, (blk_cell BK785.out 5).trans rfl, (blk_cell BK785.out 6).trans rfl, (blk_cell BK785.out 7).trans rfl, (blk_cell BK785.out 8).trans rfl, (blk_cell BK785.out 9).trans rfl⟩ (fun hHeld => ?_)
      clear hK K
      refine norm_ (a' := ?_) ?_ ?_
      rotate_left
      · show Act.put _ (some 18) _ = _
        simp only [Act.put, List.setIfInBounds_toArray, List.set_cons_zero, List.set_cons_succ, i64_w, i32_w]
        rfl
      refine pu 4 19 (lb 5 31) rfl rfl (by kernel_rfl) ?_
      refine done_ (by kernel_rfl) ?_
      obtain ⟨hcz34_0, hcz34_1, hcz34_2, hcz34_3, hcz34_4⟩ := zC5 BK786
      obtain ⟨hfz34_0, hfz34_1, hfz34_2, hfz34_3, hfz34_4⟩ := zF5 BK786
      try go_wp2
      have n0_ : Aside0 (Kd.R (Kd.int .u8) 5 ((w33.setCell ⟨gb786, 1, none⟩ (.int .i64 (Int.tmod (wrap64 (a1_1 + 1)) 256))).setCell ⟨gb786, 2, none⟩ (.int .i64 0)) w.heap.size (fun _ => True) (.slice Ao29 t788.length co29) t788) := ⟨by (with_reducible repeat (first | apply Kd.R_alloc | apply Kd.R_drewN | apply Kd.R_drew)); exact Kd.R_mono (Kd.R_far (p := ⟨gb786, 2, none⟩) (Kd.R_far (p := ⟨gb786, 1, none⟩) (Kd.R_types HO790.out BK786.out (by decide)) (fun _ hk => hk.2) (.int .i64 (Int.tmod (wrap64 (a1_1 + 1)) 256))) (fun _ hk => hk.2) (.int .i64 0)) (fun _ hk => trivial)⟩
      have n1_ : Aside0 (((w33.setCell ⟨gb786, 1, none⟩ (.int .i64 (Int.tmod (wrap64 (a1_1 + 1)) 256))).setCell ⟨gb786, 2, none⟩ (.int .i64 0)).heap[gb785]? = some (.cells #[.int .i64 a0_0, .int .i64 a0_1, .int .i64 a0_2, .int .i64 a0_3, .int .i64 a0_4, .int .i64 a0_5, .int .i64 a0_6, .int .i64 a0_7, .int .i64 a0_8, .int .i64 a0_9] 91 (0, 0))) := ⟨by (with_reducible repeat (first | refine blk_drewN ?_ _ | refine blk_drew ?_ | refine blk_alloc ?_ _)); refine blk_far ?_ NB785_786.out _; (with_reducible repeat (first | refine blk_drewN ?_ _ | refine blk_drew ?_ | refine blk_alloc ?_ _)); refine blk_far ?_ NB785_786.out _; (with_reducible repeat (first | refine blk_drewN ?_ _ | refine blk_drew ?_ | refine blk_alloc ?_ _)); exact BK785.out⟩
      have n2_ : Aside0 (((w33.setCell ⟨gb786, 1, none⟩ (.int .i64 (Int.tmod (wrap64 (a1_1 + 1)) 256))).setCell ⟨gb786, 2, none⟩ (.int .i64 0)).heap[gb786]? = some (.cells #[.int .i64 a1_0, .int .i64 (Int.tmod (wrap64 (a1_1 + 1)) 256), .int .i64 0, .bool false, .slice Ao29 t788.length co29] 93 (0, 0))) := ⟨by (with_reducible repeat (first | refine blk_drewN ?_ _ | refine blk_drew ?_ | refine blk_alloc ?_ _)); refine blk_put (cs := #[.int .i64 a1_0, .int .i64 (Int.tmod (wrap64 (a1_1 + 1)) 256), .int .i64 a1_2, .bool false, .slice Ao29 t788.length co29]) ?_ 2 _ rfl; (with_reducible repeat (first | refine blk_drewN ?_ _ | refine blk_drew ?_ | refine blk_alloc ?_ _)); refine blk_put (cs := #[.int .i64 a1_0, .int .i64 a1_1, .int .i64 a1_2, .bool false, .slice Ao29 t788.length co29]) ?_ 1 _ rfl; (with_reducible repeat (first | refine blk_drewN ?_ _ | refine blk_drew ?_ | refine blk_alloc ?_ _)); exact BK786.out⟩
      have n3_ : Aside0 (((w33.setCell ⟨gb786, 1, none⟩ (.int .i64 (Int.tmod (wrap64 (a1_1 + 1)) 256))).setCell ⟨gb786, 2, none⟩ (.int .i64 0)).heap[gb787]? = some (.cells #[.int .i64 0, .int .i64 0, .int .i64 0, .bool false, .slice none 0 0] 93 (0, 0))) := ⟨by (with_reducible repeat (first | refine blk_drewN ?_ _ | refine blk_drew ?_ | refine blk_alloc ?_ _)); refine blk_far ?_ NB787_786.out _; (with_reducible repeat (first | refine blk_drewN ?_ _ | refine blk_drew ?_ | refine blk_alloc ?_ _)); refine blk_far ?_ NB787_786.out _; (with_reducible repeat (first | refine blk_drewN ?_ _ | refine blk_drew ?_ | refine blk_alloc ?_ _)); exact BK787.out⟩
      have n4_ : Aside0 (Below w.heap.size w ((w33.setCell ⟨gb786, 1, none⟩ (.int .i64 (Int.tmod (wrap64 (a1_1 + 1)) 256))).setCell ⟨gb786, 2, none⟩ (.int .i64 0))) := ⟨by repeat (first | (with_reducible first | exact HB.out | apply below_alloc | apply pw_below_drewN | apply below_drew1 | refine below_set ?_ GE785.out | refine below_set ?_ GE786.out | refine below_set ?_ GE787.out) | exact HB.out)⟩
      (try clear HO790)
      (try clear BK785)
      (try clear BK786)
      (try clear BK787)
      (try clear HB)
      generalize ((w33.setCell ⟨gb786, 1, none⟩ (.int .i64 (Int.tmod (wrap64 (a1_1 + 1)) 256))).setCell ⟨gb786, 2, none⟩ (.int .i64 0)) = w35 at n0_ n1_ n2_ n3_ n4_ ⊢
      have HO790 := n0_
      have BK785 := n1_
      have BK786 := n2_
      have BK787 := n3_
      have HB := n4_
      clear n0_ n1_ n2_ n3_ n4_
      replace HO790 := Aside0.mk (Kd.R_drew HO790.out)
      replace BK785 := Aside0.mk (blk_drew BK785.out)
      replace BK786 := Aside0.mk (blk_drew BK786.out)
      replace BK787 := Aside0.mk (blk_drew BK787.out)
      replace HB := Aside0.mk (below_drew1 HB.out)
      refine start_ (n := 9) (S := fun w' => w'.cell? ⟨gb785, 0, none⟩ = some (.int .i64 a0_0) ∧ w'.cell? ⟨gb785, 1, none⟩ = some (.int .i64 a0_1) ∧ w'.cell? ⟨gb785, 2, none⟩ = some (.int .i64 a0_2) ∧ w'.cell? ⟨gb785, 3, none⟩ = some (.int .i64 a0_3) ∧ w'.cell? ⟨gb785, 4, none⟩ = some (.int .i64 a0_4) ∧ w'.cell? ⟨gb785, 5, none⟩ = some (.int .i64 a0_5) ∧ w'.cell? ⟨gb785, 6, none⟩ = some (.int .i64 a0_6) ∧ w'.cell? ⟨gb785, 7, none⟩ = some (.int .i64 a0_7) ∧ w'.cell? ⟨gb785, 8, none⟩ = some (.int .i64 a0_8) ∧ w'.cell? ⟨gb785, 9, none⟩ = some (.int .i64 a0_9) ∧ w'.cell? ⟨gb786, 0, none⟩ = some (.int .i64 a1_0) ∧ w'.cell? ⟨gb786, 1, none⟩ = some (.int .i64 (Int.tmod (wrap64 (a1_1 + 1)) 256)) ∧ w'.cell? ⟨gb786, 2, none⟩ = some (.int .i64 0) ∧ w'.cell? ⟨gb786, 3, none⟩ = some (.bool false) ∧ w'.cell? ⟨gb786, 4, none⟩ = some (.slice Ao29 t788.length co29)) (ds := []) #[false, false, false, false, false, false, false, false, false] (by kernel_rfl) rfl rfl ⟨(blk_cell BK785.out 0).trans rfl, (blk_cell BK785.out 1).trans rfl, (blk_cell BK785.out 2).trans rfl, (blk_cell BK785.out 3).trans rfl, (blk_cell BK785.out 4).trans rfl, (blk_cell BK785.out 5).trans rfl, (blk_cell BK785.out 6).trans rfl, (blk_cell BK785.out 7).trans rfl, (blk_cell BK785.out 8).trans rfl, (blk_cell BK785.out 9).trans rfl, (blk_cell BK786.out 0).trans rfl, (blk_cell BK786.out 1).trans rfl, (blk_cell BK786.out 2).trans rfl, (blk_cell BK786.out 3).trans rfl, (blk_cell BK786.out 4).trans rfl⟩ (fun hHeld => ?_); refine with_tabW voluteref13_Tick.tab6 voluteref13_Tick.bits6 (fun HT_ HW_ => ?_)
      generalize w35.drew = w36 at HO790 BK785 BK786 BK787 HB hHeld ⊢
      refine pu 0 26 (lb 9 1) rfl rfl (any_of HT_.out (by kernel_rfl)) ?_
      refine pu 4 30 (lb 9 17) rfl rfl (any_of HT_.out (by kernel_rfl)) ?_
      refine take_ (i := 1) (N := some 27) (v := ?_) (a' := ?_) (lb 9 19) rfl rfl (take_ofW HT_.out HW_.out (by kernel_rfl)) (fun _ _ _ h => h) (Or.inl ⟨by rfl, ?_⟩) hHeld ?_ ?_
      rotate_left
      · rintro w' ⟨s0, s1, s2, s3, s4, s5, s6, s7, s8, s9, s10, s11, s12, s13, s14⟩
        go_simp
        with_reducible rfl
      rotate_left
      · simp only [Act.put, List.setIfInBounds_toArray, List.set_cons_zero, List.set_cons_succ, i64_w, i32_w]
        rfl
      refine take_ (i := 2) (N := some 28) (v := ?_) (a' := ?_) (lb 9 23) rfl rfl (take_ofW HT_.out HW_.out (by kernel_rfl)) (fun _ _ _ h => h) (Or.inl ⟨by rfl, ?_⟩) hHeld ?_ ?_
      rotate_left
      · rintro w' ⟨s0, s1, s2, s3, s4, s5, s6, s7, s8, s9, s10, s11, s12, s13, s14⟩
        go_simp
        with_reducible rfl
      rotate_left
      · simp only [Act.put, List.setIfInBounds_toArray, List.set_cons_zero, List.set_cons_succ, i64_w, i32_w]
        rfl
      refine take_ (i := 5) (N := some 31) (v := ?_) (a' := ?_) (lb 9 55) rfl rfl (take_ofW HT_.out HW_.out (by kernel_rfl)) (fun _ _ _ h => h) (Or.inl ⟨by rfl, ?_⟩) hHeld ?_ ?_
      rotate_left
      · rintro w' ⟨s0, s1, s2, s3, s4, s5, s6, s7, s8, s9, s10, s11, s12, s13, s14⟩
        go_simp
        with_reducible rfl
      rotate_left
      · simp only [Act.put, List.setIfInBounds_toArray, List.set_cons_zero, List.set_cons_succ, i64_w, i32_w]
        rfl
      refine one_ (i := 3) (N := some 29) (lb 9 63) rfl rfl (one_of HT_.out (by kernel_rfl)) (by decide) (fun K hK => ?_)
      refine goes_ Try.func59 (by kernel_rfl) rfl #[.agg #[.int .i64 a0_0, .int .i64 a0_1, .int .i64 a0_2, .int .i64 a0_3, .int .i64 a0_4, .int .i64 a0_5, .int .i64 a0_6, .int .i64 a0_7, .int .i64 a0_8, .int .i64 a0_9]] (by rfl) rfl rfl (by (try simp only [List.map_toArray, List.map_cons, List.map_nil]); first | done | rfl | (simp only [List.length_drop, List.length_take]; rfl)) ?_
      with_reducible refine (voluteref13_Most.calls a0_0 a0_1 a0_2 a0_3 a0_4 a0_5 a0_6 a0_7 a0_8 a0_9 t792 _ A18.out).mono ?_
      rintro e w37 ⟨rfl, hb⟩
      refine ⟨_, rfl, ?_⟩
      replace HO790 := zR HO790 hb
      replace BK785 := zb BK785 hb
      replace BK786 := Aside0.mk (blk_below (g := gb786) (o := .cells #[.int .i64 a1_0, .int .i64 (Int.tmod (wrap64 (a1_1 + 1)) 256), .int .i64 0, .bool false, .slice Ao29 t788.length co29] 93 (0, 0)) (zk BK786) hb)
      replace BK787 := zb BK787 hb
      replace HB := zs HB hb
      (try clear hb)
      (try clear hb2)
      (try clear hk)
      (try clear hi)
      refine hK.out _ _ ⟨(blk_cell BK785.out 0).trans rfl, (blk_cell BK785.out 1).trans rfl, (blk_cell BK785.out 2).trans rfl, (blk_cell BK785.out 3).trans rfl, (blk_cell BK785.out 4).trans rfl, (blk_cell BK785.out 5).trans rfl, (blk_cell BK785.out 6).trans rfl, (blk_cell BK785.out 7).trans rfl, (blk_cell BK785.out 8).trans rfl, (blk_cell BK785.out 9).trans rfl, (blk_cell BK786.out 0).trans rfl, (blk_cell BK786.out 1).trans rfl, (blk_cell BK786.out 2).trans rfl, (blk_cell BK786.out 3).trans rfl, (blk_cell BK786.out 4).trans rfl⟩ (fun hHeld => ?_)
      clear hK K
      refine norm_ (a' := ?_) ?_ ?_
      rotate_left
      · show Act.put _ (some 29) _ = _
        simp only [Act.put, List.setIfInBounds_toArray, List.set_cons_zero, List.set_cons_succ, i64_w, i32_w]
        rfl
      refine pu 6 32 (lb 9 127) rfl rfl (any_of HT_.out (by kernel_rfl)) ?_
      refine pu 7 33 (lb 9 255) rfl rfl (any_of HT_.out (by kernel_rfl)) ?_
      refine pu 8 6 (lb 9 511) rfl rfl (any_of HT_.out (by kernel_rfl)) ?_
      refine done_ (done_of HT_.out (by kernel_rfl)) ?_
      try go_wp2
      replace HO790 := Aside0.mk (Kd.R_drew HO790.out)
      replace BK785 := Aside0.mk (blk_drew BK785.out)
      replace BK786 := Aside0.mk (blk_drew BK786.out)
      replace BK787 := Aside0.mk (blk_drew BK787.out)
      replace HB := Aside0.mk (below_drew1 HB.out)
      refine start_ (n := 15) (S := fun w' => w'.cell? ⟨gb786, 0, none⟩ = some (.int .i64 a1_0) ∧ w'.cell? ⟨gb786, 1, none⟩ = some (.int .i64 (Int.tmod (wrap64 (a1_1 + 1)) 256)) ∧ w'.cell? ⟨gb786, 2, none⟩ = some (.int .i64 0) ∧ w'.cell? ⟨gb786, 3, none⟩ = some (.bool false) ∧ w'.cell? ⟨gb786, 4, none⟩ = some (.slice Ao29 t788.length co29)) (ds := []) #[false, false, false, false, false, false, false, false, false, false, false, false, false, false, false] (by kernel_rfl) rfl rfl ⟨(blk_cell BK786.out 0).trans rfl, (blk_cell BK786.out 1).trans rfl, (blk_cell BK786.out 2).trans rfl, (blk_cell BK786.out 3).trans rfl, (blk_cell BK786.out 4).trans rfl⟩ (fun hHeld => ?_); refine with_tabW voluteref13_Tick.tab7 voluteref13_Tick.bits7 (fun HT_ HW_ => ?_)
      generalize w37.drew = w38 at HO790 BK785 BK786 BK787 HB hHeld ⊢
      refine pu 0 34 (lb 15 1) rfl rfl (any_of HT_.out (by kernel_rfl)) ?_
      refine pu 2 36 (lb 15 5) rfl rfl (any_of HT_.out (by kernel_rfl)) ?_
      refine pu 4 38 (lb 15 21) rfl rfl (any_of HT_.out (by kernel_rfl)) ?_
      refine pu 6 40 (lb 15 85) rfl rfl (any_of HT_.out (by kernel_rfl)) ?_
      refine pu 8 42 (lb 15 341) rfl rfl (any_of HT_.out (by kernel_rfl)) ?_
      refine pu 10 44 (lb 15 1365) rfl rfl (any_of HT_.out (by kernel_rfl)) ?_
      refine take_ (i := 1) (N := some 35) (v := ?_) (a' := ?_) (lb 15 1367) rfl rfl (take_ofW HT_.out HW_.out (by kernel_rfl)) (fun _ _ _ h => h) (Or.inl ⟨by rfl, ?_⟩) hHeld ?_ ?_
      rotate_left
      · rintro w' ⟨s0, s1, s2, s3, s4⟩
        go_simp
        with_reducible rfl
      rotate_left
      · simp only [Act.put, List.setIfInBounds_toArray, List.set_cons_zero, List.set_cons_succ, i64_w, i32_w]
        rfl
      refine take_ (i := 3) (N := some 37) (v := ?_) (a' := ?_) (lb 15 1375) rfl rfl (take_ofW HT_.out HW_.out (by kernel_rfl)) (fun _ _ _ h => h) (Or.inl ⟨by rfl, ?_⟩) hHeld ?_ ?_
      rotate_left
      · rintro w' ⟨s0, s1, s2, s3, s4⟩
        go_simp
        with_reducible rfl
      rotate_left
      · simp only [Act.put, List.setIfInBounds_toArray, List.set_cons_zero, List.set_cons_succ, i64_w, i32_w]
        rfl
      refine take_ (i := 5) (N := some 39) (v := ?_) (a' := ?_) (lb 15 1407) rfl rfl (take_ofW HT_.out HW_.out (by kernel_rfl)) (fun _ _ _ h => h) (Or.inl ⟨by rfl, ?_⟩) hHeld ?_ ?_
      rotate_left
      · rintro w' ⟨s0, s1, s2, s3, s4⟩
        go_simp
        with_reducible rfl
      rotate_left
      · simp only [Act.put, List.setIfInBounds_toArray, List.set_cons_zero, List.set_cons_succ, i64_w, i32_w]
        rfl
      refine take_ (i := 7) (N := some 41) (v := ?_) (a' := ?_) (lb 15 1535) rfl rfl (take_ofW HT_.out HW_.out (by kernel_rfl)) (fun _ _ _ h => h) (Or.inl ⟨by rfl, ?_⟩) hHeld ?_ ?_
      rotate_left
      · rintro w' ⟨s0, s1, s2, s3, s4⟩
        go_simp
        with_reducible rfl
      rotate_left
      · simp only [Act.put, List.setIfInBounds_toArray, List.set_cons_zero, List.set_cons_succ, i64_w, i32_w]
        rfl
      refine take_ (i := 9) (N := some 43) (v := ?_) (a' := ?_) (lb 15 2047) rfl rfl (take_ofW HT_.out HW_.out (by kernel_rfl)) (fun _ _ _ h => h) (Or.inl ⟨by rfl, ?_⟩) hHeld ?_ ?_
      rotate_left
      · rintro w' ⟨s0, s1, s2, s3, s4⟩
        go_simp
        with_reducible rfl
      rotate_left
      · simp only [Act.put, List.setIfInBounds_toArray, List.set_cons_zero, List.set_cons_succ, i64_w, i32_w]
        rfl
      refine one_ (i := 11) (N := some 45) (lb 15 4095) rfl rfl (one_of HT_.out (by kernel_rfl)) (by decide) (fun K hK => ?_)
      refine goes_ Try.func92 (by kernel_rfl) rfl #[.slice Ao29 t788.length co29, .int .i64 0, .int .i64 ji19] (by rfl) rfl rfl (by (try simp only [List.map_toArray, List.map_cons, List.map_nil]); first | done | (simp only [hji19]; rfl) | rfl | (simp only [List.length_drop, List.length_take]; rfl)) ?_
      with_reducible refine (voluteref04_Encode.calls k _ _ t788 0 ji19 t793 _ ?side1 ?side2 A20.out).mono ?_
      (case side1 => repeat (first | exact (Kd.R_reads' HO790.out).2.2 | (with_reducible refine Kd.C_alloc ?_ _) | (with_reducible refine Kd.C_drewN ?_ _) | (with_reducible refine Kd.C_drew ?_)))
      (case side2 => exact (Kd.R_reads' HO790.out).2.1)
      rintro e w39 ⟨v794, rfl, ho0, hb⟩
      refine ⟨_, rfl, ?_⟩
      have HO795 := Aside0.mk (Kd.R_lower (Kd.R_new' ho0 (Kd.R_lt (zr_ HO790))) (below_size (zB HB)))
      replace HO790 := Aside0.mk (Kd.R_elder' (zr_ HO790) (Kd.R_base ho0) hb)
      replace BK785 := zb BK785 hb
      replace BK786 := Aside0.mk (blk_below (g := gb786) (o := .cells #[.int .i64 a1_0, .int .i64 (Int.tmod (wrap64 (a1_1 + 1)) 256), .int .i64 0, .bool false, .slice Ao29 t788.length co29] 93 (0, 0)) (zk BK786) hb)
      replace BK787 := zb BK787 hb
      replace HB := zs HB hb
      (try clear hb)
      (try clear hb2)
      (try clear hk)
      (try clear hi)
      (try clear ho0)
      obtain ⟨Ao40, co40, eo40⟩ := Kd.R_slice HO795.out
      (first | subst eo40 | (injection eo40 with f1_ f2_ f3_; have f4_ := f1_.symm; have f5_ := f3_.symm; clear f1_ f2_ f3_; subst f4_; subst f5_))
      refine hK.out _ _ ⟨(blk_cell BK786.out 0).trans rfl, (blk_cell BK786.out 1).trans rfl, (blk_cell BK786.out 2).trans rfl, (blk_cell BK786.out 3).trans rfl, (blk_cell BK786.out 4).trans rfl⟩ (fun hHeld => ?_)
      clear hK K
      refine norm_ (a' := ?_) ?_ ?_
      rotate_left
      · show Act.put _ (some 45) _ = _
        simp only [Act.put, List.setIfInBounds_toArray, List.set_cons_zero, List.set_cons_succ, i64_w, i32_w]
        rfl
      refine pu 12 46 (lb 15 8191) rfl rfl (any_of HT_.out (by kernel_rfl)) ?_
      refine one_ (i := 13) (N := some 47) (lb 15 16383) rfl rfl (one_of HT_.out (by kernel_rfl)) (by decide) (fun K hK => ?_)
      refine goes_ Try.func91 (by kernel_rfl) rfl #[.agg #[.int .i64 a1_0, .int .i64 (Int.tmod (wrap64 (a1_1 + 1)) 256), .int .i64 0, .slice Ao40 t793.length co40]] (by rfl) rfl rfl (by (try simp only [List.map_toArray, List.map_cons, List.map_nil]); first | done | rfl | (simp only [List.length_drop, List.length_take]; rfl)) ?_
      with_reducible refine (voluteref13_Packet.calls k a1_0 (Int.tmod (wrap64 (a1_1 + 1)) 256) 0 _ _ t793 t796 _ ?side1 ?side2 A21.out).mono ?_
      (case side1 => repeat (first | exact (Kd.R_reads' HO795.out).2.2 | (with_reducible refine Kd.C_alloc ?_ _) | (with_reducible refine Kd.C_drewN ?_ _) | (with_reducible refine Kd.C_drew ?_)))
      (case side2 => exact (Kd.R_reads' HO795.out).2.1)
      rintro e w41 ⟨v797, rfl, ho0, hb⟩
      refine ⟨_, rfl, ?_⟩
      have HO798 := Aside0.mk (Kd.R_lower (Kd.R_new' (Kd.R_new' ho0 (Kd.R_lt (zr_ HO790))) (Kd.R_lt (zr_ HO795))) (below_size (zB HB)))
      replace HO790 := Aside0.mk (Kd.R_elder' (zr_ HO790) (Kd.R_base ho0) hb)
      replace HO795 := Aside0.mk (Kd.R_elder' (zr_ HO795) (Kd.R_base ho0) hb)
      replace BK785 := zb BK785 hb
      replace BK786 := Aside0.mk (blk_below (g := gb786) (o := .cells #[.int .i64 a1_0, .int .i64 (Int.tmod (wrap64 (a1_1 + 1)) 256), .int .i64 0, .bool false, .slice Ao29 t788.length co29] 93 (0, 0)) (zk BK786) hb)
      replace BK787 := zb BK787 hb
      replace HB := zs HB hb
      (try clear hb)
      (try clear hb2)
      (try clear hk)
      (try clear hi)
      (try clear ho0)
      refine hK.out _ _ ⟨(blk_cell BK786.out 0).trans rfl, (blk_cell BK786.out 1).trans rfl, (blk_cell BK786.out 2).trans rfl, (blk_cell BK786.out 3).trans rfl, (blk_cell BK786.out 4).trans rfl⟩ (fun hHeld => ?_)
      clear hK K
      refine norm_ (a' := ?_) ?_ ?_
      rotate_left
      · show Act.put _ (some 47) _ = _
        simp only [Act.put, List.setIfInBounds_toArray, List.set_cons_zero, List.set_cons_succ, i64_w, i32_w]
        rfl
      refine pu 14 7 (lb 15 32767) rfl rfl (any_of HT_.out (by kernel_rfl)) ?_
      refine done_ (done_of HT_.out (by kernel_rfl)) ?_
      obtain ⟨hcz42_0, hcz42_1, hcz42_2, hcz42_3, hcz42_4⟩ := zC5 BK786
      obtain ⟨hfz42_0, hfz42_1, hfz42_2, hfz42_3, hfz42_4⟩ := zF5 BK786
      have hnb43 := NB787_785.out
      have hnc43 := NB785_787.out
      obtain ⟨hcz44_0, hcz44_1, hcz44_2, hcz44_3, hcz44_4⟩ := zC5 BK787
      obtain ⟨hfz44_0, hfz44_1, hfz44_2, hfz44_3, hfz44_4⟩ := zF5 BK787
      try go_wp2
      refine bodyPost_ret (results_ct rfl _ _ gb787 93 #[.int .i64 a1_0, .int .i64 (Int.tmod (wrap64 (a1_1 + 1)) 256), .int .i64 (wrap64 (ji19)), .bool false, .slice Ao29 t788.length co29] (0, 0) _ rfl (by (with_reducible repeat (first | refine blk_drewN ?_ _ | refine blk_drew ?_ | refine blk_alloc ?_ _)); refine blk_put (cs := #[.int .i64 a1_0, .int .i64 (Int.tmod (wrap64 (a1_1 + 1)) 256), .int .i64 (wrap64 (ji19)), .bool false, .slice none 0 0]) ?_ 4 _ rfl; (with_reducible repeat (first | refine blk_drewN ?_ _ | refine blk_drew ?_ | refine blk_alloc ?_ _)); refine blk_put (cs := #[.int .i64 a1_0, .int .i64 (Int.tmod (wrap64 (a1_1 + 1)) 256), .int .i64 (wrap64 (ji19)), .bool false, .slice none 0 0]) ?_ 3 _ rfl; (with_reducible repeat (first | refine blk_drewN ?_ _ | refine blk_drew ?_ | refine blk_alloc ?_ _)); refine blk_put (cs := #[.int .i64 a1_0, .int .i64 (Int.tmod (wrap64 (a1_1 + 1)) 256), .int .i64 0, .bool false, .slice none 0 0]) ?_ 2 _ rfl; (with_reducible repeat (first | refine blk_drewN ?_ _ | refine blk_drew ?_ | refine blk_alloc ?_ _)); refine blk_put (cs := #[.int .i64 a1_0, .int .i64 0, .int .i64 0, .bool false, .slice none 0 0]) ?_ 1 _ rfl; (with_reducible repeat (first | refine blk_drewN ?_ _ | refine blk_drew ?_ | refine blk_alloc ?_ _)); refine blk_put (cs := #[.int .i64 0, .int .i64 0, .int .i64 0, .bool false, .slice none 0 0]) ?_ 0 _ rfl; (with_reducible repeat (first | refine blk_drewN ?_ _ | refine blk_drew ?_ | refine blk_alloc ?_ _)); refine blk_far ?_ NB787_786.out _; (with_reducible repeat (first | refine blk_drewN ?_ _ | refine blk_drew ?_ | refine blk_alloc ?_ _)); exact BK787.out) Try.underlying93 rfl (by kernel_rfl)) rfl ?_
      exact ⟨_, _, by first | rfl | (simp [errW_none, errW_some] <;> rfl) | (simp only [← hji19]; first | rfl | (simp [errW_none, errW_some] <;> rfl)) | (simp [*, errW_none, errW_some] <;> rfl), by (with_reducible repeat (first | apply Kd.R_alloc | apply Kd.R_drewN | apply Kd.R_drew)); exact Kd.R_mono (Kd.R_far (p := ⟨gb787, 4, none⟩) (Kd.R_far (p := ⟨gb787, 3, none⟩) (Kd.R_far (p := ⟨gb787, 2, none⟩) (Kd.R_far (p := ⟨gb787, 1, none⟩) (Kd.R_far (p := ⟨gb787, 0, none⟩) (Kd.R_far (p := ⟨gb786, 2, none⟩) (Kd.R_types (Kd.R_types HO790.out BK786.out (by decide)) BK787.out (by decide)) (fun _ hk => hk.1.2) (.int .i64 (wrap64 (ji19)))) (fun _ hk => hk.2) (.int .i64 a1_0)) (fun _ hk => hk.2) (.int .i64 (Int.tmod (wrap64 (a1_1 + 1)) 256))) (fun _ hk => hk.2) (.int .i64 (wrap64 (ji19)))) (fun _ hk => hk.2) (.bool false)) (fun _ hk => hk.2) (.slice Ao29 t788.length co29)) (fun _ hk => hk.1.1.2), by (with_reducible repeat (first | apply Kd.R_alloc | apply Kd.R_drewN | apply Kd.R_drew)); exact Kd.R_mono (Kd.R_far (p := ⟨gb787, 4, none⟩) (Kd.R_far (p := ⟨gb787, 3, none⟩) (Kd.R_far (p := ⟨gb787, 2, none⟩) (Kd.R_far (p := ⟨gb787, 1, none⟩) (Kd.R_far (p := ⟨gb787, 0, none⟩) (Kd.R_far (p := ⟨gb786, 2, none⟩) (Kd.R_types (Kd.R_types HO798.out BK786.out (by decide)) BK787.out (by decide)) (fun _ hk => hk.1.2) (.int .i64 (wrap64 (ji19)))) (fun _ hk => hk.2) (.int .i64 a1_0)) (fun _ hk => hk.2) (.int .i64 (Int.tmod (wrap64 (a1_1 + 1)) 256))) (fun _ hk => hk.2) (.int .i64 (wrap64 (ji19)))) (fun _ hk => hk.2) (.bool false)) (fun _ hk => hk.2) (.slice Ao29 t788.length co29)) (fun _ hk => hk.1.1.1.2), by repeat (first | (with_reducible first | exact HB.out | apply below_alloc | apply pw_below_drewN | apply below_drew1 | refine below_set ?_ GE785.out | refine below_set ?_ GE786.out | refine below_set ?_ GE787.out) | exact HB.out)⟩
    · rw [if_neg c17] at H
      have c17b0 : (a1_2 == t791) = false := beq_eq_false_iff_ne.mpr c17
      have c17b1 : (a1_2 != t791) = true := bne_iff_ne.mpr c17
      replace H := Option.bind_eq_some_iff.mp H
      obtain ⟨t799, A450, H⟩ := H
      replace H : ((voluteref04_Encode.f k t788 a1_2 (mn a0_6 (wrap64 (t799 - a1_2)))).bind fun t800 => ((voluteref13_Packet.f k a1_0 a1_1 a1_2 t800).bind fun t803 => (some (a1_0, a1_1, wrap64 (a1_2 + (mn a0_6 (wrap64 (t799 - a1_2)))), false, t788, t803)))) = some (r1, r2, r3, r4, r5, r6) := H
      have A45 := Aside0.mk A450
      clear A450
      obtain ⟨ji46, hji46⟩ : ∃ j_ : Int, (mn a0_6 (wrap64 (t799 - a1_2))) = j_ := ⟨_, rfl⟩
      replace H : ((voluteref04_Encode.f k t788 a1_2 (ji46)).bind fun t800 => ((voluteref13_Packet.f k a1_0 a1_1 a1_2 t800).bind fun t803 => (some (a1_0, a1_1, wrap64 (a1_2 + (ji46)), false, t788, t803)))) = some (r1, r2, r3, r4, r5, r6) := by first | (rw [hji46] at H; exact H) | (simp only [hji46] at H ⊢; exact H)
      (try rw [hji46] at A3)
      (try rw [hji46] at A16)
      (try rw [hji46] at A45)
      have hji46_ : (if (wrap64 (t799 - a1_2)) < a0_6 then (wrap64 (t799 - a1_2)) else a0_6) = ji46 := hji46
      replace H := Option.bind_eq_some_iff.mp H
      obtain ⟨t800, A470, H⟩ := H
      replace H : ((voluteref13_Packet.f k a1_0 a1_1 a1_2 t800).bind fun t803 => (some (a1_0, a1_1, wrap64 (a1_2 + (ji46)), false, t788, t803))) = some (r1, r2, r3, r4, r5, r6) := H
      have A47 := Aside0.mk A470
      clear A470
      replace H := Option.bind_eq_some_iff.mp H
      obtain ⟨t803, A480, H⟩ := H
      replace H : (some (a1_0, a1_1, wrap64 (a1_2 + (ji46)), false, t788, t803)) = some (r1, r2, r3, r4, r5, r6) := H
      have A48 := Aside0.mk A480
      clear A480
      simp only [Option.some.injEq, Prod.mk.injEq] at H
      obtain ⟨rfl, rfl, rfl, rfl, rfl, rfl⟩ := H
      go_enter Try.func56, Try.ntmps56
      try go_wp2_with (first | ((with_reducible refine gate_dst (N := 2) rfl ?_); refine box_event ?hg (N := 2) ?hd (cs := #[.int .i64 a0_0, .int .i64 a0_1, .int .i64 a0_2, .int .i64 a0_3, .int .i64 a0_4, .int .i64 a0_5, .int .i64 a0_6, .int .i64 a0_7, .int .i64 a0_8, .int .i64 a0_9]) (t := 91) ?hr ?_; (case hd => rfl); (case hg => rfl); (case hr => first | (go_simp; done) | (go_simp; rfl)); intro gb785 hg w49 hbox hb; have BK785 := Aside0.mk (hbox); have GW785 := zg HB hg; have GE785 := zg HB hg; replace HB := zs HB hb; clear hb hbox hg) | ((with_reducible refine gate_dst (N := 3) rfl ?_); refine box_event ?hg (N := 3) ?hd (cs := #[.int .i64 a1_0, .int .i64 a1_1, .int .i64 a1_2, .bool false, .slice A1_4 l1_4.length c1_4]) (t := 93) ?hr ?_; (case hd => rfl); (case hg => rfl); (case hr => first | (go_simp; done) | (go_simp; rfl)); intro gb786 hg w50 hbox hb; have BK786 := Aside0.mk (hbox); have GW786 := zg HB hg; have GE786 := zg HB hg; replace HB := zs HB hb; have NB785_786 := zl BK785 hg; have NB786_785 := zr BK785 hg; replace BK785 := zb BK785 hb; clear hb hbox hg) | ((with_reducible refine gate_dst (N := 4) rfl ?_); refine box_event ?hg (N := 4) ?hd (cs := #[.int .i64 0, .int .i64 0, .int .i64 0, .bool false, .slice none 0 0]) (t := 93) ?hr ?_; (case hd => rfl); (case hg => rfl); (case hr => first | (go_simp; done) | (go_simp; rfl)); intro gb787 hg w51 hbox hb; have BK787 := Aside0.mk (hbox); have GW787 := zg HB hg; have GE787 := zg HB hg; replace HB := zs HB hb; have NB785_787 := zl BK785 hg; have NB787_785 := zr BK785 hg; replace BK785 := zb BK785 hb; have NB786_787 := zl BK786 hg; have NB787_786 := zr BK786 hg; replace BK786 := zb BK786 hb; clear hb hbox hg; have hnb52 := NB786_785.out; have hnc52 := NB785_786.out; have hnb53 := NB786_787.out; have hnc53 := NB787_786.out; obtain ⟨hcz54_0, hcz54_1, hcz54_2, hcz54_3, hcz54_4⟩ := zC5 BK786; obtain ⟨hfz54_0, hfz54_1, hfz54_2, hfz54_3⟩ := zF4 BK786; have hfz54_4 := blk_frozen BK786.out 4) | ((with_reducible refine gate_callee (f := 48) rfl ?_); refine goesL_ (some 10) rfl rfl Try.func48 (by kernel_rfl) rfl #[.slice A1_4 l1_4.length c1_4] rfl (by (try simp only [List.map_toArray, List.map_cons, List.map_nil]); first | done | rfl | (simp only [List.length_drop, List.length_take]; rfl)) ?_; (with_reducible refine (volutekeep_Twin.calls _ _ l1_4 t788 _ ?side1 ?side2 A3.out).mono ?_); (case side1 => repeat (first | exact (Kd.C_below HR1_4.out HB.out) | (with_reducible refine Kd.C_alloc ?_ _) | (with_reducible refine Kd.C_drewN ?_ _) | (with_reducible refine Kd.C_drew ?_))); (case side2 => exact HC1_4.out); rintro e w55 ⟨v789, rfl, ho0, hb⟩; refine ⟨_, rfl, ?_⟩; have HO790 := Aside0.mk (Kd.R_lower ho0 (below_size (zB HB))); replace BK785 := zb BK785 hb; replace BK786 := zb BK786 hb; replace BK787 := zb BK787 hb; replace HB := zs HB hb; (try clear hb); (try clear hb2); (try clear hk); (try clear hi); (try clear ho0); obtain ⟨Ao56, co56, eo56⟩ := Kd.R_slice HO790.out; subst eo56; obtain ⟨hcz57_0, hcz57_1, hcz57_2, hcz57_3, hcz57_4⟩ := zC5 BK786; obtain ⟨hfz57_0, hfz57_1, hfz57_2, hfz57_3⟩ := zF4 BK786; have hfz57_4 := blk_frozen BK786.out 4))
      have n0_ : Aside0 (Kd.R (Kd.int .u8) 5 (w55.setCell ⟨gb786, 4, none⟩ (.slice Ao56 t788.length co56)) w.heap.size (fun _ => True) (.slice Ao56 t788.length co56) t788) := ⟨by (with_reducible repeat (first | apply Kd.R_alloc | apply Kd.R_drewN | apply Kd.R_drew)); exact Kd.R_mono (Kd.R_far (p := ⟨gb786, 4, none⟩) (Kd.R_types HO790.out BK786.out (by decide)) (fun _ hk => hk.2) (.slice Ao56 t788.length co56)) (fun _ hk => trivial)⟩
      have n1_ : Aside0 ((w55.setCell ⟨gb786, 4, none⟩ (.slice Ao56 t788.length co56)).heap[gb785]? = some (.cells #[.int .i64 a0_0, .int .i64 a0_1, .int .i64 a0_2, .int .i64 a0_3, .int .i64 a0_4, .int .i64 a0_5, .int .i64 a0_6, .int .i64 a0_7, .int .i64 a0_8, .int .i64 a0_9] 91 (0, 0))) := ⟨by (with_reducible repeat (first | refine blk_drewN ?_ _ | refine blk_drew ?_ | refine blk_alloc ?_ _)); refine blk_far ?_ NB785_786.out _; (with_reducible repeat (first | refine blk_drewN ?_ _ | refine blk_drew ?_ | refine blk_alloc ?_ _)); exact BK785.out⟩
      have n2_ : Aside0 ((w55.setCell ⟨gb786, 4, none⟩ (.slice Ao56 t788.length co56)).heap[gb786]? = some (.cells #[.int .i64 a1_0, .int .i64 a1_1, .int .i64 a1_2, .bool false, .slice Ao56 t788.length co56] 93 (0, 0))) := ⟨by (with_reducible repeat (first | refine blk_drewN ?_ _ | refine blk_drew ?_ | refine blk_alloc ?_ _)); refine blk_put (cs := #[.int .i64 a1_0, .int .i64 a1_1, .int .i64 a1_2, .bool false, .slice A1_4 l1_4.length c1_4]) ?_ 4 _ rfl; (with_reducible repeat (first | refine blk_drewN ?_ _ | refine blk_drew ?_ | refine blk_alloc ?_ _)); exact BK786.out⟩
      have n3_ : Aside0 ((w55.setCell ⟨gb786, 4, none⟩ (.slice Ao56 t788.length co56)).heap[gb787]? = some (.cells #[.int .i64 0, .int .i64 0, .int .i64 0, .bool false, .slice none 0 0] 93 (0, 0))) := ⟨by (with_reducible repeat (first | refine blk_drewN ?_ _ | refine blk_drew ?_ | refine blk_alloc ?_ _)); refine blk_far ?_ NB787_786.out _; (with_reducible repeat (first | refine blk_drewN ?_ _ | refine blk_drew ?_ | refine blk_alloc ?_ _)); exact BK787.out⟩
      have n4_ : Aside0 (Below w.heap.size w (w55.setCell ⟨gb786, 4, none⟩ (.slice Ao56 t788.length co56))) := ⟨by repeat (first | (with_reducible first | exact HB.out | apply below_alloc | apply pw_below_drewN | apply below_drew1 | refine below_set ?_ GE785.out | refine below_set ?_ GE786.out | refine below_set ?_ GE787.out) | exact HB.out)⟩
      (try clear HO790)
      (try clear BK785)
      (try clear BK786)
      (try clear BK787)
      (try clear HB)
      generalize (w55.setCell ⟨gb786, 4, none⟩ (.slice Ao56 t788.length co56)) = w58 at n0_ n1_ n2_ n3_ n4_ ⊢
      have HO790 := n0_
      have BK785 := n1_
      have BK786 := n2_
      have BK787 := n3_
      have HB := n4_
      clear n0_ n1_ n2_ n3_ n4_
      replace HO790 := Aside0.mk (Kd.R_drew HO790.out)
      replace BK785 := Aside0.mk (blk_drew BK785.out)
      replace BK786 := Aside0.mk (blk_drew BK786.out)
      replace BK787 := Aside0.mk (blk_drew BK787.out)
      replace HB := Aside0.mk (below_drew1 HB.out)
      refine start_ (n := 5) (S := fun w' => w'.cell? ⟨gb786, 0, none⟩ = some (.int .i64 a1_0) ∧ w'.cell? ⟨gb786, 1, none⟩ = some (.int .i64 a1_1) ∧ w'.cell? ⟨gb786, 2, none⟩ = some (.int .i64 a1_2) ∧ w'.cell? ⟨gb786, 3, none⟩ = some (.bool false) ∧ w'.cell? ⟨gb786, 4, none⟩ = some (.slice Ao56 t788.length co56) ∧ w'.cell? ⟨gb785, 0, none⟩ = some (.int .i64 a0_0) ∧ w'.cell? ⟨gb785, 1, none⟩ = some (.int .i64 a0_1) ∧ w'.cell? ⟨gb785, 2, none⟩ = some (.int .i64 a0_2) ∧ w'.cell? ⟨gb785, 3, none⟩ = some (.int .i64 a0_3) ∧ w'.cell? ⟨gb785, 4, none⟩ = some (.int .i64 a0_4) ∧ w'.cell? ⟨gb785, 5, none⟩ = some (.int .i64 a0_5) ∧ w'.cell? ⟨gb785, 6, none⟩ = some (.int .i64 a0_6) ∧ w'.cell? ⟨gb785, 7, none⟩ = some (.int .i64 a0_7) ∧ w'.cell? ⟨gb785, 8, none⟩ = some (.int .i64 a0_8) ∧ w'.cell? ⟨gb785, 9, none⟩ = some (.int .i64 a0_9)) (ds := []) #[false, false, false, false, false] (by kernel_rfl) rfl rfl ⟨(blk_cell BK786.out 0).trans rfl, (blk_cell BK786.out 1).trans rfl, (blk_cell BK786.out 2).trans rfl, (blk_cell BK786.out 3).trans rfl, (blk_cell BK786.out 4).trans rfl, (blk_cell BK785.out 0).trans rfl, (blk_cell BK785.out 1).trans rfl, (blk_cell BK785.out 2).trans rfl, (blk_cell BK785.out 3).trans rfl, (blk_cell BK785.out 4).trans rfl, (blk_cell BK785.out 5).trans rfl, (blk_cell BK785.out 6).trans rfl, (blk_cell BK785.out 7).trans rfl, (blk_cell BK785.out 8).trans rfl, (blk_cell BK785.out 9).trans rfl⟩ (fun hHeld => ?_)
      generalize w58.drew = w59 at HO790 BK785 BK786 BK787 HB hHeld ⊢
      refine pu 0 15 (lb 5 1) rfl rfl (by kernel_rfl) ?_
      refine take_ (i := 1) (N := some 16) (v := ?_) (a' := ?_) (lb 5 3) rfl rfl (by kernel_rfl) (fun _ _ _ h => h) (Or.inl ⟨by rfl, ?_⟩) hHeld ?_ ?_
      rotate_left
      · rintro w' ⟨s0, s1, s2, s3, s4, s5, s6, s7, s8, s9, s10, s11, s12, s13, s14⟩
        go_simp
        with_reducible rfl
      rotate_left
      · simp only [Act.put, List.setIfInBounds_toArray, List.set_cons_zero, List.set_cons_succ, i64_w, i32_w]
        rfl
      refine take_ (i := 2) (N := some 17) (v := ?_) (a' := ?_) (lb 5 7) rfl rfl (by kernel_rfl) (fun _ _ _ h => h) (Or.inl ⟨by rfl, ?_⟩) hHeld ?_ ?_
      rotate_left
      · rintro w' ⟨s0, s1, s2, s3, s4, s5, s6, s7, s8, s9, s10, s11, s12, s13, s14⟩
        go_simp
        with_reducible rfl
      rotate_left
      · simp only [Act.put, List.setIfInBounds_toArray, List.set_cons_zero, List.set_cons_succ, i64_w, i32_w]
        rfl
      refine one_ (i := 3) (N := some 18) (lb 5 15) rfl rfl (by kernel_rfl) (by decide) (fun K hK => ?_)
      refine goes_ Try.func59 (by kernel_rfl) rfl #[.agg #[.int .i64 a0_0, .int .i64 a0_1, .int .i64 a0_2, .int .i64 a0_3, .int .i64 a0_4, .int .i64 a0_5, .int .i64 a0_6, .int .i64 a0_7, .int .i64 a0_8, .int .i64 a0_9]] (by rfl) rfl rfl (by (try simp only [List.map_toArray, List.map_cons, List.map_nil]); first | done | rfl | (simp only [List.length_drop, List.length_take]; rfl)) ?_
      with_reducible refine (voluteref13_Most.calls a0_0 a0_1 a0_2 a0_3 a0_4 a0_5 a0_6 a0_7 a0_8 a0_9 t791 _ A16.out).mono ?_
      rintro e w60 ⟨rfl, hb⟩
      refine ⟨_, rfl, ?_⟩
      replace HO790 := zR HO790 hb
      replace BK785 := zb BK785 hb
      replace BK786 := zb BK786 hb
      replace BK787 := zb BK787 hb
      replace HB := zs HB hb
      (try clear hb)
      (try clear hb2)
      (try clear hk)
      (try clear hi)
      refine hK.out _ _ ⟨(blk_cell BK786.out 0).trans rfl, (blk_cell BK786.out 1).trans rfl, (blk_cell BK786.out 2).trans rfl, (blk_cell BK786.out 3).trans rfl, (blk_cell BK786.out 4).trans rfl, (blk_cell BK785.out 0).trans rfl, (blk_cell BK785.out 1).trans rfl, (blk_cell BK785.out 2).trans rfl, (blk_cell BK785.out 3).trans rfl, (blk_cell BK785.out 4).trans rfl, (blk_cell BK785.out 5).trans rfl, (blk_cell BK785.out 6).trans rfl, (blk_cell BK785.out 7).trans rfl, (blk_cell BK785.out 8).trans rfl, (blk_cell BK785.out 9).trans rfl⟩ (fun hHeld => ?_)
      clear hK K
      refine norm_ (a' := ?_) ?_ ?_
      rotate_left
      · show Act.put _ (some 18) _ = _
        simp only [Act.put, List.setIfInBounds_toArray, List.set_cons_zero, List.set_cons_succ, i64_w, i32_w]
        rfl
      refine pu 4 19 (lb 5 31) rfl rfl (by kernel_rfl) ?_
      refine done_ (by kernel_rfl) ?_
      try go_wp2
      replace HO790 := Aside0.mk (Kd.R_drew HO790.out)
      replace BK785 := Aside0.mk (blk_drew BK785.out)
      replace BK786 := Aside0.mk (blk_drew BK786.out)
      replace BK787 := Aside0.mk (blk_drew BK787.out)
      replace HB := Aside0.mk (below_drew1 HB.out)
      refine start_ (n := 9) (S := fun w' => w'.cell? ⟨gb785, 0, none⟩ = some (.int .i64 a0_0) ∧ w'.cell? ⟨gb785, 1, none⟩ = some (.int .i64 a0_1) ∧ w'.cell? ⟨gb785, 2, none⟩ = some (.int .i64 a0_2) ∧ w'.cell? ⟨gb785, 3, none⟩ = some (.int .i64 a0_3) ∧ w'.cell? ⟨gb785, 4, none⟩ = some (.int .i64 a0_4) ∧ w'.cell? ⟨gb785, 5, none⟩ = some (.int .i64 a0_5) ∧ w'.cell? ⟨gb785, 6, none⟩ = some (.int .i64 a0_6) ∧ w'.cell? ⟨gb785, 7, none⟩ = some (.int .i64 a0_7) ∧ w'.cell? ⟨gb785, 8, none⟩ = some (.int .i64 a0_8) ∧ w'.cell? ⟨gb785, 9, none⟩ = some (.int .i64 a0_9) ∧ w'.cell? ⟨gb786, 0, none⟩ = some (.int .i64 a1_0) ∧ w'.cell? ⟨gb786, 1, none⟩ = some (.int .i64 a1_1) ∧ w'.cell? ⟨gb786, 2, none⟩ = some (.int .i64 a1_2) ∧ w'.cell? ⟨gb786, 3, none⟩ = some (.bool false) ∧ w'.cell? ⟨gb786, 4, none⟩ = some (.slice Ao56 t788.length co56)) (ds := []) #[false, false, false, false, false, false, false, false, false] (by kernel_rfl) rfl rfl ⟨(blk_cell BK785.out 0).trans rfl, (blk_cell BK785.out 1).trans rfl, (blk_cell BK785.out 2).trans rfl, (blk_cell BK785.out 3).trans rfl, (blk_cell BK785.out 4).trans rfl, (blk_cell BK785.out 5).trans rfl, (blk_cell BK785.out 6).trans rfl, (blk_cell BK785.out 7).trans rfl, (blk_cell BK785.out 8).trans rfl, (blk_cell BK785.out 9).trans rfl, (blk_cell BK786.out 0).trans rfl, (blk_cell BK786.out 1).trans rfl, (blk_cell BK786.out 2).trans rfl, (blk_cell BK786.out 3).trans rfl, (blk_cell BK786.out 4).trans rfl⟩ (fun hHeld => ?_); refine with_tabW voluteref13_Tick.tab6 voluteref13_Tick.bits6 (fun HT_ HW_ => ?_)
      generalize w60.drew = w61 at HO790 BK785 BK786 BK787 HB hHeld ⊢
      refine pu 0 26 (lb 9 1) rfl rfl (any_of HT_.out (by kernel_rfl)) ?_
      refine pu 4 30 (lb 9 17) rfl rfl (any_of HT_.out (by kernel_rfl)) ?_
      refine take_ (i := 1) (N := some 27) (v := ?_) (a' := ?_) (lb 9 19) rfl rfl (take_ofW HT_.out HW_.out (by kernel_rfl)) (fun _ _ _ h => h) (Or.inl ⟨by rfl, ?_⟩) hHeld ?_ ?_
      rotate_left
      · rintro w' ⟨s0, s1, s2, s3, s4, s5, s6, s7, s8, s9, s10, s11, s12, s13, s14⟩
        go_simp
        with_reducible rfl
      rotate_left
      · simp only [Act.put, List.setIfInBounds_toArray, List.set_cons_zero, List.set_cons_succ, i64_w, i32_w]
        rfl
      refine take_ (i := 2) (N := some 28) (v := ?_) (a' := ?_) (lb 9 23) rfl rfl (take_ofW HT_.out HW_.out (by kernel_rfl)) (fun _ _ _ h => h) (Or.inl ⟨by rfl, ?_⟩) hHeld ?_ ?_
      rotate_left
      · rintro w' ⟨s0, s1, s2, s3, s4, s5, s6, s7, s8, s9, s10, s11, s12, s13, s14⟩
        go_simp
        with_reducible rfl
      rotate_left
      · simp only [Act.put, List.setIfInBounds_toArray, List.set_cons_zero, List.set_cons_succ, i64_w, i32_w]
        rfl
      refine take_ (i := 5) (N := some 31) (v := ?_) (a' := ?_) (lb 9 55) rfl rfl (take_ofW HT_.out HW_.out (by kernel_rfl)) (fun _ _ _ h => h) (Or.inl ⟨by rfl, ?_⟩) hHeld ?_ ?_
      rotate_left
      · rintro w' ⟨s0, s1, s2, s3, s4, s5, s6, s7, s8, s9, s10, s11, s12, s13, s14⟩
        go_simp
        with_reducible rfl
      rotate_left
      · simp only [Act.put, List.setIfInBounds_toArray, List.set_cons_zero, List.set_cons_succ, i64_w, i32_w]
        rfl
      refine one_ (i := 3) (N := some 29) (lb 9 63) rfl rfl (one_of HT_.out (by kernel_rfl)) (by decide) (fun K hK => ?_)
      refine goes_ Try.func59 (by kernel_rfl) rfl #[.agg #[.int .i64 a0_0, .int .i64 a0_1, .int .i64 a0_2, .int .i64 a0_3, .int .i64 a0_4, .int .i64 a0_5, .int .i64 a0_6, .int .i64 a0_7, .int .i64 a0_8, .int .i64 a0_9]] (by rfl) rfl rfl (by (try simp only [List.map_toArray, List.map_cons, List.map_nil]); first | done | rfl | (simp only [List.length_drop, List.length_take]; rfl)) ?_
      with_reducible refine (voluteref13_Most.calls a0_0 a0_1 a0_2 a0_3 a0_4 a0_5 a0_6 a0_7 a0_8 a0_9 t799 _ A45.out).mono ?_
      rintro e w62 ⟨rfl, hb⟩
      refine ⟨_, rfl, ?_⟩
      replace HO790 := zR HO790 hb
      replace BK785 := zb BK785 hb
      replace BK786 := zb BK786 hb
      replace BK787 := zb BK787 hb
      replace HB := zs HB hb
      (try clear hb)
      (try clear hb2)
      (try clear hk)
      (try clear hi)
      refine hK.out _ _ ⟨(blk_cell BK785.out 0).trans rfl, (blk_cell BK785.out 1).trans rfl, (blk_cell BK785.out 2).trans rfl, (blk_cell BK785.out 3).trans rfl, (blk_cell BK785.out 4).trans rfl, (blk_cell BK785.out 5).trans rfl, (blk_cell BK785.out 6).trans rfl, (blk_cell BK785.out 7).trans rfl, (blk_cell BK785.out 8).trans rfl, (blk_cell BK785.out 9).trans rfl, (blk_cell BK786.out 0).trans rfl, (blk_cell BK786.out 1).trans rfl, (blk_cell BK786.out 2).trans rfl, (blk_cell BK786.out 3).trans rfl, (blk_cell BK786.out 4).trans rfl⟩ (fun hHeld => ?_)
      clear hK K
      refine norm_ (a' := ?_) ?_ ?_
      rotate_left
      · show Act.put _ (some 29) _ = _
        simp only [Act.put, List.setIfInBounds_toArray, List.set_cons_zero, List.set_cons_succ, i64_w, i32_w]
        rfl
      refine pu 6 32 (lb 9 127) rfl rfl (any_of HT_.out (by kernel_rfl)) ?_
      refine pu 7 33 (lb 9 255) rfl rfl (any_of HT_.out (by kernel_rfl)) ?_
      refine pu 8 6 (lb 9 511) rfl rfl (any_of HT_.out (by kernel_rfl)) ?_
      refine done_ (done_of HT_.out (by kernel_rfl)) ?_
      try go_wp2
      replace HO790 := Aside0.mk (Kd.R_drew HO790.out)
      replace BK785 := Aside0.mk (blk_drew BK785.out)
      replace BK786 := Aside0.mk (blk_drew BK786.out)
      replace BK787 := Aside0.mk (blk_drew BK787.out)
      replace HB := Aside0.mk (below_drew1 HB.out)
      refine start_ (n := 15) (S := fun w' => w'.cell? ⟨gb786, 0, none⟩ = some (.int .i64 a1_0) ∧ w'.cell? ⟨gb786, 1, none⟩ = some (.int .i64 a1_1) ∧ w'.cell? ⟨gb786, 2, none⟩ = some (.int .i64 a1_2) ∧ w'.cell? ⟨gb786, 3, none⟩ = some (.bool false) ∧ w'.cell? ⟨gb786, 4, none⟩ = some (.slice Ao56 t788.length co56)) (ds := []) #[false, false, false, false, false, false, false, false, false, false, false, false, false, false, false] (by kernel_rfl) rfl rfl ⟨(blk_cell BK786.out 0).trans rfl, (blk_cell BK786.out 1).trans rfl, (blk_cell BK786.out 2).trans rfl, (blk_cell BK786.out 3).trans rfl, (blk_cell BK786.out 4).trans rfl⟩ (fun hHeld => ?_); refine with_tabW voluteref13_Tick.tab7 voluteref13_Tick.bits7 (fun HT_ HW_ => ?_)
      generalize w62.drew = w63 at HO790 BK785 BK786 BK787 HB hHeld ⊢
      refine pu 0 34 (lb 15 1) rfl rfl (any_of HT_.out (by kernel_rfl)) ?_
      refine pu 2 36 (lb 15 5) rfl rfl (any_of HT_.out (by kernel_rfl)) ?_
      refine pu 4 38 (lb 15 21) rfl rfl (any_of HT_.out (by kernel_rfl)) ?_
      refine pu 6 40 (lb 15 85) rfl rfl (any_of HT_.out (by kernel_rfl)) ?_
      refine pu 8 42 (lb 15 341) rfl rfl (any_of HT_.out (by kernel_rfl)) ?_
      refine pu 10 44 (lb 15 1365) rfl rfl (any_of HT_.out (by kernel_rfl)) ?_
      refine take_ (i := 1) (N := some 35) (v := ?_) (a' := ?_) (lb 15 1367) rfl rfl (take_ofW HT_.out HW_.out (by kernel_rfl)) (fun _ _ _ h => h) (Or.inl ⟨by rfl, ?_⟩) hHeld ?_ ?_
      rotate_left
      · rintro w' ⟨s0, s1, s2, s3, s4⟩
        go_simp
        with_reducible rfl
      rotate_left
      · simp only [Act.put, List.setIfInBounds_toArray, List.set_cons_zero, List.set_cons_succ, i64_w, i32_w]
        rfl
      refine take_ (i := 3) (N := some 37) (v := ?_) (a' := ?_) (lb 15 1375) rfl rfl (take_ofW HT_.out HW_.out (by kernel_rfl)) (fun _ _ _ h => h) (Or.inl ⟨by rfl, ?_⟩) hHeld ?_ ?_
      rotate_left
      · rintro w' ⟨s0, s1, s2, s3, s4⟩
        go_simp
        with_reducible rfl
      rotate_left
      · simp only [Act.put, List.setIfInBounds_toArray, List.set_cons_zero, List.set_cons_succ, i64_w, i32_w]
        rfl
      refine take_ (i := 5) (N := some 39) (v := ?_) (a' := ?_) (lb 15 1407) rfl rfl (take_ofW HT_.out HW_.out (by kernel_rfl)) (fun _ _ _ h => h) (Or.inl ⟨by rfl, ?_⟩) hHeld ?_ ?_
      rotate_left
      · rintro w' ⟨s0, s1, s2, s3, s4⟩
        go_simp
        with_reducible rfl
      rotate_left
      · simp only [Act.put, List.setIfInBounds_toArray, List.set_cons_zero, List.set_cons_succ, i64_w, i32_w]
        rfl
      refine take_ (i := 7) (N := some 41) (v := ?_) (a' := ?_) (lb 15 1535) rfl rfl (take_ofW HT_.out HW_.out (by kernel_rfl)) (fun _ _ _ h => h) (Or.inl ⟨by rfl, ?_⟩) hHeld ?_ ?_
      rotate_left
      · rintro w' ⟨s0, s1, s2, s3, s4⟩
        go_simp
        with_reducible rfl
      rotate_left
      · simp only [Act.put, List.setIfInBounds_toArray, List.set_cons_zero, List.set_cons_succ, i64_w, i32_w]
        rfl
      refine take_ (i := 9) (N := some 43) (v := ?_) (a' := ?_) (lb 15 2047) rfl rfl (take_ofW HT_.out HW_.out (by kernel_rfl)) (fun _ _ _ h => h) (Or.inl ⟨by rfl, ?_⟩) hHeld ?_ ?_
      rotate_left
      · rintro w' ⟨s0, s1, s2, s3, s4⟩
        go_simp
        with_reducible rfl
      rotate_left
      · simp only [Act.put, List.setIfInBounds_toArray, List.set_cons_zero, List.set_cons_succ, i64_w, i32_w]
        rfl
      refine one_ (i := 11) (N := some 45) (lb 15 4095) rfl rfl (one_of HT_.out (by kernel_rfl)) (by decide) (fun K hK => ?_)
      refine goes_ Try.func92 (by kernel_rfl) rfl #[.slice Ao56 t788.length co56, .int .i64 a1_2, .int .i64 ji46] (by rfl) rfl rfl (by (try simp only [List.map_toArray, List.map_cons, List.map_nil]); first | done | (simp only [hji46]; rfl) | rfl | (simp only [List.length_drop, List.length_take]; rfl)) ?_
      with_reducible refine (voluteref04_Encode.calls k _ _ t788 a1_2 ji46 t800 _ ?side1 ?side2 A47.out).mono ?_
      (case side1 => repeat (first | exact (Kd.R_reads' HO790.out).2.2 | (with_reducible refine Kd.C_alloc ?_ _) | (with_reducible refine Kd.C_drewN ?_ _) | (with_reducible refine Kd.C_drew ?_)))
      (case side2 => exact (Kd.R_reads' HO790.out).2.1)
      rintro e w64 ⟨v801, rfl, ho0, hb⟩
      refine ⟨_, rfl, ?_⟩
      have HO802 := Aside0.mk (Kd.R_lower (Kd.R_new' ho0 (Kd.R_lt (zr_ HO790))) (below_size (zB HB)))
      replace HO790 := Aside0.mk (Kd.R_elder' (zr_ HO790) (Kd.R_base ho0) hb)
      replace BK785 := zb BK785 hb
      replace BK786 := zb BK786 hb
      replace BK787 := zb BK787 hb
      replace HB := zs HB hb
      (try clear hb)
      (try clear hb2)
      (try clear hk)
      (try clear hi)
      (try clear ho0)
      obtain ⟨Ao65, co65, eo65⟩ := Kd.R_slice HO802.out
      (first | subst eo65 | (injection eo65 with f1_ f2_ f3_; have f4_ := f1_.symm; have f5_ := f3_.symm; clear f1_ f2_ f3_; subst f4_; subst f5_))
      refine hK.out _ _ ⟨(blk_cell BK786.out 0).trans rfl, (blk_cell BK786.out 1).trans rfl, (blk_cell BK786.out 2).trans rfl, (blk_cell BK786.out 3).trans rfl, (blk_cell BK786.out 4).trans rfl⟩ (fun hHeld => ?_)
      clear hK K
      refine norm_ (a' := ?_) ?_ ?_
      rotate_left
      · show Act.put _ (some 45) _ = _
        simp only [Act.put, List.setIfInBounds_toArray, List.set_cons_zero, List.set_cons_succ, i64_w, i32_w]
        rfl
      refine pu 12 46 (lb 15 8191) rfl rfl (any_of HT_.out (by kernel_rfl)) ?_
      refine one_ (i := 13) (N := some 47) (lb 15 16383) rfl rfl (one_of HT_.out (by kernel_rfl)) (by decide) (fun K hK => ?_)
      refine goes_ Try.func91 (by kernel_rfl) rfl #[.agg #[.int .i64 a1_0, .int .i64 a1_1, .int .i64 a1_2, .slice Ao65 t800.length co65]] (by rfl) rfl rfl (by (try simp only [List.map_toArray, List.map_cons, List.map_nil]); first | done | rfl | (simp only [List.length_drop, List.length_take]; rfl)) ?_
      with_reducible refine (voluteref13_Packet.calls k a1_0 a1_1 a1_2 _ _ t800 t803 _ ?side1 ?side2 A48.out).mono ?_
      (case side1 => repeat (first | exact (Kd.R_reads' HO802.out).2.2 | (with_reducible refine Kd.C_alloc ?_ _) | (with_reducible refine Kd.C_drewN ?_ _) | (with_reducible refine Kd.C_drew ?_)))
      (case side2 => exact (Kd.R_reads' HO802.out).2.1)
      rintro e w66 ⟨v804, rfl, ho0, hb⟩
      refine ⟨_, rfl, ?_⟩
      have HO805 := Aside0.mk (Kd.R_lower (Kd.R_new' (Kd.R_new' ho0 (Kd.R_lt (zr_ HO790))) (Kd.R_lt (zr_ HO802))) (below_size (zB HB)))
      replace HO790 := Aside0.mk (Kd.R_elder' (zr_ HO790) (Kd.R_base ho0) hb)
      replace HO802 := Aside0.mk (Kd.R_elder' (zr_ HO802) (Kd.R_base ho0) hb)
      replace BK785 := zb BK785 hb
      replace BK786 := zb BK786 hb
      replace BK787 := zb BK787 hb
      replace HB := zs HB hb
      (try clear hb)
      (try clear hb2)
      (try clear hk)
      (try clear hi)
      (try clear ho0)
      refine hK.out _ _ ⟨(blk_cell BK786.out 0).trans rfl, (blk_cell BK786.out 1).trans rfl, (blk_cell BK786.out 2).trans rfl, (blk_cell BK786.out 3).trans rfl, (blk_cell BK786.out 4).trans rfl⟩ (fun hHeld => ?_)
      clear hK K
      refine norm_ (a' := ?_) ?_ ?_
      rotate_left
      · show Act.put _ (some 47) _ = _
        simp only [Act.put, List.setIfInBounds_toArray, List.set_cons_zero, List.set_cons_succ, i64_w, i32_w]
        rfl
      refine pu 14 7 (lb 15 32767) rfl rfl (any_of HT_.out (by kernel_rfl)) ?_
      refine done_ (done_of HT_.out (by kernel_rfl)) ?_
      obtain ⟨hcz67_0, hcz67_1, hcz67_2, hcz67_3, hcz67_4⟩ := zC5 BK786
      obtain ⟨hfz67_0, hfz67_1, hfz67_2, hfz67_3, hfz67_4⟩ := zF5 BK786
      have hnb68 := NB787_785.out
      have hnc68 := NB785_787.out
      obtain ⟨hcz69_0, hcz69_1, hcz69_2, hcz69_3, hcz69_4⟩ := zC5 BK787
      obtain ⟨hfz69_0, hfz69_1, hfz69_2, hfz69_3, hfz69_4⟩ := zF5 BK787
      try go_wp2
      refine bodyPost_ret (results_ct rfl _ _ gb787 93 #[.int .i64 a1_0, .int .i64 a1_1, .int .i64 (wrap64 (a1_2 + (ji46))), .bool false, .slice Ao56 t788.length co56] (0, 0) _ rfl (by (with_reducible repeat (first | refine blk_drewN ?_ _ | refine blk_drew ?_ | refine blk_alloc ?_ _)); refine blk_put (cs := #[.int .i64 a1_0, .int .i64 a1_1, .int .i64 (wrap64 (a1_2 + (ji46))), .bool false, .slice none 0 0]) ?_ 4 _ rfl; (with_reducible repeat (first | refine blk_drewN ?_ _ | refine blk_drew ?_ | refine blk_alloc ?_ _)); refine blk_put (cs := #[.int .i64 a1_0, .int .i64 a1_1, .int .i64 (wrap64 (a1_2 + (ji46))), .bool false, .slice none 0 0]) ?_ 3 _ rfl; (with_reducible repeat (first | refine blk_drewN ?_ _ | refine blk_drew ?_ | refine blk_alloc ?_ _)); refine blk_put (cs := #[.int .i64 a1_0, .int .i64 a1_1, .int .i64 0, .bool false, .slice none 0 0]) ?_ 2 _ rfl; (with_reducible repeat (first | refine blk_drewN ?_ _ | refine blk_drew ?_ | refine blk_alloc ?_ _)); refine blk_put (cs := #[.int .i64 a1_0, .int .i64 0, .int .i64 0, .bool false, .slice none 0 0]) ?_ 1 _ rfl; (with_reducible repeat (first | refine blk_drewN ?_ _ | refine blk_drew ?_ | refine blk_alloc ?_ _)); refine blk_put (cs := #[.int .i64 0, .int .i64 0, .int .i64 0, .bool false, .slice none 0 0]) ?_ 0 _ rfl; (with_reducible repeat (first | refine blk_drewN ?_ _ | refine blk_drew ?_ | refine blk_alloc ?_ _)); refine blk_far ?_ NB787_786.out _; (with_reducible repeat (first | refine blk_drewN ?_ _ | refine blk_drew ?_ | refine blk_alloc ?_ _)); exact BK787.out) Try.underlying93 rfl (by kernel_rfl)) rfl ?_
      exact ⟨_, _, by first | rfl | (simp [errW_none, errW_some] <;> rfl) | (simp only [← hji46]; first | rfl | (simp [errW_none, errW_some] <;> rfl)) | (simp [*, errW_none, errW_some] <;> rfl), by (with_reducible repeat (first | apply Kd.R_alloc | apply Kd.R_drewN | apply Kd.R_drew)); exact Kd.R_mono (Kd.R_far (p := ⟨gb787, 4, none⟩) (Kd.R_far (p := ⟨gb787, 3, none⟩) (Kd.R_far (p := ⟨gb787, 2, none⟩) (Kd.R_far (p := ⟨gb787, 1, none⟩) (Kd.R_far (p := ⟨gb787, 0, none⟩) (Kd.R_far (p := ⟨gb786, 2, none⟩) (Kd.R_types (Kd.R_types HO790.out BK786.out (by decide)) BK787.out (by decide)) (fun _ hk => hk.1.2) (.int .i64 (wrap64 (a1_2 + (ji46))))) (fun _ hk => hk.2) (.int .i64 a1_0)) (fun _ hk => hk.2) (.int .i64 a1_1)) (fun _ hk => hk.2) (.int .i64 (wrap64 (a1_2 + (ji46))))) (fun _ hk => hk.2) (.bool false)) (fun _ hk => hk.2) (.slice Ao56 t788.length co56)) (fun _ hk => hk.1.1.2), by (with_reducible repeat (first | apply Kd.R_alloc | apply Kd.R_drewN | apply Kd.R_drew)); exact Kd.R_mono (Kd.R_far (p := ⟨gb787, 4, none⟩) (Kd.R_far (p := ⟨gb787, 3, none⟩) (Kd.R_far (p := ⟨gb787, 2, none⟩) (Kd.R_far (p := ⟨gb787, 1, none⟩) (Kd.R_far (p := ⟨gb787, 0, none⟩) (Kd.R_far (p := ⟨gb786, 2, none⟩) (Kd.R_types (Kd.R_types HO805.out BK786.out (by decide)) BK787.out (by decide)) (fun _ hk => hk.1.2) (.int .i64 (wrap64 (a1_2 + (ji46))))) (fun _ hk => hk.2) (.int .i64 a1_0)) (fun _ hk => hk.2) (.int .i64 a1_1)) (fun _ hk => hk.2) (.int .i64 (wrap64 (a1_2 + (ji46))))) (fun _ hk => hk.2) (.bool false)) (fun _ hk => hk.2) (.slice Ao56 t788.length co56)) (fun _ hk => hk.1.1.1.2), by repeat (first | (with_reducible first | exact HB.out | apply below_alloc | apply pw_below_drewN | apply below_drew1 | refine below_set ?_ GE785.out | refine below_set ?_ GE786.out | refine below_set ?_ GE787.out) | exact HB.out)⟩
end Go.Proofs.Ytfhihhfckpolpaa.P
