/- What the law's proof needs: PxEmit. -/
import Derived.Test.YtlolfijadcflaaaEtPx0
import Derived.Test.YtlolfijadcflaaaEtPxConf
import Derived.Test.YtlolfijadcflaaaEtPxCode
import Derived.Test.YtlolfijadcflaaaEtPxData
import Derived.Test.YtlolfijadcflaaaEtShort
import Derived.Test.YtlolfijadcflaaaEtClonebytes
namespace Go.Proofs.Ytlolfijadcflaaa.P
open Go.RowKit Go.Proofs.YtlolfijadcflaaaW.PrintWords Go.Proofs.YtlolfijadcflaaaW.PrintLast Go.Proofs.YtlolfijadcflaaaW.PrintMore
attribute [local go_sem] max2_int min2_int max_two min_two max_three min_three max_four min_four   -- for this text's walks alone
set_option linter.unusedVariables false
set_option linter.unusedSimpArgs false
def emit_right.f (a0_0 : Int) (a0_1 : Int) (a0_2 : Int) (a0_3 : Int) (a0_4 : Int) (a0_5 : Int) (a0_6 : Int) (a0_7 : Int) (a0_8 : Int) (a0_9 : Int) (a1_0 : Int) (a1_1 : Int) (a1_2 : Int) (a1_3 : Bool) (l1_4 : List Int) : Option (Bool) := if (l1_4.length : Int) = (wrap64 (a0_0 + 10)) then (if a1_0 ≥ 0 then (if a1_0 < 1073741824 then (if a1_1 ≥ 0 then (if a1_1 < 256 then (if a1_2 ≥ 0 then ((conf_Most.f a0_0 a0_1 a0_2 a0_3 a0_4 a0_5 a0_6 a0_7 a0_8 a0_9).bind fun t131 => (some (decide (a1_2 ≤ t131)))) else (some false)) else (some false)) else (some false)) else (some false)) else (some false)) else (some false)
def emit_right.T1 : Bool × List (List Nat × List Nat) := (true, [([], []), ([0], [0]), ([1], [1]), ([], []), ([3], [3]), ([4], [4]), ([2, 5], [2, 5]), ([6], [6]), ([7], [7]), ([8, 7], [7, 8]), ([9, 7], [7, 9]), ([7, 10], [7, 10]), ([11, 7], [11]), ([12], [12]), ([13, 12], [12, 13]), ([14, 12], [12, 14]), ([12, 15], [12, 15]), ([16, 12], [16]), ([17], [17]), ([18, 17], [17, 18]), ([19, 17], [17, 19]), ([17, 20], [17, 20]), ([21, 17], [21]), ([22], [22]), ([23, 22], [22, 23]), ([24, 22], [22, 24]), ([22, 25], [22, 25]), ([26, 22], [26]), ([27], [27]), ([28, 27], [27, 28]), ([29, 27], [27, 29]), ([27, 30], [27, 30]), ([31, 27], [31]), ([32], [32]), ([33, 32], [32, 33]), ([32], [32]), ([35, 32, 32], [32, 35]), ([34, 36, 32], [32, 34, 36]), ([32, 37], [32, 37]), ([38, 36, 0, 1, 2, 3, 4, 5, 6, 7, 8, 9, 10, 11, 12, 13, 14, 15, 16, 17, 18, 19, 20, 21, 22, 23, 24, 25, 26, 27, 28, 29, 30, 31, 32, 33, 34, 35, 36, 37, 38], [38])])
def emit_right.B1 : List Nat := [0, 1, 3, 0, 8, 24, 63, 127, 255, 511, 1023, 2047, 4095, 8191, 16383, 32767, 65535, 131071, 262143, 524287, 1048575, 2097151, 4194303, 8388607, 16777215, 33554431, 67108863, 134217727, 268435455, 536870911, 1073741823, 2147483647, 4294967295, 8589934591, 17179869183, 8589934591, 42949672959, 137438953471, 274877906943, 549755813887]
theorem emit_right.tab1 : rtab .any (opsOf Try.f141 1) = emit_right.T1 := by kernel_rfl
theorem emit_right.bits1 : waitsOk emit_right.T1.2 emit_right.B1 = true := by kernel_rfl
set_option maxHeartbeats 8000000 in
set_option maxRecDepth 100000 in
theorem emit_right.calls (a0_0 : Int) (a0_1 : Int) (a0_2 : Int) (a0_3 : Int) (a0_4 : Int) (a0_5 : Int) (a0_6 : Int) (a0_7 : Int) (a0_8 : Int) (a0_9 : Int) (a1_0 : Int) (a1_1 : Int) (a1_2 : Int) (a1_3 : Bool) (A1_4 : Option Addr) (c1_4 : Nat) (l1_4 : List Int) (r : Bool) (w : World) (hr1_4 : Kd.C (Kd.int .u8) w A1_4 l1_4.length l1_4) (hc1_4 : l1_4.length ≤ c1_4) (h : emit_right.f a0_0 a0_1 a0_2 a0_3 a0_4 a0_5 a0_6 a0_7 a0_8 a0_9 a1_0 a1_1 a1_2 a1_3 l1_4 = some r) :
    Calls Try.prog 141 #[.agg #[.int .i64 a0_0, .int .i64 a0_1, .int .i64 a0_2, .int .i64 a0_3, .int .i64 a0_4, .int .i64 a0_5, .int .i64 a0_6, .int .i64 a0_7, .int .i64 a0_8, .int .i64 a0_9], .agg #[.int .i64 a1_0, .int .i64 a1_1, .int .i64 a1_2, .bool a1_3, .slice A1_4 l1_4.length c1_4]] w fun e w' => e = .returned (.bool r) ∧ Below w.heap.size w w' := by
 have hu23 := Try.underlying23
 have hu100 := Try.underlying100
 have HR1_4 := Aside0.mk hr1_4
 have HC1_4 := Aside0.mk hc1_4
 clear hr1_4 hc1_4
 have HB := Aside0.mk (Below.refl w.heap.size w)
 have H : (if (l1_4.length : Int) = (wrap64 (a0_0 + 10)) then (if a1_0 ≥ 0 then (if a1_0 < 1073741824 then (if a1_1 ≥ 0 then (if a1_1 < 256 then (if a1_2 ≥ 0 then ((conf_Most.f a0_0 a0_1 a0_2 a0_3 a0_4 a0_5 a0_6 a0_7 a0_8 a0_9).bind fun t131 => (some (decide (a1_2 ≤ t131)))) else (some false)) else (some false)) else (some false)) else (some false)) else (some false)) else (some false)) = some r := h
 clear h
 by_cases c3 : (l1_4.length : Int) = (wrap64 (a0_0 + 10))
 rotate_left
 · rw [if_neg c3] at H
   have c3b0 : ((l1_4.length : Int) == (wrap64 (a0_0 + 10))) = false := beq_eq_false_iff_ne.mpr c3
   have c3b1 : ((l1_4.length : Int) != (wrap64 (a0_0 + 10))) = true := bne_iff_ne.mpr c3
   obtain rfl := Option.some.inj H
   go_enter Try.func141, Try.ntmps141
   try go_wp2_with (first | ((with_reducible refine gate_dst (N := 2) rfl ?_); refine box_event ?hg (N := 2) ?hd (cs := #[.int .i64 a0_0, .int .i64 a0_1, .int .i64 a0_2, .int .i64 a0_3, .int .i64 a0_4, .int .i64 a0_5, .int .i64 a0_6, .int .i64 a0_7, .int .i64 a0_8, .int .i64 a0_9]) (t := 23) ?hr ?_; (case hd => rfl); (case hg => rfl); (case hr => first | (go_simp; done) | (go_simp; rfl)); intro gb129 hg w29 hbox hb; have BK129 := Aside0.mk (hbox); have GW129 := zg HB hg; have GE129 := zg HB hg; replace HB := zs HB hb; clear hb hbox hg) | ((with_reducible refine gate_dst (N := 3) rfl ?_); refine box_event ?hg (N := 3) ?hd (cs := #[.int .i64 a1_0, .int .i64 a1_1, .int .i64 a1_2, .bool a1_3, .slice A1_4 l1_4.length c1_4]) (t := 100) ?hr ?_; (case hd => rfl); (case hg => rfl); (case hr => first | (go_simp; done) | (go_simp; rfl)); intro gb130 hg w30 hbox hb; have BK130 := Aside0.mk (hbox); have GW130 := zg HB hg; have GE130 := zg HB hg; replace HB := zs HB hb; have NB129_130 := zl BK129 hg; have NB130_129 := zr BK129 hg; replace BK129 := zb BK129 hb; clear hb hbox hg))
   replace BK129 := Aside0.mk (blk_drew BK129.out)
   replace BK130 := Aside0.mk (blk_drew BK130.out)
   replace HB := Aside0.mk (below_drew1 HB.out)
   refine start_ (n := 40) (S := fun w' => w'.cell? ⟨gb130, 0, none⟩ = some (.int .i64 a1_0) ∧ w'.cell? ⟨gb130, 1, none⟩ = some (.int .i64 a1_1) ∧ w'.cell? ⟨gb130, 2, none⟩ = some (.int .i64 a1_2) ∧ w'.cell? ⟨gb130, 3, none⟩ = some (.bool a1_3) ∧ w'.cell? ⟨gb130, 4, none⟩ = some (.slice A1_4 l1_4.length c1_4) ∧ w'.cell? ⟨gb129, 0, none⟩ = some (.int .i64 a0_0) ∧ w'.cell? ⟨gb129, 1, none⟩ = some (.int .i64 a0_1) ∧ w'.cell? ⟨gb129, 2, none⟩ = some (.int .i64 a0_2) ∧ w'.cell? ⟨gb129, 3, none⟩ = some (.int .i64 a0_3) ∧ w'.cell? ⟨gb129, 4, none⟩ = some (.int .i64 a0_4) ∧ w'.cell? ⟨gb129, 5, none⟩ = some (.int .i64 a0_5) ∧ w'.cell? ⟨gb129, 6, none⟩ = some (.int .i64 a0_6) ∧ w'.cell? ⟨gb129, 7, none⟩ = some (.int .i64 a0_7) ∧ w'.cell? ⟨gb129, 8, none⟩ = some (.int .i64 a0_8) ∧ w'.cell? ⟨gb129, 9, none⟩ = some (.int .i64 a0_9)) (ds := []) #[false, false, false, false, false, false, false, false, false, false, false, false, false, false, false, false, false, false, false, false, false, false, false, false, false, false, false, false, false, false, false, false, false, false, false, false, false, false, false, false] (by kernel_rfl) rfl rfl ⟨(blk_cell BK130.out 0).trans rfl, (blk_cell BK130.out 1).trans rfl, (blk_cell BK130.out 2).trans rfl, (blk_cell BK130.out 3).trans rfl, (blk_cell BK130.out 4).trans rfl, (blk_cell BK129.out 0).trans rfl, (blk_cell BK129.out 1).trans rfl, (blk_cell BK129.out 2).trans rfl, (blk_cell BK129.out 3).trans rfl, (blk_cell BK129.out 4).trans rfl, (blk_cell BK129.out 5).trans rfl, (blk_cell BK129.out 6).trans rfl, (blk_cell BK129.out 7).trans rfl, (blk_cell BK129.out 8).trans rfl, (blk_cell BK129.out 9).trans rfl⟩ (fun hHeld => ?_); refine with_tabW emit_right.tab1 emit_right.bits1 (fun HT_ HW_ => ?_)
   generalize w30.drew = w31 at BK129 BK130 HB hHeld ⊢
   refine pu 0 5 (lb 40 1) rfl rfl (any_of HT_.out (by kernel_rfl)) ?_
   refine pu 3 8 (lb 40 9) rfl rfl (any_of HT_.out (by kernel_rfl)) ?_
   refine take_ (i := 1) (N := some 6) (v := ?_) (a' := ?_) (lb 40 11) rfl rfl (take_ofW HT_.out HW_.out (by kernel_rfl)) (fun _ _ _ h => h) (Or.inl ⟨by rfl, ?_⟩) hHeld ?_ ?_
   rotate_left
   · rintro w' ⟨s0, s1, s2, s3, s4, s5, s6, s7, s8, s9, s10, s11, s12, s13, s14⟩
     go_simp
     with_reducible rfl
   rotate_left
   · simp only [Act.put, List.setIfInBounds_toArray, List.set_cons_zero, List.set_cons_succ, i64_w, i32_w]
     rfl
   refine pu 2 7 (lb 40 15) rfl rfl (any_of HT_.out (by kernel_rfl)) ?_
   refine take_ (i := 4) (N := some 9) (v := ?_) (a' := ?_) (lb 40 31) rfl rfl (take_ofW HT_.out HW_.out (by kernel_rfl)) (fun _ _ _ h => h) (Or.inl ⟨by rfl, ?_⟩) hHeld ?_ ?_
   rotate_left
   · rintro w' ⟨s0, s1, s2, s3, s4, s5, s6, s7, s8, s9, s10, s11, s12, s13, s14⟩
     go_simp
     with_reducible rfl
   rotate_left
   · simp only [Act.put, List.setIfInBounds_toArray, List.set_cons_zero, List.set_cons_succ, i64_w, i32_w]
     rfl
   refine pu 5 10 (lb 40 63) rfl rfl (any_of HT_.out (by kernel_rfl)) ?_
   refine pu 6 11 (lb 40 127) rfl rfl (any_of HT_.out (by kernel_rfl)) ?_
   refine pu 7 12 (lb 40 255) rfl rfl (any_of HT_.out (by kernel_rfl)) ?_
   refine pv 8 13 (lb 40 511) rfl rfl (any_of HT_.out (by kernel_rfl)) ?_
   refine pv 9 14 (lb 40 1023) rfl rfl (any_of HT_.out (by kernel_rfl)) ?_
   refine pv 10 15 (lb 40 2047) rfl rfl (any_of HT_.out (by kernel_rfl)) ?_
   refine pu 11 16 (lb 40 4095) rfl rfl (any_of HT_.out (by kernel_rfl)) ?_
   refine pu 12 17 (lb 40 8191) rfl rfl (any_of HT_.out (by kernel_rfl)) ?_
   refine pv 13 18 (lb 40 16383) rfl rfl (any_of HT_.out (by kernel_rfl)) ?_
   refine pv 14 19 (lb 40 32767) rfl rfl (any_of HT_.out (by kernel_rfl)) ?_
   refine pv 15 20 (lb 40 65535) rfl rfl (any_of HT_.out (by kernel_rfl)) ?_
   refine pu 16 21 (lb 40 131071) rfl rfl (any_of HT_.out (by kernel_rfl)) ?_
   refine pu 17 22 (lb 40 262143) rfl rfl (any_of HT_.out (by kernel_rfl)) ?_
   refine pv 18 23 (lb 40 524287) rfl rfl (any_of HT_.out (by kernel_rfl)) ?_
   refine pv 19 24 (lb 40 1048575) rfl rfl (any_of HT_.out (by kernel_rfl)) ?_
   refine pv 20 25 (lb 40 2097151) rfl rfl (any_of HT_.out (by kernel_rfl)) ?_
   refine pu 21 26 (lb 40 4194303) rfl rfl (any_of HT_.out (by kernel_rfl)) ?_
   refine pu 22 27 (lb 40 8388607) rfl rfl (any_of HT_.out (by kernel_rfl)) ?_
   refine pv 23 28 (lb 40 16777215) rfl rfl (any_of HT_.out (by kernel_rfl)) ?_
   refine pv 24 29 (lb 40 33554431) rfl rfl (any_of HT_.out (by kernel_rfl)) ?_
   refine pv 25 30 (lb 40 67108863) rfl rfl (any_of HT_.out (by kernel_rfl)) ?_
   refine pu 26 31 (lb 40 134217727) rfl rfl (any_of HT_.out (by kernel_rfl)) ?_
   refine pu 27 32 (lb 40 268435455) rfl rfl (any_of HT_.out (by kernel_rfl)) ?_
   refine pv 28 33 (lb 40 536870911) rfl rfl (any_of HT_.out (by kernel_rfl)) ?_
   refine pv 29 34 (lb 40 1073741823) rfl rfl (any_of HT_.out (by kernel_rfl)) ?_
   refine pv 30 35 (lb 40 2147483647) rfl rfl (any_of HT_.out (by kernel_rfl)) ?_
   refine pu 31 36 (lb 40 4294967295) rfl rfl (any_of HT_.out (by kernel_rfl)) ?_
   refine pu 32 37 (lb 40 8589934591) rfl rfl (any_of HT_.out (by kernel_rfl)) ?_
   refine pv 33 38 (lb 40 17179869183) rfl rfl (any_of HT_.out (by kernel_rfl)) ?_
   refine pv 34 39 (lb 40 34359738367) rfl rfl (any_of HT_.out (by kernel_rfl)) ?_
   refine pv 35 40 (lb 40 68719476735) rfl rfl (any_of HT_.out (by kernel_rfl)) ?_
   refine pv 36 41 (lb 40 137438953471) rfl rfl (any_of HT_.out (by kernel_rfl)) ?_
   refine pv 37 42 (lb 40 274877906943) rfl rfl (any_of HT_.out (by kernel_rfl)) ?_
   refine pu 38 43 (lb 40 549755813887) rfl rfl (any_of HT_.out (by kernel_rfl)) ?_
   refine pu 39 4 (lb 40 1099511627775) rfl rfl (any_of HT_.out (by kernel_rfl)) ?_
   refine done_ (done_of HT_.out (by kernel_rfl)) ?_
   try go_wp2
   go_ret
   exact ⟨by first | rfl | (simp [errW_none, errW_some] <;> rfl) | (simp [*, errW_none, errW_some] <;> rfl), by repeat (first | (with_reducible first | exact HB.out | apply below_alloc | apply pw_below_drewN | apply below_drew1 | refine below_set ?_ GE129.out | refine below_set ?_ GE130.out) | exact HB.out)⟩
 rw [if_pos c3] at H
 have c3b0 : ((l1_4.length : Int) == (wrap64 (a0_0 + 10))) = true := beq_iff_eq.mpr c3
 have c3b1 : ((l1_4.length : Int) != (wrap64 (a0_0 + 10))) = false := bne_eq_false_iff_eq.mpr c3
 clear c3
 by_cases c4 : a1_0 ≥ 0
 rotate_left
 · rw [if_neg c4] at H
   have c4b0 : decide (0 ≤ a1_0) = false := decide_eq_false c4
   clear c4
   obtain rfl := Option.some.inj H
   go_enter Try.func141, Try.ntmps141
   try go_wp2_with (first | ((with_reducible refine gate_dst (N := 2) rfl ?_); refine box_event ?hg (N := 2) ?hd (cs := #[.int .i64 a0_0, .int .i64 a0_1, .int .i64 a0_2, .int .i64 a0_3, .int .i64 a0_4, .int .i64 a0_5, .int .i64 a0_6, .int .i64 a0_7, .int .i64 a0_8, .int .i64 a0_9]) (t := 23) ?hr ?_; (case hd => rfl); (case hg => rfl); (case hr => first | (go_simp; done) | (go_simp; rfl)); intro gb129 hg w26 hbox hb; have BK129 := Aside0.mk (hbox); have GW129 := zg HB hg; have GE129 := zg HB hg; replace HB := zs HB hb; clear hb hbox hg) | ((with_reducible refine gate_dst (N := 3) rfl ?_); refine box_event ?hg (N := 3) ?hd (cs := #[.int .i64 a1_0, .int .i64 a1_1, .int .i64 a1_2, .bool a1_3, .slice A1_4 l1_4.length c1_4]) (t := 100) ?hr ?_; (case hd => rfl); (case hg => rfl); (case hr => first | (go_simp; done) | (go_simp; rfl)); intro gb130 hg w27 hbox hb; have BK130 := Aside0.mk (hbox); have GW130 := zg HB hg; have GE130 := zg HB hg; replace HB := zs HB hb; have NB129_130 := zl BK129 hg; have NB130_129 := zr BK129 hg; replace BK129 := zb BK129 hb; clear hb hbox hg))
   replace BK129 := Aside0.mk (blk_drew BK129.out)
   replace BK130 := Aside0.mk (blk_drew BK130.out)
   replace HB := Aside0.mk (below_drew1 HB.out)
   refine start_ (n := 40) (S := fun w' => w'.cell? ⟨gb130, 0, none⟩ = some (.int .i64 a1_0) ∧ w'.cell? ⟨gb130, 1, none⟩ = some (.int .i64 a1_1) ∧ w'.cell? ⟨gb130, 2, none⟩ = some (.int .i64 a1_2) ∧ w'.cell? ⟨gb130, 3, none⟩ = some (.bool a1_3) ∧ w'.cell? ⟨gb130, 4, none⟩ = some (.slice A1_4 l1_4.length c1_4) ∧ w'.cell? ⟨gb129, 0, none⟩ = some (.int .i64 a0_0) ∧ w'.cell? ⟨gb129, 1, none⟩ = some (.int .i64 a0_1) ∧ w'.cell? ⟨gb129, 2, none⟩ = some (.int .i64 a0_2) ∧ w'.cell? ⟨gb129, 3, none⟩ = some (.int .i64 a0_3) ∧ w'.cell? ⟨gb129, 4, none⟩ = some (.int .i64 a0_4) ∧ w'.cell? ⟨gb129, 5, none⟩ = some (.int .i64 a0_5) ∧ w'.cell? ⟨gb129, 6, none⟩ = some (.int .i64 a0_6) ∧ w'.cell? ⟨gb129, 7, none⟩ = some (.int .i64 a0_7) ∧ w'.cell? ⟨gb129, 8, none⟩ = some (.int .i64 a0_8) ∧ w'.cell? ⟨gb129, 9, none⟩ = some (.int .i64 a0_9)) (ds := []) #[false, false, false, false, false, false, false, false, false, false, false, false, false, false, false, false, false, false, false, false, false, false, false, false, false, false, false, false, false, false, false, false, false, false, false, false, false, false, false, false] (by kernel_rfl) rfl rfl ⟨(blk_cell BK130.out 0).trans rfl, (blk_cell BK130.out 1).trans rfl, (blk_cell BK130.out 2).trans rfl, (blk_cell BK130.out 3).trans rfl, (blk_cell BK130.out 4).trans rfl, (blk_cell BK129.out 0).trans rfl, (blk_cell BK129.out 1).trans rfl, (blk_cell BK129.out 2).trans rfl, (blk_cell BK129.out 3).trans rfl, (blk_cell BK129.out 4).trans rfl, (blk_cell BK129.out 5).trans rfl, (blk_cell BK129.out 6).trans rfl, (blk_cell BK129.out 7).trans rfl, (blk_cell BK129.out 8).trans rfl, (blk_cell BK129.out 9).trans rfl⟩ (fun hHeld => ?_); refine with_tabW emit_right.tab1 emit_right.bits1 (fun HT_ HW_ => ?_)
   generalize w27.drew = w28 at BK129 BK130 HB hHeld ⊢
   refine pu 0 5 (lb 40 1) rfl rfl (any_of HT_.out (by kernel_rfl)) ?_
   refine pu 3 8 (lb 40 9) rfl rfl (any_of HT_.out (by kernel_rfl)) ?_
   refine take_ (i := 1) (N := some 6) (v := ?_) (a' := ?_) (lb 40 11) rfl rfl (take_ofW HT_.out HW_.out (by kernel_rfl)) (fun _ _ _ h => h) (Or.inl ⟨by rfl, ?_⟩) hHeld ?_ ?_
   rotate_left
   · rintro w' ⟨s0, s1, s2, s3, s4, s5, s6, s7, s8, s9, s10, s11, s12, s13, s14⟩
     go_simp
     with_reducible rfl
   rotate_left
   · simp only [Act.put, List.setIfInBounds_toArray, List.set_cons_zero, List.set_cons_succ, i64_w, i32_w]
     rfl
   refine pu 2 7 (lb 40 15) rfl rfl (any_of HT_.out (by kernel_rfl)) ?_
   refine take_ (i := 4) (N := some 9) (v := ?_) (a' := ?_) (lb 40 31) rfl rfl (take_ofW HT_.out HW_.out (by kernel_rfl)) (fun _ _ _ h => h) (Or.inl ⟨by rfl, ?_⟩) hHeld ?_ ?_
   rotate_left
   · rintro w' ⟨s0, s1, s2, s3, s4, s5, s6, s7, s8, s9, s10, s11, s12, s13, s14⟩
     go_simp
     with_reducible rfl
   rotate_left
   · simp only [Act.put, List.setIfInBounds_toArray, List.set_cons_zero, List.set_cons_succ, i64_w, i32_w]
     rfl
   refine pu 5 10 (lb 40 63) rfl rfl (any_of HT_.out (by kernel_rfl)) ?_
   refine pu 6 11 (lb 40 127) rfl rfl (any_of HT_.out (by kernel_rfl)) ?_
   refine pu 7 12 (lb 40 255) rfl rfl (any_of HT_.out (by kernel_rfl)) ?_
   refine pu 8 13 (lb 40 511) rfl rfl (any_of HT_.out (by kernel_rfl)) ?_
   refine take_ (i := 9) (N := some 14) (v := ?_) (a' := ?_) (lb 40 1023) rfl rfl (take_ofW HT_.out HW_.out (by kernel_rfl)) (fun _ _ _ h => h) (Or.inl ⟨by rfl, ?_⟩) hHeld ?_ ?_
   rotate_left
   · rintro w' ⟨s0, s1, s2, s3, s4, s5, s6, s7, s8, s9, s10, s11, s12, s13, s14⟩
     go_simp
     with_reducible rfl
   rotate_left
   · simp only [Act.put, List.setIfInBounds_toArray, List.set_cons_zero, List.set_cons_succ, i64_w, i32_w]
     rfl
   refine pu 10 15 (lb 40 2047) rfl rfl (any_of HT_.out (by kernel_rfl)) ?_
   refine pu 11 16 (lb 40 4095) rfl rfl (any_of HT_.out (by kernel_rfl)) ?_
   refine pu 12 17 (lb 40 8191) rfl rfl (any_of HT_.out (by kernel_rfl)) ?_
   refine pv 13 18 (lb 40 16383) rfl rfl (any_of HT_.out (by kernel_rfl)) ?_
   refine pv 14 19 (lb 40 32767) rfl rfl (any_of HT_.out (by kernel_rfl)) ?_
   refine pv 15 20 (lb 40 65535) rfl rfl (any_of HT_.out (by kernel_rfl)) ?_
   refine pu 16 21 (lb 40 131071) rfl rfl (any_of HT_.out (by kernel_rfl)) ?_
   refine pu 17 22 (lb 40 262143) rfl rfl (any_of HT_.out (by kernel_rfl)) ?_
   refine pv 18 23 (lb 40 524287) rfl rfl (any_of HT_.out (by kernel_rfl)) ?_
   refine pv 19 24 (lb 40 1048575) rfl rfl (any_of HT_.out (by kernel_rfl)) ?_
   refine pv 20 25 (lb 40 2097151) rfl rfl (any_of HT_.out (by kernel_rfl)) ?_
   refine pu 21 26 (lb 40 4194303) rfl rfl (any_of HT_.out (by kernel_rfl)) ?_
   refine pu 22 27 (lb 40 8388607) rfl rfl (any_of HT_.out (by kernel_rfl)) ?_
   refine pv 23 28 (lb 40 16777215) rfl rfl (any_of HT_.out (by kernel_rfl)) ?_
   refine pv 24 29 (lb 40 33554431) rfl rfl (any_of HT_.out (by kernel_rfl)) ?_
   refine pv 25 30 (lb 40 67108863) rfl rfl (any_of HT_.out (by kernel_rfl)) ?_
   refine pu 26 31 (lb 40 134217727) rfl rfl (any_of HT_.out (by kernel_rfl)) ?_
   refine pu 27 32 (lb 40 268435455) rfl rfl (any_of HT_.out (by kernel_rfl)) ?_
   refine pv 28 33 (lb 40 536870911) rfl rfl (any_of HT_.out (by kernel_rfl)) ?_
   refine pv 29 34 (lb 40 1073741823) rfl rfl (any_of HT_.out (by kernel_rfl)) ?_
   refine pv 30 35 (lb 40 2147483647) rfl rfl (any_of HT_.out (by kernel_rfl)) ?_
   refine pu 31 36 (lb 40 4294967295) rfl rfl (any_of HT_.out (by kernel_rfl)) ?_
   refine pu 32 37 (lb 40 8589934591) rfl rfl (any_of HT_.out (by kernel_rfl)) ?_
   refine pv 33 38 (lb 40 17179869183) rfl rfl (any_of HT_.out (by kernel_rfl)) ?_
   refine pv 34 39 (lb 40 34359738367) rfl rfl (any_of HT_.out (by kernel_rfl)) ?_
   refine pv 35 40 (lb 40 68719476735) rfl rfl (any_of HT_.out (by kernel_rfl)) ?_
   refine pv 36 41 (lb 40 137438953471) rfl rfl (any_of HT_.out (by kernel_rfl)) ?_
   refine pv 37 42 (lb 40 274877906943) rfl rfl (any_of HT_.out (by kernel_rfl)) ?_
   refine pu 38 43 (lb 40 549755813887) rfl rfl (any_of HT_.out (by kernel_rfl)) ?_
   refine pu 39 4 (lb 40 1099511627775) rfl rfl (any_of HT_.out (by kernel_rfl)) ?_
   refine done_ (done_of HT_.out (by kernel_rfl)) ?_
   try go_wp2
   go_ret
   exact ⟨by first | rfl | (simp [errW_none, errW_some] <;> rfl) | (simp [*, errW_none, errW_some] <;> rfl), by repeat (first | (with_reducible first | exact HB.out | apply below_alloc | apply pw_below_drewN | apply below_drew1 | refine below_set ?_ GE129.out | refine below_set ?_ GE130.out) | exact HB.out)⟩
 rw [if_pos c4] at H
 have c4b0 : decide (0 ≤ a1_0) = true := decide_eq_true c4
 clear c4
 by_cases c5 : a1_0 < 1073741824
 rotate_left
 · rw [if_neg c5] at H
   have c5b0 : decide (a1_0 < 1073741824) = false := decide_eq_false c5
   clear c5
   obtain rfl := Option.some.inj H
   go_enter Try.func141, Try.ntmps141
   try go_wp2_with (first | ((with_reducible refine gate_dst (N := 2) rfl ?_); refine box_event ?hg (N := 2) ?hd (cs := #[.int .i64 a0_0, .int .i64 a0_1, .int .i64 a0_2, .int .i64 a0_3, .int .i64 a0_4, .int .i64 a0_5, .int .i64 a0_6, .int .i64 a0_7, .int .i64 a0_8, .int .i64 a0_9]) (t := 23) ?hr ?_; (case hd => rfl); (case hg => rfl); (case hr => first | (go_simp; done) | (go_simp; rfl)); intro gb129 hg w23 hbox hb; have BK129 := Aside0.mk (hbox); have GW129 := zg HB hg; have GE129 := zg HB hg; replace HB := zs HB hb; clear hb hbox hg) | ((with_reducible refine gate_dst (N := 3) rfl ?_); refine box_event ?hg (N := 3) ?hd (cs := #[.int .i64 a1_0, .int .i64 a1_1, .int .i64 a1_2, .bool a1_3, .slice A1_4 l1_4.length c1_4]) (t := 100) ?hr ?_; (case hd => rfl); (case hg => rfl); (case hr => first | (go_simp; done) | (go_simp; rfl)); intro gb130 hg w24 hbox hb; have BK130 := Aside0.mk (hbox); have GW130 := zg HB hg; have GE130 := zg HB hg; replace HB := zs HB hb; have NB129_130 := zl BK129 hg; have NB130_129 := zr BK129 hg; replace BK129 := zb BK129 hb; clear hb hbox hg))
   replace BK129 := Aside0.mk (blk_drew BK129.out)
   replace BK130 := Aside0.mk (blk_drew BK130.out)
   replace HB := Aside0.mk (below_drew1 HB.out)
   refine start_ (n := 40) (S := fun w' => w'.cell? ⟨gb130, 0, none⟩ = some (.int .i64 a1_0) ∧ w'.cell? ⟨gb130, 1, none⟩ = some (.int .i64 a1_1) ∧ w'.cell? ⟨gb130, 2, none⟩ = some (.int .i64 a1_2) ∧ w'.cell? ⟨gb130, 3, none⟩ = some (.bool a1_3) ∧ w'.cell? ⟨gb130, 4, none⟩ = some (.slice A1_4 l1_4.length c1_4) ∧ w'.cell? ⟨gb129, 0, none⟩ = some (.int .i64 a0_0) ∧ w'.cell? ⟨gb129, 1, none⟩ = some (.int .i64 a0_1) ∧ w'.cell? ⟨gb129, 2, none⟩ = some (.int .i64 a0_2) ∧ w'.cell? ⟨gb129, 3, none⟩ = some (.int .i64 a0_3) ∧ w'.cell? ⟨gb129, 4, none⟩ = some (.int .i64 a0_4) ∧ w'.cell? ⟨gb129, 5, none⟩ = some (.int .i64 a0_5) ∧ w'.cell? ⟨gb129, 6, none⟩ = some (.int .i64 a0_6) ∧ w'.cell? ⟨gb129, 7, none⟩ = some (.int .i64 a0_7) ∧ w'.cell? ⟨gb129, 8, none⟩ = some (.int .i64 a0_8) ∧ w'.cell? ⟨gb129, 9, none⟩ = some (.int .i64 a0_9)) (ds := []) #[false, false, false, false, false, false, false, false, false, false, false, false, false, false, false, false, false, false, false, false, false, false, false, false, false, false, false, false, false, false, false, false, false, false, false, false, false, false, false, false] (by kernel_rfl) rfl rfl ⟨(blk_cell BK130.out 0).trans rfl, (blk_cell BK130.out 1).trans rfl, (blk_cell BK130.out 2).trans rfl, (blk_cell BK130.out 3).trans rfl, (blk_cell BK130.out 4).trans rfl, (blk_cell BK129.out 0).trans rfl, (blk_cell BK129.out 1).trans rfl, (blk_cell BK129.out 2).trans rfl, (blk_cell BK129.out 3).trans rfl, (blk_cell BK129.out 4).trans rfl, (blk_cell BK129.out 5).trans rfl, (blk_cell BK129.out 6).trans rfl, (blk_cell BK129.out 7).trans rfl, (blk_cell BK129.out 8).trans rfl, (blk_cell BK129.out 9).trans rfl⟩ (fun hHeld => ?_); refine with_tabW emit_right.tab1 emit_right.bits1 (fun HT_ HW_ => ?_)
   generalize w24.drew = w25 at BK129 BK130 HB hHeld ⊢
   refine pu 0 5 (lb 40 1) rfl rfl (any_of HT_.out (by kernel_rfl)) ?_
   refine pu 3 8 (lb 40 9) rfl rfl (any_of HT_.out (by kernel_rfl)) ?_
   refine take_ (i := 1) (N := some 6) (v := ?_) (a' := ?_) (lb 40 11) rfl rfl (take_ofW HT_.out HW_.out (by kernel_rfl)) (fun _ _ _ h => h) (Or.inl ⟨by rfl, ?_⟩) hHeld ?_ ?_
   rotate_left
   · rintro w' ⟨s0, s1, s2, s3, s4, s5, s6, s7, s8, s9, s10, s11, s12, s13, s14⟩
     go_simp
     with_reducible rfl
   rotate_left
   · simp only [Act.put, List.setIfInBounds_toArray, List.set_cons_zero, List.set_cons_succ, i64_w, i32_w]
     rfl
   refine pu 2 7 (lb 40 15) rfl rfl (any_of HT_.out (by kernel_rfl)) ?_
   refine take_ (i := 4) (N := some 9) (v := ?_) (a' := ?_) (lb 40 31) rfl rfl (take_ofW HT_.out HW_.out (by kernel_rfl)) (fun _ _ _ h => h) (Or.inl ⟨by rfl, ?_⟩) hHeld ?_ ?_
   rotate_left
   · rintro w' ⟨s0, s1, s2, s3, s4, s5, s6, s7, s8, s9, s10, s11, s12, s13, s14⟩
     go_simp
     with_reducible rfl
   rotate_left
   · simp only [Act.put, List.setIfInBounds_toArray, List.set_cons_zero, List.set_cons_succ, i64_w, i32_w]
     rfl
   refine pu 5 10 (lb 40 63) rfl rfl (any_of HT_.out (by kernel_rfl)) ?_
   refine pu 6 11 (lb 40 127) rfl rfl (any_of HT_.out (by kernel_rfl)) ?_
   refine pu 7 12 (lb 40 255) rfl rfl (any_of HT_.out (by kernel_rfl)) ?_
   refine pu 8 13 (lb 40 511) rfl rfl (any_of HT_.out (by kernel_rfl)) ?_
   refine take_ (i := 9) (N := some 14) (v := ?_) (a' := ?_) (lb 40 1023) rfl rfl (take_ofW HT_.out HW_.out (by kernel_rfl)) (fun _ _ _ h => h) (Or.inl ⟨by rfl, ?_⟩) hHeld ?_ ?_
   rotate_left
   · rintro w' ⟨s0, s1, s2, s3, s4, s5, s6, s7, s8, s9, s10, s11, s12, s13, s14⟩
     go_simp
     with_reducible rfl
   rotate_left
   · simp only [Act.put, List.setIfInBounds_toArray, List.set_cons_zero, List.set_cons_succ, i64_w, i32_w]
     rfl
   refine pu 10 15 (lb 40 2047) rfl rfl (any_of HT_.out (by kernel_rfl)) ?_
   refine pu 11 16 (lb 40 4095) rfl rfl (any_of HT_.out (by kernel_rfl)) ?_
   refine pu 12 17 (lb 40 8191) rfl rfl (any_of HT_.out (by kernel_rfl)) ?_
   refine pu 13 18 (lb 40 16383) rfl rfl (any_of HT_.out (by kernel_rfl)) ?_
   refine take_ (i := 14) (N := some 19) (v := ?_) (a' := ?_) (lb 40 32767) rfl rfl (take_ofW HT_.out HW_.out (by kernel_rfl)) (fun _ _ _ h => h) (Or.inl ⟨by rfl, ?_⟩) hHeld ?_ ?_
   rotate_left
   · rintro w' ⟨s0, s1, s2, s3, s4, s5, s6, s7, s8, s9, s10, s11, s12, s13, s14⟩
     go_simp
     with_reducible rfl
   rotate_left
   · simp only [Act.put, List.setIfInBounds_toArray, List.set_cons_zero, List.set_cons_succ, i64_w, i32_w]
     rfl
   refine pu 15 20 (lb 40 65535) rfl rfl (any_of HT_.out (by kernel_rfl)) ?_
   refine pu 16 21 (lb 40 131071) rfl rfl (any_of HT_.out (by kernel_rfl)) ?_
   refine pu 17 22 (lb 40 262143) rfl rfl (any_of HT_.out (by kernel_rfl)) ?_
   refine pv 18 23 (lb 40 524287) rfl rfl (any_of HT_.out (by kernel_rfl)) ?_
   refine pv 19 24 (lb 40 1048575) rfl rfl (any_of HT_.out (by kernel_rfl)) ?_
   refine pv 20 25 (lb 40 2097151) rfl rfl (any_of HT_.out (by kernel_rfl)) ?_
   refine pu 21 26 (lb 40 4194303) rfl rfl (any_of HT_.out (by kernel_rfl)) ?_
   refine pu 22 27 (lb 40 8388607) rfl rfl (any_of HT_.out (by kernel_rfl)) ?_
   refine pv 23 28 (lb 40 16777215) rfl rfl (any_of HT_.out (by kernel_rfl)) ?_
   refine pv 24 29 (lb 40 33554431) rfl rfl (any_of HT_.out (by kernel_rfl)) ?_
   refine pv 25 30 (lb 40 67108863) rfl rfl (any_of HT_.out (by kernel_rfl)) ?_
   refine pu 26 31 (lb 40 134217727) rfl rfl (any_of HT_.out (by kernel_rfl)) ?_
   refine pu 27 32 (lb 40 268435455) rfl rfl (any_of HT_.out (by kernel_rfl)) ?_
   refine pv 28 33 (lb 40 536870911) rfl rfl (any_of HT_.out (by kernel_rfl)) ?_
   refine pv 29 34 (lb 40 1073741823) rfl rfl (any_of HT_.out (by kernel_rfl)) ?_
   refine pv 30 35 (lb 40 2147483647) rfl rfl (any_of HT_.out (by kernel_rfl)) ?_
   refine pu 31 36 (lb 40 4294967295) rfl rfl (any_of HT_.out (by kernel_rfl)) ?_
   refine pu 32 37 (lb 40 8589934591) rfl rfl (any_of HT_.out (by kernel_rfl)) ?_
   refine pv 33 38 (lb 40 17179869183) rfl rfl (any_of HT_.out (by kernel_rfl)) ?_
   refine pv 34 39 (lb 40 34359738367) rfl rfl (any_of HT_.out (by kernel_rfl)) ?_
   refine pv 35 40 (lb 40 68719476735) rfl rfl (any_of HT_.out (by kernel_rfl)) ?_
   refine pv 36 41 (lb 40 137438953471) rfl rfl (any_of HT_.out (by kernel_rfl)) ?_
   refine pv 37 42 (lb 40 274877906943) rfl rfl (any_of HT_.out (by kernel_rfl)) ?_
   refine pu 38 43 (lb 40 549755813887) rfl rfl (any_of HT_.out (by kernel_rfl)) ?_
   refine pu 39 4 (lb 40 1099511627775) rfl rfl (any_of HT_.out (by kernel_rfl)) ?_
   refine done_ (done_of HT_.out (by kernel_rfl)) ?_
   try go_wp2
   go_ret
   exact ⟨by first | rfl | (simp [errW_none, errW_some] <;> rfl) | (simp [*, errW_none, errW_some] <;> rfl), by repeat (first | (with_reducible first | exact HB.out | apply below_alloc | apply pw_below_drewN | apply below_drew1 | refine below_set ?_ GE129.out | refine below_set ?_ GE130.out) | exact HB.out)⟩
 rw [if_pos c5] at H
 have c5b0 : decide (a1_0 < 1073741824) = true := decide_eq_true c5
 clear c5
 by_cases c6 : a1_1 ≥ 0
 rotate_left
 · rw [if_neg c6] at H
   have c6b0 : decide (0 ≤ a1_1) = false := decide_eq_false c6
   clear c6
   obtain rfl := Option.some.inj H
   go_enter Try.func141, Try.ntmps141
   try go_wp2_with (first | ((with_reducible refine gate_dst (N := 2) rfl ?_); refine box_event ?hg (N := 2) ?hd (cs := #[.int .i64 a0_0, .int .i64 a0_1, .int .i64 a0_2, .int .i64 a0_3, .int .i64 a0_4, .int .i64 a0_5, .int .i64 a0_6, .int .i64 a0_7, .int .i64 a0_8, .int .i64 a0_9]) (t := 23) ?hr ?_; (case hd => rfl); (case hg => rfl); (case hr => first | (go_simp; done) | (go_simp; rfl)); intro gb129 hg w20 hbox hb; have BK129 := Aside0.mk (hbox); have GW129 := zg HB hg; have GE129 := zg HB hg; replace HB := zs HB hb; clear hb hbox hg) | ((with_reducible refine gate_dst (N := 3) rfl ?_); refine box_event ?hg (N := 3) ?hd (cs := #[.int .i64 a1_0, .int .i64 a1_1, .int .i64 a1_2, .bool a1_3, .slice A1_4 l1_4.length c1_4]) (t := 100) ?hr ?_; (case hd => rfl); (case hg => rfl); (case hr => first | (go_simp; done) | (go_simp; rfl)); intro gb130 hg w21 hbox hb; have BK130 := Aside0.mk (hbox); have GW130 := zg HB hg; have GE130 := zg HB hg; replace HB := zs HB hb; have NB129_130 := zl BK129 hg; have NB130_129 := zr BK129 hg; replace BK129 := zb BK129 hb; clear hb hbox hg))
   replace BK129 := Aside0.mk (blk_drew BK129.out)
   replace BK130 := Aside0.mk (blk_drew BK130.out)
   replace HB := Aside0.mk (below_drew1 HB.out)
   refine start_ (n := 40) (S := fun w' => w'.cell? ⟨gb130, 0, none⟩ = some (.int .i64 a1_0) ∧ w'.cell? ⟨gb130, 1, none⟩ = some (.int .i64 a1_1) ∧ w'.cell? ⟨gb130, 2, none⟩ = some (.int .i64 a1_2) ∧ w'.cell? ⟨gb130, 3, none⟩ = some (.bool a1_3) ∧ w'.cell? ⟨gb130, 4, none⟩ = some (.slice A1_4 l1_4.length c1_4) ∧ w'.cell? ⟨gb129, 0, none⟩ = some (.int .i64 a0_0) ∧ w'.cell? ⟨gb129, 1, none⟩ = some (.int .i64 a0_1) ∧ w'.cell? ⟨gb129, 2, none⟩ = some (.int .i64 a0_2) ∧ w'.cell? ⟨gb129, 3, none⟩ = some (.int .i64 a0_3) ∧ w'.cell? ⟨gb129, 4, none⟩ = some (.int .i64 a0_4) ∧ w'.cell? ⟨gb129, 5, none⟩ = some (.int .i64 a0_5) ∧ w'.cell? ⟨gb129, 6, none⟩ = some (.int .i64 a0_6) ∧ w'.cell? ⟨gb129, 7, none⟩ = some (.int .i64 a0_7) ∧ w'.cell? ⟨gb129, 8, none⟩ = some (.int .i64 a0_8) ∧ w'.cell? ⟨gb129, 9, none⟩ = some (.int .i64 a0_9)) (ds := []) #[false, false, false, false, false, false, false, false, false, false, false, false, false, false, false, false, false, false, false, false, false, false, false, false, false, false, false, false, false, false, false, false, false, false, false, false, false, false, false, false] (by kernel_rfl) rfl rfl ⟨(blk_cell BK130.out 0).trans rfl, (blk_cell BK130.out 1).trans rfl, (blk_cell BK130.out 2).trans rfl, (blk_cell BK130.out 3).trans rfl, (blk_cell BK130.out 4).trans rfl, (blk_cell BK129.out 0).trans rfl, (blk_cell BK129.out 1).trans rfl, (blk_cell BK129.out 2).trans rfl, (blk_cell BK129.out 3).trans rfl, (blk_cell BK129.out 4).trans rfl, (blk_cell BK129.out 5).trans rfl, (blk_cell BK129.out 6).trans rfl, (blk_cell BK129.out 7).trans rfl, (blk_cell BK129.out 8).trans rfl, (blk_cell BK129.out 9).trans rfl⟩ (fun hHeld => ?_); refine with_tabW emit_right.tab1 emit_right.bits1 (fun HT_ HW_ => ?_)
   generalize w21.drew = w22 at BK129 BK130 HB hHeld ⊢
   refine pu 0 5 (lb 40 1) rfl rfl (any_of HT_.out (by kernel_rfl)) ?_
   refine pu 3 8 (lb 40 9) rfl rfl (any_of HT_.out (by kernel_rfl)) ?_
   refine take_ (i := 1) (N := some 6) (v := ?_) (a' := ?_) (lb 40 11) rfl rfl (take_ofW HT_.out HW_.out (by kernel_rfl)) (fun _ _ _ h => h) (Or.inl ⟨by rfl, ?_⟩) hHeld ?_ ?_
   rotate_left
   · rintro w' ⟨s0, s1, s2, s3, s4, s5, s6, s7, s8, s9, s10, s11, s12, s13, s14⟩
     go_simp
     with_reducible rfl
   rotate_left
   · simp only [Act.put, List.setIfInBounds_toArray, List.set_cons_zero, List.set_cons_succ, i64_w, i32_w]
     rfl
   refine pu 2 7 (lb 40 15) rfl rfl (any_of HT_.out (by kernel_rfl)) ?_
   refine take_ (i := 4) (N := some 9) (v := ?_) (a' := ?_) (lb 40 31) rfl rfl (take_ofW HT_.out HW_.out (by kernel_rfl)) (fun _ _ _ h => h) (Or.inl ⟨by rfl, ?_⟩) hHeld ?_ ?_
   rotate_left
   · rintro w' ⟨s0, s1, s2, s3, s4, s5, s6, s7, s8, s9, s10, s11, s12, s13, s14⟩
     go_simp
     with_reducible rfl
   rotate_left
   · simp only [Act.put, List.setIfInBounds_toArray, List.set_cons_zero, List.set_cons_succ, i64_w, i32_w]
     rfl
   refine pu 5 10 (lb 40 63) rfl rfl (any_of HT_.out (by kernel_rfl)) ?_
   refine pu 6 11 (lb 40 127) rfl rfl (any_of HT_.out (by kernel_rfl)) ?_
   refine pu 7 12 (lb 40 255) rfl rfl (any_of HT_.out (by kernel_rfl)) ?_
   refine pu 8 13 (lb 40 511) rfl rfl (any_of HT_.out (by kernel_rfl)) ?_
   refine take_ (i := 9) (N := some 14) (v := ?_) (a' := ?_) (lb 40 1023) rfl rfl (take_ofW HT_.out HW_.out (by kernel_rfl)) (fun _ _ _ h => h) (Or.inl ⟨by rfl, ?_⟩) hHeld ?_ ?_
   rotate_left
   · rintro w' ⟨s0, s1, s2, s3, s4, s5, s6, s7, s8, s9, s10, s11, s12, s13, s14⟩
     go_simp
     with_reducible rfl
   rotate_left
   · simp only [Act.put, List.setIfInBounds_toArray, List.set_cons_zero, List.set_cons_succ, i64_w, i32_w]
     rfl
   refine pu 10 15 (lb 40 2047) rfl rfl (any_of HT_.out (by kernel_rfl)) ?_
   refine pu 11 16 (lb 40 4095) rfl rfl (any_of HT_.out (by kernel_rfl)) ?_
   refine pu 12 17 (lb 40 8191) rfl rfl (any_of HT_.out (by kernel_rfl)) ?_
   refine pu 13 18 (lb 40 16383) rfl rfl (any_of HT_.out (by kernel_rfl)) ?_
   refine take_ (i := 14) (N := some 19) (v := ?_) (a' := ?_) (lb 40 32767) rfl rfl (take_ofW HT_.out HW_.out (by kernel_rfl)) (fun _ _ _ h => h) (Or.inl ⟨by rfl, ?_⟩) hHeld ?_ ?_
   rotate_left
   · rintro w' ⟨s0, s1, s2, s3, s4, s5, s6, s7, s8, s9, s10, s11, s12, s13, s14⟩
     go_simp
     with_reducible rfl
   rotate_left
   · simp only [Act.put, List.setIfInBounds_toArray, List.set_cons_zero, List.set_cons_succ, i64_w, i32_w]
     rfl
   refine pu 15 20 (lb 40 65535) rfl rfl (any_of HT_.out (by kernel_rfl)) ?_
   refine pu 16 21 (lb 40 131071) rfl rfl (any_of HT_.out (by kernel_rfl)) ?_
   refine pu 17 22 (lb 40 262143) rfl rfl (any_of HT_.out (by kernel_rfl)) ?_
   refine pu 18 23 (lb 40 524287) rfl rfl (any_of HT_.out (by kernel_rfl)) ?_
   refine take_ (i := 19) (N := some 24) (v := ?_) (a' := ?_) (lb 40 1048575) rfl rfl (take_ofW HT_.out HW_.out (by kernel_rfl)) (fun _ _ _ h => h) (Or.inl ⟨by rfl, ?_⟩) hHeld ?_ ?_
   rotate_left
   · rintro w' ⟨s0, s1, s2, s3, s4, s5, s6, s7, s8, s9, s10, s11, s12, s13, s14⟩
     go_simp
     with_reducible rfl
   rotate_left
   · simp only [Act.put, List.setIfInBounds_toArray, List.set_cons_zero, List.set_cons_succ, i64_w, i32_w]
     rfl
   refine pu 20 25 (lb 40 2097151) rfl rfl (any_of HT_.out (by kernel_rfl)) ?_
   refine pu 21 26 (lb 40 4194303) rfl rfl (any_of HT_.out (by kernel_rfl)) ?_
   refine pu 22 27 (lb 40 8388607) rfl rfl (any_of HT_.out (by kernel_rfl)) ?_
   refine pv 23 28 (lb 40 16777215) rfl rfl (any_of HT_.out (by kernel_rfl)) ?_
   refine pv 24 29 (lb 40 33554431) rfl rfl (any_of HT_.out (by kernel_rfl)) ?_
   refine pv 25 30 (lb 40 67108863) rfl rfl (any_of HT_.out (by kernel_rfl)) ?_
   refine pu 26 31 (lb 40 134217727) rfl rfl (any_of HT_.out (by kernel_rfl)) ?_
   refine pu 27 32 (lb 40 268435455) rfl rfl (any_of HT_.out (by kernel_rfl)) ?_
   refine pv 28 33 (lb 40 536870911) rfl rfl (any_of HT_.out (by kernel_rfl)) ?_
   refine pv 29 34 (lb 40 1073741823) rfl rfl (any_of HT_.out (by kernel_rfl)) ?_
   refine pv 30 35 (lb 40 2147483647) rfl rfl (any_of HT_.out (by kernel_rfl)) ?_
   refine pu 31 36 (lb 40 4294967295) rfl rfl (any_of HT_.out (by kernel_rfl)) ?_
   refine pu 32 37 (lb 40 8589934591) rfl rfl (any_of HT_.out (by kernel_rfl)) ?_
   refine pv 33 38 (lb 40 17179869183) rfl rfl (any_of HT_.out (by kernel_rfl)) ?_
   refine pv 34 39 (lb 40 34359738367) rfl rfl (any_of HT_.out (by kernel_rfl)) ?_
   refine pv 35 40 (lb 40 68719476735) rfl rfl (any_of HT_.out (by kernel_rfl)) ?_
   refine pv 36 41 (lb 40 137438953471) rfl rfl (any_of HT_.out (by kernel_rfl)) ?_
   refine pv 37 42 (lb 40 274877906943) rfl rfl (any_of HT_.out (by kernel_rfl)) ?_
   refine pu 38 43 (lb 40 549755813887) rfl rfl (any_of HT_.out (by kernel_rfl)) ?_
   refine pu 39 4 (lb 40 1099511627775) rfl rfl (any_of HT_.out (by kernel_rfl)) ?_
   refine done_ (done_of HT_.out (by kernel_rfl)) ?_
   try go_wp2
   go_ret
   exact ⟨by first | rfl | (simp [errW_none, errW_some] <;> rfl) | (simp [*, errW_none, errW_some] <;> rfl), by repeat (first | (with_reducible first | exact HB.out | apply below_alloc | apply pw_below_drewN | apply below_drew1 | refine below_set ?_ GE129.out | refine below_set ?_ GE130.out) | exact HB.out)⟩
 rw [if_pos c6] at H
 have c6b0 : decide (0 ≤ a1_1) = true := decide_eq_true c6
 clear c6
 by_cases c7 : a1_1 < 256
 rotate_left
 · rw [if_neg c7] at H
   have c7b0 : decide (a1_1 < 256) = false := decide_eq_false c7
   clear c7
   obtain rfl := Option.some.inj H
   go_enter Try.func141, Try.ntmps141
   try go_wp2_with (first | ((with_reducible refine gate_dst (N := 2) rfl ?_); refine box_event ?hg (N := 2) ?hd (cs := #[.int .i64 a0_0, .int .i64 a0_1, .int .i64 a0_2, .int .i64 a0_3, .int .i64 a0_4, .int .i64 a0_5, .int .i64 a0_6, .int .i64 a0_7, .int .i64 a0_8, .int .i64 a0_9]) (t := 23) ?hr ?_; (case hd => rfl); (case hg => rfl); (case hr => first | (go_simp; done) | (go_simp; rfl)); intro gb129 hg w17 hbox hb; have BK129 := Aside0.mk (hbox); have GW129 := zg HB hg; have GE129 := zg HB hg; replace HB := zs HB hb; clear hb hbox hg) | ((with_reducible refine gate_dst (N := 3) rfl ?_); refine box_event ?hg (N := 3) ?hd (cs := #[.int .i64 a1_0, .int .i64 a1_1, .int .i64 a1_2, .bool a1_3, .slice A1_4 l1_4.length c1_4]) (t := 100) ?hr ?_; (case hd => rfl); (case hg => rfl); (case hr => first | (go_simp; done) | (go_simp; rfl)); intro gb130 hg w18 hbox hb; have BK130 := Aside0.mk (hbox); have GW130 := zg HB hg; have GE130 := zg HB hg; replace HB := zs HB hb; have NB129_130 := zl BK129 hg; have NB130_129 := zr BK129 hg; replace BK129 := zb BK129 hb; clear hb hbox hg))
   replace BK129 := Aside0.mk (blk_drew BK129.out)
   replace BK130 := Aside0.mk (blk_drew BK130.out)
   replace HB := Aside0.mk (below_drew1 HB.out)
   refine start_ (n := 40) (S := fun w' => w'.cell? ⟨gb130, 0, none⟩ = some (.int .i64 a1_0) ∧ w'.cell? ⟨gb130, 1, none⟩ = some (.int .i64 a1_1) ∧ w'.cell? ⟨gb130, 2, none⟩ = some (.int .i64 a1_2) ∧ w'.cell? ⟨gb130, 3, none⟩ = some (.bool a1_3) ∧ w'.cell? ⟨gb130, 4, none⟩ = some (.slice A1_4 l1_4.length c1_4) ∧ w'.cell? ⟨gb129, 0, none⟩ = some (.int .i64 a0_0) ∧ w'.cell? ⟨gb129, 1, none⟩ = some (.int .i64 a0_1) ∧ w'.cell? ⟨gb129, 2, none⟩ = some (.int .i64 a0_2) ∧ w'.cell? ⟨gb129, 3, none⟩ = some (.int .i64 a0_3) ∧ w'.cell? ⟨gb129, 4, none⟩ = some (.int .i64 a0_4) ∧ w'.cell? ⟨gb129, 5, none⟩ = some (.int .i64 a0_5) ∧ w'.cell? ⟨gb129, 6, none⟩ = some (.int .i64 a0_6) ∧ w'.cell? ⟨gb129, 7, none⟩ = some (.int .i64 a0_7) ∧ w'.cell? ⟨gb129, 8, none⟩ = some (.int .i64 a0_8) ∧ w'.cell? ⟨gb129, 9, none⟩ = some (.int .i64 a0_9)) (ds := []) #[false, false, false, false, false, false, false, false, false, false, false, false, false, false, false, false, false, false, false, false, false, false, false, false, false, false, false, false, false, false, false, false, false, false, false, false, false, false, false, false] (by kernel_rfl) rfl rfl ⟨(blk_cell BK130.out 0).trans rfl, (blk_cell BK130.out 1).trans rfl, (blk_cell BK130.out 2).trans rfl, (blk_cell BK130.out 3).trans rfl, (blk_cell BK130.out 4).trans rfl, (blk_cell BK129.out 0).trans rfl, (blk_cell BK129.out 1).trans rfl, (blk_cell BK129.out 2).trans rfl, (blk_cell BK129.out 3).trans rfl, (blk_cell BK129.out 4).trans rfl, (blk_cell BK129.out 5).trans rfl, (blk_cell BK129.out 6).trans rfl, (blk_cell BK129.out 7).trans rfl, (blk_cell BK129.out 8).trans rfl, (blk_cell BK129.out 9).trans rfl⟩ (fun hHeld => ?_); refine with_tabW emit_right.tab1 emit_right.bits1 (fun HT_ HW_ => ?_)
   generalize w18.drew = w19 at BK129 BK130 HB hHeld ⊢
   refine pu 0 5 (lb 40 1) rfl rfl (any_of HT_.out (by kernel_rfl)) ?_
   refine pu 3 8 (lb 40 9) rfl rfl (any_of HT_.out (by kernel_rfl)) ?_
   refine take_ (i := 1) (N := some 6) (v := ?_) (a' := ?_) (lb 40 11) rfl rfl (take_ofW HT_.out HW_.out (by kernel_rfl)) (fun _ _ _ h => h) (Or.inl ⟨by rfl, ?_⟩) hHeld ?_ ?_
   rotate_left
   · rintro w' ⟨s0, s1, s2, s3, s4, s5, s6, s7, s8, s9, s10, s11, s12, s13, s14⟩
     go_simp
     with_reducible rfl
   rotate_left
   · simp only [Act.put, List.setIfInBounds_toArray, List.set_cons_zero, List.set_cons_succ, i64_w, i32_w]
     rfl
   refine pu 2 7 (lb 40 15) rfl rfl (any_of HT_.out (by kernel_rfl)) ?_
   refine take_ (i := 4) (N := some 9) (v := ?_) (a' := ?_) (lb 40 31) rfl rfl (take_ofW HT_.out HW_.out (by kernel_rfl)) (fun _ _ _ h => h) (Or.inl ⟨by rfl, ?_⟩) hHeld ?_ ?_
   rotate_left
   · rintro w' ⟨s0, s1, s2, s3, s4, s5, s6, s7, s8, s9, s10, s11, s12, s13, s14⟩
     go_simp
     with_reducible rfl
   rotate_left
   · simp only [Act.put, List.setIfInBounds_toArray, List.set_cons_zero, List.set_cons_succ, i64_w, i32_w]
     rfl
   refine pu 5 10 (lb 40 63) rfl rfl (any_of HT_.out (by kernel_rfl)) ?_
   refine pu 6 11 (lb 40 127) rfl rfl (any_of HT_.out (by kernel_rfl)) ?_
   refine pu 7 12 (lb 40 255) rfl rfl (any_of HT_.out (by kernel_rfl)) ?_
   refine pu 8 13 (lb 40 511) rfl rfl (any_of HT_.out (by kernel_rfl)) ?_
   refine take_ (i := 9) (N := some 14) (v := ?_) (a' := ?_) (lb 40 1023) rfl rfl (take_ofW HT_.out HW_.out (by kernel_rfl)) (fun _ _ _ h => h) (Or.inl ⟨by rfl, ?_⟩) hHeld ?_ ?_
   rotate_left
   · rintro w' ⟨s0, s1, s2, s3, s4, s5, s6, s7, s8, s9, s10, s11, s12, s13, s14⟩
     go_simp
     with_reducible rfl
   rotate_left
   · simp only [Act.put, List.setIfInBounds_toArray, List.set_cons_zero, List.set_cons_succ, i64_w, i32_w]
     rfl
   refine pu 10 15 (lb 40 2047) rfl rfl (any_of HT_.out (by kernel_rfl)) ?_
   refine pu 11 16 (lb 40 4095) rfl rfl (any_of HT_.out (by kernel_rfl)) ?_
   refine pu 12 17 (lb 40 8191) rfl rfl (any_of HT_.out (by kernel_rfl)) ?_
   refine pu 13 18 (lb 40 16383) rfl rfl (any_of HT_.out (by kernel_rfl)) ?_
   refine take_ (i := 14) (N := some 19) (v := ?_) (a' := ?_) (lb 40 32767) rfl rfl (take_ofW HT_.out HW_.out (by kernel_rfl)) (fun _ _ _ h => h) (Or.inl ⟨by rfl, ?_⟩) hHeld ?_ ?_
   rotate_left
   · rintro w' ⟨s0, s1, s2, s3, s4, s5, s6, s7, s8, s9, s10, s11, s12, s13, s14⟩
     go_simp
     with_reducible rfl
   rotate_left
   · simp only [Act.put, List.setIfInBounds_toArray, List.set_cons_zero, List.set_cons_succ, i64_w, i32_w]
     rfl
   refine pu 15 20 (lb 40 65535) rfl rfl (any_of HT_.out (by kernel_rfl)) ?_
   refine pu 16 21 (lb 40 131071) rfl rfl (any_of HT_.out (by kernel_rfl)) ?_
   refine pu 17 22 (lb 40 262143) rfl rfl (any_of HT_.out (by kernel_rfl)) ?_
   refine pu 18 23 (lb 40 524287) rfl rfl (any_of HT_.out (by kernel_rfl)) ?_
   refine take_ (i := 19) (N := some 24) (v := ?_) (a' := ?_) (lb 40 1048575) rfl rfl (take_ofW HT_.out HW_.out (by kernel_rfl)) (fun _ _ _ h => h) (Or.inl ⟨by rfl, ?_⟩) hHeld ?_ ?_
   rotate_left
   · rintro w' ⟨s0, s1, s2, s3, s4, s5, s6, s7, s8, s9, s10, s11, s12, s13, s14⟩
     go_simp
     with_reducible rfl
   rotate_left
   · simp only [Act.put, List.setIfInBounds_toArray, List.set_cons_zero, List.set_cons_succ, i64_w, i32_w]
     rfl
   refine pu 20 25 (lb 40 2097151) rfl rfl (any_of HT_.out (by kernel_rfl)) ?_
   refine pu 21 26 (lb 40 4194303) rfl rfl (any_of HT_.out (by kernel_rfl)) ?_
   refine pu 22 27 (lb 40 8388607) rfl rfl (any_of HT_.out (by kernel_rfl)) ?_
   refine pu 23 28 (lb 40 16777215) rfl rfl (any_of HT_.out (by kernel_rfl)) ?_
   refine take_ (i := 24) (N := some 29) (v := ?_) (a' := ?_) (lb 40 33554431) rfl rfl (take_ofW HT_.out HW_.out (by kernel_rfl)) (fun _ _ _ h => h) (Or.inl ⟨by rfl, ?_⟩) hHeld ?_ ?_
   rotate_left
   · rintro w' ⟨s0, s1, s2, s3, s4, s5, s6, s7, s8, s9, s10, s11, s12, s13, s14⟩
     go_simp
     with_reducible rfl
   rotate_left
   · simp only [Act.put, List.setIfInBounds_toArray, List.set_cons_zero, List.set_cons_succ, i64_w, i32_w]
     rfl
   refine pu 25 30 (lb 40 67108863) rfl rfl (any_of HT_.out (by kernel_rfl)) ?_
   refine pu 26 31 (lb 40 134217727) rfl rfl (any_of HT_.out (by kernel_rfl)) ?_
   refine pu 27 32 (lb 40 268435455) rfl rfl (any_of HT_.out (by kernel_rfl)) ?_
   refine pv 28 33 (lb 40 536870911) rfl rfl (any_of HT_.out (by kernel_rfl)) ?_
   refine pv 29 34 (lb 40 1073741823) rfl rfl (any_of HT_.out (by kernel_rfl)) ?_
   refine pv 30 35 (lb 40 2147483647) rfl rfl (any_of HT_.out (by kernel_rfl)) ?_
   refine pu 31 36 (lb 40 4294967295) rfl rfl (any_of HT_.out (by kernel_rfl)) ?_
   refine pu 32 37 (lb 40 8589934591) rfl rfl (any_of HT_.out (by kernel_rfl)) ?_
   refine pv 33 38 (lb 40 17179869183) rfl rfl (any_of HT_.out (by kernel_rfl)) ?_
   refine pv 34 39 (lb 40 34359738367) rfl rfl (any_of HT_.out (by kernel_rfl)) ?_
   refine pv 35 40 (lb 40 68719476735) rfl rfl (any_of HT_.out (by kernel_rfl)) ?_
   refine pv 36 41 (lb 40 137438953471) rfl rfl (any_of HT_.out (by kernel_rfl)) ?_
   refine pv 37 42 (lb 40 274877906943) rfl rfl (any_of HT_.out (by kernel_rfl)) ?_
   refine pu 38 43 (lb 40 549755813887) rfl rfl (any_of HT_.out (by kernel_rfl)) ?_
   refine pu 39 4 (lb 40 1099511627775) rfl rfl (any_of HT_.out (by kernel_rfl)) ?_
   refine done_ (done_of HT_.out (by kernel_rfl)) ?_
   try go_wp2
   go_ret
   exact ⟨by first | rfl | (simp [errW_none, errW_some] <;> rfl) | (simp [*, errW_none, errW_some] <;> rfl), by repeat (first | (with_reducible first | exact HB.out | apply below_alloc | apply pw_below_drewN | apply below_drew1 | refine below_set ?_ GE129.out | refine below_set ?_ GE130.out) | exact HB.out)⟩
 rw [if_pos c7] at H
 have c7b0 : decide (a1_1 < 256) = true := decide_eq_true c7
 clear c7
 by_cases c8 : a1_2 ≥ 0
 rotate_left
 · rw [if_neg c8] at H
   have c8b0 : decide (0 ≤ a1_2) = false := decide_eq_false c8
   clear c8
   obtain rfl := Option.some.inj H
   go_enter Try.func141, Try.ntmps141
   try go_wp2_with (first | ((with_reducible refine gate_dst (N := 2) rfl ?_); refine box_event ?hg (N := 2) ?hd (cs := #[.int .i64 a0_0, .int .i64 a0_1, .int .i64 a0_2, .int .i64 a0_3, .int .i64 a0_4, .int .i64 a0_5, .int .i64 a0_6, .int .i64 a0_7, .int .i64 a0_8, .int .i64 a0_9]) (t := 23) ?hr ?_; (case hd => rfl); (case hg => rfl); (case hr => first | (go_simp; done) | (go_simp; rfl)); intro gb129 hg w14 hbox hb; have BK129 := Aside0.mk (hbox); have GW129 := zg HB hg; have GE129 := zg HB hg; replace HB := zs HB hb; clear hb hbox hg) | ((with_reducible refine gate_dst (N := 3) rfl ?_); refine box_event ?hg (N := 3) ?hd (cs := #[.int .i64 a1_0, .int .i64 a1_1, .int .i64 a1_2, .bool a1_3, .slice A1_4 l1_4.length c1_4]) (t := 100) ?hr ?_; (case hd => rfl); (case hg => rfl); (case hr => first | (go_simp; done) | (go_simp; rfl)); intro gb130 hg w15 hbox hb; have BK130 := Aside0.mk (hbox); have GW130 := zg HB hg; have GE130 := zg HB hg; replace HB := zs HB hb; have NB129_130 := zl BK129 hg; have NB130_129 := zr BK129 hg; replace BK129 := zb BK129 hb; clear hb hbox hg))
   replace BK129 := Aside0.mk (blk_drew BK129.out)
   replace BK130 := Aside0.mk (blk_drew BK130.out)
   replace HB := Aside0.mk (below_drew1 HB.out)
   refine start_ (n := 40) (S := fun w' => w'.cell? ⟨gb130, 0, none⟩ = some (.int .i64 a1_0) ∧ w'.cell? ⟨gb130, 1, none⟩ = some (.int .i64 a1_1) ∧ w'.cell? ⟨gb130, 2, none⟩ = some (.int .i64 a1_2) ∧ w'.cell? ⟨gb130, 3, none⟩ = some (.bool a1_3) ∧ w'.cell? ⟨gb130, 4, none⟩ = some (.slice A1_4 l1_4.length c1_4) ∧ w'.cell? ⟨gb129, 0, none⟩ = some (.int .i64 a0_0) ∧ w'.cell? ⟨gb129, 1, none⟩ = some (.int .i64 a0_1) ∧ w'.cell? ⟨gb129, 2, none⟩ = some (.int .i64 a0_2) ∧ w'.cell? ⟨gb129, 3, none⟩ = some (.int .i64 a0_3) ∧ w'.cell? ⟨gb129, 4, none⟩ = some (.int .i64 a0_4) ∧ w'.cell? ⟨gb129, 5, none⟩ = some (.int .i64 a0_5) ∧ w'.cell? ⟨gb129, 6, none⟩ = some (.int .i64 a0_6) ∧ w'.cell? ⟨gb129, 7, none⟩ = some (.int .i64 a0_7) ∧ w'.cell? ⟨gb129, 8, none⟩ = some (.int .i64 a0_8) ∧ w'.cell? ⟨gb129, 9, none⟩ = some (.int .i64 a0_9)) (ds := []) #[false, false, false, false, false, false, false, false, false, false, false, false, false, false, false, false, false, false, false, false, false, false, false, false, false, false, false, false, false, false, false, false, false, false, false, false, false, false, false, false] (by kernel_rfl) rfl rfl ⟨(blk_cell BK130.out 0).trans rfl, (blk_cell BK130.out 1).trans rfl, (blk_cell BK130.out 2).trans rfl, (blk_cell BK130.out 3).trans rfl, (blk_cell BK130.out 4).trans rfl, (blk_cell BK129.out 0).trans rfl, (blk_cell BK129.out 1).trans rfl, (blk_cell BK129.out 2).trans rfl, (blk_cell BK129.out 3).trans rfl, (blk_cell BK129.out 4).trans rfl, (blk_cell BK129.out 5).trans rfl, (blk_cell BK129.out 6).trans rfl, (blk_cell BK129.out 7).trans rfl, (blk_cell BK129.out 8).trans rfl, (blk_cell BK129.out 9).trans rfl⟩ (fun hHeld => ?_); refine with_tabW emit_right.tab1 emit_right.bits1 (fun HT_ HW_ => ?_)
   generalize w15.drew = w16 at BK129 BK130 HB hHeld ⊢
   refine pu 0 5 (lb 40 1) rfl rfl (any_of HT_.out (by kernel_rfl)) ?_
   refine pu 3 8 (lb 40 9) rfl rfl (any_of HT_.out (by kernel_rfl)) ?_
   refine take_ (i := 1) (N := some 6) (v := ?_) (a' := ?_) (lb 40 11) rfl rfl (take_ofW HT_.out HW_.out (by kernel_rfl)) (fun _ _ _ h => h) (Or.inl ⟨by rfl, ?_⟩) hHeld ?_ ?_
   rotate_left
   · rintro w' ⟨s0, s1, s2, s3, s4, s5, s6, s7, s8, s9, s10, s11, s12, s13, s14⟩
     go_simp
     with_reducible rfl
   rotate_left
   · simp only [Act.put, List.setIfInBounds_toArray, List.set_cons_zero, List.set_cons_succ, i64_w, i32_w]
     rfl
   refine pu 2 7 (lb 40 15) rfl rfl (any_of HT_.out (by kernel_rfl)) ?_
   refine take_ (i := 4) (N := some 9) (v := ?_) (a' := ?_) (lb 40 31) rfl rfl (take_ofW HT_.out HW_.out (by kernel_rfl)) (fun _ _ _ h => h) (Or.inl ⟨by rfl, ?_⟩) hHeld ?_ ?_
   rotate_left
   · rintro w' ⟨s0, s1, s2, s3, s4, s5, s6, s7, s8, s9, s10, s11, s12, s13, s14⟩
     go_simp
     with_reducible rfl
   rotate_left
   · simp only [Act.put, List.setIfInBounds_toArray, List.set_cons_zero, List.set_cons_succ, i64_w, i32_w]
     rfl
   refine pu 5 10 (lb 40 63) rfl rfl (any_of HT_.out (by kernel_rfl)) ?_
   refine pu 6 11 (lb 40 127) rfl rfl (any_of HT_.out (by kernel_rfl)) ?_
   refine pu 7 12 (lb 40 255) rfl rfl (any_of HT_.out (by kernel_rfl)) ?_
   refine pu 8 13 (lb 40 511) rfl rfl (any_of HT_.out (by kernel_rfl)) ?_
   refine take_ (i := 9) (N := some 14) (v := ?_) (a' := ?_) (lb 40 1023) rfl rfl (take_ofW HT_.out HW_.out (by kernel_rfl)) (fun _ _ _ h => h) (Or.inl ⟨by rfl, ?_⟩) hHeld ?_ ?_
   rotate_left
   · rintro w' ⟨s0, s1, s2, s3, s4, s5, s6, s7, s8, s9, s10, s11, s12, s13, s14⟩
     go_simp
     with_reducible rfl
   rotate_left
   · simp only [Act.put, List.setIfInBounds_toArray, List.set_cons_zero, List.set_cons_succ, i64_w, i32_w]
     rfl
   refine pu 10 15 (lb 40 2047) rfl rfl (any_of HT_.out (by kernel_rfl)) ?_
   refine pu 11 16 (lb 40 4095) rfl rfl (any_of HT_.out (by kernel_rfl)) ?_
   refine pu 12 17 (lb 40 8191) rfl rfl (any_of HT_.out (by kernel_rfl)) ?_
   refine pu 13 18 (lb 40 16383) rfl rfl (any_of HT_.out (by kernel_rfl)) ?_
   refine take_ (i := 14) (N := some 19) (v := ?_) (a' := ?_) (lb 40 32767) rfl rfl (take_ofW HT_.out HW_.out (by kernel_rfl)) (fun _ _ _ h => h) (Or.inl ⟨by rfl, ?_⟩) hHeld ?_ ?_
   rotate_left
   · rintro w' ⟨s0, s1, s2, s3, s4, s5, s6, s7, s8, s9, s10, s11, s12, s13, s14⟩
     go_simp
     with_reducible rfl
   rotate_left
   · simp only [Act.put, List.setIfInBounds_toArray, List.set_cons_zero, List.set_cons_succ, i64_w, i32_w]
     rfl
   refine pu 15 20 (lb 40 65535) rfl rfl (any_of HT_.out (by kernel_rfl)) ?_
   refine pu 16 21 (lb 40 131071) rfl rfl (any_of HT_.out (by kernel_rfl)) ?_
   refine pu 17 22 (lb 40 262143) rfl rfl (any_of HT_.out (by kernel_rfl)) ?_
   refine pu 18 23 (lb 40 524287) rfl rfl (any_of HT_.out (by kernel_rfl)) ?_
   refine take_ (i := 19) (N := some 24) (v := ?_) (a' := ?_) (lb 40 1048575) rfl rfl (take_ofW HT_.out HW_.out (by kernel_rfl)) (fun _ _ _ h => h) (Or.inl ⟨by rfl, ?_⟩) hHeld ?_ ?_
   rotate_left
   · rintro w' ⟨s0, s1, s2, s3, s4, s5, s6, s7, s8, s9, s10, s11, s12, s13, s14⟩
     go_simp
     with_reducible rfl
   rotate_left
   · simp only [Act.put, List.setIfInBounds_toArray, List.set_cons_zero, List.set_cons_succ, i64_w, i32_w]
     rfl
   refine pu 20 25 (lb 40 2097151) rfl rfl (any_of HT_.out (by kernel_rfl)) ?_
   refine pu 21 26 (lb 40 4194303) rfl rfl (any_of HT_.out (by kernel_rfl)) ?_
   refine pu 22 27 (lb 40 8388607) rfl rfl (any_of HT_.out (by kernel_rfl)) ?_
   refine pu 23 28 (lb 40 16777215) rfl rfl (any_of HT_.out (by kernel_rfl)) ?_
   refine take_ (i := 24) (N := some 29) (v := ?_) (a' := ?_) (lb 40 33554431) rfl rfl (take_ofW HT_.out HW_.out (by kernel_rfl)) (fun _ _ _ h => h) (Or.inl ⟨by rfl, ?_⟩) hHeld ?_ ?_
   rotate_left
   · rintro w' ⟨s0, s1, s2, s3, s4, s5, s6, s7, s8, s9, s10, s11, s12, s13, s14⟩
     go_simp
     with_reducible rfl
   rotate_left
   · simp only [Act.put, List.setIfInBounds_toArray, List.set_cons_zero, List.set_cons_succ, i64_w, i32_w]
     rfl
   refine pu 25 30 (lb 40 67108863) rfl rfl (any_of HT_.out (by kernel_rfl)) ?_
   refine pu 26 31 (lb 40 134217727) rfl rfl (any_of HT_.out (by kernel_rfl)) ?_
   refine pu 27 32 (lb 40 268435455) rfl rfl (any_of HT_.out (by kernel_rfl)) ?_
   refine pu 28 33 (lb 40 536870911) rfl rfl (any_of HT_.out (by kernel_rfl)) ?_
   refine take_ (i := 29) (N := some 34) (v := ?_) (a' := ?_) (lb 40 1073741823) rfl rfl (take_ofW HT_.out HW_.out (by kernel_rfl)) (fun _ _ _ h => h) (Or.inl ⟨by rfl, ?_⟩) hHeld ?_ ?_
   rotate_left
   · rintro w' ⟨s0, s1, s2, s3, s4, s5, s6, s7, s8, s9, s10, s11, s12, s13, s14⟩
     go_simp
     with_reducible rfl
   rotate_left
   · simp only [Act.put, List.setIfInBounds_toArray, List.set_cons_zero, List.set_cons_succ, i64_w, i32_w]
     rfl
   refine pu 30 35 (lb 40 2147483647) rfl rfl (any_of HT_.out (by kernel_rfl)) ?_
   refine pu 31 36 (lb 40 4294967295) rfl rfl (any_of HT_.out (by kernel_rfl)) ?_
   refine pu 32 37 (lb 40 8589934591) rfl rfl (any_of HT_.out (by kernel_rfl)) ?_
   refine pv 33 38 (lb 40 17179869183) rfl rfl (any_of HT_.out (by kernel_rfl)) ?_
   refine pv 34 39 (lb 40 34359738367) rfl rfl (any_of HT_.out (by kernel_rfl)) ?_
   refine pv 35 40 (lb 40 68719476735) rfl rfl (any_of HT_.out (by kernel_rfl)) ?_
   refine pv 36 41 (lb 40 137438953471) rfl rfl (any_of HT_.out (by kernel_rfl)) ?_
   refine pv 37 42 (lb 40 274877906943) rfl rfl (any_of HT_.out (by kernel_rfl)) ?_
   refine pu 38 43 (lb 40 549755813887) rfl rfl (any_of HT_.out (by kernel_rfl)) ?_
   refine pu 39 4 (lb 40 1099511627775) rfl rfl (any_of HT_.out (by kernel_rfl)) ?_
   refine done_ (done_of HT_.out (by kernel_rfl)) ?_
   try go_wp2
   go_ret
   exact ⟨by first | rfl | (simp [errW_none, errW_some] <;> rfl) | (simp [*, errW_none, errW_some] <;> rfl), by repeat (first | (with_reducible first | exact HB.out | apply below_alloc | apply pw_below_drewN | apply below_drew1 | refine below_set ?_ GE129.out | refine below_set ?_ GE130.out) | exact HB.out)⟩
 rw [if_pos c8] at H
 have c8b0 : decide (0 ≤ a1_2) = true := decide_eq_true c8
 clear c8
 replace H := Option.bind_eq_some_iff.mp H
 obtain ⟨t131, A90, H⟩ := H
 replace H : (some (decide (a1_2 ≤ t131))) = some r := H
 have A9 := Aside0.mk A90
 clear A90
 obtain rfl := Option.some.inj H
 go_enter Try.func141, Try.ntmps141
 try go_wp2_with (first | ((with_reducible refine gate_dst (N := 2) rfl ?_); refine box_event ?hg (N := 2) ?hd (cs := #[.int .i64 a0_0, .int .i64 a0_1, .int .i64 a0_2, .int .i64 a0_3, .int .i64 a0_4, .int .i64 a0_5, .int .i64 a0_6, .int .i64 a0_7, .int .i64 a0_8, .int .i64 a0_9]) (t := 23) ?hr ?_; (case hd => rfl); (case hg => rfl); (case hr => first | (go_simp; done) | (go_simp; rfl)); intro gb129 hg w10 hbox hb; have BK129 := Aside0.mk (hbox); have GW129 := zg HB hg; have GE129 := zg HB hg; replace HB := zs HB hb; clear hb hbox hg) | ((with_reducible refine gate_dst (N := 3) rfl ?_); refine box_event ?hg (N := 3) ?hd (cs := #[.int .i64 a1_0, .int .i64 a1_1, .int .i64 a1_2, .bool a1_3, .slice A1_4 l1_4.length c1_4]) (t := 100) ?hr ?_; (case hd => rfl); (case hg => rfl); (case hr => first | (go_simp; done) | (go_simp; rfl)); intro gb130 hg w11 hbox hb; have BK130 := Aside0.mk (hbox); have GW130 := zg HB hg; have GE130 := zg HB hg; replace HB := zs HB hb; have NB129_130 := zl BK129 hg; have NB130_129 := zr BK129 hg; replace BK129 := zb BK129 hb; clear hb hbox hg))
 replace BK129 := Aside0.mk (blk_drew BK129.out)
 replace BK130 := Aside0.mk (blk_drew BK130.out)
 replace HB := Aside0.mk (below_drew1 HB.out)
 refine start_ (n := 40) (S := fun w' => w'.cell? ⟨gb130, 0, none⟩ = some (.int .i64 a1_0) ∧ w'.cell? ⟨gb130, 1, none⟩ = some (.int .i64 a1_1) ∧ w'.cell? ⟨gb130, 2, none⟩ = some (.int .i64 a1_2) ∧ w'.cell? ⟨gb130, 3, none⟩ = some (.bool a1_3) ∧ w'.cell? ⟨gb130, 4, none⟩ = some (.slice A1_4 l1_4.length c1_4) ∧ w'.cell? ⟨gb129, 0, none⟩ = some (.int .i64 a0_0) ∧ w'.cell? ⟨gb129, 1, none⟩ = some (.int .i64 a0_1) ∧ w'.cell? ⟨gb129, 2, none⟩ = some (.int .i64 a0_2) ∧ w'.cell? ⟨gb129, 3, none⟩ = some (.int .i64 a0_3) ∧ w'.cell? ⟨gb129, 4, none⟩ = some (.int .i64 a0_4) ∧ w'.cell? ⟨gb129, 5, none⟩ = some (.int .i64 a0_5) ∧ w'.cell? ⟨gb129, 6, none⟩ = some (.int .i64 a0_6) ∧ w'.cell? ⟨gb129, 7, none⟩ = some (.int .i64 a0_7) ∧ w'.cell? ⟨gb129, 8, none⟩ = some (.int .i64 a0_8) ∧ w'.cell? ⟨gb129, 9, none⟩ = some (.int .i64 a0_9)) (ds := []) #[false, false, false, false, false, false, false, false, false, false, false, false, false, false, false, false, false, false, false, false, false, false, false, false, false, false, false, false, false, false, false, false, false, false, false, false, false, false, false, false] (by kernel_rfl) rfl rfl ⟨(blk_cell BK130.out 0).trans rfl, (blk_cell BK130.out 1).trans rfl, (blk_cell BK130.out 2).trans rfl, (blk_cell BK130.out 3).trans rfl, (blk_cell BK130.out 4).trans rfl, (blk_cell BK129.out 0).trans rfl, (blk_cell BK129.out 1).trans rfl, (blk_cell BK129.out 2).trans rfl, (blk_cell BK129.out 3).trans rfl, (blk_cell BK129.out 4).trans rfl, (blk_cell BK129.out 5).trans rfl, (blk_cell BK129.out 6).trans rfl, (blk_cell BK129.out 7).trans rfl, (blk_cell BK129.out 8).trans rfl, (blk_cell BK129.out 9).trans rfl⟩ (fun hHeld => ?_); refine with_tabW emit_right.tab1 emit_right.bits1 (fun HT_ HW_ => ?_)
 generalize w11.drew = w12 at BK129 BK130 HB hHeld ⊢
 refine pu 0 5 (lb 40 1) rfl rfl (any_of HT_.out (by kernel_rfl)) ?_
 refine pu 3 8 (lb 40 9) rfl rfl (any_of HT_.out (by kernel_rfl)) ?_
 refine take_ (i := 1) (N := some 6) (v := ?_) (a' := ?_) (lb 40 11) rfl rfl (take_ofW HT_.out HW_.out (by kernel_rfl)) (fun _ _ _ h => h) (Or.inl ⟨by rfl, ?_⟩) hHeld ?_ ?_
 rotate_left
 · rintro w' ⟨s0, s1, s2, s3, s4, s5, s6, s7, s8, s9, s10, s11, s12, s13, s14⟩
   go_simp
   with_reducible rfl
 rotate_left
 · simp only [Act.put, List.setIfInBounds_toArray, List.set_cons_zero, List.set_cons_succ, i64_w, i32_w]
   rfl
 refine pu 2 7 (lb 40 15) rfl rfl (any_of HT_.out (by kernel_rfl)) ?_
 refine take_ (i := 4) (N := some 9) (v := ?_) (a' := ?_) (lb 40 31) rfl rfl (take_ofW HT_.out HW_.out (by kernel_rfl)) (fun _ _ _ h => h) (Or.inl ⟨by rfl, ?_⟩) hHeld ?_ ?_
 rotate_left
 · rintro w' ⟨s0, s1, s2, s3, s4, s5, s6, s7, s8, s9, s10, s11, s12, s13, s14⟩
   go_simp
   with_reducible rfl
 rotate_left
 · simp only [Act.put, List.setIfInBounds_toArray, List.set_cons_zero, List.set_cons_succ, i64_w, i32_w]
   rfl
 refine pu 5 10 (lb 40 63) rfl rfl (any_of HT_.out (by kernel_rfl)) ?_
 refine pu 6 11 (lb 40 127) rfl rfl (any_of HT_.out (by kernel_rfl)) ?_
 refine pu 7 12 (lb 40 255) rfl rfl (any_of HT_.out (by kernel_rfl)) ?_
 refine pu 8 13 (lb 40 511) rfl rfl (any_of HT_.out (by kernel_rfl)) ?_
 refine take_ (i := 9) (N := some 14) (v := ?_) (a' := ?_) (lb 40 1023) rfl rfl (take_ofW HT_.out HW_.out (by kernel_rfl)) (fun _ _ _ h => h) (Or.inl ⟨by rfl, ?_⟩) hHeld ?_ ?_
 rotate_left
 · rintro w' ⟨s0, s1, s2, s3, s4, s5, s6, s7, s8, s9, s10, s11, s12, s13, s14⟩
   go_simp
   with_reducible rfl
 rotate_left
 · simp only [Act.put, List.setIfInBounds_toArray, List.set_cons_zero, List.set_cons_succ, i64_w, i32_w]
   rfl
 refine pu 10 15 (lb 40 2047) rfl rfl (any_of HT_.out (by kernel_rfl)) ?_
 refine pu 11 16 (lb 40 4095) rfl rfl (any_of HT_.out (by kernel_rfl)) ?_
 refine pu 12 17 (lb 40 8191) rfl rfl (any_of HT_.out (by kernel_rfl)) ?_
 refine pu 13 18 (lb 40 16383) rfl rfl (any_of HT_.out (by kernel_rfl)) ?_
 refine take_ (i := 14) (N := some 19) (v := ?_) (a' := ?_) (lb 40 32767) rfl rfl (take_ofW HT_.out HW_.out (by kernel_rfl)) (fun _ _ _ h => h) (Or.inl ⟨by rfl, ?_⟩) hHeld ?_ ?_
 rotate_left
 · rintro w' ⟨s0, s1, s2, s3, s4, s5, s6, s7, s8, s9, s10, s11, s12, s13, s14⟩
   go_simp
   with_reducible rfl
 rotate_left
 · simp only [Act.put, List.setIfInBounds_toArray, List.set_cons_zero, List.set_cons_succ, i64_w, i32_w]
   rfl
 refine pu 15 20 (lb 40 65535) rfl rfl (any_of HT_.out (by kernel_rfl)) ?_
 refine pu 16 21 (lb 40 131071) rfl rfl (any_of HT_.out (by kernel_rfl)) ?_
 refine pu 17 22 (lb 40 262143) rfl rfl (any_of HT_.out (by kernel_rfl)) ?_
 refine pu 18 23 (lb 40 524287) rfl rfl (any_of HT_.out (by kernel_rfl)) ?_
 refine take_ (i := 19) (N := some 24) (v := ?_) (a' := ?_) (lb 40 1048575) rfl rfl (take_ofW HT_.out HW_.out (by kernel_rfl)) (fun _ _ _ h => h) (Or.inl ⟨by rfl, ?_⟩) hHeld ?_ ?_
 rotate_left
 · rintro w' ⟨s0, s1, s2, s3, s4, s5, s6, s7, s8, s9, s10, s11, s12, s13, s14⟩
   go_simp
   with_reducible rfl
 rotate_left
 · simp only [Act.put, List.setIfInBounds_toArray, List.set_cons_zero, List.set_cons_succ, i64_w, i32_w]
   rfl
 refine pu 20 25 (lb 40 2097151) rfl rfl (any_of HT_.out (by kernel_rfl)) ?_
 refine pu 21 26 (lb 40 4194303) rfl rfl (any_of HT_.out (by kernel_rfl)) ?_
 refine pu 22 27 (lb 40 8388607) rfl rfl (any_of HT_.out (by kernel_rfl)) ?_
 refine pu 23 28 (lb 40 16777215) rfl rfl (any_of HT_.out (by kernel_rfl)) ?_
 refine take_ (i := 24) (N := some 29) (v := ?_) (a' := ?_) (lb 40 33554431) rfl rfl (take_ofW HT_.out HW_.out (by kernel_rfl)) (fun _ _ _ h => h) (Or.inl ⟨by rfl, ?_⟩) hHeld ?_ ?_
 rotate_left
 · rintro w' ⟨s0, s1, s2, s3, s4, s5, s6, s7, s8, s9, s10, s11, s12, s13, s14⟩
   go_simp
   with_reducible rfl
 rotate_left
 · simp only [Act.put, List.setIfInBounds_toArray, List.set_cons_zero, List.set_cons_succ, i64_w, i32_w]
   rfl
 refine pu 25 30 (lb 40 67108863) rfl rfl (any_of HT_.out (by kernel_rfl)) ?_
 refine pu 26 31 (lb 40 134217727) rfl rfl (any_of HT_.out (by kernel_rfl)) ?_
 refine pu 27 32 (lb 40 268435455) rfl rfl (any_of HT_.out (by kernel_rfl)) ?_
 refine pu 28 33 (lb 40 536870911) rfl rfl (any_of HT_.out (by kernel_rfl)) ?_
 refine take_ (i := 29) (N := some 34) (v := ?_) (a' := ?_) (lb 40 1073741823) rfl rfl (take_ofW HT_.out HW_.out (by kernel_rfl)) (fun _ _ _ h => h) (Or.inl ⟨by rfl, ?_⟩) hHeld ?_ ?_
 rotate_left
 · rintro w' ⟨s0, s1, s2, s3, s4, s5, s6, s7, s8, s9, s10, s11, s12, s13, s14⟩
   go_simp
   with_reducible rfl
 rotate_left
 · simp only [Act.put, List.setIfInBounds_toArray, List.set_cons_zero, List.set_cons_succ, i64_w, i32_w]
   rfl
 refine pu 30 35 (lb 40 2147483647) rfl rfl (any_of HT_.out (by kernel_rfl)) ?_
 refine pu 31 36 (lb 40 4294967295) rfl rfl (any_of HT_.out (by kernel_rfl)) ?_
 refine pu 32 37 (lb 40 8589934591) rfl rfl (any_of HT_.out (by kernel_rfl)) ?_
 refine pu 33 38 (lb 40 17179869183) rfl rfl (any_of HT_.out (by kernel_rfl)) ?_
 refine take_ (i := 34) (N := some 39) (v := ?_) (a' := ?_) (lb 40 34359738367) rfl rfl (take_ofW HT_.out HW_.out (by kernel_rfl)) (fun _ _ _ h => h) (Or.inl ⟨by rfl, ?_⟩) hHeld ?_ ?_
 rotate_left
 · rintro w' ⟨s0, s1, s2, s3, s4, s5, s6, s7, s8, s9, s10, s11, s12, s13, s14⟩
   go_simp
   with_reducible rfl
 rotate_left
 · simp only [Act.put, List.setIfInBounds_toArray, List.set_cons_zero, List.set_cons_succ, i64_w, i32_w]
   rfl
 refine take_ (i := 35) (N := some 40) (v := ?_) (a' := ?_) (lb 40 68719476735) rfl rfl (take_ofW HT_.out HW_.out (by kernel_rfl)) (fun _ _ _ h => h) (Or.inl ⟨by rfl, ?_⟩) hHeld ?_ ?_
 rotate_left
 · rintro w' ⟨s0, s1, s2, s3, s4, s5, s6, s7, s8, s9, s10, s11, s12, s13, s14⟩
   go_simp
   with_reducible rfl
 rotate_left
 · simp only [Act.put, List.setIfInBounds_toArray, List.set_cons_zero, List.set_cons_succ, i64_w, i32_w]
   rfl
 refine one_ (i := 36) (N := some 41) (lb 40 137438953471) rfl rfl (one_of HT_.out (by kernel_rfl)) (by decide) (fun K hK => ?_)
 refine goes_ Try.func17 (by kernel_rfl) rfl #[.agg #[.int .i64 a0_0, .int .i64 a0_1, .int .i64 a0_2, .int .i64 a0_3, .int .i64 a0_4, .int .i64 a0_5, .int .i64 a0_6, .int .i64 a0_7, .int .i64 a0_8, .int .i64 a0_9]] (by rfl) rfl rfl (by (try simp only [List.map_toArray, List.map_cons, List.map_nil]); first | done | rfl | (simp only [List.length_drop, List.length_take]; rfl)) ?_
 with_reducible refine (conf_Most.calls a0_0 a0_1 a0_2 a0_3 a0_4 a0_5 a0_6 a0_7 a0_8 a0_9 t131 _ A9.out).mono ?_
 rintro e w13 ⟨rfl, hb⟩
 refine ⟨_, rfl, ?_⟩
 replace BK129 := zb BK129 hb
 replace BK130 := zb BK130 hb
 replace HB := zs HB hb
 (try clear hb)
 (try clear hb2)
 (try clear hk)
 (try clear hi)
 refine hK.out _ _ ⟨(blk_cell BK130.out 0).trans rfl, (blk_cell BK130.out 1).trans rfl, (blk_cell BK130.out 2).trans rfl, (blk_cell BK130.out 3).trans rfl, (blk_cell BK130.out 4).trans rfl, (blk_cell BK129.out 0).trans rfl, (blk_cell BK129.out 1).trans rfl, (blk_cell BK129.out 2).trans rfl, (blk_cell BK129.out 3).trans rfl, (blk_cell BK129.out 4).trans rfl, (blk_cell BK129.out 5).trans rfl, (blk_cell BK129.out 6).trans rfl, (blk_cell BK129.out 7).trans rfl, (blk_cell BK129.out 8).trans rfl, (blk_cell BK129.out 9).trans rfl⟩ (fun hHeld => ?_)
 clear hK K
 refine norm_ (a' := ?_) ?_ ?_
 rotate_left
 · show Act.put _ (some 41) _ = _
   simp only [Act.put, List.setIfInBounds_toArray, List.set_cons_zero, List.set_cons_succ, i64_w, i32_w]
   rfl
 refine pu 37 42 (lb 40 274877906943) rfl rfl (any_of HT_.out (by kernel_rfl)) ?_
 refine pu 38 43 (lb 40 549755813887) rfl rfl (any_of HT_.out (by kernel_rfl)) ?_
 refine pu 39 4 (lb 40 1099511627775) rfl rfl (any_of HT_.out (by kernel_rfl)) ?_
 refine done_ (done_of HT_.out (by kernel_rfl)) ?_
 try go_wp2
 go_ret
 exact ⟨by first | rfl | (simp [errW_none, errW_some] <;> rfl) | (simp [*, errW_none, errW_some] <;> rfl), by repeat (first | (with_reducible first | exact HB.out | apply below_alloc | apply pw_below_drewN | apply below_drew1 | refine below_set ?_ GE129.out | refine below_set ?_ GE130.out) | exact HB.out)⟩
def emit_Check.f (a0_0 : Int) (a0_1 : Int) (a0_2 : Int) (a0_3 : Int) (a0_4 : Int) (a0_5 : Int) (a0_6 : Int) (a0_7 : Int) (a0_8 : Int) (a0_9 : Int) (a1_0 : Int) (a1_1 : Int) (a1_2 : Int) (a1_3 : Bool) (l1_4 : List Int) : Option (Int) := (conf_Check.f a0_0 a0_1 a0_2 a0_3 a0_4 a0_5 a0_6 a0_7 a0_8 a0_9).bind fun t134 => (if t134 = 0 then ((emit_right.f a0_0 a0_1 a0_2 a0_3 a0_4 a0_5 a0_6 a0_7 a0_8 a0_9 a1_0 a1_1 a1_2 a1_3 l1_4).bind fun t135 => (if t135 = true then (some 0) else (some 1))) else (some 1))
set_option maxHeartbeats 8000000 in
set_option maxRecDepth 100000 in
theorem emit_Check.calls (a0_0 : Int) (a0_1 : Int) (a0_2 : Int) (a0_3 : Int) (a0_4 : Int) (a0_5 : Int) (a0_6 : Int) (a0_7 : Int) (a0_8 : Int) (a0_9 : Int) (a1_0 : Int) (a1_1 : Int) (a1_2 : Int) (a1_3 : Bool) (A1_4 : Option Addr) (c1_4 : Nat) (l1_4 : List Int) (r : Int) (w : World) (hr1_4 : Kd.C (Kd.int .u8) w A1_4 l1_4.length l1_4) (hc1_4 : l1_4.length ≤ c1_4) (h : emit_Check.f a0_0 a0_1 a0_2 a0_3 a0_4 a0_5 a0_6 a0_7 a0_8 a0_9 a1_0 a1_1 a1_2 a1_3 l1_4 = some r) :
    Calls Try.prog 97 #[.agg #[.int .i64 a0_0, .int .i64 a0_1, .int .i64 a0_2, .int .i64 a0_3, .int .i64 a0_4, .int .i64 a0_5, .int .i64 a0_6, .int .i64 a0_7, .int .i64 a0_8, .int .i64 a0_9], .agg #[.int .i64 a1_0, .int .i64 a1_1, .int .i64 a1_2, .bool a1_3, .slice A1_4 l1_4.length c1_4]] w fun e w' => e = .returned (.int .i64 r) ∧ Below w.heap.size w w' := by
 have hu23 := Try.underlying23
 have hu100 := Try.underlying100
 have HR1_4 := Aside0.mk hr1_4
 have HC1_4 := Aside0.mk hc1_4
 clear hr1_4 hc1_4
 have HB := Aside0.mk (Below.refl w.heap.size w)
 have H : ((conf_Check.f a0_0 a0_1 a0_2 a0_3 a0_4 a0_5 a0_6 a0_7 a0_8 a0_9).bind fun t134 => (if t134 = 0 then ((emit_right.f a0_0 a0_1 a0_2 a0_3 a0_4 a0_5 a0_6 a0_7 a0_8 a0_9 a1_0 a1_1 a1_2 a1_3 l1_4).bind fun t135 => (if t135 = true then (some 0) else (some 1))) else (some 1))) = some r := h
 clear h
 replace H := Option.bind_eq_some_iff.mp H
 obtain ⟨t134, A30, H⟩ := H
 replace H : (if t134 = 0 then ((emit_right.f a0_0 a0_1 a0_2 a0_3 a0_4 a0_5 a0_6 a0_7 a0_8 a0_9 a1_0 a1_1 a1_2 a1_3 l1_4).bind fun t135 => (if t135 = true then (some 0) else (some 1))) else (some 1)) = some r := H
 have A3 := Aside0.mk A30
 clear A30
 by_cases c4 : t134 = 0
 rotate_left
 · rw [if_neg c4] at H
   have c4b0 : (t134 == 0) = false := beq_eq_false_iff_ne.mpr c4
   have c4b1 : (t134 != 0) = true := bne_iff_ne.mpr c4
   obtain rfl := Option.some.inj H
   go_enter Try.func97, Try.ntmps97
   go_wp2_with (first | ((with_reducible refine gate_dst (N := 2) rfl ?_); refine box_event ?hg (N := 2) ?hd (cs := #[.int .i64 a0_0, .int .i64 a0_1, .int .i64 a0_2, .int .i64 a0_3, .int .i64 a0_4, .int .i64 a0_5, .int .i64 a0_6, .int .i64 a0_7, .int .i64 a0_8, .int .i64 a0_9]) (t := 23) ?hr ?_; (case hd => rfl); (case hg => rfl); (case hr => first | (go_simp; done) | (go_simp; rfl)); intro gb132 hg w23 hbox hb; have BK132 := Aside0.mk (hbox); have GW132 := zg HB hg; have GE132 := zg HB hg; replace HB := zs HB hb; clear hb hbox hg) | ((with_reducible refine gate_dst (N := 3) rfl ?_); refine box_event ?hg (N := 3) ?hd (cs := #[.int .i64 a1_0, .int .i64 a1_1, .int .i64 a1_2, .bool a1_3, .slice A1_4 l1_4.length c1_4]) (t := 100) ?hr ?_; (case hd => rfl); (case hg => rfl); (case hr => first | (go_simp; done) | (go_simp; rfl)); intro gb133 hg w24 hbox hb; have BK133 := Aside0.mk (hbox); have GW133 := zg HB hg; have GE133 := zg HB hg; replace HB := zs HB hb; have NB132_133 := zl BK132 hg; have NB133_132 := zr BK132 hg; replace BK132 := zb BK132 hb; clear hb hbox hg; have hnb25 := NB132_133.out; have hnc25 := NB133_132.out; obtain ⟨hcz26_0, hcz26_1, hcz26_2, hcz26_3, hcz26_4, hcz26_5, hcz26_6, hcz26_7, hcz26_8, hcz26_9⟩ := zC10 BK132; have hfz26_0 := blk_frozen BK132.out 0; have hfz26_1 := blk_frozen BK132.out 1; have hfz26_2 := blk_frozen BK132.out 2; have hfz26_3 := blk_frozen BK132.out 3; have hfz26_4 := blk_frozen BK132.out 4; have hfz26_5 := blk_frozen BK132.out 5; have hfz26_6 := blk_frozen BK132.out 6; have hfz26_7 := blk_frozen BK132.out 7; have hfz26_8 := blk_frozen BK132.out 8; have hfz26_9 := blk_frozen BK132.out 9) | ((with_reducible refine gate_callee (f := 57) rfl ?_); refine goesL_ (some 6) rfl rfl Try.func57 (by kernel_rfl) rfl #[.agg #[.int .i64 a0_0, .int .i64 a0_1, .int .i64 a0_2, .int .i64 a0_3, .int .i64 a0_4, .int .i64 a0_5, .int .i64 a0_6, .int .i64 a0_7, .int .i64 a0_8, .int .i64 a0_9]] rfl (by (try simp only [List.map_toArray, List.map_cons, List.map_nil]); first | done | rfl | (simp only [List.length_drop, List.length_take]; rfl)) ?_; (with_reducible refine (conf_Check.calls a0_0 a0_1 a0_2 a0_3 a0_4 a0_5 a0_6 a0_7 a0_8 a0_9 t134 _ A3.out).mono ?_); rintro e w27 ⟨rfl, hb⟩; refine ⟨_, rfl, ?_⟩; replace BK132 := zb BK132 hb; replace BK133 := zb BK133 hb; replace HB := zs HB hb; (try clear hb); (try clear hb2); (try clear hk); (try clear hi)))
   go_ret
   exact ⟨by first | rfl | (simp [errW_none, errW_some] <;> rfl) | (simp [*, errW_none, errW_some] <;> rfl), by repeat (first | (with_reducible first | exact HB.out | apply below_alloc | apply pw_below_drewN | apply below_drew1 | refine below_set ?_ GE132.out | refine below_set ?_ GE133.out) | exact HB.out)⟩
 rw [if_pos c4] at H
 have c4b0 : (t134 == 0) = true := beq_iff_eq.mpr c4
 have c4b1 : (t134 != 0) = false := bne_eq_false_iff_eq.mpr c4
 clear c4
 replace H := Option.bind_eq_some_iff.mp H
 obtain ⟨t135, A50, H⟩ := H
 replace H : (if t135 = true then (some 0) else (some 1)) = some r := H
 have A5 := Aside0.mk A50
 clear A50
 by_cases c6 : t135 = true
 · subst c6
   have H1 : (some 0) = some r := by first | (rw [if_pos rfl] at H; exact H) | exact (if_pos rfl).symm.trans H
   clear H
   have H := H1
   clear H1
   obtain rfl := Option.some.inj H
   go_enter Try.func97, Try.ntmps97
   go_wp2_with (first | ((with_reducible refine gate_dst (N := 2) rfl ?_); refine box_event ?hg (N := 2) ?hd (cs := #[.int .i64 a0_0, .int .i64 a0_1, .int .i64 a0_2, .int .i64 a0_3, .int .i64 a0_4, .int .i64 a0_5, .int .i64 a0_6, .int .i64 a0_7, .int .i64 a0_8, .int .i64 a0_9]) (t := 23) ?hr ?_; (case hd => rfl); (case hg => rfl); (case hr => first | (go_simp; done) | (go_simp; rfl)); intro gb132 hg w7 hbox hb; have BK132 := Aside0.mk (hbox); have GW132 := zg HB hg; have GE132 := zg HB hg; replace HB := zs HB hb; clear hb hbox hg) | ((with_reducible refine gate_dst (N := 3) rfl ?_); refine box_event ?hg (N := 3) ?hd (cs := #[.int .i64 a1_0, .int .i64 a1_1, .int .i64 a1_2, .bool a1_3, .slice A1_4 l1_4.length c1_4]) (t := 100) ?hr ?_; (case hd => rfl); (case hg => rfl); (case hr => first | (go_simp; done) | (go_simp; rfl)); intro gb133 hg w8 hbox hb; have BK133 := Aside0.mk (hbox); have GW133 := zg HB hg; have GE133 := zg HB hg; replace HB := zs HB hb; have NB132_133 := zl BK132 hg; have NB133_132 := zr BK132 hg; replace BK132 := zb BK132 hb; clear hb hbox hg; have hnb9 := NB132_133.out; have hnc9 := NB133_132.out; obtain ⟨hcz10_0, hcz10_1, hcz10_2, hcz10_3, hcz10_4, hcz10_5, hcz10_6, hcz10_7, hcz10_8, hcz10_9⟩ := zC10 BK132; have hfz10_0 := blk_frozen BK132.out 0; have hfz10_1 := blk_frozen BK132.out 1; have hfz10_2 := blk_frozen BK132.out 2; have hfz10_3 := blk_frozen BK132.out 3; have hfz10_4 := blk_frozen BK132.out 4; have hfz10_5 := blk_frozen BK132.out 5; have hfz10_6 := blk_frozen BK132.out 6; have hfz10_7 := blk_frozen BK132.out 7; have hfz10_8 := blk_frozen BK132.out 8; have hfz10_9 := blk_frozen BK132.out 9) | ((with_reducible refine gate_callee (f := 57) rfl ?_); refine goesL_ (some 6) rfl rfl Try.func57 (by kernel_rfl) rfl #[.agg #[.int .i64 a0_0, .int .i64 a0_1, .int .i64 a0_2, .int .i64 a0_3, .int .i64 a0_4, .int .i64 a0_5, .int .i64 a0_6, .int .i64 a0_7, .int .i64 a0_8, .int .i64 a0_9]] rfl (by (try simp only [List.map_toArray, List.map_cons, List.map_nil]); first | done | rfl | (simp only [List.length_drop, List.length_take]; rfl)) ?_; (with_reducible refine (conf_Check.calls a0_0 a0_1 a0_2 a0_3 a0_4 a0_5 a0_6 a0_7 a0_8 a0_9 t134 _ A3.out).mono ?_); rintro e w11 ⟨rfl, hb⟩; refine ⟨_, rfl, ?_⟩; replace BK132 := zb BK132 hb; replace BK133 := zb BK133 hb; replace HB := zs HB hb; (try clear hb); (try clear hb2); (try clear hk); (try clear hi); obtain ⟨hcz12_0, hcz12_1, hcz12_2, hcz12_3, hcz12_4, hcz12_5, hcz12_6, hcz12_7, hcz12_8, hcz12_9⟩ := zC10 BK132; obtain ⟨hfz12_0, hfz12_1, hfz12_2, hfz12_3, hfz12_4, hfz12_5, hfz12_6, hfz12_7, hfz12_8, hfz12_9⟩ := zF10 BK132; obtain ⟨hcz13_0, hcz13_1, hcz13_2, hcz13_3, hcz13_4⟩ := zC5 BK133; obtain ⟨hfz13_0, hfz13_1, hfz13_2, hfz13_3⟩ := zF4 BK133; have hfz13_4 := blk_frozen BK133.out 4) | (go_at_call 141; (with_reducible refine (emit_right.calls a0_0 a0_1 a0_2 a0_3 a0_4 a0_5 a0_6 a0_7 a0_8 a0_9 a1_0 a1_1 a1_2 a1_3 _ _ l1_4 true _ ?side1 ?side2 A5.out).mono ?_); (case side1 => repeat (first | exact (Kd.C_below HR1_4.out HB.out) | (with_reducible refine Kd.C_alloc ?_ _) | (with_reducible refine Kd.C_drewN ?_ _) | (with_reducible refine Kd.C_drew ?_))); (case side2 => exact HC1_4.out); rintro e w14 ⟨rfl, hb⟩; replace BK132 := zb BK132 hb; replace BK133 := zb BK133 hb; replace HB := zs HB hb; (try clear hb); (try clear hb2); (try clear hk); (try clear hi)))
   go_ret
   exact ⟨by first | rfl | (simp [errW_none, errW_some] <;> rfl) | (simp [*, errW_none, errW_some] <;> rfl), by repeat (first | (with_reducible first | exact HB.out | apply below_alloc | apply pw_below_drewN | apply below_drew1 | refine below_set ?_ GE132.out | refine below_set ?_ GE133.out) | exact HB.out)⟩
 replace c6 := Bool.eq_false_iff.mpr c6
 subst c6
 have H1 : (some 1) = some r := by rw [if_neg (show ¬ (false = true) by decide)] at H; exact H
 clear H
 have H := H1
 clear H1
 obtain rfl := Option.some.inj H
 go_enter Try.func97, Try.ntmps97
 go_wp2_with (first | ((with_reducible refine gate_dst (N := 2) rfl ?_); refine box_event ?hg (N := 2) ?hd (cs := #[.int .i64 a0_0, .int .i64 a0_1, .int .i64 a0_2, .int .i64 a0_3, .int .i64 a0_4, .int .i64 a0_5, .int .i64 a0_6, .int .i64 a0_7, .int .i64 a0_8, .int .i64 a0_9]) (t := 23) ?hr ?_; (case hd => rfl); (case hg => rfl); (case hr => first | (go_simp; done) | (go_simp; rfl)); intro gb132 hg w15 hbox hb; have BK132 := Aside0.mk (hbox); have GW132 := zg HB hg; have GE132 := zg HB hg; replace HB := zs HB hb; clear hb hbox hg) | ((with_reducible refine gate_dst (N := 3) rfl ?_); refine box_event ?hg (N := 3) ?hd (cs := #[.int .i64 a1_0, .int .i64 a1_1, .int .i64 a1_2, .bool a1_3, .slice A1_4 l1_4.length c1_4]) (t := 100) ?hr ?_; (case hd => rfl); (case hg => rfl); (case hr => first | (go_simp; done) | (go_simp; rfl)); intro gb133 hg w16 hbox hb; have BK133 := Aside0.mk (hbox); have GW133 := zg HB hg; have GE133 := zg HB hg; replace HB := zs HB hb; have NB132_133 := zl BK132 hg; have NB133_132 := zr BK132 hg; replace BK132 := zb BK132 hb; clear hb hbox hg; have hnb17 := NB132_133.out; have hnc17 := NB133_132.out; obtain ⟨hcz18_0, hcz18_1, hcz18_2, hcz18_3, hcz18_4, hcz18_5, hcz18_6, hcz18_7, hcz18_8, hcz18_9⟩ := zC10 BK132; have hfz18_0 := blk_frozen BK132.out 0; have hfz18_1 := blk_frozen BK132.out 1; have hfz18_2 := blk_frozen BK132.out 2; have hfz18_3 := blk_frozen BK132.out 3; have hfz18_4 := blk_frozen BK132.out 4; have hfz18_5 := blk_frozen BK132.out 5; have hfz18_6 := blk_frozen BK132.out 6; have hfz18_7 := blk_frozen BK132.out 7; have hfz18_8 := blk_frozen BK132.out 8; have hfz18_9 := blk_frozen BK132.out 9) | ((with_reducible refine gate_callee (f := 57) rfl ?_); refine goesL_ (some 6) rfl rfl Try.func57 (by kernel_rfl) rfl #[.agg #[.int .i64 a0_0, .int .i64 a0_1, .int .i64 a0_2, .int .i64 a0_3, .int .i64 a0_4, .int .i64 a0_5, .int .i64 a0_6, .int .i64 a0_7, .int .i64 a0_8, .int .i64 a0_9]] rfl (by (try simp only [List.map_toArray, List.map_cons, List.map_nil]); first | done | rfl | (simp only [List.length_drop, List.length_take]; rfl)) ?_; (with_reducible refine (conf_Check.calls a0_0 a0_1 a0_2 a0_3 a0_4 a0_5 a0_6 a0_7 a0_8 a0_9 t134 _ A3.out).mono ?_); rintro e w19 ⟨rfl, hb⟩; refine ⟨_, rfl, ?_⟩; replace BK132 := zb BK132 hb; replace BK133 := zb BK133 hb; replace HB := zs HB hb; (try clear hb); (try clear hb2); (try clear hk); (try clear hi); obtain ⟨hcz20_0, hcz20_1, hcz20_2, hcz20_3, hcz20_4, hcz20_5, hcz20_6, hcz20_7, hcz20_8, hcz20_9⟩ := zC10 BK132; obtain ⟨hfz20_0, hfz20_1, hfz20_2, hfz20_3, hfz20_4, hfz20_5, hfz20_6, hfz20_7, hfz20_8, hfz20_9⟩ := zF10 BK132; obtain ⟨hcz21_0, hcz21_1, hcz21_2, hcz21_3, hcz21_4⟩ := zC5 BK133; obtain ⟨hfz21_0, hfz21_1, hfz21_2, hfz21_3⟩ := zF4 BK133; have hfz21_4 := blk_frozen BK133.out 4) | (go_at_call 141; (with_reducible refine (emit_right.calls a0_0 a0_1 a0_2 a0_3 a0_4 a0_5 a0_6 a0_7 a0_8 a0_9 a1_0 a1_1 a1_2 a1_3 _ _ l1_4 false _ ?side1 ?side2 A5.out).mono ?_); (case side1 => repeat (first | exact (Kd.C_below HR1_4.out HB.out) | (with_reducible refine Kd.C_alloc ?_ _) | (with_reducible refine Kd.C_drewN ?_ _) | (with_reducible refine Kd.C_drew ?_))); (case side2 => exact HC1_4.out); rintro e w22 ⟨rfl, hb⟩; replace BK132 := zb BK132 hb; replace BK133 := zb BK133 hb; replace HB := zs HB hb; (try clear hb); (try clear hb2); (try clear hk); (try clear hi)))
 go_ret
 exact ⟨by first | rfl | (simp [errW_none, errW_some] <;> rfl) | (simp [*, errW_none, errW_some] <;> rfl), by repeat (first | (with_reducible first | exact HB.out | apply below_alloc | apply pw_below_drewN | apply below_drew1 | refine below_set ?_ GE132.out | refine below_set ?_ GE133.out) | exact HB.out)⟩
def emit_New.f (a0_0 : Int) (a0_1 : Int) (a0_2 : Int) (a0_3 : Int) (a0_4 : Int) (a0_5 : Int) (a0_6 : Int) (a0_7 : Int) (a0_8 : Int) (a0_9 : Int) (a1 : Int) (l2 : List Int) : Option (Int × Int × Int × Bool × List Int × Int) := (Clone_bytes.f l2).bind fun t138 => ((emit_Check.f a0_0 a0_1 a0_2 a0_3 a0_4 a0_5 a0_6 a0_7 a0_8 a0_9 a1 0 0 false t138).bind fun t142 => (if t142 = 0 then (some (a1, 0, 0, false, t138, 0)) else (some (0, 0, 0, false, ([] : List Int), t142))))
set_option maxHeartbeats 8000000 in
set_option maxRecDepth 100000 in
theorem emit_New.calls (a0_0 : Int) (a0_1 : Int) (a0_2 : Int) (a0_3 : Int) (a0_4 : Int) (a0_5 : Int) (a0_6 : Int) (a0_7 : Int) (a0_8 : Int) (a0_9 : Int) (a1 : Int) (A2 : Option Addr) (c2 : Nat) (l2 : List Int) (r1 : Int) (r2 : Int) (r3 : Int) (r4 : Bool) (r5 : List Int) (r6 : Int) (w : World) (hr2 : Kd.C (Kd.int .u8) w A2 l2.length l2) (hc2 : l2.length ≤ c2) (h : emit_New.f a0_0 a0_1 a0_2 a0_3 a0_4 a0_5 a0_6 a0_7 a0_8 a0_9 a1 l2 = some (r1, r2, r3, r4, r5, r6)) :
    Calls Try.prog 53 #[.agg #[.int .i64 a0_0, .int .i64 a0_1, .int .i64 a0_2, .int .i64 a0_3, .int .i64 a0_4, .int .i64 a0_5, .int .i64 a0_6, .int .i64 a0_7, .int .i64 a0_8, .int .i64 a0_9], .int .i64 a1, .slice A2 l2.length c2] w fun e w' => ∃ v4_ : Value, e = .returned (.tuple #[.agg #[.int .i64 r1, .int .i64 r2, .int .i64 r3, .bool r4, v4_], .int .i64 r6]) ∧ Kd.R (Kd.int .u8) 5 w' w.heap.size (fun _ => True) v4_ r5 ∧ Below w.heap.size w w' := by
 have hu23 := Try.underlying23
 have hu100 := Try.underlying100
 have HR2 := Aside0.mk hr2
 have HC2 := Aside0.mk hc2
 clear hr2 hc2
 have HB := Aside0.mk (Below.refl w.heap.size w)
 have H : ((Clone_bytes.f l2).bind fun t138 => ((emit_Check.f a0_0 a0_1 a0_2 a0_3 a0_4 a0_5 a0_6 a0_7 a0_8 a0_9 a1 0 0 false t138).bind fun t142 => (if t142 = 0 then (some (a1, 0, 0, false, t138, 0)) else (some (0, 0, 0, false, ([] : List Int), t142))))) = some (r1, r2, r3, r4, r5, r6) := h
 clear h
 replace H := Option.bind_eq_some_iff.mp H
 obtain ⟨t138, A40, H⟩ := H
 replace H : ((emit_Check.f a0_0 a0_1 a0_2 a0_3 a0_4 a0_5 a0_6 a0_7 a0_8 a0_9 a1 0 0 false t138).bind fun t142 => (if t142 = 0 then (some (a1, 0, 0, false, t138, 0)) else (some (0, 0, 0, false, ([] : List Int), t142)))) = some (r1, r2, r3, r4, r5, r6) := H
 have A4 := Aside0.mk A40
 clear A40
 replace H := Option.bind_eq_some_iff.mp H
 obtain ⟨t142, A50, H⟩ := H
 replace H : (if t142 = 0 then (some (a1, 0, 0, false, t138, 0)) else (some (0, 0, 0, false, ([] : List Int), t142))) = some (r1, r2, r3, r4, r5, r6) := H
 have A5 := Aside0.mk A50
 clear A50
 by_cases c6 : t142 = 0
 · rw [if_pos c6] at H
   have c6b0 : (t142 == 0) = true := beq_iff_eq.mpr c6
   have c6b1 : (t142 != 0) = false := bne_eq_false_iff_eq.mpr c6
   clear c6
   simp only [Option.some.injEq, Prod.mk.injEq] at H
   obtain ⟨rfl, rfl, rfl, rfl, rfl, rfl⟩ := H
   go_enter Try.func53, Try.ntmps53
   go_wp2_with (first | ((with_reducible refine gate_dst (N := 3) rfl ?_); refine box_event ?hg (N := 3) ?hd (cs := #[.int .i64 a0_0, .int .i64 a0_1, .int .i64 a0_2, .int .i64 a0_3, .int .i64 a0_4, .int .i64 a0_5, .int .i64 a0_6, .int .i64 a0_7, .int .i64 a0_8, .int .i64 a0_9]) (t := 23) ?hr ?_; (case hd => rfl); (case hg => rfl); (case hr => first | (go_simp; done) | (go_simp; rfl)); intro gb136 hg w7 hbox hb; have BK136 := Aside0.mk (hbox); have GW136 := zg HB hg; have GE136 := zg HB hg; replace HB := zs HB hb; clear hb hbox hg) | ((with_reducible refine gate_dst (N := 6) rfl ?_); refine box_event ?hg (N := 6) ?hd (cs := #[.int .i64 0, .int .i64 0, .int .i64 0, .bool false, .slice none 0 0]) (t := 100) ?hr ?_; (case hd => rfl); (case hg => rfl); (case hr => first | (go_simp; done) | (go_simp; rfl)); intro gb137 hg w8 hbox hb; have BK137 := Aside0.mk (hbox); have GW137 := zg HB hg; have GE137 := zg HB hg; replace HB := zs HB hb; have NB136_137 := zl BK136 hg; have NB137_136 := zr BK136 hg; replace BK136 := zb BK136 hb; clear hb hbox hg) | ((with_reducible refine gate_callee (f := 96) rfl ?_); refine goesL_ (some 12) rfl rfl Try.func96 (by kernel_rfl) rfl #[.slice A2 l2.length c2] rfl (by (try simp only [List.map_toArray, List.map_cons, List.map_nil]); first | done | rfl | (simp only [List.length_drop, List.length_take]; rfl)) ?_; (with_reducible refine (Clone_bytes.calls _ _ l2 t138 _ ?side1 ?side2 A4.out).mono ?_); (case side1 => repeat (first | exact (Kd.C_below HR2.out HB.out) | (with_reducible refine Kd.C_alloc ?_ _) | (with_reducible refine Kd.C_drewN ?_ _) | (with_reducible refine Kd.C_drew ?_))); (case side2 => exact HC2.out); rintro e w9 ⟨v139, rfl, ho0, hb⟩; refine ⟨_, rfl, ?_⟩; have HO140 := Aside0.mk (Kd.R_lower ho0 (below_size (zB HB))); replace BK136 := zb BK136 hb; replace BK137 := zb BK137 hb; replace HB := zs HB hb; (try clear hb); (try clear hb2); (try clear hk); (try clear hi); (try clear ho0); obtain ⟨Ao10, co10, eo10⟩ := Kd.R_slice HO140.out; subst eo10) | ((with_reducible refine gate_dst (N := 8) rfl ?_); refine box_event ?hg (N := 8) ?hd (cs := #[.int .i64 0, .int .i64 0, .int .i64 0, .bool false, .slice none 0 0]) (t := 100) ?hr ?_; (case hd => rfl); (case hg => rfl); (case hr => first | (go_simp; done) | (go_simp; rfl)); intro gb141 hg w11 hbox hb; replace HO140 := zR HO140 hb; have BK141 := Aside0.mk (hbox); have GW141 := zg HB hg; have GE141 := zg HB hg; replace HB := zs HB hb; have NB136_141 := zl BK136 hg; have NB141_136 := zr BK136 hg; replace BK136 := zb BK136 hb; have NB137_141 := zl BK137 hg; have NB141_137 := zr BK137 hg; replace BK137 := zb BK137 hb; clear hb hbox hg; have hnb12 := NB141_136.out; have hnc12 := NB136_141.out; have hnb13 := NB141_137.out; have hnc13 := NB137_141.out; obtain ⟨hcz14_0, hcz14_1, hcz14_2, hcz14_3, hcz14_4⟩ := zC5 BK141; obtain ⟨hfz14_0, hfz14_1, hfz14_2, hfz14_3, hfz14_4⟩ := zF5 BK141; have hnb15 := NB136_137.out; have hnc15 := NB137_136.out; obtain ⟨hcz16_0, hcz16_1, hcz16_2, hcz16_3, hcz16_4, hcz16_5, hcz16_6, hcz16_7, hcz16_8, hcz16_9⟩ := zC10 BK136; have hfz16_0 := blk_frozen BK136.out 0; have hfz16_1 := blk_frozen BK136.out 1; have hfz16_2 := blk_frozen BK136.out 2; have hfz16_3 := blk_frozen BK136.out 3; have hfz16_4 := blk_frozen BK136.out 4; have hfz16_5 := blk_frozen BK136.out 5; have hfz16_6 := blk_frozen BK136.out 6; have hfz16_7 := blk_frozen BK136.out 7; have hfz16_8 := blk_frozen BK136.out 8; have hfz16_9 := blk_frozen BK136.out 9) | ((with_reducible refine gate_callee (f := 97) rfl ?_); refine goesL_ (some 16) rfl rfl Try.func97 (by kernel_rfl) rfl #[.agg #[.int .i64 a0_0, .int .i64 a0_1, .int .i64 a0_2, .int .i64 a0_3, .int .i64 a0_4, .int .i64 a0_5, .int .i64 a0_6, .int .i64 a0_7, .int .i64 a0_8, .int .i64 a0_9], .agg #[.int .i64 a1, .int .i64 0, .int .i64 0, .bool false, .slice Ao10 t138.length co10]] rfl (by (try simp only [List.map_toArray, List.map_cons, List.map_nil]); first | done | rfl | (simp only [List.length_drop, List.length_take]; rfl)) ?_; (with_reducible refine (emit_Check.calls a0_0 a0_1 a0_2 a0_3 a0_4 a0_5 a0_6 a0_7 a0_8 a0_9 a1 0 0 false _ _ t138 t142 _ ?side1 ?side2 A5.out).mono ?_); (case side1 => refine (Kd.R_reads' (e := 5) (base := w.heap.size) (ok := fun k_ => True) (n := t138.length) (c := co10) ?_).2.2; exact (by (with_reducible repeat (first | apply Kd.R_alloc | apply Kd.R_drewN | apply Kd.R_drew)); exact (Kd.R_mono (Kd.R_far (p := ⟨gb141, 4, none⟩) (Kd.R_far (p := ⟨gb141, 3, none⟩) (Kd.R_far (p := ⟨gb141, 2, none⟩) (Kd.R_far (p := ⟨gb141, 1, none⟩) (Kd.R_far (p := ⟨gb141, 0, none⟩) (Kd.R_types HO140.out BK141.out (by decide)) (fun _ hk => hk.2) (.int .i64 a1)) (fun _ hk => hk.2) (.int .i64 0)) (fun _ hk => hk.2) (.int .i64 0)) (fun _ hk => hk.2) (.bool false)) (fun _ hk => hk.2) (.slice Ao10 t138.length co10)) (fun _ h_ => h_.1)))); (case side2 => exact (Kd.R_reads' HO140.out).2.1); rintro e w17 ⟨rfl, hb⟩; refine ⟨_, rfl, ?_⟩; have n0_ := Aside0.mk (Kd.R_below (by (with_reducible repeat (first | apply Kd.R_alloc | apply Kd.R_drewN | apply Kd.R_drew)); exact (Kd.R_mono (Kd.R_far (p := ⟨gb141, 4, none⟩) (Kd.R_far (p := ⟨gb141, 3, none⟩) (Kd.R_far (p := ⟨gb141, 2, none⟩) (Kd.R_far (p := ⟨gb141, 1, none⟩) (Kd.R_far (p := ⟨gb141, 0, none⟩) (Kd.R_types HO140.out BK141.out (by decide)) (fun _ hk => hk.2) (.int .i64 a1)) (fun _ hk => hk.2) (.int .i64 0)) (fun _ hk => hk.2) (.int .i64 0)) (fun _ hk => hk.2) (.bool false)) (fun _ hk => hk.2) (.slice Ao10 t138.length co10)) (fun _ h_ => h_.1))) hb); have n1_ := zb BK136 hb; have n2_ := zb BK137 hb; have n3_ := Aside0.mk (blk_below (g := gb141) (o := .cells #[.int .i64 a1, .int .i64 0, .int .i64 0, .bool false, .slice Ao10 t138.length co10] 100 (0, 0)) (by (with_reducible repeat (first | refine blk_drewN ?_ _ | refine blk_drew ?_ | refine blk_alloc ?_ _)); refine blk_put (cs := #[.int .i64 a1, .int .i64 0, .int .i64 0, .bool false, .slice none 0 0]) ?_ 4 _ rfl; (with_reducible repeat (first | refine blk_drewN ?_ _ | refine blk_drew ?_ | refine blk_alloc ?_ _)); refine blk_put (cs := #[.int .i64 a1, .int .i64 0, .int .i64 0, .bool false, .slice none 0 0]) ?_ 3 _ rfl; (with_reducible repeat (first | refine blk_drewN ?_ _ | refine blk_drew ?_ | refine blk_alloc ?_ _)); refine blk_put (cs := #[.int .i64 a1, .int .i64 0, .int .i64 0, .bool false, .slice none 0 0]) ?_ 2 _ rfl; (with_reducible repeat (first | refine blk_drewN ?_ _ | refine blk_drew ?_ | refine blk_alloc ?_ _)); refine blk_put (cs := #[.int .i64 a1, .int .i64 0, .int .i64 0, .bool false, .slice none 0 0]) ?_ 1 _ rfl; (with_reducible repeat (first | refine blk_drewN ?_ _ | refine blk_drew ?_ | refine blk_alloc ?_ _)); refine blk_put (cs := #[.int .i64 0, .int .i64 0, .int .i64 0, .bool false, .slice none 0 0]) ?_ 0 _ rfl; (with_reducible repeat (first | refine blk_drewN ?_ _ | refine blk_drew ?_ | refine blk_alloc ?_ _)); exact BK141.out) hb); have n4_ := zs HB hb; clear HO140; clear BK136; clear BK137; clear BK141; clear HB; have HO140 := n0_; have BK136 := n1_; have BK137 := n2_; have BK141 := n3_; have HB := n4_; clear n0_ n1_ n2_ n3_ n4_; (try clear hb); (try clear hb2); (try clear hk); (try clear hi); obtain ⟨hcz18_0, hcz18_1, hcz18_2, hcz18_3, hcz18_4⟩ := zC5 BK141; obtain ⟨hfz18_0, hfz18_1, hfz18_2, hfz18_3, hfz18_4⟩ := zF5 BK141; obtain ⟨hcz19_0, hcz19_1, hcz19_2, hcz19_3, hcz19_4⟩ := zC5 BK137; obtain ⟨hfz19_0, hfz19_1, hfz19_2, hfz19_3⟩ := zF4 BK137; have hfz19_4 := blk_frozen BK137.out 4))
   refine bodyPost_ret (results_ct rfl _ _ gb137 100 #[.int .i64 a1, .int .i64 0, .int .i64 0, .bool false, .slice Ao10 t138.length co10] (0, 0) _ rfl (by (with_reducible repeat (first | refine blk_drewN ?_ _ | refine blk_drew ?_ | refine blk_alloc ?_ _)); refine blk_put (cs := #[.int .i64 a1, .int .i64 0, .int .i64 0, .bool false, .slice none 0 0]) ?_ 4 _ rfl; (with_reducible repeat (first | refine blk_drewN ?_ _ | refine blk_drew ?_ | refine blk_alloc ?_ _)); refine blk_put (cs := #[.int .i64 a1, .int .i64 0, .int .i64 0, .bool false, .slice none 0 0]) ?_ 3 _ rfl; (with_reducible repeat (first | refine blk_drewN ?_ _ | refine blk_drew ?_ | refine blk_alloc ?_ _)); refine blk_put (cs := #[.int .i64 a1, .int .i64 0, .int .i64 0, .bool false, .slice none 0 0]) ?_ 2 _ rfl; (with_reducible repeat (first | refine blk_drewN ?_ _ | refine blk_drew ?_ | refine blk_alloc ?_ _)); refine blk_put (cs := #[.int .i64 a1, .int .i64 0, .int .i64 0, .bool false, .slice none 0 0]) ?_ 1 _ rfl; (with_reducible repeat (first | refine blk_drewN ?_ _ | refine blk_drew ?_ | refine blk_alloc ?_ _)); refine blk_put (cs := #[.int .i64 0, .int .i64 0, .int .i64 0, .bool false, .slice none 0 0]) ?_ 0 _ rfl; (with_reducible repeat (first | refine blk_drewN ?_ _ | refine blk_drew ?_ | refine blk_alloc ?_ _)); exact BK137.out) Try.underlying100 rfl (by kernel_rfl)) rfl ?_
   exact ⟨_, by first | rfl | (simp [errW_none, errW_some] <;> rfl) | (simp [*, errW_none, errW_some] <;> rfl), by (with_reducible repeat (first | apply Kd.R_alloc | apply Kd.R_drewN | apply Kd.R_drew)); exact Kd.R_mono (Kd.R_far (p := ⟨gb137, 4, none⟩) (Kd.R_far (p := ⟨gb137, 3, none⟩) (Kd.R_far (p := ⟨gb137, 2, none⟩) (Kd.R_far (p := ⟨gb137, 1, none⟩) (Kd.R_far (p := ⟨gb137, 0, none⟩) (Kd.R_types HO140.out BK137.out (by decide)) (fun _ hk => hk.2) (.int .i64 a1)) (fun _ hk => hk.2) (.int .i64 0)) (fun _ hk => hk.2) (.int .i64 0)) (fun _ hk => hk.2) (.bool false)) (fun _ hk => hk.2) (.slice Ao10 t138.length co10)) (fun _ hk => trivial), by repeat (first | (with_reducible first | exact HB.out | apply below_alloc | apply pw_below_drewN | apply below_drew1 | refine below_set ?_ GE136.out | refine below_set ?_ GE137.out | refine below_set ?_ GE141.out) | exact HB.out)⟩
 rw [if_neg c6] at H
 have c6b0 : (t142 == 0) = false := beq_eq_false_iff_ne.mpr c6
 have c6b1 : (t142 != 0) = true := bne_iff_ne.mpr c6
 simp only [Option.some.injEq, Prod.mk.injEq] at H
 obtain ⟨rfl, rfl, rfl, rfl, rfl, rfl⟩ := H
 go_enter Try.func53, Try.ntmps53
 go_wp2_with (first | ((with_reducible refine gate_dst (N := 3) rfl ?_); refine box_event ?hg (N := 3) ?hd (cs := #[.int .i64 a0_0, .int .i64 a0_1, .int .i64 a0_2, .int .i64 a0_3, .int .i64 a0_4, .int .i64 a0_5, .int .i64 a0_6, .int .i64 a0_7, .int .i64 a0_8, .int .i64 a0_9]) (t := 23) ?hr ?_; (case hd => rfl); (case hg => rfl); (case hr => first | (go_simp; done) | (go_simp; rfl)); intro gb136 hg w20 hbox hb; have BK136 := Aside0.mk (hbox); have GW136 := zg HB hg; have GE136 := zg HB hg; replace HB := zs HB hb; clear hb hbox hg) | ((with_reducible refine gate_dst (N := 6) rfl ?_); refine box_event ?hg (N := 6) ?hd (cs := #[.int .i64 0, .int .i64 0, .int .i64 0, .bool false, .slice none 0 0]) (t := 100) ?hr ?_; (case hd => rfl); (case hg => rfl); (case hr => first | (go_simp; done) | (go_simp; rfl)); intro gb137 hg w21 hbox hb; have BK137 := Aside0.mk (hbox); have GW137 := zg HB hg; have GE137 := zg HB hg; replace HB := zs HB hb; have NB136_137 := zl BK136 hg; have NB137_136 := zr BK136 hg; replace BK136 := zb BK136 hb; clear hb hbox hg) | ((with_reducible refine gate_callee (f := 96) rfl ?_); refine goesL_ (some 12) rfl rfl Try.func96 (by kernel_rfl) rfl #[.slice A2 l2.length c2] rfl (by (try simp only [List.map_toArray, List.map_cons, List.map_nil]); first | done | rfl | (simp only [List.length_drop, List.length_take]; rfl)) ?_; (with_reducible refine (Clone_bytes.calls _ _ l2 t138 _ ?side1 ?side2 A4.out).mono ?_); (case side1 => repeat (first | exact (Kd.C_below HR2.out HB.out) | (with_reducible refine Kd.C_alloc ?_ _) | (with_reducible refine Kd.C_drewN ?_ _) | (with_reducible refine Kd.C_drew ?_))); (case side2 => exact HC2.out); rintro e w22 ⟨v139, rfl, ho0, hb⟩; refine ⟨_, rfl, ?_⟩; have HO140 := Aside0.mk (Kd.R_lower ho0 (below_size (zB HB))); replace BK136 := zb BK136 hb; replace BK137 := zb BK137 hb; replace HB := zs HB hb; (try clear hb); (try clear hb2); (try clear hk); (try clear hi); (try clear ho0); obtain ⟨Ao23, co23, eo23⟩ := Kd.R_slice HO140.out; subst eo23) | ((with_reducible refine gate_dst (N := 8) rfl ?_); refine box_event ?hg (N := 8) ?hd (cs := #[.int .i64 0, .int .i64 0, .int .i64 0, .bool false, .slice none 0 0]) (t := 100) ?hr ?_; (case hd => rfl); (case hg => rfl); (case hr => first | (go_simp; done) | (go_simp; rfl)); intro gb141 hg w24 hbox hb; replace HO140 := zR HO140 hb; have BK141 := Aside0.mk (hbox); have GW141 := zg HB hg; have GE141 := zg HB hg; replace HB := zs HB hb; have NB136_141 := zl BK136 hg; have NB141_136 := zr BK136 hg; replace BK136 := zb BK136 hb; have NB137_141 := zl BK137 hg; have NB141_137 := zr BK137 hg; replace BK137 := zb BK137 hb; clear hb hbox hg; have hnb25 := NB141_136.out; have hnc25 := NB136_141.out; have hnb26 := NB141_137.out; have hnc26 := NB137_141.out; obtain ⟨hcz27_0, hcz27_1, hcz27_2, hcz27_3, hcz27_4⟩ := zC5 BK141; obtain ⟨hfz27_0, hfz27_1, hfz27_2, hfz27_3, hfz27_4⟩ := zF5 BK141; have hnb28 := NB136_137.out; have hnc28 := NB137_136.out; obtain ⟨hcz29_0, hcz29_1, hcz29_2, hcz29_3, hcz29_4, hcz29_5, hcz29_6, hcz29_7, hcz29_8, hcz29_9⟩ := zC10 BK136; have hfz29_0 := blk_frozen BK136.out 0; have hfz29_1 := blk_frozen BK136.out 1; have hfz29_2 := blk_frozen BK136.out 2; have hfz29_3 := blk_frozen BK136.out 3; have hfz29_4 := blk_frozen BK136.out 4; have hfz29_5 := blk_frozen BK136.out 5; have hfz29_6 := blk_frozen BK136.out 6; have hfz29_7 := blk_frozen BK136.out 7; have hfz29_8 := blk_frozen BK136.out 8; have hfz29_9 := blk_frozen BK136.out 9) | ((with_reducible refine gate_callee (f := 97) rfl ?_); refine goesL_ (some 16) rfl rfl Try.func97 (by kernel_rfl) rfl #[.agg #[.int .i64 a0_0, .int .i64 a0_1, .int .i64 a0_2, .int .i64 a0_3, .int .i64 a0_4, .int .i64 a0_5, .int .i64 a0_6, .int .i64 a0_7, .int .i64 a0_8, .int .i64 a0_9], .agg #[.int .i64 a1, .int .i64 0, .int .i64 0, .bool false, .slice Ao23 t138.length co23]] rfl (by (try simp only [List.map_toArray, List.map_cons, List.map_nil]); first | done | rfl | (simp only [List.length_drop, List.length_take]; rfl)) ?_; (with_reducible refine (emit_Check.calls a0_0 a0_1 a0_2 a0_3 a0_4 a0_5 a0_6 a0_7 a0_8 a0_9 a1 0 0 false _ _ t138 t142 _ ?side1 ?side2 A5.out).mono ?_); (case side1 => refine (Kd.R_reads' (e := 5) (base := w.heap.size) (ok := fun k_ => True) (n := t138.length) (c := co23) ?_).2.2; exact (by (with_reducible repeat (first | apply Kd.R_alloc | apply Kd.R_drewN | apply Kd.R_drew)); exact (Kd.R_mono (Kd.R_far (p := ⟨gb141, 4, none⟩) (Kd.R_far (p := ⟨gb141, 3, none⟩) (Kd.R_far (p := ⟨gb141, 2, none⟩) (Kd.R_far (p := ⟨gb141, 1, none⟩) (Kd.R_far (p := ⟨gb141, 0, none⟩) (Kd.R_types HO140.out BK141.out (by decide)) (fun _ hk => hk.2) (.int .i64 a1)) (fun _ hk => hk.2) (.int .i64 0)) (fun _ hk => hk.2) (.int .i64 0)) (fun _ hk => hk.2) (.bool false)) (fun _ hk => hk.2) (.slice Ao23 t138.length co23)) (fun _ h_ => h_.1)))); (case side2 => exact (Kd.R_reads' HO140.out).2.1); rintro e w30 ⟨rfl, hb⟩; refine ⟨_, rfl, ?_⟩; have n0_ := Aside0.mk (Kd.R_below (by (with_reducible repeat (first | apply Kd.R_alloc | apply Kd.R_drewN | apply Kd.R_drew)); exact (Kd.R_mono (Kd.R_far (p := ⟨gb141, 4, none⟩) (Kd.R_far (p := ⟨gb141, 3, none⟩) (Kd.R_far (p := ⟨gb141, 2, none⟩) (Kd.R_far (p := ⟨gb141, 1, none⟩) (Kd.R_far (p := ⟨gb141, 0, none⟩) (Kd.R_types HO140.out BK141.out (by decide)) (fun _ hk => hk.2) (.int .i64 a1)) (fun _ hk => hk.2) (.int .i64 0)) (fun _ hk => hk.2) (.int .i64 0)) (fun _ hk => hk.2) (.bool false)) (fun _ hk => hk.2) (.slice Ao23 t138.length co23)) (fun _ h_ => h_.1))) hb); have n1_ := zb BK136 hb; have n2_ := zb BK137 hb; have n3_ := Aside0.mk (blk_below (g := gb141) (o := .cells #[.int .i64 a1, .int .i64 0, .int .i64 0, .bool false, .slice Ao23 t138.length co23] 100 (0, 0)) (by (with_reducible repeat (first | refine blk_drewN ?_ _ | refine blk_drew ?_ | refine blk_alloc ?_ _)); refine blk_put (cs := #[.int .i64 a1, .int .i64 0, .int .i64 0, .bool false, .slice none 0 0]) ?_ 4 _ rfl; (with_reducible repeat (first | refine blk_drewN ?_ _ | refine blk_drew ?_ | refine blk_alloc ?_ _)); refine blk_put (cs := #[.int .i64 a1, .int .i64 0, .int .i64 0, .bool false, .slice none 0 0]) ?_ 3 _ rfl; (with_reducible repeat (first | refine blk_drewN ?_ _ | refine blk_drew ?_ | refine blk_alloc ?_ _)); refine blk_put (cs := #[.int .i64 a1, .int .i64 0, .int .i64 0, .bool false, .slice none 0 0]) ?_ 2 _ rfl; (with_reducible repeat (first | refine blk_drewN ?_ _ | refine blk_drew ?_ | refine blk_alloc ?_ _)); refine blk_put (cs := #[.int .i64 a1, .int .i64 0, .int .i64 0, .bool false, .slice none 0 0]) ?_ 1 _ rfl; (with_reducible repeat (first | refine blk_drewN ?_ _ | refine blk_drew ?_ | refine blk_alloc ?_ _)); refine blk_put (cs := #[.int .i64 0, .int .i64 0, .int .i64 0, .bool false, .slice none 0 0]) ?_ 0 _ rfl; (with_reducible repeat (first | refine blk_drewN ?_ _ | refine blk_drew ?_ | refine blk_alloc ?_ _)); exact BK141.out) hb); have n4_ := zs HB hb; clear HO140; clear BK136; clear BK137; clear BK141; clear HB; have HO140 := n0_; have BK136 := n1_; have BK137 := n2_; have BK141 := n3_; have HB := n4_; clear n0_ n1_ n2_ n3_ n4_; (try clear hb); (try clear hb2); (try clear hk); (try clear hi); obtain ⟨hcz31_0, hcz31_1, hcz31_2, hcz31_3, hcz31_4⟩ := zC5 BK137; obtain ⟨hfz31_0, hfz31_1, hfz31_2, hfz31_3⟩ := zF4 BK137; have hfz31_4 := blk_frozen BK137.out 4))
 refine bodyPost_ret (results_ct rfl _ _ gb137 100 #[.int .i64 0, .int .i64 0, .int .i64 0, .bool false, .slice none 0 0] (0, 0) _ rfl (by (with_reducible repeat (first | refine blk_drewN ?_ _ | refine blk_drew ?_ | refine blk_alloc ?_ _)); refine blk_put (cs := #[.int .i64 0, .int .i64 0, .int .i64 0, .bool false, .slice none 0 0]) ?_ 4 _ rfl; (with_reducible repeat (first | refine blk_drewN ?_ _ | refine blk_drew ?_ | refine blk_alloc ?_ _)); refine blk_put (cs := #[.int .i64 0, .int .i64 0, .int .i64 0, .bool false, .slice none 0 0]) ?_ 3 _ rfl; (with_reducible repeat (first | refine blk_drewN ?_ _ | refine blk_drew ?_ | refine blk_alloc ?_ _)); refine blk_put (cs := #[.int .i64 0, .int .i64 0, .int .i64 0, .bool false, .slice none 0 0]) ?_ 2 _ rfl; (with_reducible repeat (first | refine blk_drewN ?_ _ | refine blk_drew ?_ | refine blk_alloc ?_ _)); refine blk_put (cs := #[.int .i64 0, .int .i64 0, .int .i64 0, .bool false, .slice none 0 0]) ?_ 1 _ rfl; (with_reducible repeat (first | refine blk_drewN ?_ _ | refine blk_drew ?_ | refine blk_alloc ?_ _)); refine blk_put (cs := #[.int .i64 0, .int .i64 0, .int .i64 0, .bool false, .slice none 0 0]) ?_ 0 _ rfl; (with_reducible repeat (first | refine blk_drewN ?_ _ | refine blk_drew ?_ | refine blk_alloc ?_ _)); exact BK137.out) Try.underlying100 rfl (by kernel_rfl)) rfl ?_
 exact ⟨_, by first | rfl | (simp [errW_none, errW_some] <;> rfl) | (simp [*, errW_none, errW_some] <;> rfl), by first | exact Kd.R_nil _ _ _ _ _ | exact Kd.N_nil _ _ _ _ _ | exact Kd.V_nil _ _ _ _ _ | exact Kd.Q_nil _ _ _ _ _ | exact Kd.S_nil _ _ _ _ _, by repeat (first | (with_reducible first | exact HB.out | apply below_alloc | apply pw_below_drewN | apply below_drew1 | refine below_set ?_ GE136.out | refine below_set ?_ GE137.out | refine below_set ?_ GE141.out) | exact HB.out)⟩
def emit_Tick.j0 : Nat → Int → Int → Int → Int → Int → Int → Int → Int → Int → Int → Int → Int → Int → Int → Bool → List Int → Option (Int × Int × Int × Bool × List Int × List Int × Int)
  | 0, _, _, _, _, _, _, _, _, _, _, _, _, _, _, _, _ => none
  | k + 1, x7, x222000, x222001, x222002, x222003, x222004, x222005, x222006, x222007, x222008, x222009, x224000, x224001, x224002, x224003, x224004 => (code_Encode.f k x224004 x224002 (mn x222006 (wrap64 (x7 - x224002)))).bind fun bt229 => (if bt229.2 = 0 then ((data_Make.f k x224000 x224001 x224002 bt229.1).bind fun bt233 => (if bt233.2 = 0 then (some (x224000, x224001, wrap64 (x224002 + (mn x222006 (wrap64 (x7 - x224002)))), x224003, x224004, bt233.1, 0)) else (some (0, 0, 0, false, ([] : List Int), ([] : List Int), bt233.2)))) else (some (0, 0, 0, false, ([] : List Int), ([] : List Int), bt229.2)))
def emit_Tick.f (k : Nat) (a0_0 : Int) (a0_1 : Int) (a0_2 : Int) (a0_3 : Int) (a0_4 : Int) (a0_5 : Int) (a0_6 : Int) (a0_7 : Int) (a0_8 : Int) (a0_9 : Int) (a1_0 : Int) (a1_1 : Int) (a1_2 : Int) (a1_3 : Bool) (l1_4 : List Int) : Option (Int × Int × Int × Bool × List Int × List Int × Int) := (emit_Check.f a0_0 a0_1 a0_2 a0_3 a0_4 a0_5 a0_6 a0_7 a0_8 a0_9 a1_0 a1_1 a1_2 a1_3 l1_4).bind fun t224 => (if t224 = 0 then ((Clone_bytes.f l1_4).bind fun t225 => (if a1_3 = true then (some (a1_0, a1_1, a1_2, a1_3, t225, ([] : List Int), 0)) else ((conf_Most.f a0_0 a0_1 a0_2 a0_3 a0_4 a0_5 a0_6 a0_7 a0_8 a0_9).bind fun t228 => (if a1_2 = t228 then (emit_Tick.j0 k t228 a0_0 a0_1 a0_2 a0_3 a0_4 a0_5 a0_6 a0_7 a0_8 a0_9 a1_0 (Int.tmod (wrap64 (a1_1 + 1)) 256) 0 a1_3 t225) else (emit_Tick.j0 k t228 a0_0 a0_1 a0_2 a0_3 a0_4 a0_5 a0_6 a0_7 a0_8 a0_9 a1_0 a1_1 a1_2 a1_3 t225))))) else (some (0, 0, 0, false, ([] : List Int), ([] : List Int), t224)))
set_option maxRecDepth 100000 in
theorem emit_Tick.calls.z1 {P : Prop} (h : P := by
  go_wp2
  go_meet
  first
    | case rel => exact ⟨_, (Int.tmod (wrap64 (a1_1 + 1)) 256), (0), H', ⟨by first | omega | exact Nat.le_refl _⟩, ⟨by (with_reducible repeat (first | apply Kd.R_alloc | apply Kd.R_drewN | apply Kd.R_drew)); exact Kd.R_mono (Kd.R_far (p := ⟨gb223, 2, none⟩) (Kd.R_far (p := ⟨gb223, 1, none⟩) (Kd.R_types HO227.out BK223.out (by decide)) (fun _ hk => hk.2) (.int .i64 (Int.tmod (wrap64 (a1_1 + 1)) 256))) (fun _ hk => hk.2) (.int .i64 0)) (fun _ hk => trivial)⟩, ⟨by (with_reducible repeat (first | refine blk_drewN ?_ _ | refine blk_drew ?_ | refine blk_alloc ?_ _)); refine blk_far ?_ NB221_223.out _; (with_reducible repeat (first | refine blk_drewN ?_ _ | refine blk_drew ?_ | refine blk_alloc ?_ _)); refine blk_far ?_ NB221_223.out _; (with_reducible repeat (first | refine blk_drewN ?_ _ | refine blk_drew ?_ | refine blk_alloc ?_ _)); exact BK221.out⟩, ⟨by (with_reducible repeat (first | refine blk_drewN ?_ _ | refine blk_drew ?_ | refine blk_alloc ?_ _)); refine blk_far ?_ NB222_223.out _; (with_reducible repeat (first | refine blk_drewN ?_ _ | refine blk_drew ?_ | refine blk_alloc ?_ _)); refine blk_far ?_ NB222_223.out _; (with_reducible repeat (first | refine blk_drewN ?_ _ | refine blk_drew ?_ | refine blk_alloc ?_ _)); exact BK222.out⟩, ⟨by (with_reducible repeat (first | refine blk_drewN ?_ _ | refine blk_drew ?_ | refine blk_alloc ?_ _)); refine blk_put (cs := #[.int .i64 a1_0, .int .i64 (Int.tmod (wrap64 (a1_1 + 1)) 256), .int .i64 a1_2, .bool false, .slice Ao36 t225.length co36]) ?_ 2 _ rfl; (with_reducible repeat (first | refine blk_drewN ?_ _ | refine blk_drew ?_ | refine blk_alloc ?_ _)); refine blk_put (cs := #[.int .i64 a1_0, .int .i64 a1_1, .int .i64 a1_2, .bool false, .slice Ao36 t225.length co36]) ?_ 1 _ rfl; (with_reducible repeat (first | refine blk_drewN ?_ _ | refine blk_drew ?_ | refine blk_alloc ?_ _)); exact BK223.out⟩, ⟨by repeat (first | (with_reducible first | exact HB.out | apply below_alloc | apply pw_below_drewN | apply below_drew1 | refine below_set ?_ GE221.out | refine below_set ?_ GE222.out | refine below_set ?_ GE223.out) | exact HB.out)⟩⟩
    | case rel => exact ⟨_, (a1_1), (a1_2), H', ⟨by first | omega | exact Nat.le_refl _⟩, ⟨by (with_reducible repeat (first | apply Kd.R_alloc | apply Kd.R_drewN | apply Kd.R_drew)); exact HO227.out⟩, ⟨by (with_reducible repeat (first | refine blk_drewN ?_ _ | refine blk_drew ?_ | refine blk_alloc ?_ _)); exact BK221.out⟩, ⟨by (with_reducible repeat (first | refine blk_drewN ?_ _ | refine blk_drew ?_ | refine blk_alloc ?_ _)); exact BK222.out⟩, ⟨by (with_reducible repeat (first | refine blk_drewN ?_ _ | refine blk_drew ?_ | refine blk_alloc ?_ _)); exact BK223.out⟩, ⟨by repeat (first | (with_reducible first | exact HB.out | apply below_alloc | apply pw_below_drewN | apply below_drew1 | refine below_set ?_ GE221.out | refine below_set ?_ GE222.out | refine below_set ?_ GE223.out) | exact HB.out)⟩⟩) : P := h
set_option maxHeartbeats 8000000 in
set_option maxRecDepth 100000 in
theorem emit_Tick.calls (k : Nat) (a0_0 : Int) (a0_1 : Int) (a0_2 : Int) (a0_3 : Int) (a0_4 : Int) (a0_5 : Int) (a0_6 : Int) (a0_7 : Int) (a0_8 : Int) (a0_9 : Int) (a1_0 : Int) (a1_1 : Int) (a1_2 : Int) (a1_3 : Bool) (A1_4 : Option Addr) (c1_4 : Nat) (l1_4 : List Int) (r1 : Int) (r2 : Int) (r3 : Int) (r4 : Bool) (r5 : List Int) (r6 : List Int) (r7 : Int) (w : World) (hr1_4 : Kd.C (Kd.int .u8) w A1_4 l1_4.length l1_4) (hc1_4 : l1_4.length ≤ c1_4) (h : emit_Tick.f k a0_0 a0_1 a0_2 a0_3 a0_4 a0_5 a0_6 a0_7 a0_8 a0_9 a1_0 a1_1 a1_2 a1_3 l1_4 = some (r1, r2, r3, r4, r5, r6, r7)) :
    Calls Try.prog 55 #[.agg #[.int .i64 a0_0, .int .i64 a0_1, .int .i64 a0_2, .int .i64 a0_3, .int .i64 a0_4, .int .i64 a0_5, .int .i64 a0_6, .int .i64 a0_7, .int .i64 a0_8, .int .i64 a0_9], .agg #[.int .i64 a1_0, .int .i64 a1_1, .int .i64 a1_2, .bool a1_3, .slice A1_4 l1_4.length c1_4]] w fun e w' => ∃ v4_ v5_ : Value, e = .returned (.tuple #[.agg #[.int .i64 r1, .int .i64 r2, .int .i64 r3, .bool r4, v4_], v5_, .int .i64 r7]) ∧ Kd.R (Kd.int .u8) 5 w' w.heap.size (fun k_ => some k_ ≠ (v5_ : Value).ownBlock) v4_ r5 ∧ Kd.R (Kd.int .u8) 5 w' w.heap.size (fun k_ => some k_ ≠ (v4_ : Value).ownBlock) v5_ r6 ∧ Below w.heap.size w w' := by
 have hu23 := Try.underlying23
 have hu100 := Try.underlying100
 have hu106 := Try.underlying106
 have HR1_4 := Aside0.mk hr1_4
 have HC1_4 := Aside0.mk hc1_4
 clear hr1_4 hc1_4
 have HB := Aside0.mk (Below.refl w.heap.size w)
 have H : ((emit_Check.f a0_0 a0_1 a0_2 a0_3 a0_4 a0_5 a0_6 a0_7 a0_8 a0_9 a1_0 a1_1 a1_2 a1_3 l1_4).bind fun t224 => (if t224 = 0 then ((Clone_bytes.f l1_4).bind fun t225 => (if a1_3 = true then (some (a1_0, a1_1, a1_2, a1_3, t225, ([] : List Int), 0)) else ((conf_Most.f a0_0 a0_1 a0_2 a0_3 a0_4 a0_5 a0_6 a0_7 a0_8 a0_9).bind fun t228 => (if a1_2 = t228 then (emit_Tick.j0 k t228 a0_0 a0_1 a0_2 a0_3 a0_4 a0_5 a0_6 a0_7 a0_8 a0_9 a1_0 (Int.tmod (wrap64 (a1_1 + 1)) 256) 0 a1_3 t225) else (emit_Tick.j0 k t228 a0_0 a0_1 a0_2 a0_3 a0_4 a0_5 a0_6 a0_7 a0_8 a0_9 a1_0 a1_1 a1_2 a1_3 t225))))) else (some (0, 0, 0, false, ([] : List Int), ([] : List Int), t224)))) = some (r1, r2, r3, r4, r5, r6, r7) := h
 clear h
 replace H := Option.bind_eq_some_iff.mp H
 obtain ⟨t224, A30, H⟩ := H
 replace H : (if t224 = 0 then ((Clone_bytes.f l1_4).bind fun t225 => (if a1_3 = true then (some (a1_0, a1_1, a1_2, a1_3, t225, ([] : List Int), 0)) else ((conf_Most.f a0_0 a0_1 a0_2 a0_3 a0_4 a0_5 a0_6 a0_7 a0_8 a0_9).bind fun t228 => (if a1_2 = t228 then (emit_Tick.j0 k t228 a0_0 a0_1 a0_2 a0_3 a0_4 a0_5 a0_6 a0_7 a0_8 a0_9 a1_0 (Int.tmod (wrap64 (a1_1 + 1)) 256) 0 a1_3 t225) else (emit_Tick.j0 k t228 a0_0 a0_1 a0_2 a0_3 a0_4 a0_5 a0_6 a0_7 a0_8 a0_9 a1_0 a1_1 a1_2 a1_3 t225))))) else (some (0, 0, 0, false, ([] : List Int), ([] : List Int), t224))) = some (r1, r2, r3, r4, r5, r6, r7) := H
 have A3 := Aside0.mk A30
 clear A30
 by_cases c4 : t224 = 0
 rotate_left
 · rw [if_neg c4] at H
   have c4b0 : (t224 == 0) = false := beq_eq_false_iff_ne.mpr c4
   have c4b1 : (t224 != 0) = true := bne_iff_ne.mpr c4
   simp only [Option.some.injEq, Prod.mk.injEq] at H
   obtain ⟨rfl, rfl, rfl, rfl, rfl, rfl, rfl⟩ := H
   go_enter Try.func55, Try.ntmps55
   go_wp2_with (first | ((with_reducible refine gate_dst (N := 2) rfl ?_); refine box_event ?hg (N := 2) ?hd (cs := #[.int .i64 a0_0, .int .i64 a0_1, .int .i64 a0_2, .int .i64 a0_3, .int .i64 a0_4, .int .i64 a0_5, .int .i64 a0_6, .int .i64 a0_7, .int .i64 a0_8, .int .i64 a0_9]) (t := 23) ?hr ?_; (case hd => rfl); (case hg => rfl); (case hr => first | (go_simp; done) | (go_simp; rfl)); intro gb221 hg w78 hbox hb; have BK221 := Aside0.mk (hbox); have GW221 := zg HB hg; have GE221 := zg HB hg; replace HB := zs HB hb; clear hb hbox hg) | ((with_reducible refine gate_dst (N := 3) rfl ?_); refine box_event ?hg (N := 3) ?hd (cs := #[.int .i64 a1_0, .int .i64 a1_1, .int .i64 a1_2, .bool a1_3, .slice A1_4 l1_4.length c1_4]) (t := 100) ?hr ?_; (case hd => rfl); (case hg => rfl); (case hr => first | (go_simp; done) | (go_simp; rfl)); intro gb222 hg w79 hbox hb; have BK222 := Aside0.mk (hbox); have GW222 := zg HB hg; have GE222 := zg HB hg; replace HB := zs HB hb; have NB221_222 := zl BK221 hg; have NB222_221 := zr BK221 hg; replace BK221 := zb BK221 hb; clear hb hbox hg) | ((with_reducible refine gate_dst (N := 4) rfl ?_); refine box_event ?hg (N := 4) ?hd (cs := #[.int .i64 0, .int .i64 0, .int .i64 0, .bool false, .slice none 0 0]) (t := 100) ?hr ?_; (case hd => rfl); (case hg => rfl); (case hr => first | (go_simp; done) | (go_simp; rfl)); intro gb223 hg w80 hbox hb; have BK223 := Aside0.mk (hbox); have GW223 := zg HB hg; have GE223 := zg HB hg; replace HB := zs HB hb; have NB221_223 := zl BK221 hg; have NB223_221 := zr BK221 hg; replace BK221 := zb BK221 hb; have NB222_223 := zl BK222 hg; have NB223_222 := zr BK222 hg; replace BK222 := zb BK222 hb; clear hb hbox hg; have hnb81 := NB221_222.out; have hnc81 := NB222_221.out; have hnb82 := NB221_223.out; have hnc82 := NB223_221.out; obtain ⟨hcz83_0, hcz83_1, hcz83_2, hcz83_3, hcz83_4, hcz83_5, hcz83_6, hcz83_7, hcz83_8, hcz83_9⟩ := zC10 BK221; obtain ⟨hfz83_0, hfz83_1, hfz83_2, hfz83_3, hfz83_4, hfz83_5, hfz83_6, hfz83_7, hfz83_8, hfz83_9⟩ := zF10 BK221; have hnb84 := NB222_223.out; have hnc84 := NB223_222.out; obtain ⟨hcz85_0, hcz85_1, hcz85_2, hcz85_3, hcz85_4⟩ := zC5 BK222; obtain ⟨hfz85_0, hfz85_1, hfz85_2, hfz85_3⟩ := zF4 BK222; have hfz85_4 := blk_frozen BK222.out 4) | ((with_reducible refine gate_callee (f := 97) rfl ?_); refine goesL_ (some 12) rfl rfl Try.func97 (by kernel_rfl) rfl #[.agg #[.int .i64 a0_0, .int .i64 a0_1, .int .i64 a0_2, .int .i64 a0_3, .int .i64 a0_4, .int .i64 a0_5, .int .i64 a0_6, .int .i64 a0_7, .int .i64 a0_8, .int .i64 a0_9], .agg #[.int .i64 a1_0, .int .i64 a1_1, .int .i64 a1_2, .bool a1_3, .slice A1_4 l1_4.length c1_4]] rfl (by (try simp only [List.map_toArray, List.map_cons, List.map_nil]); first | done | rfl | (simp only [List.length_drop, List.length_take]; rfl)) ?_; (with_reducible refine (emit_Check.calls a0_0 a0_1 a0_2 a0_3 a0_4 a0_5 a0_6 a0_7 a0_8 a0_9 a1_0 a1_1 a1_2 a1_3 _ _ l1_4 t224 _ ?side1 ?side2 A3.out).mono ?_); (case side1 => repeat (first | exact (Kd.C_below HR1_4.out HB.out) | (with_reducible refine Kd.C_alloc ?_ _) | (with_reducible refine Kd.C_drewN ?_ _) | (with_reducible refine Kd.C_drew ?_))); (case side2 => exact HC1_4.out); rintro e w86 ⟨rfl, hb⟩; refine ⟨_, rfl, ?_⟩; replace BK221 := zb BK221 hb; replace BK222 := zb BK222 hb; replace BK223 := zb BK223 hb; replace HB := zs HB hb; (try clear hb); (try clear hb2); (try clear hk); (try clear hi); obtain ⟨hcz87_0, hcz87_1, hcz87_2, hcz87_3, hcz87_4⟩ := zC5 BK223; obtain ⟨hfz87_0, hfz87_1, hfz87_2, hfz87_3⟩ := zF4 BK223; have hfz87_4 := blk_frozen BK223.out 4))
   refine bodyPost_ret (results_ctt rfl _ _ gb223 100 #[.int .i64 0, .int .i64 0, .int .i64 0, .bool false, .slice none 0 0] (0, 0) _ rfl (by (with_reducible repeat (first | refine blk_drewN ?_ _ | refine blk_drew ?_ | refine blk_alloc ?_ _)); refine blk_put (cs := #[.int .i64 0, .int .i64 0, .int .i64 0, .bool false, .slice none 0 0]) ?_ 4 _ rfl; (with_reducible repeat (first | refine blk_drewN ?_ _ | refine blk_drew ?_ | refine blk_alloc ?_ _)); refine blk_put (cs := #[.int .i64 0, .int .i64 0, .int .i64 0, .bool false, .slice none 0 0]) ?_ 3 _ rfl; (with_reducible repeat (first | refine blk_drewN ?_ _ | refine blk_drew ?_ | refine blk_alloc ?_ _)); refine blk_put (cs := #[.int .i64 0, .int .i64 0, .int .i64 0, .bool false, .slice none 0 0]) ?_ 2 _ rfl; (with_reducible repeat (first | refine blk_drewN ?_ _ | refine blk_drew ?_ | refine blk_alloc ?_ _)); refine blk_put (cs := #[.int .i64 0, .int .i64 0, .int .i64 0, .bool false, .slice none 0 0]) ?_ 1 _ rfl; (with_reducible repeat (first | refine blk_drewN ?_ _ | refine blk_drew ?_ | refine blk_alloc ?_ _)); refine blk_put (cs := #[.int .i64 0, .int .i64 0, .int .i64 0, .bool false, .slice none 0 0]) ?_ 0 _ rfl; (with_reducible repeat (first | refine blk_drewN ?_ _ | refine blk_drew ?_ | refine blk_alloc ?_ _)); exact BK223.out) Try.underlying100 rfl (by kernel_rfl)) rfl ?_
   exact ⟨_, _, by first | rfl | (simp [errW_none, errW_some] <;> rfl) | (simp [*, errW_none, errW_some] <;> rfl), by first | exact Kd.R_nil _ _ _ _ _ | exact Kd.N_nil _ _ _ _ _ | exact Kd.V_nil _ _ _ _ _ | exact Kd.Q_nil _ _ _ _ _ | exact Kd.S_nil _ _ _ _ _, by first | exact Kd.R_nil _ _ _ _ _ | exact Kd.N_nil _ _ _ _ _ | exact Kd.V_nil _ _ _ _ _ | exact Kd.Q_nil _ _ _ _ _ | exact Kd.S_nil _ _ _ _ _, by repeat (first | (with_reducible first | exact HB.out | apply below_alloc | apply pw_below_drewN | apply below_drew1 | refine below_set ?_ GE221.out | refine below_set ?_ GE222.out | refine below_set ?_ GE223.out) | exact HB.out)⟩
 rw [if_pos c4] at H
 have c4b0 : (t224 == 0) = true := beq_iff_eq.mpr c4
 have c4b1 : (t224 != 0) = false := bne_eq_false_iff_eq.mpr c4
 clear c4
 replace H := Option.bind_eq_some_iff.mp H
 obtain ⟨t225, A50, H⟩ := H
 replace H : (if a1_3 = true then (some (a1_0, a1_1, a1_2, a1_3, t225, ([] : List Int), 0)) else ((conf_Most.f a0_0 a0_1 a0_2 a0_3 a0_4 a0_5 a0_6 a0_7 a0_8 a0_9).bind fun t228 => (if a1_2 = t228 then (emit_Tick.j0 k t228 a0_0 a0_1 a0_2 a0_3 a0_4 a0_5 a0_6 a0_7 a0_8 a0_9 a1_0 (Int.tmod (wrap64 (a1_1 + 1)) 256) 0 a1_3 t225) else (emit_Tick.j0 k t228 a0_0 a0_1 a0_2 a0_3 a0_4 a0_5 a0_6 a0_7 a0_8 a0_9 a1_0 a1_1 a1_2 a1_3 t225)))) = some (r1, r2, r3, r4, r5, r6, r7) := H
 have A5 := Aside0.mk A50
 clear A50
 by_cases c6 : a1_3 = true
 · subst c6
   have H1 : (some (a1_0, a1_1, a1_2, true, t225, ([] : List Int), 0)) = some (r1, r2, r3, r4, r5, r6, r7) := by first | (rw [if_pos rfl] at H; exact H) | exact (if_pos rfl).symm.trans H
   clear H
   have H := H1
   clear H1
   simp only [Option.some.injEq, Prod.mk.injEq] at H
   obtain ⟨rfl, rfl, rfl, rfl, rfl, rfl, rfl⟩ := H
   go_enter Try.func55, Try.ntmps55
   go_wp2_with (first | ((with_reducible refine gate_dst (N := 2) rfl ?_); refine box_event ?hg (N := 2) ?hd (cs := #[.int .i64 a0_0, .int .i64 a0_1, .int .i64 a0_2, .int .i64 a0_3, .int .i64 a0_4, .int .i64 a0_5, .int .i64 a0_6, .int .i64 a0_7, .int .i64 a0_8, .int .i64 a0_9]) (t := 23) ?hr ?_; (case hd => rfl); (case hg => rfl); (case hr => first | (go_simp; done) | (go_simp; rfl)); intro gb221 hg w7 hbox hb; have BK221 := Aside0.mk (hbox); have GW221 := zg HB hg; have GE221 := zg HB hg; replace HB := zs HB hb; clear hb hbox hg) | ((with_reducible refine gate_dst (N := 3) rfl ?_); refine box_event ?hg (N := 3) ?hd (cs := #[.int .i64 a1_0, .int .i64 a1_1, .int .i64 a1_2, .bool true, .slice A1_4 l1_4.length c1_4]) (t := 100) ?hr ?_; (case hd => rfl); (case hg => rfl); (case hr => first | (go_simp; done) | (go_simp; rfl)); intro gb222 hg w8 hbox hb; have BK222 := Aside0.mk (hbox); have GW222 := zg HB hg; have GE222 := zg HB hg; replace HB := zs HB hb; have NB221_222 := zl BK221 hg; have NB222_221 := zr BK221 hg; replace BK221 := zb BK221 hb; clear hb hbox hg) | ((with_reducible refine gate_dst (N := 4) rfl ?_); refine box_event ?hg (N := 4) ?hd (cs := #[.int .i64 0, .int .i64 0, .int .i64 0, .bool false, .slice none 0 0]) (t := 100) ?hr ?_; (case hd => rfl); (case hg => rfl); (case hr => first | (go_simp; done) | (go_simp; rfl)); intro gb223 hg w9 hbox hb; have BK223 := Aside0.mk (hbox); have GW223 := zg HB hg; have GE223 := zg HB hg; replace HB := zs HB hb; have NB221_223 := zl BK221 hg; have NB223_221 := zr BK221 hg; replace BK221 := zb BK221 hb; have NB222_223 := zl BK222 hg; have NB223_222 := zr BK222 hg; replace BK222 := zb BK222 hb; clear hb hbox hg; have hnb10 := NB221_222.out; have hnc10 := NB222_221.out; have hnb11 := NB221_223.out; have hnc11 := NB223_221.out; obtain ⟨hcz12_0, hcz12_1, hcz12_2, hcz12_3, hcz12_4, hcz12_5, hcz12_6, hcz12_7, hcz12_8, hcz12_9⟩ := zC10 BK221; obtain ⟨hfz12_0, hfz12_1, hfz12_2, hfz12_3, hfz12_4, hfz12_5, hfz12_6, hfz12_7, hfz12_8, hfz12_9⟩ := zF10 BK221; have hnb13 := NB222_223.out; have hnc13 := NB223_222.out; obtain ⟨hcz14_0, hcz14_1, hcz14_2, hcz14_3, hcz14_4⟩ := zC5 BK222; obtain ⟨hfz14_0, hfz14_1, hfz14_2, hfz14_3⟩ := zF4 BK222; have hfz14_4 := blk_frozen BK222.out 4) | ((with_reducible refine gate_callee (f := 97) rfl ?_); refine goesL_ (some 12) rfl rfl Try.func97 (by kernel_rfl) rfl #[.agg #[.int .i64 a0_0, .int .i64 a0_1, .int .i64 a0_2, .int .i64 a0_3, .int .i64 a0_4, .int .i64 a0_5, .int .i64 a0_6, .int .i64 a0_7, .int .i64 a0_8, .int .i64 a0_9], .agg #[.int .i64 a1_0, .int .i64 a1_1, .int .i64 a1_2, .bool true, .slice A1_4 l1_4.length c1_4]] rfl (by (try simp only [List.map_toArray, List.map_cons, List.map_nil]); first | done | rfl | (simp only [List.length_drop, List.length_take]; rfl)) ?_; (with_reducible refine (emit_Check.calls a0_0 a0_1 a0_2 a0_3 a0_4 a0_5 a0_6 a0_7 a0_8 a0_9 a1_0 a1_1 a1_2 true _ _ l1_4 t224 _ ?side1 ?side2 A3.out).mono ?_); (case side1 => repeat (first | exact (Kd.C_below HR1_4.out HB.out) | (with_reducible refine Kd.C_alloc ?_ _) | (with_reducible refine Kd.C_drewN ?_ _) | (with_reducible refine Kd.C_drew ?_))); (case side2 => exact HC1_4.out); rintro e w15 ⟨rfl, hb⟩; refine ⟨_, rfl, ?_⟩; replace BK221 := zb BK221 hb; replace BK222 := zb BK222 hb; replace BK223 := zb BK223 hb; replace HB := zs HB hb; (try clear hb); (try clear hb2); (try clear hk); (try clear hi); obtain ⟨hcz16_0, hcz16_1, hcz16_2, hcz16_3, hcz16_4⟩ := zC5 BK222; obtain ⟨hfz16_0, hfz16_1, hfz16_2, hfz16_3, hfz16_4⟩ := zF5 BK222; obtain ⟨hcz17_0, hcz17_1, hcz17_2, hcz17_3, hcz17_4⟩ := zC5 BK223; obtain ⟨hfz17_0, hfz17_1, hfz17_2, hfz17_3⟩ := zF4 BK223; have hfz17_4 := blk_frozen BK223.out 4) | ((with_reducible refine gate_callee (f := 96) rfl ?_); refine goesL_ (some 20) rfl rfl Try.func96 (by kernel_rfl) rfl #[.slice A1_4 l1_4.length c1_4] rfl (by (try simp only [List.map_toArray, List.map_cons, List.map_nil]); first | done | rfl | (simp only [List.length_drop, List.length_take]; rfl)) ?_; (with_reducible refine (Clone_bytes.calls _ _ l1_4 t225 _ ?side1 ?side2 A5.out).mono ?_); (case side1 => exact Kd.C_below HR1_4.out (zB HB)); (case side2 => exact HC1_4.out); rintro e w18 ⟨v226, rfl, ho0, hb⟩; refine ⟨_, rfl, ?_⟩; have n0_ := Aside0.mk (Kd.R_lower ho0 (below_size (zB HB))); have n1_ := zb BK221 hb; have n2_ := zb BK222 hb; have n3_ := Aside0.mk (blk_below (g := gb223) (o := .cells #[.int .i64 a1_0, .int .i64 a1_1, .int .i64 a1_2, .bool true, .slice A1_4 l1_4.length c1_4] 100 (0, 0)) (by (with_reducible repeat (first | refine blk_drewN ?_ _ | refine blk_drew ?_ | refine blk_alloc ?_ _)); refine blk_put (cs := #[.int .i64 a1_0, .int .i64 a1_1, .int .i64 a1_2, .bool true, .slice none 0 0]) ?_ 4 _ rfl; (with_reducible repeat (first | refine blk_drewN ?_ _ | refine blk_drew ?_ | refine blk_alloc ?_ _)); refine blk_put (cs := #[.int .i64 a1_0, .int .i64 a1_1, .int .i64 a1_2, .bool false, .slice none 0 0]) ?_ 3 _ rfl; (with_reducible repeat (first | refine blk_drewN ?_ _ | refine blk_drew ?_ | refine blk_alloc ?_ _)); refine blk_put (cs := #[.int .i64 a1_0, .int .i64 a1_1, .int .i64 0, .bool false, .slice none 0 0]) ?_ 2 _ rfl; (with_reducible repeat (first | refine blk_drewN ?_ _ | refine blk_drew ?_ | refine blk_alloc ?_ _)); refine blk_put (cs := #[.int .i64 a1_0, .int .i64 0, .int .i64 0, .bool false, .slice none 0 0]) ?_ 1 _ rfl; (with_reducible repeat (first | refine blk_drewN ?_ _ | refine blk_drew ?_ | refine blk_alloc ?_ _)); refine blk_put (cs := #[.int .i64 0, .int .i64 0, .int .i64 0, .bool false, .slice none 0 0]) ?_ 0 _ rfl; (with_reducible repeat (first | refine blk_drewN ?_ _ | refine blk_drew ?_ | refine blk_alloc ?_ _)); exact BK223.out) hb); have n4_ := zs HB hb; clear BK221; clear BK222; clear BK223; clear HB; have HO227 := n0_; have BK221 := n1_; have BK222 := n2_; have BK223 := n3_; have HB := n4_; clear n0_ n1_ n2_ n3_ n4_; (try clear hb); (try clear hb2); (try clear hk); (try clear hi); (try clear ho0); obtain ⟨Ao19, co19, eo19⟩ := Kd.R_slice HO227.out; subst eo19; obtain ⟨hcz20_0, hcz20_1, hcz20_2, hcz20_3, hcz20_4⟩ := zC5 BK223; obtain ⟨hfz20_0, hfz20_1, hfz20_2, hfz20_3, hfz20_4⟩ := zF5 BK223; obtain ⟨hcz21_0, hcz21_1, hcz21_2, hcz21_3, hcz21_4⟩ := zC5 BK222; obtain ⟨hfz21_0, hfz21_1, hfz21_2, hfz21_3⟩ := zF4 BK222; have hfz21_4 := blk_frozen BK222.out 4))
   refine bodyPost_ret (results_ctt rfl _ _ gb223 100 #[.int .i64 a1_0, .int .i64 a1_1, .int .i64 a1_2, .bool true, .slice Ao19 t225.length co19] (0, 0) _ rfl (by (with_reducible repeat (first | refine blk_drewN ?_ _ | refine blk_drew ?_ | refine blk_alloc ?_ _)); refine blk_put (cs := #[.int .i64 a1_0, .int .i64 a1_1, .int .i64 a1_2, .bool true, .slice Ao19 t225.length co19]) ?_ 4 _ rfl; (with_reducible repeat (first | refine blk_drewN ?_ _ | refine blk_drew ?_ | refine blk_alloc ?_ _)); refine blk_put (cs := #[.int .i64 a1_0, .int .i64 a1_1, .int .i64 a1_2, .bool true, .slice Ao19 t225.length co19]) ?_ 3 _ rfl; (with_reducible repeat (first | refine blk_drewN ?_ _ | refine blk_drew ?_ | refine blk_alloc ?_ _)); refine blk_put (cs := #[.int .i64 a1_0, .int .i64 a1_1, .int .i64 a1_2, .bool true, .slice Ao19 t225.length co19]) ?_ 2 _ rfl; (with_reducible repeat (first | refine blk_drewN ?_ _ | refine blk_drew ?_ | refine blk_alloc ?_ _)); refine blk_put (cs := #[.int .i64 a1_0, .int .i64 a1_1, .int .i64 a1_2, .bool true, .slice Ao19 t225.length co19]) ?_ 1 _ rfl; (with_reducible repeat (first | refine blk_drewN ?_ _ | refine blk_drew ?_ | refine blk_alloc ?_ _)); refine blk_put (cs := #[.int .i64 a1_0, .int .i64 a1_1, .int .i64 a1_2, .bool true, .slice Ao19 t225.length co19]) ?_ 0 _ rfl; (with_reducible repeat (first | refine blk_drewN ?_ _ | refine blk_drew ?_ | refine blk_alloc ?_ _)); refine blk_put (cs := #[.int .i64 a1_0, .int .i64 a1_1, .int .i64 a1_2, .bool true, .slice A1_4 l1_4.length c1_4]) ?_ 4 _ rfl; (with_reducible repeat (first | refine blk_drewN ?_ _ | refine blk_drew ?_ | refine blk_alloc ?_ _)); exact BK223.out) Try.underlying100 rfl (by kernel_rfl)) rfl ?_
   exact ⟨_, _, by first | rfl | (simp [errW_none, errW_some] <;> rfl) | (simp [*, errW_none, errW_some] <;> rfl), by (with_reducible repeat (first | apply Kd.R_alloc | apply Kd.R_drewN | apply Kd.R_drew)); exact Kd.R_mono (Kd.R_far (p := ⟨gb223, 4, none⟩) (Kd.R_far (p := ⟨gb223, 3, none⟩) (Kd.R_far (p := ⟨gb223, 2, none⟩) (Kd.R_far (p := ⟨gb223, 1, none⟩) (Kd.R_far (p := ⟨gb223, 0, none⟩) (Kd.R_far (p := ⟨gb223, 4, none⟩) (Kd.R_types HO227.out BK223.out (by decide)) (fun _ hk => hk.2) (.slice Ao19 t225.length co19)) (fun _ hk => hk.2) (.int .i64 a1_0)) (fun _ hk => hk.2) (.int .i64 a1_1)) (fun _ hk => hk.2) (.int .i64 a1_2)) (fun _ hk => hk.2) (.bool true)) (fun _ hk => hk.2) (.slice Ao19 t225.length co19)) (fun _ hk => (by simp [Value.ownBlock])), by first | exact Kd.R_nil _ _ _ _ _ | exact Kd.N_nil _ _ _ _ _ | exact Kd.V_nil _ _ _ _ _ | exact Kd.Q_nil _ _ _ _ _ | exact Kd.S_nil _ _ _ _ _, by repeat (first | (with_reducible first | exact HB.out | apply below_alloc | apply pw_below_drewN | apply below_drew1 | refine below_set ?_ GE221.out | refine below_set ?_ GE222.out | refine below_set ?_ GE223.out) | exact HB.out)⟩
 replace c6 := Bool.eq_false_iff.mpr c6
 subst c6
 have H1 : ((conf_Most.f a0_0 a0_1 a0_2 a0_3 a0_4 a0_5 a0_6 a0_7 a0_8 a0_9).bind fun t228 => (if a1_2 = t228 then (emit_Tick.j0 k t228 a0_0 a0_1 a0_2 a0_3 a0_4 a0_5 a0_6 a0_7 a0_8 a0_9 a1_0 (Int.tmod (wrap64 (a1_1 + 1)) 256) 0 false t225) else (emit_Tick.j0 k t228 a0_0 a0_1 a0_2 a0_3 a0_4 a0_5 a0_6 a0_7 a0_8 a0_9 a1_0 a1_1 a1_2 false t225))) = some (r1, r2, r3, r4, r5, r6, r7) := by rw [if_neg (show ¬ (false = true) by decide)] at H; exact H
 clear H
 have H := H1
 clear H1
 replace H := Option.bind_eq_some_iff.mp H
 obtain ⟨t228, A220, H⟩ := H
 replace H : (if a1_2 = t228 then (emit_Tick.j0 k t228 a0_0 a0_1 a0_2 a0_3 a0_4 a0_5 a0_6 a0_7 a0_8 a0_9 a1_0 (Int.tmod (wrap64 (a1_1 + 1)) 256) 0 false t225) else (emit_Tick.j0 k t228 a0_0 a0_1 a0_2 a0_3 a0_4 a0_5 a0_6 a0_7 a0_8 a0_9 a1_0 a1_1 a1_2 false t225)) = some (r1, r2, r3, r4, r5, r6, r7) := H
 have A22 := Aside0.mk A220
 clear A220
 have HC23 := Aside0.mk H
 clear H
 go_enter Try.func55, Try.ntmps55
 go_upto_if 30 with (first | ((with_reducible refine gate_dst (N := 2) rfl ?_); refine box_event ?hg (N := 2) ?hd (cs := #[.int .i64 a0_0, .int .i64 a0_1, .int .i64 a0_2, .int .i64 a0_3, .int .i64 a0_4, .int .i64 a0_5, .int .i64 a0_6, .int .i64 a0_7, .int .i64 a0_8, .int .i64 a0_9]) (t := 23) ?hr ?_; (case hd => rfl); (case hg => rfl); (case hr => first | (go_simp; done) | (go_simp; rfl)); intro gb221 hg w24 hbox hb; have BK221 := Aside0.mk (hbox); have GW221 := zg HB hg; have GE221 := zg HB hg; replace HB := zs HB hb; clear hb hbox hg) | ((with_reducible refine gate_dst (N := 3) rfl ?_); refine box_event ?hg (N := 3) ?hd (cs := #[.int .i64 a1_0, .int .i64 a1_1, .int .i64 a1_2, .bool false, .slice A1_4 l1_4.length c1_4]) (t := 100) ?hr ?_; (case hd => rfl); (case hg => rfl); (case hr => first | (go_simp; done) | (go_simp; rfl)); intro gb222 hg w25 hbox hb; have BK222 := Aside0.mk (hbox); have GW222 := zg HB hg; have GE222 := zg HB hg; replace HB := zs HB hb; have NB221_222 := zl BK221 hg; have NB222_221 := zr BK221 hg; replace BK221 := zb BK221 hb; clear hb hbox hg) | ((with_reducible refine gate_dst (N := 4) rfl ?_); refine box_event ?hg (N := 4) ?hd (cs := #[.int .i64 0, .int .i64 0, .int .i64 0, .bool false, .slice none 0 0]) (t := 100) ?hr ?_; (case hd => rfl); (case hg => rfl); (case hr => first | (go_simp; done) | (go_simp; rfl)); intro gb223 hg w26 hbox hb; have BK223 := Aside0.mk (hbox); have GW223 := zg HB hg; have GE223 := zg HB hg; replace HB := zs HB hb; have NB221_223 := zl BK221 hg; have NB223_221 := zr BK221 hg; replace BK221 := zb BK221 hb; have NB222_223 := zl BK222 hg; have NB223_222 := zr BK222 hg; replace BK222 := zb BK222 hb; clear hb hbox hg; have hnb27 := NB221_222.out; have hnc27 := NB222_221.out; have hnb28 := NB221_223.out; have hnc28 := NB223_221.out; obtain ⟨hcz29_0, hcz29_1, hcz29_2, hcz29_3, hcz29_4, hcz29_5, hcz29_6, hcz29_7, hcz29_8, hcz29_9⟩ := zC10 BK221; obtain ⟨hfz29_0, hfz29_1, hfz29_2, hfz29_3, hfz29_4, hfz29_5, hfz29_6, hfz29_7, hfz29_8, hfz29_9⟩ := zF10 BK221; have hnb30 := NB222_223.out; have hnc30 := NB223_222.out; obtain ⟨hcz31_0, hcz31_1, hcz31_2, hcz31_3, hcz31_4⟩ := zC5 BK222; obtain ⟨hfz31_0, hfz31_1, hfz31_2, hfz31_3⟩ := zF4 BK222; have hfz31_4 := blk_frozen BK222.out 4) | ((with_reducible refine gate_callee (f := 97) rfl ?_); refine goesL_ (some 12) rfl rfl Try.func97 (by kernel_rfl) rfl #[.agg #[.int .i64 a0_0, .int .i64 a0_1, .int .i64 a0_2, .int .i64 a0_3, .int .i64 a0_4, .int .i64 a0_5, .int .i64 a0_6, .int .i64 a0_7, .int .i64 a0_8, .int .i64 a0_9], .agg #[.int .i64 a1_0, .int .i64 a1_1, .int .i64 a1_2, .bool false, .slice A1_4 l1_4.length c1_4]] rfl (by (try simp only [List.map_toArray, List.map_cons, List.map_nil]); first | done | rfl | (simp only [List.length_drop, List.length_take]; rfl)) ?_; (with_reducible refine (emit_Check.calls a0_0 a0_1 a0_2 a0_3 a0_4 a0_5 a0_6 a0_7 a0_8 a0_9 a1_0 a1_1 a1_2 false _ _ l1_4 t224 _ ?side1 ?side2 A3.out).mono ?_); (case side1 => repeat (first | exact (Kd.C_below HR1_4.out HB.out) | (with_reducible refine Kd.C_alloc ?_ _) | (with_reducible refine Kd.C_drewN ?_ _) | (with_reducible refine Kd.C_drew ?_))); (case side2 => exact HC1_4.out); rintro e w32 ⟨rfl, hb⟩; refine ⟨_, rfl, ?_⟩; replace BK221 := zb BK221 hb; replace BK222 := zb BK222 hb; replace BK223 := zb BK223 hb; replace HB := zs HB hb; (try clear hb); (try clear hb2); (try clear hk); (try clear hi); obtain ⟨hcz33_0, hcz33_1, hcz33_2, hcz33_3, hcz33_4⟩ := zC5 BK222; obtain ⟨hfz33_0, hfz33_1, hfz33_2, hfz33_3, hfz33_4⟩ := zF5 BK222; obtain ⟨hcz34_0, hcz34_1, hcz34_2, hcz34_3, hcz34_4⟩ := zC5 BK223; obtain ⟨hfz34_0, hfz34_1, hfz34_2, hfz34_3⟩ := zF4 BK223; have hfz34_4 := blk_frozen BK223.out 4) | ((with_reducible refine gate_callee (f := 96) rfl ?_); refine goesL_ (some 20) rfl rfl Try.func96 (by kernel_rfl) rfl #[.slice A1_4 l1_4.length c1_4] rfl (by (try simp only [List.map_toArray, List.map_cons, List.map_nil]); first | done | rfl | (simp only [List.length_drop, List.length_take]; rfl)) ?_; (with_reducible refine (Clone_bytes.calls _ _ l1_4 t225 _ ?side1 ?side2 A5.out).mono ?_); (case side1 => exact Kd.C_below HR1_4.out (zB HB)); (case side2 => exact HC1_4.out); rintro e w35 ⟨v226, rfl, ho0, hb⟩; refine ⟨_, rfl, ?_⟩; have n0_ := Aside0.mk (Kd.R_lower ho0 (below_size (zB HB))); have n1_ := zb BK221 hb; have n2_ := zb BK222 hb; have n3_ := Aside0.mk (blk_below (g := gb223) (o := .cells #[.int .i64 a1_0, .int .i64 a1_1, .int .i64 a1_2, .bool false, .slice A1_4 l1_4.length c1_4] 100 (0, 0)) (by (with_reducible repeat (first | refine blk_drewN ?_ _ | refine blk_drew ?_ | refine blk_alloc ?_ _)); refine blk_put (cs := #[.int .i64 a1_0, .int .i64 a1_1, .int .i64 a1_2, .bool false, .slice none 0 0]) ?_ 4 _ rfl; (with_reducible repeat (first | refine blk_drewN ?_ _ | refine blk_drew ?_ | refine blk_alloc ?_ _)); refine blk_put (cs := #[.int .i64 a1_0, .int .i64 a1_1, .int .i64 a1_2, .bool false, .slice none 0 0]) ?_ 3 _ rfl; (with_reducible repeat (first | refine blk_drewN ?_ _ | refine blk_drew ?_ | refine blk_alloc ?_ _)); refine blk_put (cs := #[.int .i64 a1_0, .int .i64 a1_1, .int .i64 0, .bool false, .slice none 0 0]) ?_ 2 _ rfl; (with_reducible repeat (first | refine blk_drewN ?_ _ | refine blk_drew ?_ | refine blk_alloc ?_ _)); refine blk_put (cs := #[.int .i64 a1_0, .int .i64 0, .int .i64 0, .bool false, .slice none 0 0]) ?_ 1 _ rfl; (with_reducible repeat (first | refine blk_drewN ?_ _ | refine blk_drew ?_ | refine blk_alloc ?_ _)); refine blk_put (cs := #[.int .i64 0, .int .i64 0, .int .i64 0, .bool false, .slice none 0 0]) ?_ 0 _ rfl; (with_reducible repeat (first | refine blk_drewN ?_ _ | refine blk_drew ?_ | refine blk_alloc ?_ _)); exact BK223.out) hb); have n4_ := zs HB hb; clear BK221; clear BK222; clear BK223; clear HB; have HO227 := n0_; have BK221 := n1_; have BK222 := n2_; have BK223 := n3_; have HB := n4_; clear n0_ n1_ n2_ n3_ n4_; (try clear hb); (try clear hb2); (try clear hk); (try clear hi); (try clear ho0); obtain ⟨Ao36, co36, eo36⟩ := Kd.R_slice HO227.out; subst eo36; obtain ⟨hcz37_0, hcz37_1, hcz37_2, hcz37_3, hcz37_4⟩ := zC5 BK223; obtain ⟨hfz37_0, hfz37_1, hfz37_2, hfz37_3, hfz37_4⟩ := zF5 BK223; obtain ⟨hcz38_0, hcz38_1, hcz38_2, hcz38_3, hcz38_4⟩ := zC5 BK222; obtain ⟨hfz38_0, hfz38_1, hfz38_2, hfz38_3, hfz38_4⟩ := zF5 BK222; obtain ⟨hcz39_0, hcz39_1, hcz39_2, hcz39_3, hcz39_4, hcz39_5, hcz39_6, hcz39_7, hcz39_8, hcz39_9⟩ := zC10 BK221; have hfz39_0 := blk_frozen BK221.out 0; have hfz39_1 := blk_frozen BK221.out 1; have hfz39_2 := blk_frozen BK221.out 2; have hfz39_3 := blk_frozen BK221.out 3; have hfz39_4 := blk_frozen BK221.out 4; have hfz39_5 := blk_frozen BK221.out 5; have hfz39_6 := blk_frozen BK221.out 6; have hfz39_7 := blk_frozen BK221.out 7; have hfz39_8 := blk_frozen BK221.out 8; have hfz39_9 := blk_frozen BK221.out 9) | ((with_reducible refine gate_callee (f := 17) rfl ?_); refine goesL_ (some 26) rfl rfl Try.func17 (by kernel_rfl) rfl #[.agg #[.int .i64 a0_0, .int .i64 a0_1, .int .i64 a0_2, .int .i64 a0_3, .int .i64 a0_4, .int .i64 a0_5, .int .i64 a0_6, .int .i64 a0_7, .int .i64 a0_8, .int .i64 a0_9]] rfl (by (try simp only [List.map_toArray, List.map_cons, List.map_nil]); first | done | rfl | (simp only [List.length_drop, List.length_take]; rfl)) ?_; (with_reducible refine (conf_Most.calls a0_0 a0_1 a0_2 a0_3 a0_4 a0_5 a0_6 a0_7 a0_8 a0_9 t228 _ A22.out).mono ?_); rintro e w40 ⟨rfl, hb⟩; refine ⟨_, rfl, ?_⟩; have n0_ := Aside0.mk (Kd.R_below (by (with_reducible repeat (first | apply Kd.R_alloc | apply Kd.R_drewN | apply Kd.R_drew)); exact (Kd.R_mono (Kd.R_far (p := ⟨gb223, 4, none⟩) (Kd.R_types HO227.out BK223.out (by decide)) (fun _ hk => hk.2) (.slice Ao36 t225.length co36)) (fun _ h_ => h_.1))) hb); have n1_ := zb BK221 hb; have n2_ := zb BK222 hb; have n3_ := Aside0.mk (blk_below (g := gb223) (o := .cells #[.int .i64 a1_0, .int .i64 a1_1, .int .i64 a1_2, .bool false, .slice Ao36 t225.length co36] 100 (0, 0)) (by (with_reducible repeat (first | refine blk_drewN ?_ _ | refine blk_drew ?_ | refine blk_alloc ?_ _)); refine blk_put (cs := #[.int .i64 a1_0, .int .i64 a1_1, .int .i64 a1_2, .bool false, .slice A1_4 l1_4.length c1_4]) ?_ 4 _ rfl; (with_reducible repeat (first | refine blk_drewN ?_ _ | refine blk_drew ?_ | refine blk_alloc ?_ _)); exact BK223.out) hb); have n4_ := zs HB hb; clear HO227; clear BK221; clear BK222; clear BK223; clear HB; have HO227 := n0_; have BK221 := n1_; have BK222 := n2_; have BK223 := n3_; have HB := n4_; clear n0_ n1_ n2_ n3_ n4_; (try clear hb); (try clear hb2); (try clear hk); (try clear hi); obtain ⟨hcz41_0, hcz41_1, hcz41_2, hcz41_3, hcz41_4⟩ := zC5 BK223; obtain ⟨hfz41_0, hfz41_1, hfz41_2, hfz41_3⟩ := zF4 BK223; have hfz41_4 := blk_frozen BK223.out 4))
 (try simp only [Act.put, List.setIfInBounds_toArray, List.set_cons_zero, List.set_cons_succ])
 go_cut [] (fun wc => ∃ (kq : Nat) (x224001_22 : Int) (x224002_22 : Int), Aside0 (emit_Tick.j0 kq t228 a0_0 a0_1 a0_2 a0_3 a0_4 a0_5 a0_6 a0_7 a0_8 a0_9 a1_0 x224001_22 x224002_22 false t225 = some (r1, r2, r3, r4, r5, r6, r7)) ∧ Aside0 (kq ≤ k) ∧ Aside0 (Kd.R (Kd.int .u8) 5 wc w.heap.size (fun _ => True) (.slice Ao36 t225.length co36) t225) ∧ Aside0 (wc.heap[gb221]? = some (.cells #[.int .i64 a0_0, .int .i64 a0_1, .int .i64 a0_2, .int .i64 a0_3, .int .i64 a0_4, .int .i64 a0_5, .int .i64 a0_6, .int .i64 a0_7, .int .i64 a0_8, .int .i64 a0_9] 23 (0, 0))) ∧ Aside0 (wc.heap[gb222]? = some (.cells #[.int .i64 a1_0, .int .i64 a1_1, .int .i64 a1_2, .bool false, (.slice A1_4 l1_4.length c1_4)] 100 (0, 0))) ∧ Aside0 (wc.heap[gb223]? = some (.cells #[.int .i64 a1_0, .int .i64 x224001_22, .int .i64 x224002_22, .bool false, (.slice Ao36 t225.length co36)] 100 (0, 0))) ∧ Aside0 (Below w.heap.size w wc))
 case first =>
  have H := HC23.out
  clear HC23
  by_cases c42 : a1_2 = t228
  rotate_left
  · rw [if_neg c42] at H
    have c42b0 : (a1_2 == t228) = false := beq_eq_false_iff_ne.mpr c42
    have c42b1 : (a1_2 != t228) = true := bne_iff_ne.mpr c42
    (first | rw [c42b0] | (simp only [i64_w, i32_w]; rw [c42b0]) | skip)
    have H' := Aside0.mk H
    clear H
    exact emit_Tick.calls.z1
  rw [if_pos c42] at H
  have c42b0 : (a1_2 == t228) = true := beq_iff_eq.mpr c42
  have c42b1 : (a1_2 != t228) = false := bne_eq_false_iff_eq.mpr c42
  clear c42
  (first | rw [c42b0] | (simp only [i64_w, i32_w]; rw [c42b0]) | skip)
  have H' := Aside0.mk H
  clear H
  have hnb43 := NB223_221.out
  have hnc43 := NB221_223.out
  have hnb44 := NB223_222.out
  have hnc44 := NB222_223.out
  obtain ⟨hcz45_0, hcz45_1, hcz45_2, hcz45_3, hcz45_4⟩ := zC5 BK223
  obtain ⟨hfz45_0, hfz45_1, hfz45_2, hfz45_3, hfz45_4⟩ := zF5 BK223
  exact emit_Tick.calls.z1
 clear HC23
 try clear c1
 try clear c2
 try clear p2
 try clear c3
 try clear c4
 try clear c4b0
 try clear c4b1
 try clear c5
 try clear c6
 try clear p6
 try clear c9
 try clear c10
 try clear c11
 try clear c13
 try clear c17
 try clear c27
 try clear c28
 try clear c30
 try clear c42
 try clear c42b0
 try clear c42b1
 try clear c43
 try clear c44
 try clear hcz12_0
 try clear hcz12_1
 try clear hcz12_2
 try clear hcz12_3
 try clear hcz12_4
 try clear hcz12_5
 try clear hcz12_6
 try clear hcz12_7
 try clear hcz12_8
 try clear hcz12_9
 try clear hcz14_0
 try clear hcz14_1
 try clear hcz14_2
 try clear hcz14_3
 try clear hcz14_4
 try clear hcz16_0
 try clear hcz16_1
 try clear hcz16_2
 try clear hcz16_3
 try clear hcz16_4
 try clear hcz17_0
 try clear hcz17_1
 try clear hcz17_2
 try clear hcz17_3
 try clear hcz17_4
 try clear hcz20_0
 try clear hcz20_1
 try clear hcz20_2
 try clear hcz20_3
 try clear hcz20_4
 try clear hcz21_0
 try clear hcz21_1
 try clear hcz21_2
 try clear hcz21_3
 try clear hcz21_4
 try clear hcz29_0
 try clear hcz29_1
 try clear hcz29_2
 try clear hcz29_3
 try clear hcz29_4
 try clear hcz29_5
 try clear hcz29_6
 try clear hcz29_7
 try clear hcz29_8
 try clear hcz29_9
 try clear hcz31_0
 try clear hcz31_1
 try clear hcz31_2
 try clear hcz31_3
 try clear hcz31_4
 try clear hcz33_0
 try clear hcz33_1
 try clear hcz33_2
 try clear hcz33_3
 try clear hcz33_4
 try clear hcz34_0
 try clear hcz34_1
 try clear hcz34_2
 try clear hcz34_3
 try clear hcz34_4
 try clear hcz37_0
 try clear hcz37_1
 try clear hcz37_2
 try clear hcz37_3
 try clear hcz37_4
 try clear hcz38_0
 try clear hcz38_1
 try clear hcz38_2
 try clear hcz38_3
 try clear hcz38_4
 try clear hcz39_0
 try clear hcz39_1
 try clear hcz39_2
 try clear hcz39_3
 try clear hcz39_4
 try clear hcz39_5
 try clear hcz39_6
 try clear hcz39_7
 try clear hcz39_8
 try clear hcz39_9
 try clear hcz41_0
 try clear hcz41_1
 try clear hcz41_2
 try clear hcz41_3
 try clear hcz41_4
 try clear hcz45_0
 try clear hcz45_1
 try clear hcz45_2
 try clear hcz45_3
 try clear hcz45_4
 try clear hfz12_0
 try clear hfz12_1
 try clear hfz12_2
 try clear hfz12_3
 try clear hfz12_4
 try clear hfz12_5
 try clear hfz12_6
 try clear hfz12_7
 try clear hfz12_8
 try clear hfz12_9
 try clear hfz14_0
 try clear hfz14_1
 try clear hfz14_2
 try clear hfz14_3
 try clear hfz14_4
 try clear hfz16_0
 try clear hfz16_1
 try clear hfz16_2
 try clear hfz16_3
 try clear hfz16_4
 try clear hfz17_0
 try clear hfz17_1
 try clear hfz17_2
 try clear hfz17_3
 try clear hfz17_4
 try clear hfz20_0
 try clear hfz20_1
 try clear hfz20_2
 try clear hfz20_3
 try clear hfz20_4
 try clear hfz21_0
 try clear hfz21_1
 try clear hfz21_2
 try clear hfz21_3
 try clear hfz21_4
 try clear hfz29_0
 try clear hfz29_1
 try clear hfz29_2
 try clear hfz29_3
 try clear hfz29_4
 try clear hfz29_5
 try clear hfz29_6
 try clear hfz29_7
 try clear hfz29_8
 try clear hfz29_9
 try clear hfz31_0
 try clear hfz31_1
 try clear hfz31_2
 try clear hfz31_3
 try clear hfz31_4
 try clear hfz33_0
 try clear hfz33_1
 try clear hfz33_2
 try clear hfz33_3
 try clear hfz33_4
 try clear hfz34_0
 try clear hfz34_1
 try clear hfz34_2
 try clear hfz34_3
 try clear hfz34_4
 try clear hfz37_0
 try clear hfz37_1
 try clear hfz37_2
 try clear hfz37_3
 try clear hfz37_4
 try clear hfz38_0
 try clear hfz38_1
 try clear hfz38_2
 try clear hfz38_3
 try clear hfz38_4
 try clear hfz39_0
 try clear hfz39_1
 try clear hfz39_2
 try clear hfz39_3
 try clear hfz39_4
 try clear hfz39_5
 try clear hfz39_6
 try clear hfz39_7
 try clear hfz39_8
 try clear hfz39_9
 try clear hfz41_0
 try clear hfz41_1
 try clear hfz41_2
 try clear hfz41_3
 try clear hfz41_4
 try clear hfz45_0
 try clear hfz45_1
 try clear hfz45_2
 try clear hfz45_3
 try clear hfz45_4
 obtain ⟨kq, x224001_22, x224002_22, HA, HJ22, HO_224004, BK221, BK222, BK223, HB⟩ := hcut
 cases kq with
 | zero => exact absurd HA.out (by simp [emit_Tick.j0])
 | succ kj22 => ?_
 have H := HA.out
 clear HA
 simp only [emit_Tick.j0] at H
 obtain ⟨ji46, hji46⟩ : ∃ j_ : Int, (mn a0_6 (wrap64 (t228 - x224002_22))) = j_ := ⟨_, rfl⟩
 replace H : ((code_Encode.f kj22 t225 x224002_22 (ji46)).bind fun bt229 => (if bt229.2 = 0 then ((data_Make.f kj22 a1_0 x224001_22 x224002_22 bt229.1).bind fun bt233 => (if bt233.2 = 0 then (some (a1_0, x224001_22, wrap64 (x224002_22 + (ji46)), false, t225, bt233.1, 0)) else (some (0, 0, 0, false, ([] : List Int), ([] : List Int), bt233.2)))) else (some (0, 0, 0, false, ([] : List Int), ([] : List Int), bt229.2)))) = some (r1, r2, r3, r4, r5, r6, r7) := by first | (rw [hji46] at H; exact H) | (simp only [hji46] at H ⊢; exact H)
 have hji46_ : (if (wrap64 (t228 - x224002_22)) < a0_6 then (wrap64 (t228 - x224002_22)) else a0_6) = ji46 := hji46
 replace H := Option.bind_eq_some_iff.mp H
 obtain ⟨⟨t229, t230⟩, A470, H⟩ := H
 replace H : (if t230 = 0 then ((data_Make.f kj22 a1_0 x224001_22 x224002_22 t229).bind fun bt233 => (if bt233.2 = 0 then (some (a1_0, x224001_22, wrap64 (x224002_22 + (ji46)), false, t225, bt233.1, 0)) else (some (0, 0, 0, false, ([] : List Int), ([] : List Int), bt233.2)))) else (some (0, 0, 0, false, ([] : List Int), ([] : List Int), t230))) = some (r1, r2, r3, r4, r5, r6, r7) := H
 have A47 := Aside0.mk A470
 clear A470
 by_cases c48 : t230 = 0
 rotate_left
 · rw [if_neg c48] at H
   have c48b0 : (t230 == 0) = false := beq_eq_false_iff_ne.mpr c48
   have c48b1 : (t230 != 0) = true := bne_iff_ne.mpr c48
   simp only [Option.some.injEq, Prod.mk.injEq] at H
   obtain ⟨rfl, rfl, rfl, rfl, rfl, rfl, rfl⟩ := H
   have hnb71 := NB221_222.out
   have hnc71 := NB222_221.out
   have hnb72 := NB221_223.out
   have hnc72 := NB223_221.out
   obtain ⟨hcz73_0, hcz73_1, hcz73_2, hcz73_3, hcz73_4, hcz73_5, hcz73_6, hcz73_7, hcz73_8, hcz73_9⟩ := zC10 BK221
   obtain ⟨hfz73_0, hfz73_1, hfz73_2, hfz73_3, hfz73_4, hfz73_5, hfz73_6, hfz73_7, hfz73_8, hfz73_9⟩ := zF10 BK221
   have hnb74 := NB223_222.out
   have hnc74 := NB222_223.out
   obtain ⟨hcz75_0, hcz75_1, hcz75_2, hcz75_3, hcz75_4⟩ := zC5 BK223
   obtain ⟨hfz75_0, hfz75_1, hfz75_2, hfz75_3, hfz75_4⟩ := zF5 BK223
   go_wp2_with (first | ((with_reducible refine gate_callee (f := 77) rfl ?_); refine goesL_ (some 50) rfl rfl Try.func77 (by kernel_rfl) rfl #[.slice Ao36 t225.length co36, .int .i64 x224002_22, .int .i64 ji46] rfl (by (try simp only [List.map_toArray, List.map_cons, List.map_nil]); first | done | (simp only [hji46]; rfl) | rfl | (simp only [List.length_drop, List.length_take]; rfl)) ?_; (with_reducible refine (code_Encode.calls kj22 _ _ t225 x224002_22 ji46 t229 t230 _ ?side1 ?side2 A47.out).mono ?_); (case side1 => repeat (first | exact (Kd.R_reads' HO_224004.out).2.2 | (with_reducible refine Kd.C_alloc ?_ _) | (with_reducible refine Kd.C_drewN ?_ _) | (with_reducible refine Kd.C_drew ?_))); (case side2 => exact (Kd.R_reads' HO_224004.out).2.1); rintro e w76 ⟨v231, rfl, ho0, hb⟩; refine ⟨_, rfl, ?_⟩; have HO232 := Aside0.mk (Kd.R_lower (Kd.R_new' ho0 (Kd.R_lt (zr_ HO_224004))) (below_size (zB HB))); replace HO_224004 := Aside0.mk (Kd.R_elder' (zr_ HO_224004) (Kd.R_base ho0) hb); replace BK221 := zb BK221 hb; replace BK222 := zb BK222 hb; replace BK223 := zb BK223 hb; replace HB := zs HB hb; (try clear hb); (try clear hb2); (try clear hk); (try clear hi); (try clear ho0); obtain ⟨hcz77_0, hcz77_1, hcz77_2, hcz77_3, hcz77_4⟩ := zC5 BK223; obtain ⟨hfz77_0, hfz77_1, hfz77_2, hfz77_3⟩ := zF4 BK223; have hfz77_4 := blk_frozen BK223.out 4))
   refine bodyPost_ret (results_ctt rfl _ _ gb223 100 #[.int .i64 0, .int .i64 0, .int .i64 0, .bool false, .slice none 0 0] (0, 0) _ rfl (by (with_reducible repeat (first | refine blk_drewN ?_ _ | refine blk_drew ?_ | refine blk_alloc ?_ _)); refine blk_put (cs := #[.int .i64 0, .int .i64 0, .int .i64 0, .bool false, .slice Ao36 t225.length co36]) ?_ 4 _ rfl; (with_reducible repeat (first | refine blk_drewN ?_ _ | refine blk_drew ?_ | refine blk_alloc ?_ _)); refine blk_put (cs := #[.int .i64 0, .int .i64 0, .int .i64 0, .bool false, .slice Ao36 t225.length co36]) ?_ 3 _ rfl; (with_reducible repeat (first | refine blk_drewN ?_ _ | refine blk_drew ?_ | refine blk_alloc ?_ _)); refine blk_put (cs := #[.int .i64 0, .int .i64 0, .int .i64 x224002_22, .bool false, .slice Ao36 t225.length co36]) ?_ 2 _ rfl; (with_reducible repeat (first | refine blk_drewN ?_ _ | refine blk_drew ?_ | refine blk_alloc ?_ _)); refine blk_put (cs := #[.int .i64 0, .int .i64 x224001_22, .int .i64 x224002_22, .bool false, .slice Ao36 t225.length co36]) ?_ 1 _ rfl; (with_reducible repeat (first | refine blk_drewN ?_ _ | refine blk_drew ?_ | refine blk_alloc ?_ _)); refine blk_put (cs := #[.int .i64 a1_0, .int .i64 x224001_22, .int .i64 x224002_22, .bool false, .slice Ao36 t225.length co36]) ?_ 0 _ rfl; (with_reducible repeat (first | refine blk_drewN ?_ _ | refine blk_drew ?_ | refine blk_alloc ?_ _)); exact BK223.out) Try.underlying100 rfl (by kernel_rfl)) rfl ?_
   exact ⟨_, _, by first | rfl | (simp [errW_none, errW_some] <;> rfl) | (simp only [← hji46]; first | rfl | (simp [errW_none, errW_some] <;> rfl)) | (simp [*, errW_none, errW_some] <;> rfl), by first | exact Kd.R_nil _ _ _ _ _ | exact Kd.N_nil _ _ _ _ _ | exact Kd.V_nil _ _ _ _ _ | exact Kd.Q_nil _ _ _ _ _ | exact Kd.S_nil _ _ _ _ _, by first | exact Kd.R_nil _ _ _ _ _ | exact Kd.N_nil _ _ _ _ _ | exact Kd.V_nil _ _ _ _ _ | exact Kd.Q_nil _ _ _ _ _ | exact Kd.S_nil _ _ _ _ _, by repeat (first | (with_reducible first | exact HB.out | apply below_alloc | apply pw_below_drewN | apply below_drew1 | refine below_set ?_ GE221.out | refine below_set ?_ GE222.out | refine below_set ?_ GE223.out) | exact HB.out)⟩
 rw [if_pos c48] at H
 have c48b0 : (t230 == 0) = true := beq_iff_eq.mpr c48
 have c48b1 : (t230 != 0) = false := bne_eq_false_iff_eq.mpr c48
 clear c48
 replace H := Option.bind_eq_some_iff.mp H
 obtain ⟨⟨t233, t236⟩, A490, H⟩ := H
 replace H : (if t236 = 0 then (some (a1_0, x224001_22, wrap64 (x224002_22 + (ji46)), false, t225, t233, 0)) else (some (0, 0, 0, false, ([] : List Int), ([] : List Int), t236))) = some (r1, r2, r3, r4, r5, r6, r7) := H
 have A49 := Aside0.mk A490
 clear A490
 by_cases c50 : t236 = 0
 · rw [if_pos c50] at H
   have c50b0 : (t236 == 0) = true := beq_iff_eq.mpr c50
   have c50b1 : (t236 != 0) = false := bne_eq_false_iff_eq.mpr c50
   clear c50
   simp only [Option.some.injEq, Prod.mk.injEq] at H
   obtain ⟨rfl, rfl, rfl, rfl, rfl, rfl, rfl⟩ := H
   have hnb51 := NB221_222.out
   have hnc51 := NB222_221.out
   have hnb52 := NB221_223.out
   have hnc52 := NB223_221.out
   obtain ⟨hcz53_0, hcz53_1, hcz53_2, hcz53_3, hcz53_4, hcz53_5, hcz53_6, hcz53_7, hcz53_8, hcz53_9⟩ := zC10 BK221
   obtain ⟨hfz53_0, hfz53_1, hfz53_2, hfz53_3, hfz53_4, hfz53_5, hfz53_6, hfz53_7, hfz53_8, hfz53_9⟩ := zF10 BK221
   have hnb54 := NB223_222.out
   have hnc54 := NB222_223.out
   obtain ⟨hcz55_0, hcz55_1, hcz55_2, hcz55_3, hcz55_4⟩ := zC5 BK223
   obtain ⟨hfz55_0, hfz55_1, hfz55_2, hfz55_3, hfz55_4⟩ := zF5 BK223
   go_wp2_with (first | ((with_reducible refine gate_callee (f := 77) rfl ?_); refine goesL_ (some 50) rfl rfl Try.func77 (by kernel_rfl) rfl #[.slice Ao36 t225.length co36, .int .i64 x224002_22, .int .i64 ji46] rfl (by (try simp only [List.map_toArray, List.map_cons, List.map_nil]); first | done | (simp only [hji46]; rfl) | rfl | (simp only [List.length_drop, List.length_take]; rfl)) ?_; (with_reducible refine (code_Encode.calls kj22 _ _ t225 x224002_22 ji46 t229 t230 _ ?side1 ?side2 A47.out).mono ?_); (case side1 => repeat (first | exact (Kd.R_reads' HO_224004.out).2.2 | (with_reducible refine Kd.C_alloc ?_ _) | (with_reducible refine Kd.C_drewN ?_ _) | (with_reducible refine Kd.C_drew ?_))); (case side2 => exact (Kd.R_reads' HO_224004.out).2.1); rintro e w56 ⟨v231, rfl, ho0, hb⟩; refine ⟨_, rfl, ?_⟩; have HO232 := Aside0.mk (Kd.R_lower (Kd.R_new' ho0 (Kd.R_lt (zr_ HO_224004))) (below_size (zB HB))); replace HO_224004 := Aside0.mk (Kd.R_elder' (zr_ HO_224004) (Kd.R_base ho0) hb); replace BK221 := zb BK221 hb; replace BK222 := zb BK222 hb; replace BK223 := zb BK223 hb; replace HB := zs HB hb; (try clear hb); (try clear hb2); (try clear hk); (try clear hi); (try clear ho0); obtain ⟨hcz57_0, hcz57_1, hcz57_2, hcz57_3, hcz57_4⟩ := zC5 BK223; obtain ⟨hfz57_0, hfz57_1, hfz57_2, hfz57_3, hfz57_4⟩ := zF5 BK223; obtain ⟨Ao58, co58, eo58⟩ := Kd.R_slice HO232.out; subst eo58) | ((with_reducible refine gate_callee (f := 99) rfl ?_); refine goesL_ (some 66) rfl rfl Try.func99 (by kernel_rfl) rfl #[.agg #[.int .i64 a1_0, .int .i64 x224001_22, .int .i64 x224002_22, .slice Ao58 t229.length co58]] rfl (by (try simp only [List.map_toArray, List.map_cons, List.map_nil]); first | done | rfl | (simp only [List.length_drop, List.length_take]; rfl)) ?_; (with_reducible refine (data_Make.calls kj22 a1_0 x224001_22 x224002_22 _ _ t229 t233 t236 _ ?side1 ?side2 A49.out).mono ?_); (case side1 => repeat (first | exact (Kd.R_reads' HO232.out).2.2 | (with_reducible refine Kd.C_alloc ?_ _) | (with_reducible refine Kd.C_drewN ?_ _) | (with_reducible refine Kd.C_drew ?_))); (case side2 => exact (Kd.R_reads' HO232.out).2.1); rintro e w59 ⟨v234, rfl, ho0, hb⟩; refine ⟨_, rfl, ?_⟩; have HO235 := Aside0.mk (Kd.R_lower (Kd.R_new' (Kd.R_new' ho0 (Kd.R_lt (zr_ HO_224004))) (Kd.R_lt (zr_ HO232))) (below_size (zB HB))); replace HO_224004 := Aside0.mk (Kd.R_elder' (zr_ HO_224004) (Kd.R_base ho0) hb); replace HO232 := Aside0.mk (Kd.R_elder' (zr_ HO232) (Kd.R_base ho0) hb); replace BK221 := zb BK221 hb; replace BK222 := zb BK222 hb; replace BK223 := zb BK223 hb; replace HB := zs HB hb; (try clear hb); (try clear hb2); (try clear hk); (try clear hi); (try clear ho0); obtain ⟨hcz60_0, hcz60_1, hcz60_2, hcz60_3, hcz60_4⟩ := zC5 BK223; obtain ⟨hfz60_0, hfz60_1, hfz60_2, hfz60_3⟩ := zF4 BK223; have hfz60_4 := blk_frozen BK223.out 4))
   refine bodyPost_ret (results_ctt rfl _ _ gb223 100 #[.int .i64 a1_0, .int .i64 x224001_22, .int .i64 (wrap64 (x224002_22 + (ji46))), .bool false, .slice Ao36 t225.length co36] (0, 0) _ rfl (by (with_reducible repeat (first | refine blk_drewN ?_ _ | refine blk_drew ?_ | refine blk_alloc ?_ _)); refine blk_put (cs := #[.int .i64 a1_0, .int .i64 x224001_22, .int .i64 (wrap64 (x224002_22 + (ji46))), .bool false, .slice Ao36 t225.length co36]) ?_ 4 _ rfl; (with_reducible repeat (first | refine blk_drewN ?_ _ | refine blk_drew ?_ | refine blk_alloc ?_ _)); refine blk_put (cs := #[.int .i64 a1_0, .int .i64 x224001_22, .int .i64 (wrap64 (x224002_22 + (ji46))), .bool false, .slice Ao36 t225.length co36]) ?_ 3 _ rfl; (with_reducible repeat (first | refine blk_drewN ?_ _ | refine blk_drew ?_ | refine blk_alloc ?_ _)); refine blk_put (cs := #[.int .i64 a1_0, .int .i64 x224001_22, .int .i64 (wrap64 (x224002_22 + (ji46))), .bool false, .slice Ao36 t225.length co36]) ?_ 2 _ rfl; (with_reducible repeat (first | refine blk_drewN ?_ _ | refine blk_drew ?_ | refine blk_alloc ?_ _)); refine blk_put (cs := #[.int .i64 a1_0, .int .i64 x224001_22, .int .i64 (wrap64 (x224002_22 + (ji46))), .bool false, .slice Ao36 t225.length co36]) ?_ 1 _ rfl; (with_reducible repeat (first | refine blk_drewN ?_ _ | refine blk_drew ?_ | refine blk_alloc ?_ _)); refine blk_put (cs := #[.int .i64 a1_0, .int .i64 x224001_22, .int .i64 (wrap64 (x224002_22 + (ji46))), .bool false, .slice Ao36 t225.length co36]) ?_ 0 _ rfl; (with_reducible repeat (first | refine blk_drewN ?_ _ | refine blk_drew ?_ | refine blk_alloc ?_ _)); refine blk_put (cs := #[.int .i64 a1_0, .int .i64 x224001_22, .int .i64 x224002_22, .bool false, .slice Ao36 t225.length co36]) ?_ 2 _ rfl; (with_reducible repeat (first | refine blk_drewN ?_ _ | refine blk_drew ?_ | refine blk_alloc ?_ _)); exact BK223.out) Try.underlying100 rfl (by kernel_rfl)) rfl ?_
   exact ⟨_, _, by first | rfl | (simp [errW_none, errW_some] <;> rfl) | (simp only [← hji46]; first | rfl | (simp [errW_none, errW_some] <;> rfl)) | (simp [*, errW_none, errW_some] <;> rfl), by (with_reducible repeat (first | apply Kd.R_alloc | apply Kd.R_drewN | apply Kd.R_drew)); exact Kd.R_mono (Kd.R_far (p := ⟨gb223, 4, none⟩) (Kd.R_far (p := ⟨gb223, 3, none⟩) (Kd.R_far (p := ⟨gb223, 2, none⟩) (Kd.R_far (p := ⟨gb223, 1, none⟩) (Kd.R_far (p := ⟨gb223, 0, none⟩) (Kd.R_far (p := ⟨gb223, 2, none⟩) (Kd.R_types HO_224004.out BK223.out (by decide)) (fun _ hk => hk.2) (.int .i64 (wrap64 (x224002_22 + (ji46))))) (fun _ hk => hk.2) (.int .i64 a1_0)) (fun _ hk => hk.2) (.int .i64 x224001_22)) (fun _ hk => hk.2) (.int .i64 (wrap64 (x224002_22 + (ji46))))) (fun _ hk => hk.2) (.bool false)) (fun _ hk => hk.2) (.slice Ao36 t225.length co36)) (fun _ hk => hk.1.2), by (with_reducible repeat (first | apply Kd.R_alloc | apply Kd.R_drewN | apply Kd.R_drew)); exact Kd.R_mono (Kd.R_far (p := ⟨gb223, 4, none⟩) (Kd.R_far (p := ⟨gb223, 3, none⟩) (Kd.R_far (p := ⟨gb223, 2, none⟩) (Kd.R_far (p := ⟨gb223, 1, none⟩) (Kd.R_far (p := ⟨gb223, 0, none⟩) (Kd.R_far (p := ⟨gb223, 2, none⟩) (Kd.R_types HO235.out BK223.out (by decide)) (fun _ hk => hk.2) (.int .i64 (wrap64 (x224002_22 + (ji46))))) (fun _ hk => hk.2) (.int .i64 a1_0)) (fun _ hk => hk.2) (.int .i64 x224001_22)) (fun _ hk => hk.2) (.int .i64 (wrap64 (x224002_22 + (ji46))))) (fun _ hk => hk.2) (.bool false)) (fun _ hk => hk.2) (.slice Ao36 t225.length co36)) (fun _ hk => hk.1.1.2), by repeat (first | (with_reducible first | exact HB.out | apply below_alloc | apply pw_below_drewN | apply below_drew1 | refine below_set ?_ GE221.out | refine below_set ?_ GE222.out | refine below_set ?_ GE223.out) | exact HB.out)⟩
 rw [if_neg c50] at H
 have c50b0 : (t236 == 0) = false := beq_eq_false_iff_ne.mpr c50
 have c50b1 : (t236 != 0) = true := bne_iff_ne.mpr c50
 simp only [Option.some.injEq, Prod.mk.injEq] at H
 obtain ⟨rfl, rfl, rfl, rfl, rfl, rfl, rfl⟩ := H
 have hnb61 := NB221_222.out
 have hnc61 := NB222_221.out
 have hnb62 := NB221_223.out
 have hnc62 := NB223_221.out
 obtain ⟨hcz63_0, hcz63_1, hcz63_2, hcz63_3, hcz63_4, hcz63_5, hcz63_6, hcz63_7, hcz63_8, hcz63_9⟩ := zC10 BK221
 obtain ⟨hfz63_0, hfz63_1, hfz63_2, hfz63_3, hfz63_4, hfz63_5, hfz63_6, hfz63_7, hfz63_8, hfz63_9⟩ := zF10 BK221
 have hnb64 := NB223_222.out
 have hnc64 := NB222_223.out
 obtain ⟨hcz65_0, hcz65_1, hcz65_2, hcz65_3, hcz65_4⟩ := zC5 BK223
 obtain ⟨hfz65_0, hfz65_1, hfz65_2, hfz65_3, hfz65_4⟩ := zF5 BK223
 go_wp2_with (first | ((with_reducible refine gate_callee (f := 77) rfl ?_); refine goesL_ (some 50) rfl rfl Try.func77 (by kernel_rfl) rfl #[.slice Ao36 t225.length co36, .int .i64 x224002_22, .int .i64 ji46] rfl (by (try simp only [List.map_toArray, List.map_cons, List.map_nil]); first | done | (simp only [hji46]; rfl) | rfl | (simp only [List.length_drop, List.length_take]; rfl)) ?_; (with_reducible refine (code_Encode.calls kj22 _ _ t225 x224002_22 ji46 t229 t230 _ ?side1 ?side2 A47.out).mono ?_); (case side1 => repeat (first | exact (Kd.R_reads' HO_224004.out).2.2 | (with_reducible refine Kd.C_alloc ?_ _) | (with_reducible refine Kd.C_drewN ?_ _) | (with_reducible refine Kd.C_drew ?_))); (case side2 => exact (Kd.R_reads' HO_224004.out).2.1); rintro e w66 ⟨v231, rfl, ho0, hb⟩; refine ⟨_, rfl, ?_⟩; have HO232 := Aside0.mk (Kd.R_lower (Kd.R_new' ho0 (Kd.R_lt (zr_ HO_224004))) (below_size (zB HB))); replace HO_224004 := Aside0.mk (Kd.R_elder' (zr_ HO_224004) (Kd.R_base ho0) hb); replace BK221 := zb BK221 hb; replace BK222 := zb BK222 hb; replace BK223 := zb BK223 hb; replace HB := zs HB hb; (try clear hb); (try clear hb2); (try clear hk); (try clear hi); (try clear ho0); obtain ⟨hcz67_0, hcz67_1, hcz67_2, hcz67_3, hcz67_4⟩ := zC5 BK223; obtain ⟨hfz67_0, hfz67_1, hfz67_2, hfz67_3, hfz67_4⟩ := zF5 BK223; obtain ⟨Ao68, co68, eo68⟩ := Kd.R_slice HO232.out; subst eo68) | ((with_reducible refine gate_callee (f := 99) rfl ?_); refine goesL_ (some 66) rfl rfl Try.func99 (by kernel_rfl) rfl #[.agg #[.int .i64 a1_0, .int .i64 x224001_22, .int .i64 x224002_22, .slice Ao68 t229.length co68]] rfl (by (try simp only [List.map_toArray, List.map_cons, List.map_nil]); first | done | rfl | (simp only [List.length_drop, List.length_take]; rfl)) ?_; (with_reducible refine (data_Make.calls kj22 a1_0 x224001_22 x224002_22 _ _ t229 t233 t236 _ ?side1 ?side2 A49.out).mono ?_); (case side1 => repeat (first | exact (Kd.R_reads' HO232.out).2.2 | (with_reducible refine Kd.C_alloc ?_ _) | (with_reducible refine Kd.C_drewN ?_ _) | (with_reducible refine Kd.C_drew ?_))); (case side2 => exact (Kd.R_reads' HO232.out).2.1); rintro e w69 ⟨v234, rfl, ho0, hb⟩; refine ⟨_, rfl, ?_⟩; have HO235 := Aside0.mk (Kd.R_lower (Kd.R_new' (Kd.R_new' ho0 (Kd.R_lt (zr_ HO_224004))) (Kd.R_lt (zr_ HO232))) (below_size (zB HB))); replace HO_224004 := Aside0.mk (Kd.R_elder' (zr_ HO_224004) (Kd.R_base ho0) hb); replace HO232 := Aside0.mk (Kd.R_elder' (zr_ HO232) (Kd.R_base ho0) hb); replace BK221 := zb BK221 hb; replace BK222 := zb BK222 hb; replace BK223 := zb BK223 hb; replace HB := zs HB hb; (try clear hb); (try clear hb2); (try clear hk); (try clear hi); (try clear ho0); obtain ⟨hcz70_0, hcz70_1, hcz70_2, hcz70_3, hcz70_4⟩ := zC5 BK223; obtain ⟨hfz70_0, hfz70_1, hfz70_2, hfz70_3⟩ := zF4 BK223; have hfz70_4 := blk_frozen BK223.out 4))
 refine bodyPost_ret (results_ctt rfl _ _ gb223 100 #[.int .i64 0, .int .i64 0, .int .i64 0, .bool false, .slice none 0 0] (0, 0) _ rfl (by (with_reducible repeat (first | refine blk_drewN ?_ _ | refine blk_drew ?_ | refine blk_alloc ?_ _)); refine blk_put (cs := #[.int .i64 0, .int .i64 0, .int .i64 0, .bool false, .slice Ao36 t225.length co36]) ?_ 4 _ rfl; (with_reducible repeat (first | refine blk_drewN ?_ _ | refine blk_drew ?_ | refine blk_alloc ?_ _)); refine blk_put (cs := #[.int .i64 0, .int .i64 0, .int .i64 0, .bool false, .slice Ao36 t225.length co36]) ?_ 3 _ rfl; (with_reducible repeat (first | refine blk_drewN ?_ _ | refine blk_drew ?_ | refine blk_alloc ?_ _)); refine blk_put (cs := #[.int .i64 0, .int .i64 0, .int .i64 x224002_22, .bool false, .slice Ao36 t225.length co36]) ?_ 2 _ rfl; (with_reducible repeat (first | refine blk_drewN ?_ _ | refine blk_drew ?_ | refine blk_alloc ?_ _)); refine blk_put (cs := #[.int .i64 0, .int .i64 x224001_22, .int .i64 x224002_22, .bool false, .slice Ao36 t225.length co36]) ?_ 1 _ rfl; (with_reducible repeat (first | refine blk_drewN ?_ _ | refine blk_drew ?_ | refine blk_alloc ?_ _)); refine blk_put (cs := #[.int .i64 a1_0, .int .i64 x224001_22, .int .i64 x224002_22, .bool false, .slice Ao36 t225.length co36]) ?_ 0 _ rfl; (with_reducible repeat (first | refine blk_drewN ?_ _ | refine blk_drew ?_ | refine blk_alloc ?_ _)); exact BK223.out) Try.underlying100 rfl (by kernel_rfl)) rfl ?_
 exact ⟨_, _, by first | rfl | (simp [errW_none, errW_some] <;> rfl) | (simp only [← hji46]; first | rfl | (simp [errW_none, errW_some] <;> rfl)) | (simp [*, errW_none, errW_some] <;> rfl), by first | exact Kd.R_nil _ _ _ _ _ | exact Kd.N_nil _ _ _ _ _ | exact Kd.V_nil _ _ _ _ _ | exact Kd.Q_nil _ _ _ _ _ | exact Kd.S_nil _ _ _ _ _, by first | exact Kd.R_nil _ _ _ _ _ | exact Kd.N_nil _ _ _ _ _ | exact Kd.V_nil _ _ _ _ _ | exact Kd.Q_nil _ _ _ _ _ | exact Kd.S_nil _ _ _ _ _, by repeat (first | (with_reducible first | exact HB.out | apply below_alloc | apply pw_below_drewN | apply below_drew1 | refine below_set ?_ GE221.out | refine below_set ?_ GE222.out | refine below_set ?_ GE223.out) | exact HB.out)⟩
end Go.Proofs.Ytlolfijadcflaaa.P
