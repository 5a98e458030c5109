/- What the law's proof needs: PxVolutelaw12Beamwhole. -/
import Derived.Test.YtlolfijadcflaaaBwPx0
import Derived.Test.YtlolfijadcflaaaBwPxVolutelaw12
import Derived.Test.YtlolfijadcflaaaBwPxBeam
import Derived.Test.YtlolfijadcflaaaBwBeamWalk
namespace Go.Proofs.Ytlolfijadcflaaa.P
open Go.RowKit Go.Proofs.YtlolfijadcflaaaW.PrintWords Go.Proofs.YtlolfijadcflaaaW.PrintLast Go.Proofs.YtlolfijadcflaaaW.PrintMore
attribute [local go_sem] max2_int min2_int max_two min_two max_three min_three max_four min_four   -- for this text's walks alone
set_option linter.unusedVariables false
set_option linter.unusedSimpArgs false
mutual
noncomputable def volutelaw12_BeamWhole.j0 : Nat → Int → List (S66) → Int → Bool → Int → Int → List (S132) → Option (Bool)
  | 0, _, _, _, _, _, _, _ => none
  | k + 1, x4, x13, x14, x68, x555000, x555001, x555002 => if x68 = true then (some false) else (volutelaw12_BeamWhole.l0 k x4 x13 x14 (-1) 0 0 x555000 x555001 x555002)
noncomputable def volutelaw12_BeamWhole.l0 : Nat → Int → List (S66) → Int → Int → Int → Int → Int → Int → List (S132) → Option (Bool)
  | 0, _, _, _, _, _, _, _, _, _ => none
  | k + 1, x4, x13, x14, x16, x17, x18, x555000, x555001, x555002 => if x18 < 256 then ((beam_Node.f k x555000 x555001 x555002 (([wrap64 (Int.tdiv x18 16), Int.tmod x18 16] : List Int))).bind fun bt563 => (if bt563.2.2.2.2 = 0 then (if x16 < 0 then (volutelaw12_BeamWhole.j2 k x4 x13 x14 x16 x17 x18 true x555000 x555001 x555002 bt563.1 bt563.2.1 bt563.2.2.1 bt563.2.2.2.1) else (volutelaw12_BeamWhole.j2 k x4 x13 x14 x16 x17 x18 (decide (bt563.2.1 < x16)) x555000 x555001 x555002 bt563.1 bt563.2.1 bt563.2.2.1 bt563.2.2.2.1)) else (some false))) else (if 0 < (x13.length : Int) then (if ((rd_T66 x13 0).f1) = x16 then (volutelaw12_BeamWhole.j3 k x4 x16 x17 (decide (x14 < x16)) x555000 x555001 x555002) else (volutelaw12_BeamWhole.j3 k x4 x16 x17 true x555000 x555001 x555002)) else (none))
noncomputable def volutelaw12_BeamWhole.j2 : Nat → Int → List (S66) → Int → Int → Int → Int → Bool → Int → Int → List (S132) → Int → Int → Int → List Int → Option (Bool)
  | 0, _, _, _, _, _, _, _, _, _, _, _, _, _, _ => none
  | k + 1, x4, x13, x14, x16, x17, x18, x92, x555000, x555001, x555002, x571000, x571001, x571002, x571003 => if x92 = true then (if x571001 = x571001 then (volutelaw12_BeamWhole.l0 k x4 x13 x14 x571001 (0 + 1) (wrap64 (x18 + 1)) x555000 x555001 x555002) else (volutelaw12_BeamWhole.l0 k x4 x13 x14 x571001 0 (wrap64 (x18 + 1)) x555000 x555001 x555002)) else (if x571001 = x16 then (volutelaw12_BeamWhole.l0 k x4 x13 x14 x16 (wrap64 (x17 + 1)) (wrap64 (x18 + 1)) x555000 x555001 x555002) else (volutelaw12_BeamWhole.l0 k x4 x13 x14 x16 x17 (wrap64 (x18 + 1)) x555000 x555001 x555002))
noncomputable def volutelaw12_BeamWhole.j3 : Nat → Int → Int → Int → Bool → Int → Int → List (S132) → Option (Bool)
  | 0, _, _, _, _, _, _, _ => none
  | k + 1, x4, x16, x17, x111, x555000, x555001, x555002 => if x111 = true then (some false) else ((beam_Decode.f x555000 x555001 x555002 16 x4).bind fun bt572 => (if x17 > 1 then (if bt572.2.2 = 5 then (if (bt572.1.length : Int) = 0 then (if bt572.2.1 = 0 then ((volutelaw12_wakes.f k).bind fun t577 => (some t577)) else (some false)) else (some false)) else (some false)) else (if bt572.2.2 = 0 then (if bt572.2.1 = x16 then ((volutelaw12_wakes.f k).bind fun t578 => (some t578)) else (some false)) else (some false))))
end
noncomputable def volutelaw12_BeamWhole.f (k : Nat) (a0 : Int) (a1 : Int) (a2 : Int) (l3 : List Int) (a4 : Int) : Option (Bool) := if (l3.length : Int) > 60 then (some true) else (if (IntKind.u64.wrap (wrap64 ((wrap64 (2 * (wrap64 (1 + (wrap64 (Int.tmod (IntKind.u64.wrap (a1)) 4)))))) + 1))) = 0 then (none) else ((volutelaw12_Heard.f k (([a0] : List Int)) (wrap64 (1 + (wrap64 (Int.tmod (IntKind.u64.wrap (a1)) 4)))) (wrap64 (Int.tmod (IntKind.u64.wrap (a2)) (IntKind.u64.wrap (wrap64 ((wrap64 (2 * (wrap64 (1 + (wrap64 (Int.tmod (IntKind.u64.wrap (a1)) 4)))))) + 1))))) ([] : List Bool) l3).bind fun bt548 => (if bt548.2.2.2 = true then ((beam_Walk.f bt548.1 bt548.2.1 bt548.2.2.1 16 (wrap64 (1 + (wrap64 (Int.tmod (IntKind.u64.wrap (a4)) 2))))).bind fun bt555 => (if bt555.2.2 = 0 then (volutelaw12_BeamWhole.j0 k (wrap64 (1 + (wrap64 (Int.tmod (IntKind.u64.wrap (a4)) 2)))) bt555.1 bt555.2.1 ((bt555.1.length : Int) != 16) bt548.1 bt548.2.1 bt548.2.2.1) else (volutelaw12_BeamWhole.j0 k (wrap64 (1 + (wrap64 (Int.tmod (IntKind.u64.wrap (a4)) 2)))) bt555.1 bt555.2.1 true bt548.1 bt548.2.1 bt548.2.2.1))) else (some false))))
set_option maxHeartbeats 8000000 in
set_option maxRecDepth 100000 in
theorem volutelaw12_BeamWhole.calls (k : Nat) (a0 : Int) (a1 : Int) (a2 : Int) (A3 : Option Addr) (c3 : Nat) (l3 : List Int) (a4 : Int) (w : World) (hr3 : Kd.C (Kd.int .u8) w A3 l3.length l3) (hc3 : l3.length ≤ c3) (h : volutelaw12_BeamWhole.f k a0 a1 a2 l3 a4 = some true) :
    Calls Try.prog 6 #[.int .u8 a0, .int .i64 a1, .int .i64 a2, .slice A3 l3.length c3, .int .i64 a4] w fun e w' => e = .returned (.bool true) ∧ Below w.heap.size w w' := by
  have hu49 := Try.underlying49
  have hu66 := Try.underlying66
  have HR3 := Aside0.mk hr3
  have HC3 := Aside0.mk hc3
  clear hr3 hc3
  have HB := Aside0.mk (Below.refl w.heap.size w)
  have H : (if (l3.length : Int) > 60 then (some true) else (if (IntKind.u64.wrap (wrap64 ((wrap64 (2 * (wrap64 (1 + (wrap64 (Int.tmod (IntKind.u64.wrap (a1)) 4)))))) + 1))) = 0 then (none) else ((volutelaw12_Heard.f k (([a0] : List Int)) (wrap64 (1 + (wrap64 (Int.tmod (IntKind.u64.wrap (a1)) 4)))) (wrap64 (Int.tmod (IntKind.u64.wrap (a2)) (IntKind.u64.wrap (wrap64 ((wrap64 (2 * (wrap64 (1 + (wrap64 (Int.tmod (IntKind.u64.wrap (a1)) 4)))))) + 1))))) ([] : List Bool) l3).bind fun bt548 => (if bt548.2.2.2 = true then ((beam_Walk.f bt548.1 bt548.2.1 bt548.2.2.1 16 (wrap64 (1 + (wrap64 (Int.tmod (IntKind.u64.wrap (a4)) 2))))).bind fun bt555 => (if bt555.2.2 = 0 then (volutelaw12_BeamWhole.j0 k (wrap64 (1 + (wrap64 (Int.tmod (IntKind.u64.wrap (a4)) 2)))) bt555.1 bt555.2.1 ((bt555.1.length : Int) != 16) bt548.1 bt548.2.1 bt548.2.2.1) else (volutelaw12_BeamWhole.j0 k (wrap64 (1 + (wrap64 (Int.tmod (IntKind.u64.wrap (a4)) 2)))) bt555.1 bt555.2.1 true bt548.1 bt548.2.1 bt548.2.2.1))) else (some false))))) = some true := h
  clear h
  by_cases c6 : (l3.length : Int) > 60
  · rw [if_pos c6] at H
    have c6b0 : decide (60 < (l3.length : Int)) = true := decide_eq_true c6
    have c6b1 : decide (60 < l3.length) = true := decide_eq_true (by omega)
    clear c6
    clear H
    go_enter Try.func6, Try.ntmps6
    go_wp2
    go_ret
    exact ⟨by first | rfl | (simp [errW_none, errW_some] <;> rfl) | (simp [*, errW_none, errW_some] <;> rfl), by repeat (first | (with_reducible first | exact HB.out | apply below_alloc | apply pw_below_drewN | apply below_drew1) | exact HB.out)⟩
  · rw [if_neg c6] at H
    have c6b0 : decide (60 < (l3.length : Int)) = false := decide_eq_false c6
    have c6b1 : decide (60 < l3.length) = false := decide_eq_false (by omega)
    clear c6
    by_cases c7 : (IntKind.u64.wrap (wrap64 ((wrap64 (2 * (wrap64 (1 + (wrap64 (Int.tmod (IntKind.u64.wrap (a1)) 4)))))) + 1))) = 0
    · rw [if_pos c7] at H
      exact absurd H (by simp)
    · rw [if_neg c7] at H
      have c7b0 : ((IntKind.u64.wrap (wrap64 ((wrap64 (2 * (wrap64 (1 + (wrap64 (Int.tmod (IntKind.u64.wrap (a1)) 4)))))) + 1))) == 0) = false := beq_eq_false_iff_ne.mpr c7
      have c7b1 : ((IntKind.u64.wrap (wrap64 ((wrap64 (2 * (wrap64 (1 + (wrap64 (Int.tmod (IntKind.u64.wrap (a1)) 4)))))) + 1))) != 0) = true := bne_iff_ne.mpr c7
      obtain ⟨y545, hy545⟩ : ∃ y_ : List Int, y_ = (([a0] : List Int)) := ⟨_, rfl⟩
      replace H : ((volutelaw12_Heard.f k y545 (wrap64 (1 + (wrap64 (Int.tmod (IntKind.u64.wrap (a1)) 4)))) (wrap64 (Int.tmod (IntKind.u64.wrap (a2)) (IntKind.u64.wrap (wrap64 ((wrap64 (2 * (wrap64 (1 + (wrap64 (Int.tmod (IntKind.u64.wrap (a1)) 4)))))) + 1))))) ([] : List Bool) l3).bind fun bt548 => (if bt548.2.2.2 = true then ((beam_Walk.f bt548.1 bt548.2.1 bt548.2.2.1 16 (wrap64 (1 + (wrap64 (Int.tmod (IntKind.u64.wrap (a4)) 2))))).bind fun bt555 => (if bt555.2.2 = 0 then (volutelaw12_BeamWhole.j0 k (wrap64 (1 + (wrap64 (Int.tmod (IntKind.u64.wrap (a4)) 2)))) bt555.1 bt555.2.1 ((bt555.1.length : Int) != 16) bt548.1 bt548.2.1 bt548.2.2.1) else (volutelaw12_BeamWhole.j0 k (wrap64 (1 + (wrap64 (Int.tmod (IntKind.u64.wrap (a4)) 2)))) bt555.1 bt555.2.1 true bt548.1 bt548.2.1 bt548.2.2.1))) else (some false))) = some true := by first | (rw [hy545]; with_reducible exact H) | (have H2_ := (Option.bind_some _ _).symm.trans H; rw [hy545]; with_reducible exact H2_) | (have H2_ := (Option.bind_some _ _).symm.trans H; with_reducible exact H2_) | with_reducible exact H | (rw [hy545]; exact H) | exact H
      have Ny545 := Aside0.mk hy545
      clear hy545
      replace H := Option.bind_eq_some_iff.mp H
      obtain ⟨⟨t548, t549, t550, t553⟩, A80, H⟩ := H
      replace H : (if t553 = true then ((beam_Walk.f t548 t549 t550 16 (wrap64 (1 + (wrap64 (Int.tmod (IntKind.u64.wrap (a4)) 2))))).bind fun bt555 => (if bt555.2.2 = 0 then (volutelaw12_BeamWhole.j0 k (wrap64 (1 + (wrap64 (Int.tmod (IntKind.u64.wrap (a4)) 2)))) bt555.1 bt555.2.1 ((bt555.1.length : Int) != 16) t548 t549 t550) else (volutelaw12_BeamWhole.j0 k (wrap64 (1 + (wrap64 (Int.tmod (IntKind.u64.wrap (a4)) 2)))) bt555.1 bt555.2.1 true t548 t549 t550))) else (some false)) = some true := H
      have A8 := Aside0.mk A80
      clear A80
      by_cases c9 : t553 = true
      · subst c9
        have H1 : ((beam_Walk.f t548 t549 t550 16 (wrap64 (1 + (wrap64 (Int.tmod (IntKind.u64.wrap (a4)) 2))))).bind fun bt555 => (if bt555.2.2 = 0 then (volutelaw12_BeamWhole.j0 k (wrap64 (1 + (wrap64 (Int.tmod (IntKind.u64.wrap (a4)) 2)))) bt555.1 bt555.2.1 ((bt555.1.length : Int) != 16) t548 t549 t550) else (volutelaw12_BeamWhole.j0 k (wrap64 (1 + (wrap64 (Int.tmod (IntKind.u64.wrap (a4)) 2)))) bt555.1 bt555.2.1 true t548 t549 t550))) = some true := by first | (rw [if_pos rfl] at H; exact H) | exact (if_pos rfl).symm.trans H
        clear H
        have H := H1
        clear H1
        replace H := Option.bind_eq_some_iff.mp H
        obtain ⟨⟨t555, t558, t559⟩, A100, H⟩ := H
        replace H : (if t559 = 0 then (volutelaw12_BeamWhole.j0 k (wrap64 (1 + (wrap64 (Int.tmod (IntKind.u64.wrap (a4)) 2)))) t555 t558 ((t555.length : Int) != 16) t548 t549 t550) else (volutelaw12_BeamWhole.j0 k (wrap64 (1 + (wrap64 (Int.tmod (IntKind.u64.wrap (a4)) 2)))) t555 t558 true t548 t549 t550)) = some true := H
        have A10 := Aside0.mk A100
        clear A100
        have HC11 := Aside0.mk H
        clear H
        go_enter Try.func6, Try.ntmps6
        go_upto_region 9 with (first | ((with_reducible refine gate_dst (N := 46) rfl ?_); (try (refine gate_guard (by rfl) ?_; dsimp only)); refine Kd.R_lit (Kd.int .u8) _ 5 ?hg (N := 46) ?hd (xs := ([a0] : List Int)) (inner := [.int .u8 a0]) (ok := fun _ => True) (okp := fun _ => True) ?hr ?hp (fun _ hk => hk) trivial (Below.refl _ _) (Nat.le_refl _) (by simp) ?_; (case hd => rfl); (case hg => rfl); (case hr => first | (go_simp; done) | (go_simp; rfl)); (case hp => exact (Reps.one (show Kd.M (Kd.int .u8) _ _ _ a0 [.int .u8 a0] from rfl) (Reps.none _ _))); intro v546 w12 ho13 hb hg_ hnew_; clear hg_ hnew_; (first | rw [← Ny545.out] at ho13 | (simp only [Int.reduceToNat] at ho13; rw [← Ny545.out] at ho13)); have HO547 := Aside0.mk (Kd.R_lower ho13 (below_size (zB HB))); replace HB := zs HB hb; clear hb ho13; obtain ⟨Ao14, co14, eo14⟩ := Kd.R_slice HO547.out; subst eo14) | ((with_reducible refine gate_callee (f := 31) rfl ?_); refine goesL_ (some 50) rfl rfl Try.func31 (by kernel_rfl) rfl #[.slice Ao14 y545.length co14, .int .i64 (wrap64 (1 + (wrap64 (Int.tmod (IntKind.u64.wrap (a1)) 4)))), .int .i64 (wrap64 (Int.tmod (IntKind.u64.wrap (a2)) (IntKind.u64.wrap (wrap64 ((wrap64 (2 * (wrap64 (1 + (wrap64 (Int.tmod (IntKind.u64.wrap (a1)) 4)))))) + 1))))), .slice none 0 0, .slice A3 l3.length c3] rfl (by (try simp only [List.map_toArray, List.map_cons, List.map_nil]); first | done | rfl | (simp only [List.length_drop, List.length_take]; rfl)) ?_; (refine (volutelaw12_Heard.calls k _ _ y545 (wrap64 (1 + (wrap64 (Int.tmod (IntKind.u64.wrap (a1)) 4)))) (wrap64 (Int.tmod (IntKind.u64.wrap (a2)) (IntKind.u64.wrap (wrap64 ((wrap64 (2 * (wrap64 (1 + (wrap64 (Int.tmod (IntKind.u64.wrap (a1)) 4)))))) + 1))))) _ _ ([] : List Bool) _ _ l3 t548 t549 t550 true _ ?side1 ?side2 ?side3 ?side4 ?side5 ?side6 A8.out).mono ?_); (case side1 => repeat (first | exact (Kd.R_reads' HO547.out).2.2 | (with_reducible refine Kd.C_alloc ?_ _) | (with_reducible refine Kd.C_drewN ?_ _) | (with_reducible refine Kd.C_drew ?_))); (case side2 => exact (Kd.R_reads' HO547.out).2.1); (case side3 => exact Kd.C_nil _ _); (case side4 => exact Nat.le_refl _); (case side5 => repeat (first | exact (Kd.C_below HR3.out HB.out) | (with_reducible refine Kd.C_alloc ?_ _) | (with_reducible refine Kd.C_drewN ?_ _) | (with_reducible refine Kd.C_drew ?_))); (case side6 => exact HC3.out); rintro e w15 ⟨v551, rfl, ho0, hb⟩; refine ⟨_, rfl, ?_⟩; replace HO547 := zR HO547 hb; have HO552 := Aside0.mk (Kd.R_lower ho0 (below_size (zB HB))); replace HB := zs HB hb; (try clear hb); (try clear hb2); (try clear hk); (try clear hi); (try clear ho0)) | ((with_reducible refine gate_dst (N := 11) rfl ?_); (try (refine gate_guard (by rfl) ?_; dsimp only)); refine box_event ?hg (N := 11) ?hd (cs := #[.int .i64 0, .int .i64 0, .slice none 0 0]) (t := 49) ?hr ?_; (case hd => rfl); (case hg => rfl); (case hr => first | (go_simp; done) | (go_simp; rfl)); intro gb554 hg w16 hbox hb; replace HO547 := zR HO547 hb; replace HO552 := zR HO552 hb; have BK554 := Aside0.mk (hbox); have GW554 := zg HB hg; have GE554 := zg HB hg; replace HB := zs HB hb; clear hb hbox hg; obtain ⟨hcz17_0, hcz17_1, hcz17_2⟩ := zC3 BK554; obtain ⟨hfz17_0, hfz17_1, hfz17_2⟩ := zF3 BK554; obtain ⟨Ao18, co18, eo18⟩ := Kd.R_slice HO552.out; subst eo18) | ((with_reducible refine gate_callee (f := 32) rfl ?_); refine goesL_ (some 58) rfl rfl Try.func32 (by kernel_rfl) rfl #[.agg #[.int .i64 t548, .int .i64 t549, .slice Ao18 t550.length co18], .int .i64 16, .int .i64 (wrap64 (1 + (wrap64 (Int.tmod (IntKind.u64.wrap (a4)) 2))))] rfl (by (try simp only [List.map_toArray, List.map_cons, List.map_nil]); first | done | rfl | (simp only [List.length_drop, List.length_take]; rfl)) ?_; (with_reducible refine (beam_Walk.calls t548 t549 _ _ t550 16 (wrap64 (1 + (wrap64 (Int.tmod (IntKind.u64.wrap (a4)) 2)))) t555 t558 t559 _ ?side1 ?side2 A10.out).mono ?_); (case side1 => refine (Kd.R_reads' (e := 132) (base := w.heap.size) (ok := fun k_ => True) (n := t550.length) (c := co18) ?_).2.2; exact (by (with_reducible repeat (first | apply Kd.R_alloc | apply Kd.R_drewN | apply Kd.R_drew)); exact (Kd.R_mono (Kd.R_far (p := ⟨gb554, 2, none⟩) (Kd.R_far (p := ⟨gb554, 1, none⟩) (Kd.R_far (p := ⟨gb554, 0, none⟩) (Kd.R_types HO552.out BK554.out (by decide)) (fun _ hk => hk.2) (.int .i64 t548)) (fun _ hk => hk.2) (.int .i64 t549)) (fun _ hk => hk.2) (.slice Ao18 t550.length co18)) (fun _ h_ => h_.1)))); (case side2 => exact (Kd.R_reads' HO552.out).2.1); rintro e w19 ⟨v556, rfl, ho0, hb⟩; refine ⟨_, rfl, ?_⟩; have n0_ := Aside0.mk (Kd.R_below (by (with_reducible repeat (first | apply Kd.R_alloc | apply Kd.R_drewN | apply Kd.R_drew)); exact (Kd.R_mono (Kd.R_far (p := ⟨gb554, 2, none⟩) (Kd.R_far (p := ⟨gb554, 1, none⟩) (Kd.R_far (p := ⟨gb554, 0, none⟩) (Kd.R_types HO547.out BK554.out (by decide)) (fun _ hk => hk.2) (.int .i64 t548)) (fun _ hk => hk.2) (.int .i64 t549)) (fun _ hk => hk.2) (.slice Ao18 t550.length co18)) (fun _ h_ => h_.1))) hb); have n1_ := Aside0.mk (Kd.R_below (by (with_reducible repeat (first | apply Kd.R_alloc | apply Kd.R_drewN | apply Kd.R_drew)); exact (Kd.R_mono (Kd.R_far (p := ⟨gb554, 2, none⟩) (Kd.R_far (p := ⟨gb554, 1, none⟩) (Kd.R_far (p := ⟨gb554, 0, none⟩) (Kd.R_types HO552.out BK554.out (by decide)) (fun _ hk => hk.2) (.int .i64 t548)) (fun _ hk => hk.2) (.int .i64 t549)) (fun _ hk => hk.2) (.slice Ao18 t550.length co18)) (fun _ h_ => h_.1))) hb); have n2_ := Aside0.mk (Kd.S_lower ho0 (below_size (zB HB))); have n3_ := Aside0.mk (blk_below (g := gb554) (o := .cells #[.int .i64 t548, .int .i64 t549, .slice Ao18 t550.length co18] 49 (0, 0)) (by (with_reducible repeat (first | refine blk_drewN ?_ _ | refine blk_drew ?_ | refine blk_alloc ?_ _)); refine blk_put (cs := #[.int .i64 t548, .int .i64 t549, .slice none 0 0]) ?_ 2 _ rfl; (with_reducible repeat (first | refine blk_drewN ?_ _ | refine blk_drew ?_ | refine blk_alloc ?_ _)); refine blk_put (cs := #[.int .i64 t548, .int .i64 0, .slice none 0 0]) ?_ 1 _ rfl; (with_reducible repeat (first | refine blk_drewN ?_ _ | refine blk_drew ?_ | refine blk_alloc ?_ _)); refine blk_put (cs := #[.int .i64 0, .int .i64 0, .slice none 0 0]) ?_ 0 _ rfl; (with_reducible repeat (first | refine blk_drewN ?_ _ | refine blk_drew ?_ | refine blk_alloc ?_ _)); exact BK554.out) hb); have n4_ := zs HB hb; clear HO547; clear HO552; clear BK554; clear HB; have HO547 := n0_; have HO552 := n1_; have HO557 := n2_; have BK554 := n3_; have HB := n4_; clear n0_ n1_ n2_ n3_ n4_; (try clear hb); (try clear hb2); (try clear hk); (try clear hi); (try clear ho0)))
        (try simp only [Act.put, List.setIfInBounds_toArray, List.set_cons_zero, List.set_cons_succ])
        go_cut [68] (fun v68 wc => ∃ (kq : Nat) (x68_10 : Bool), v68 = .bool x68_10 ∧ Aside0 (volutelaw12_BeamWhole.j0 kq (wrap64 (1 + (wrap64 (Int.tmod (IntKind.u64.wrap (a4)) 2)))) t555 t558 x68_10 t548 t549 t550 = some true) ∧ Aside0 (kq ≤ k) ∧ Aside0 (Kd.S k66 66 wc w.heap.size (fun _ => True) v556 t555) ∧ Aside0 (Kd.R k132 132 wc w.heap.size (fun _ => True) (.slice Ao18 t550.length co18) t550) ∧ Aside0 (wc.heap[gb554]? = some (.cells #[.int .i64 t548, .int .i64 t549, (.slice Ao18 t550.length co18)] 49 (0, 0))) ∧ Aside0 (Below w.heap.size w wc))
        case first =>
          have H := HC11.out
          clear HC11
          by_cases c20 : t559 = 0
          · rw [if_pos c20] at H
            have c20b0 : (t559 == 0) = true := beq_iff_eq.mpr c20
            have c20b1 : (t559 != 0) = false := bne_eq_false_iff_eq.mpr c20
            clear c20
            (first | rw [c20b0] | (simp only [i64_w, i32_w]; rw [c20b0]) | skip)
            have H' := Aside0.mk H
            clear H
            obtain ⟨Ao21, co21, eo21⟩ := Kd.S_slice HO557.out
            subst eo21
            go_wp2
            go_meet
            case rel => exact ⟨_, (((t555.length : Int) != 16)), (by first | rfl | (simp; done) | (simp [*]; done)), H', ⟨by first | omega | exact Nat.le_refl _⟩, ⟨by (with_reducible repeat (first | apply Kd.S_alloc | apply Kd.S_drewN | apply Kd.S_drew)); exact HO557.out⟩, ⟨by (with_reducible repeat (first | apply Kd.R_alloc | apply Kd.R_drewN | apply Kd.R_drew)); exact HO552.out⟩, ⟨by (with_reducible repeat (first | refine blk_drewN ?_ _ | refine blk_drew ?_ | refine blk_alloc ?_ _)); exact BK554.out⟩, ⟨by repeat (first | (with_reducible first | exact HB.out | apply below_alloc | apply pw_below_drewN | apply below_drew1 | refine below_set ?_ GE554.out) | exact HB.out)⟩⟩
          · rw [if_neg c20] at H
            have c20b0 : (t559 == 0) = false := beq_eq_false_iff_ne.mpr c20
            have c20b1 : (t559 != 0) = true := bne_iff_ne.mpr c20
            (first | rw [c20b0] | (simp only [i64_w, i32_w]; rw [c20b0]) | skip)
            have H' := Aside0.mk H
            clear H
            go_wp2
            go_meet
            case rel => exact ⟨_, (true), (by first | rfl | (simp; done) | (simp [*]; done)), H', ⟨by first | omega | exact Nat.le_refl _⟩, ⟨by (with_reducible repeat (first | apply Kd.S_alloc | apply Kd.S_drewN | apply Kd.S_drew)); exact HO557.out⟩, ⟨by (with_reducible repeat (first | apply Kd.R_alloc | apply Kd.R_drewN | apply Kd.R_drew)); exact HO552.out⟩, ⟨by (with_reducible repeat (first | refine blk_drewN ?_ _ | refine blk_drew ?_ | refine blk_alloc ?_ _)); exact BK554.out⟩, ⟨by repeat (first | (with_reducible first | exact HB.out | apply below_alloc | apply pw_below_drewN | apply below_drew1 | refine below_set ?_ GE554.out) | exact HB.out)⟩⟩
        case rest =>
          clear HC11
          try clear c2
          try clear p2
          try clear c3
          try clear c6
          try clear c6b0
          try clear c6b1
          try clear p6
          try clear c7
          try clear c7b0
          try clear c7b1
          try clear c9
          try clear c20
          try clear c20b0
          try clear c20b1
          try clear hcz17_0
          try clear hcz17_1
          try clear hcz17_2
          try clear hfz17_0
          try clear hfz17_1
          try clear hfz17_2
          obtain ⟨kq, x68_10, rfl, HA, HJ10, HO_13, HO_555002, BK554, HB⟩ := hcut
          cases kq with
          | zero => exact absurd HA.out (by simp [volutelaw12_BeamWhole.j0])
          | succ kj10 =>
            have H := HA.out
            clear HA
            simp only [volutelaw12_BeamWhole.j0] at H
            by_cases c22 : x68_10 = true
            · subst c22
              have H1 : (some false) = some true := by first | (rw [if_pos rfl] at H; exact H) | exact (if_pos rfl).symm.trans H
              clear H
              have H := H1
              clear H1
              exact absurd (Option.some.inj H) (by decide)
            · replace c22 := Bool.eq_false_iff.mpr c22
              subst c22
              have H1 : (volutelaw12_BeamWhole.l0 kj10 (wrap64 (1 + (wrap64 (Int.tmod (IntKind.u64.wrap (a4)) 2)))) t555 t558 (-1) 0 0 t548 t549 t550) = some true := by rw [if_neg (show ¬ (false = true) by decide)] at H; exact H
              clear H
              have H := H1
              clear H1
              have H' := Aside0.mk H
              clear H
              go_wp2
              go_loopg [16, 17, 18] kj10 (fun kq v16 v17 v18 w' => ∃ (x16_2 : Int) (x17_2 : Int) (x18_2 : Int), v16 = .int .i64 x16_2 ∧ v17 = .int .i64 x17_2 ∧ v18 = .int .i64 x18_2 ∧ Aside0 (volutelaw12_BeamWhole.l0 kq (wrap64 (1 + (wrap64 (Int.tmod (IntKind.u64.wrap (a4)) 2)))) t555 t558 x16_2 x17_2 x18_2 t548 t549 t550 = some true) ∧ Aside0 (kq ≤ kj10) ∧ Aside0 (Kd.S k66 66 w' w.heap.size (fun _ => True) v556 t555) ∧ Aside0 (Kd.R k132 132 w' w.heap.size (fun _ => True) (.slice Ao18 t550.length co18) t550) ∧ Aside0 (w'.heap[gb554]? = some (.cells #[.int .i64 t548, .int .i64 t549, (.slice Ao18 t550.length co18)] 49 (0, 0))) ∧ Aside0 (Below w.heap.size w w'))
              case atStart => exact ⟨((-1)), (0), (0), (by first | rfl | (simp; done) | (simp [*]; done)), (by first | rfl | (simp; done) | (simp [*]; done)), (by first | rfl | (simp; done) | (simp [*]; done)), H', ⟨Nat.le_refl _⟩, ⟨by (with_reducible repeat (first | apply Kd.S_alloc | apply Kd.S_drewN | apply Kd.S_drew)); exact HO_13.out⟩, ⟨by (with_reducible repeat (first | apply Kd.R_alloc | apply Kd.R_drewN | apply Kd.R_drew)); exact HO_555002.out⟩, ⟨by (with_reducible repeat (first | refine blk_drewN ?_ _ | refine blk_drew ?_ | refine blk_alloc ?_ _)); exact BK554.out⟩, ⟨by repeat (first | (with_reducible first | exact HB.out | apply below_alloc | apply pw_below_drewN | apply below_drew1 | refine below_set ?_ GE554.out) | exact HB.out)⟩⟩
              case round =>
                clear H'
                try clear c2
                try clear p2
                try clear c3
                try clear c6
                try clear c6b0
                try clear c6b1
                try clear p6
                try clear c7
                try clear c7b0
                try clear c7b1
                try clear c9
                try clear c20
                try clear c20b0
                try clear c20b1
                try clear c22
                try clear hcz17_0
                try clear hcz17_1
                try clear hcz17_2
                try clear hfz17_0
                try clear hfz17_1
                try clear hfz17_2
                try clear p2
                try clear p6
                obtain ⟨x16_2, x17_2, x18_2, rfl, rfl, rfl, HA, HK2, HO_13, HO_555002, BK554, HB⟩ := hrel
                cases gk with
                | zero => exact absurd HA.out (by simp [volutelaw12_BeamWhole.l0])
                | succ k2 =>
                  have H := HA.out
                  clear HA
                  simp only [volutelaw12_BeamWhole.l0] at H
                  by_cases c23 : x18_2 < 256
                  · rw [if_pos c23] at H
                    have c23b0 : decide (x18_2 < 256) = true := decide_eq_true c23
                    clear c23
                    obtain ⟨y560, hy560⟩ : ∃ y_ : List Int, y_ = (([wrap64 (Int.tdiv x18_2 16), Int.tmod x18_2 16] : List Int)) := ⟨_, rfl⟩
                    replace H : ((beam_Node.f k2 t548 t549 t550 y560).bind fun bt563 => (if bt563.2.2.2.2 = 0 then (if x16_2 < 0 then (volutelaw12_BeamWhole.j2 k2 (wrap64 (1 + (wrap64 (Int.tmod (IntKind.u64.wrap (a4)) 2)))) t555 t558 x16_2 x17_2 x18_2 true t548 t549 t550 bt563.1 bt563.2.1 bt563.2.2.1 bt563.2.2.2.1) else (volutelaw12_BeamWhole.j2 k2 (wrap64 (1 + (wrap64 (Int.tmod (IntKind.u64.wrap (a4)) 2)))) t555 t558 x16_2 x17_2 x18_2 (decide (bt563.2.1 < x16_2)) t548 t549 t550 bt563.1 bt563.2.1 bt563.2.2.1 bt563.2.2.2.1)) else (some false))) = some true := by first | (rw [hy560]; with_reducible exact H) | (have H2_ := (Option.bind_some _ _).symm.trans H; rw [hy560]; with_reducible exact H2_) | (have H2_ := (Option.bind_some _ _).symm.trans H; with_reducible exact H2_) | with_reducible exact H | (rw [hy560]; exact H) | exact H
                    have Ny560 := Aside0.mk hy560
                    clear hy560
                    replace H := Option.bind_eq_some_iff.mp H
                    obtain ⟨⟨t563, t564, t565, t566, t569⟩, A240, H⟩ := H
                    replace H : (if t569 = 0 then (if x16_2 < 0 then (volutelaw12_BeamWhole.j2 k2 (wrap64 (1 + (wrap64 (Int.tmod (IntKind.u64.wrap (a4)) 2)))) t555 t558 x16_2 x17_2 x18_2 true t548 t549 t550 t563 t564 t565 t566) else (volutelaw12_BeamWhole.j2 k2 (wrap64 (1 + (wrap64 (Int.tmod (IntKind.u64.wrap (a4)) 2)))) t555 t558 x16_2 x17_2 x18_2 (decide (t564 < x16_2)) t548 t549 t550 t563 t564 t565 t566)) else (some false)) = some true := H
                    have A24 := Aside0.mk A240
                    clear A240
                    by_cases c25 : t569 = 0
                    · rw [if_pos c25] at H
                      have c25b0 : (t569 == 0) = true := beq_iff_eq.mpr c25
                      have c25b1 : (t569 != 0) = false := bne_eq_false_iff_eq.mpr c25
                      clear c25
                      have HC26 := Aside0.mk H
                      clear H
                      obtain ⟨hcz27_0, hcz27_1, hcz27_2⟩ := zC3 BK554
                      obtain ⟨hfz27_0, hfz27_1, hfz27_2⟩ := zF3 BK554
                      go_upto_region 18 with (first | ((with_reducible refine gate_dst (N := 79) rfl ?_); (try (refine gate_guard (by rfl) ?_; dsimp only)); refine Kd.R_lit (Kd.int .i64) _ 3 ?hg (N := 79) ?hd (xs := ([wrap64 (Int.tdiv x18_2 16), Int.tmod x18_2 16] : List Int)) (inner := [.int .i64 (wrap64 (Int.tdiv x18_2 16)), .int .i64 (Int.tmod x18_2 16)]) (ok := fun _ => True) (okp := fun _ => True) ?hr ?hp (fun _ hk => hk) trivial (Below.refl _ _) (Nat.le_refl _) (by simp) ?_; (case hd => rfl); (case hg => rfl); (case hr => first | (go_simp; done) | (go_simp; rfl)); (case hp => exact (Reps.one (show Kd.M (Kd.int .i64) _ _ _ (wrap64 (Int.tdiv x18_2 16)) [.int .i64 (wrap64 (Int.tdiv x18_2 16))] from rfl) (Reps.one (show Kd.M (Kd.int .i64) _ _ _ (Int.tmod x18_2 16) [.int .i64 (Int.tmod x18_2 16)] from rfl) (Reps.none _ _)))); intro v561 w28 ho29 hb hg_ hnew_; clear hg_ hnew_; (first | rw [← Ny560.out] at ho29 | (simp only [Int.reduceToNat] at ho29; rw [← Ny560.out] at ho29)); have n0_ := Aside0.mk (Kd.S_elder' (by (with_reducible repeat (first | apply Kd.S_alloc | apply Kd.S_drewN | apply Kd.S_drew)); exact HO_13.out) (Kd.R_base ho29) hb); have n1_ := zR HO_555002 hb; have n2_ := Aside0.mk (Kd.R_lower ho29 (below_size (zB HB))); have n3_ := zb BK554 hb; have n4_ := zs HB hb; clear HO_13; clear HO_555002; clear BK554; clear HB; have HO_13 := n0_; have HO_555002 := n1_; have HO562 := n2_; have BK554 := n3_; have HB := n4_; clear n0_ n1_ n2_ n3_ n4_; clear hb ho29; obtain ⟨Ao30, co30, eo30⟩ := Kd.R_slice HO562.out; subst eo30) | ((with_reducible refine gate_callee (f := 33) rfl ?_); refine goesL_ (some 80) rfl rfl Try.func33 (by kernel_rfl) rfl #[.agg #[.int .i64 t548, .int .i64 t549, .slice Ao18 t550.length co18], .slice Ao30 y560.length co30] rfl (by (try simp only [List.map_toArray, List.map_cons, List.map_nil]); first | done | rfl | (simp only [List.length_drop, List.length_take]; rfl)) ?_; (with_reducible refine (beam_Node.calls k2 t548 t549 _ _ t550 _ _ y560 t563 t564 t565 t566 t569 _ ?side1 ?side2 ?side3 ?side4 A24.out).mono ?_); (case side1 => repeat (first | exact (Kd.R_reads' HO_555002.out).2.2 | (with_reducible refine Kd.C_alloc ?_ _) | (with_reducible refine Kd.C_drewN ?_ _) | (with_reducible refine Kd.C_drew ?_))); (case side2 => exact (Kd.R_reads' HO_555002.out).2.1); (case side3 => repeat (first | exact (Kd.R_reads' HO562.out).2.2 | (with_reducible refine Kd.C_alloc ?_ _) | (with_reducible refine Kd.C_drewN ?_ _) | (with_reducible refine Kd.C_drew ?_))); (case side4 => exact (Kd.R_reads' HO562.out).2.1); rintro e w31 ⟨v567, rfl, ho0, hb⟩; refine ⟨_, rfl, ?_⟩; have n0_ := Aside0.mk (Kd.S_elder' (by (with_reducible repeat (first | apply Kd.S_alloc | apply Kd.S_drewN | apply Kd.S_drew)); exact HO_13.out) (Kd.R_base ho0) hb); have n1_ := zR HO_555002 hb; have n2_ := Aside0.mk (Kd.R_elder' (zr_ HO562) (Kd.R_base ho0) hb); have n3_ := Aside0.mk (Kd.R_lower (Kd.R_new' ho0 (Kd.R_lt (zr_ HO562))) (below_size (zB HB))); have n4_ := zb BK554 hb; have n5_ := zs HB hb; clear HO_13; clear HO_555002; clear HO562; clear BK554; clear HB; have HO_13 := n0_; have HO_555002 := n1_; have HO562 := n2_; have HO568 := n3_; have BK554 := n4_; have HB := n5_; clear n0_ n1_ n2_ n3_ n4_ n5_; (try clear hb); (try clear hb2); (try clear hk); (try clear hi); (try clear ho0)) | ((with_reducible refine gate_dst (N := 19) rfl ?_); (try (refine gate_guard (by rfl) ?_; dsimp only)); refine box_event ?hg (N := 19) ?hd (cs := #[.int .u32 0, .int .i64 0, .int .i64 0, .slice none 0 0]) (t := 66) ?hr ?_; (case hd => rfl); (case hg => rfl); (case hr => first | (go_simp; done) | (go_simp; rfl)); intro gb570 hg w32 hbox hb; have n0_ := Aside0.mk (Kd.S_below (Kd.S_elderB (by (with_reducible repeat (first | apply Kd.S_alloc | apply Kd.S_drewN | apply Kd.S_drew)); exact HO_13.out) gb570 (Nat.le_of_eq hg.symm)) hb); have n1_ := zR HO_555002 hb; have n2_ := zR HO562 hb; have n3_ := zR HO568 hb; have n4_ := zb BK554 hb; have n5_ := zs HB hb; have n6_ := Aside0.mk (hbox); have n7_ := zg HB hg; have n8_ := zg HB hg; have n9_ := zl BK554 hg; have n10_ := zr BK554 hg; clear HO_13; clear HO_555002; clear HO562; clear HO568; clear BK554; clear HB; have HO_13 := n0_; have HO_555002 := n1_; have HO562 := n2_; have HO568 := n3_; have BK554 := n4_; have HB := n5_; have BK570 := n6_; have GW570 := n7_; have GE570 := n8_; have NB554_570 := n9_; have NB570_554 := n10_; clear n0_ n1_ n2_ n3_ n4_ n5_ n6_ n7_ n8_ n9_ n10_; clear hb hbox hg; have hnb33 := NB570_554.out; have hnc33 := NB554_570.out; obtain ⟨hcz34_0, hcz34_1, hcz34_2, hcz34_3⟩ := zC4 BK570; obtain ⟨hfz34_0, hfz34_1, hfz34_2, hfz34_3⟩ := zF4 BK570; obtain ⟨Ao35, co35, eo35⟩ := Kd.R_slice HO568.out; subst eo35))
                      (try simp only [Act.put, List.setIfInBounds_toArray, List.set_cons_zero, List.set_cons_succ])
                      go_cut [92] (fun v92 wc => ∃ (kq : Nat) (x92_25 : Bool), v92 = .bool x92_25 ∧ Aside0 (volutelaw12_BeamWhole.j2 kq (wrap64 (1 + (wrap64 (Int.tmod (IntKind.u64.wrap (a4)) 2)))) t555 t558 x16_2 x17_2 x18_2 x92_25 t548 t549 t550 t563 t564 t565 t566 = some true) ∧ Aside0 (kq ≤ k2) ∧ Aside0 (Kd.S k66 66 wc w.heap.size (fun k_ => some k_ ≠ ((.slice Ao35 t566.length co35) : Value).ownBlock ∧ k_ ≠ gb570) v556 t555) ∧ Aside0 (Kd.R k132 132 wc w.heap.size (fun _ => True) (.slice Ao18 t550.length co18) t550) ∧ Aside0 (Kd.R (Kd.int .i64) 3 wc w.heap.size (fun _ => True) (.slice Ao35 t566.length co35) t566) ∧ Aside0 (wc.heap[gb554]? = some (.cells #[.int .i64 t548, .int .i64 t549, (.slice Ao18 t550.length co18)] 49 (0, 0))) ∧ Aside0 (wc.heap[gb570]? = some (.cells #[.int .u32 t563, .int .i64 t564, .int .i64 t565, (.slice Ao35 t566.length co35)] 66 (0, 0))) ∧ Aside0 (Below w.heap.size w wc))
                      case first =>
                        have H := HC26.out
                        clear HC26
                        by_cases c36 : x16_2 < 0
                        · rw [if_pos c36] at H
                          have c36b0 : decide (x16_2 < 0) = true := decide_eq_true c36
                          clear c36
                          (first | rw [c36b0] | (simp only [i64_w, i32_w]; rw [c36b0]) | skip)
                          have H' := Aside0.mk H
                          clear H
                          go_wp2
                          go_meet
                          case rel => exact ⟨_, (true), (by first | rfl | (simp; done) | (simp [*]; done)), H', ⟨by have := HJ10.out; have := HK2.out; first | omega | exact Nat.le_refl _⟩, ⟨by (with_reducible repeat (first | apply Kd.S_alloc | apply Kd.S_drewN | apply Kd.S_drew)); exact Kd.S_mono (Kd.S_far (p := ⟨gb570, 3, none⟩) (Kd.S_far (p := ⟨gb570, 2, none⟩) (Kd.S_far (p := ⟨gb570, 1, none⟩) (Kd.S_far (p := ⟨gb570, 0, none⟩) (Kd.S_mono HO_13.out (fun k_ hk => (⟨hk, hk.2⟩ : _ ∧ k_ ≠ gb570))) (fun _ hk => hk.2) (.int .u32 t563)) (fun _ hk => hk.2) (.int .i64 t564)) (fun _ hk => hk.2) (.int .i64 t565)) (fun _ hk => hk.2) (.slice Ao35 t566.length co35)) (fun _ hk => ⟨hk.1.1.2, hk.1.2⟩)⟩, ⟨by (with_reducible repeat (first | apply Kd.R_alloc | apply Kd.R_drewN | apply Kd.R_drew)); exact Kd.R_mono (Kd.R_far (p := ⟨gb570, 3, none⟩) (Kd.R_far (p := ⟨gb570, 2, none⟩) (Kd.R_far (p := ⟨gb570, 1, none⟩) (Kd.R_far (p := ⟨gb570, 0, none⟩) (Kd.R_types HO_555002.out BK570.out (by decide)) (fun _ hk => hk.2) (.int .u32 t563)) (fun _ hk => hk.2) (.int .i64 t564)) (fun _ hk => hk.2) (.int .i64 t565)) (fun _ hk => hk.2) (.slice Ao35 t566.length co35)) (fun _ hk => trivial)⟩, ⟨by (with_reducible repeat (first | apply Kd.R_alloc | apply Kd.R_drewN | apply Kd.R_drew)); exact Kd.R_mono (Kd.R_far (p := ⟨gb570, 3, none⟩) (Kd.R_far (p := ⟨gb570, 2, none⟩) (Kd.R_far (p := ⟨gb570, 1, none⟩) (Kd.R_far (p := ⟨gb570, 0, none⟩) (Kd.R_types HO568.out BK570.out (by decide)) (fun _ hk => hk.2) (.int .u32 t563)) (fun _ hk => hk.2) (.int .i64 t564)) (fun _ hk => hk.2) (.int .i64 t565)) (fun _ hk => hk.2) (.slice Ao35 t566.length co35)) (fun _ hk => trivial)⟩, ⟨by (with_reducible repeat (first | refine blk_drewN ?_ _ | refine blk_drew ?_ | refine blk_alloc ?_ _)); refine blk_far ?_ NB554_570.out _; (with_reducible repeat (first | refine blk_drewN ?_ _ | refine blk_drew ?_ | refine blk_alloc ?_ _)); refine blk_far ?_ NB554_570.out _; (with_reducible repeat (first | refine blk_drewN ?_ _ | refine blk_drew ?_ | refine blk_alloc ?_ _)); refine blk_far ?_ NB554_570.out _; (with_reducible repeat (first | refine blk_drewN ?_ _ | refine blk_drew ?_ | refine blk_alloc ?_ _)); refine blk_far ?_ NB554_570.out _; (with_reducible repeat (first | refine blk_drewN ?_ _ | refine blk_drew ?_ | refine blk_alloc ?_ _)); exact BK554.out⟩, ⟨by (with_reducible repeat (first | refine blk_drewN ?_ _ | refine blk_drew ?_ | refine blk_alloc ?_ _)); refine blk_put (cs := #[.int .u32 t563, .int .i64 t564, .int .i64 t565, .slice none 0 0]) ?_ 3 _ rfl; (with_reducible repeat (first | refine blk_drewN ?_ _ | refine blk_drew ?_ | refine blk_alloc ?_ _)); refine blk_put (cs := #[.int .u32 t563, .int .i64 t564, .int .i64 0, .slice none 0 0]) ?_ 2 _ rfl; (with_reducible repeat (first | refine blk_drewN ?_ _ | refine blk_drew ?_ | refine blk_alloc ?_ _)); refine blk_put (cs := #[.int .u32 t563, .int .i64 0, .int .i64 0, .slice none 0 0]) ?_ 1 _ rfl; (with_reducible repeat (first | refine blk_drewN ?_ _ | refine blk_drew ?_ | refine blk_alloc ?_ _)); refine blk_put (cs := #[.int .u32 0, .int .i64 0, .int .i64 0, .slice none 0 0]) ?_ 0 _ rfl; (with_reducible repeat (first | refine blk_drewN ?_ _ | refine blk_drew ?_ | refine blk_alloc ?_ _)); exact BK570.out⟩, ⟨by repeat (first | (with_reducible first | exact HB.out | apply below_alloc | apply pw_below_drewN | apply below_drew1 | refine below_set ?_ GE554.out | refine below_set ?_ GE570.out) | exact HB.out)⟩⟩
                        · rw [if_neg c36] at H
                          have c36b0 : decide (x16_2 < 0) = false := decide_eq_false c36
                          clear c36
                          (first | rw [c36b0] | (simp only [i64_w, i32_w]; rw [c36b0]) | skip)
                          have H' := Aside0.mk H
                          clear H
                          have hnb37 := NB570_554.out
                          have hnc37 := NB554_570.out
                          obtain ⟨hcz38_0, hcz38_1, hcz38_2, hcz38_3⟩ := zC4 BK570
                          obtain ⟨hfz38_0, hfz38_1, hfz38_2, hfz38_3⟩ := zF4 BK570
                          go_wp2
                          go_meet
                          case rel => exact ⟨_, (decide (t564 < x16_2)), (by first | rfl | (simp; done) | (simp [*]; done)), H', ⟨by have := HJ10.out; have := HK2.out; first | omega | exact Nat.le_refl _⟩, ⟨by (with_reducible repeat (first | apply Kd.S_alloc | apply Kd.S_drewN | apply Kd.S_drew)); exact Kd.S_mono (Kd.S_far (p := ⟨gb570, 3, none⟩) (Kd.S_far (p := ⟨gb570, 2, none⟩) (Kd.S_far (p := ⟨gb570, 1, none⟩) (Kd.S_far (p := ⟨gb570, 0, none⟩) (Kd.S_mono HO_13.out (fun k_ hk => (⟨hk, hk.2⟩ : _ ∧ k_ ≠ gb570))) (fun _ hk => hk.2) (.int .u32 t563)) (fun _ hk => hk.2) (.int .i64 t564)) (fun _ hk => hk.2) (.int .i64 t565)) (fun _ hk => hk.2) (.slice Ao35 t566.length co35)) (fun _ hk => ⟨hk.1.1.2, hk.1.2⟩)⟩, ⟨by (with_reducible repeat (first | apply Kd.R_alloc | apply Kd.R_drewN | apply Kd.R_drew)); exact Kd.R_mono (Kd.R_far (p := ⟨gb570, 3, none⟩) (Kd.R_far (p := ⟨gb570, 2, none⟩) (Kd.R_far (p := ⟨gb570, 1, none⟩) (Kd.R_far (p := ⟨gb570, 0, none⟩) (Kd.R_types HO_555002.out BK570.out (by decide)) (fun _ hk => hk.2) (.int .u32 t563)) (fun _ hk => hk.2) (.int .i64 t564)) (fun _ hk => hk.2) (.int .i64 t565)) (fun _ hk => hk.2) (.slice Ao35 t566.length co35)) (fun _ hk => trivial)⟩, ⟨by (with_reducible repeat (first | apply Kd.R_alloc | apply Kd.R_drewN | apply Kd.R_drew)); exact Kd.R_mono (Kd.R_far (p := ⟨gb570, 3, none⟩) (Kd.R_far (p := ⟨gb570, 2, none⟩) (Kd.R_far (p := ⟨gb570, 1, none⟩) (Kd.R_far (p := ⟨gb570, 0, none⟩) (Kd.R_types HO568.out BK570.out (by decide)) (fun _ hk => hk.2) (.int .u32 t563)) (fun _ hk => hk.2) (.int .i64 t564)) (fun _ hk => hk.2) (.int .i64 t565)) (fun _ hk => hk.2) (.slice Ao35 t566.length co35)) (fun _ hk => trivial)⟩, ⟨by (with_reducible repeat (first | refine blk_drewN ?_ _ | refine blk_drew ?_ | refine blk_alloc ?_ _)); refine blk_far ?_ NB554_570.out _; (with_reducible repeat (first | refine blk_drewN ?_ _ | refine blk_drew ?_ | refine blk_alloc ?_ _)); refine blk_far ?_ NB554_570.out _; (with_reducible repeat (first | refine blk_drewN ?_ _ | refine blk_drew ?_ | refine blk_alloc ?_ _)); refine blk_far ?_ NB554_570.out _; (with_reducible repeat (first | refine blk_drewN ?_ _ | refine blk_drew ?_ | refine blk_alloc ?_ _)); refine blk_far ?_ NB554_570.out _; (with_reducible repeat (first | refine blk_drewN ?_ _ | refine blk_drew ?_ | refine blk_alloc ?_ _)); exact BK554.out⟩, ⟨by (with_reducible repeat (first | refine blk_drewN ?_ _ | refine blk_drew ?_ | refine blk_alloc ?_ _)); refine blk_put (cs := #[.int .u32 t563, .int .i64 t564, .int .i64 t565, .slice none 0 0]) ?_ 3 _ rfl; (with_reducible repeat (first | refine blk_drewN ?_ _ | refine blk_drew ?_ | refine blk_alloc ?_ _)); refine blk_put (cs := #[.int .u32 t563, .int .i64 t564, .int .i64 0, .slice none 0 0]) ?_ 2 _ rfl; (with_reducible repeat (first | refine blk_drewN ?_ _ | refine blk_drew ?_ | refine blk_alloc ?_ _)); refine blk_put (cs := #[.int .u32 t563, .int .i64 0, .int .i64 0, .slice none 0 0]) ?_ 1 _ rfl; (with_reducible repeat (first | refine blk_drewN ?_ _ | refine blk_drew ?_ | refine blk_alloc ?_ _)); refine blk_put (cs := #[.int .u32 0, .int .i64 0, .int .i64 0, .slice none 0 0]) ?_ 0 _ rfl; (with_reducible repeat (first | refine blk_drewN ?_ _ | refine blk_drew ?_ | refine blk_alloc ?_ _)); exact BK570.out⟩, ⟨by repeat (first | (with_reducible first | exact HB.out | apply below_alloc | apply pw_below_drewN | apply below_drew1 | refine below_set ?_ GE554.out | refine below_set ?_ GE570.out) | exact HB.out)⟩⟩
                      case rest =>
                        clear HC26
                        try clear c2
                        try clear p2
                        try clear c3
                        try clear c6
                        try clear c6b0
                        try clear c6b1
                        try clear p6
                        try clear c7
                        try clear c7b0
                        try clear c7b1
                        try clear c9
                        try clear c20
                        try clear c20b0
                        try clear c20b1
                        try clear c22
                        try clear c23
                        try clear c23b0
                        try clear c25
                        try clear c25b0
                        try clear c25b1
                        try clear c31
                        try clear c32
                        try clear c33
                        try clear c36
                        try clear c36b0
                        try clear c37
                        try clear hcz17_0
                        try clear hcz17_1
                        try clear hcz17_2
                        try clear hcz27_0
                        try clear hcz27_1
                        try clear hcz27_2
                        try clear hcz34_0
                        try clear hcz34_1
                        try clear hcz34_2
                        try clear hcz34_3
                        try clear hcz38_0
                        try clear hcz38_1
                        try clear hcz38_2
                        try clear hcz38_3
                        try clear hfz17_0
                        try clear hfz17_1
                        try clear hfz17_2
                        try clear hfz27_0
                        try clear hfz27_1
                        try clear hfz27_2
                        try clear hfz34_0
                        try clear hfz34_1
                        try clear hfz34_2
                        try clear hfz34_3
                        try clear hfz38_0
                        try clear hfz38_1
                        try clear hfz38_2
                        try clear hfz38_3
                        try clear p2
                        try clear p6
                        obtain ⟨kq, x92_25, rfl, HA, HJ25, HO_13, HO_555002, HO_571003, BK554, BK570, HB⟩ := hcut
                        cases kq with
                        | zero => exact absurd HA.out (by simp [volutelaw12_BeamWhole.j2])
                        | succ kj25 =>
                          have H := HA.out
                          clear HA
                          simp only [volutelaw12_BeamWhole.j2] at H
                          by_cases c39 : x92_25 = true
                          · subst c39
                            have H1 : (if t564 = t564 then (volutelaw12_BeamWhole.l0 kj25 (wrap64 (1 + (wrap64 (Int.tmod (IntKind.u64.wrap (a4)) 2)))) t555 t558 t564 (0 + 1) (wrap64 (x18_2 + 1)) t548 t549 t550) else (volutelaw12_BeamWhole.l0 kj25 (wrap64 (1 + (wrap64 (Int.tmod (IntKind.u64.wrap (a4)) 2)))) t555 t558 t564 0 (wrap64 (x18_2 + 1)) t548 t549 t550)) = some true := by first | (rw [if_pos rfl] at H; exact H) | exact (if_pos rfl).symm.trans H | (rw [if_pos rfl]; simp only [if_true, reduceIte] at H; exact H)
                            clear H
                            have H := H1
                            clear H1
                            by_cases c40 : t564 = t564
                            · rw [if_pos c40] at H
                              have c40b0 : (t564 == t564) = true := beq_iff_eq.mpr c40
                              have c40b1 : (t564 != t564) = false := bne_eq_false_iff_eq.mpr c40
                              clear c40
                              have H' := Aside0.mk H
                              clear H
                              have hnb41 := NB570_554.out
                              have hnc41 := NB554_570.out
                              obtain ⟨hcz42_0, hcz42_1, hcz42_2, hcz42_3⟩ := zC4 BK570
                              obtain ⟨hfz42_0, hfz42_1, hfz42_2, hfz42_3⟩ := zF4 BK570
                              go_wp2
                              go_roundg kj25
                              case measure => have := HJ10.out; have := HK2.out; have := HJ25.out; omega
                              case rel => exact ⟨(t564), (0 + 1), (wrap64 (x18_2 + 1)), (by first | rfl | (simp; done) | (simp [*]; done)), (by first | rfl | (simp; done) | (simp [*]; done)), (by first | rfl | (simp; done) | (simp [*]; done)), H', ⟨by have := HJ10.out; have := HK2.out; have := HJ25.out; omega⟩, ⟨by (with_reducible repeat (first | apply Kd.S_alloc | apply Kd.S_drewN | apply Kd.S_drew)); exact Kd.S_mono HO_13.out (fun _ hk => trivial)⟩, ⟨by (with_reducible repeat (first | apply Kd.R_alloc | apply Kd.R_drewN | apply Kd.R_drew)); exact HO_555002.out⟩, ⟨by (with_reducible repeat (first | refine blk_drewN ?_ _ | refine blk_drew ?_ | refine blk_alloc ?_ _)); exact BK554.out⟩, ⟨by repeat (first | (with_reducible first | exact HB.out | apply below_alloc | apply pw_below_drewN | apply below_drew1 | refine below_set ?_ GE554.out | refine below_set ?_ GE570.out) | exact HB.out)⟩⟩
                            · exact absurd rfl c40
                          · replace c39 := Bool.eq_false_iff.mpr c39
                            subst c39
                            have H1 : (if t564 = x16_2 then (volutelaw12_BeamWhole.l0 kj25 (wrap64 (1 + (wrap64 (Int.tmod (IntKind.u64.wrap (a4)) 2)))) t555 t558 x16_2 (wrap64 (x17_2 + 1)) (wrap64 (x18_2 + 1)) t548 t549 t550) else (volutelaw12_BeamWhole.l0 kj25 (wrap64 (1 + (wrap64 (Int.tmod (IntKind.u64.wrap (a4)) 2)))) t555 t558 x16_2 x17_2 (wrap64 (x18_2 + 1)) t548 t549 t550)) = some true := by rw [if_neg (show ¬ (false = true) by decide)] at H; exact H
                            clear H
                            have H := H1
                            clear H1
                            by_cases c45 : t564 = x16_2
                            · rw [if_pos c45] at H
                              have c45b0 : (t564 == x16_2) = true := beq_iff_eq.mpr c45
                              have c45b1 : (t564 != x16_2) = false := bne_eq_false_iff_eq.mpr c45
                              clear c45
                              have H' := Aside0.mk H
                              clear H
                              have hnb46 := NB570_554.out
                              have hnc46 := NB554_570.out
                              obtain ⟨hcz47_0, hcz47_1, hcz47_2, hcz47_3⟩ := zC4 BK570
                              obtain ⟨hfz47_0, hfz47_1, hfz47_2, hfz47_3⟩ := zF4 BK570
                              go_wp2
                              go_roundg kj25
                              case measure => have := HJ10.out; have := HK2.out; have := HJ25.out; omega
                              case rel => exact ⟨(x16_2), (wrap64 (x17_2 + 1)), (wrap64 (x18_2 + 1)), (by first | rfl | (simp; done) | (simp [*]; done)), (by first | rfl | (simp; done) | (simp [*]; done)), (by first | rfl | (simp; done) | (simp [*]; done)), H', ⟨by have := HJ10.out; have := HK2.out; have := HJ25.out; omega⟩, ⟨by (with_reducible repeat (first | apply Kd.S_alloc | apply Kd.S_drewN | apply Kd.S_drew)); exact Kd.S_mono HO_13.out (fun _ hk => trivial)⟩, ⟨by (with_reducible repeat (first | apply Kd.R_alloc | apply Kd.R_drewN | apply Kd.R_drew)); exact HO_555002.out⟩, ⟨by (with_reducible repeat (first | refine blk_drewN ?_ _ | refine blk_drew ?_ | refine blk_alloc ?_ _)); exact BK554.out⟩, ⟨by repeat (first | (with_reducible first | exact HB.out | apply below_alloc | apply pw_below_drewN | apply below_drew1 | refine below_set ?_ GE554.out | refine below_set ?_ GE570.out) | exact HB.out)⟩⟩
                            · rw [if_neg c45] at H
                              have c45b0 : (t564 == x16_2) = false := beq_eq_false_iff_ne.mpr c45
                              have c45b1 : (t564 != x16_2) = true := bne_iff_ne.mpr c45
                              have H' := Aside0.mk H
                              clear H
                              have hnb48 := NB570_554.out
                              have hnc48 := NB554_570.out
                              obtain ⟨hcz49_0, hcz49_1, hcz49_2, hcz49_3⟩ := zC4 BK570
                              obtain ⟨hfz49_0, hfz49_1, hfz49_2, hfz49_3⟩ := zF4 BK570
                              go_wp2
                              go_roundg kj25
                              case measure => have := HJ10.out; have := HK2.out; have := HJ25.out; omega
                              case rel => exact ⟨(x16_2), (x17_2), (wrap64 (x18_2 + 1)), (by first | rfl | (simp; done) | (simp [*]; done)), (by first | rfl | (simp; done) | (simp [*]; done)), (by first | rfl | (simp; done) | (simp [*]; done)), H', ⟨by have := HJ10.out; have := HK2.out; have := HJ25.out; omega⟩, ⟨by (with_reducible repeat (first | apply Kd.S_alloc | apply Kd.S_drewN | apply Kd.S_drew)); exact Kd.S_mono HO_13.out (fun _ hk => trivial)⟩, ⟨by (with_reducible repeat (first | apply Kd.R_alloc | apply Kd.R_drewN | apply Kd.R_drew)); exact HO_555002.out⟩, ⟨by (with_reducible repeat (first | refine blk_drewN ?_ _ | refine blk_drew ?_ | refine blk_alloc ?_ _)); exact BK554.out⟩, ⟨by repeat (first | (with_reducible first | exact HB.out | apply below_alloc | apply pw_below_drewN | apply below_drew1 | refine below_set ?_ GE554.out | refine below_set ?_ GE570.out) | exact HB.out)⟩⟩
                    · rw [if_neg c25] at H
                      have c25b0 : (t569 == 0) = false := beq_eq_false_iff_ne.mpr c25
                      have c25b1 : (t569 != 0) = true := bne_iff_ne.mpr c25
                      exact absurd (Option.some.inj H) (by decide)
                  · rw [if_neg c23] at H
                    have c23b0 : decide (x18_2 < 256) = false := decide_eq_false c23
                    clear c23
                    have HC59 := Aside0.mk H
                    clear H
                    go_upto_region 22 with (fail)
                    go_cut [111] (fun v111 wc => ∃ (kq : Nat) (x111_58 : Bool), v111 = .bool x111_58 ∧ Aside0 (volutelaw12_BeamWhole.j3 kq (wrap64 (1 + (wrap64 (Int.tmod (IntKind.u64.wrap (a4)) 2)))) x16_2 x17_2 x111_58 t548 t549 t550 = some true) ∧ Aside0 (kq ≤ k2) ∧ Aside0 (Kd.R k132 132 wc w.heap.size (fun _ => True) (.slice Ao18 t550.length co18) t550) ∧ Aside0 (wc.heap[gb554]? = some (.cells #[.int .i64 t548, .int .i64 t549, (.slice Ao18 t550.length co18)] 49 (0, 0))) ∧ Aside0 (Below w.heap.size w wc))
                    case first =>
                      have H := HC59.out
                      clear HC59
                      by_cases c60 : 0 < (t555.length : Int)
                      · rw [if_pos c60] at H
                        have c60b0 : decide (0 < (t555.length : Int)) = true := decide_eq_true c60
                        have c60b1 : decide (0 < t555.length) = true := decide_eq_true (by omega)
                        clear c60
                        (first | rw [c60b0] | (simp only [i64_w, i32_w]; rw [c60b0]) | skip)
                        by_cases c61 : ((rd_T66 t555 0).f1) = x16_2
                        · rw [if_pos c61] at H
                          have c61b0 : (((rd_T66 t555 0).f1) == x16_2) = true := beq_iff_eq.mpr c61
                          have c61b1 : (((rd_T66 t555 0).f1) != x16_2) = false := bne_eq_false_iff_eq.mpr c61
                          clear c61
                          have H' := Aside0.mk H
                          clear H
                          obtain ⟨Ao62, co62, eo62⟩ := Kd.S_slice HO_13.out
                          subst eo62
                          have p571 : 0 ≤ (0 : Int) := (by omega)
                          have q571 : 0 < (t555.length : Int) := of_decide_eq_true (by first | (with_reducible assumption) | assumption)
                          obtain ⟨ad571, A571_3, c571_3, e571, hx571_0, hx571_1, hx571_2, hx571_3, hl571_3, hi571_3⟩ := at_T66 (Kd.S_reads' HO_13.out).2.2 0 p571 q571
                          cases e571
                          obtain ⟨ce571, hce571, hMe571, hcc571⟩ := Kd.S_get HO_13.out z66 0 p571 (by first | exact q571 | exact of_decide_eq_true (by first | (with_reducible assumption) | assumption) | (have e_ := (Kd.S_reads' HO_13.out).1; omega))
                          obtain ⟨ve571_3, rfl, ge571_3⟩ := k66_openM hMe571
                          have hv571_3 := hcc571 3 _ rfl
                          rw [add_field _ _ 3 (by omega)] at hv571_3
                          replace hv571_3 := Option.some.inj (hv571_3.symm.trans hx571_3)
                          rw [hv571_3] at ge571_3
                          have HL571_3 := Aside0.mk (show Kd.R (Kd.int .i64) 3 _ _ _ _ ((rd_T66 t555 0).f3) from ge571_3)
                          clear hv571_3 ge571_3
                          clear hcc571 hce571
                          have qi571 : (0 < t555.length) = True := eq_true (by omega)
                          (try rw [show ((0 : Int)).toNat = 0 from rfl] at hx571_0)
                          (try rw [show 0 * 4 = 0 from rfl] at hx571_0)
                          (try rw [Addr.add_zero'] at hx571_0)
                          (try rw [show ((0 : Int)).toNat = 0 from rfl] at hx571_1)
                          (try rw [show 0 * 4 = 0 from rfl] at hx571_1)
                          (try rw [Addr.add_zero'] at hx571_1)
                          (try rw [show ((0 : Int)).toNat = 0 from rfl] at hx571_2)
                          (try rw [show 0 * 4 = 0 from rfl] at hx571_2)
                          (try rw [Addr.add_zero'] at hx571_2)
                          (try rw [show ((0 : Int)).toNat = 0 from rfl] at hx571_3)
                          (try rw [show 0 * 4 = 0 from rfl] at hx571_3)
                          (try rw [Addr.add_zero'] at hx571_3)
                          have HR571_3 := Aside0.mk hi571_3
                          have HC571_3 := Aside0.mk hl571_3
                          clear hi571_3 hl571_3
                          replace p571 := eq_true p571
                          replace q571 := eq_true q571
                          go_wp2
                          go_meet
                          case rel => exact ⟨_, (decide (t558 < x16_2)), (by first | rfl | (simp; done) | (simp [*]; done)), H', ⟨by have := HJ10.out; have := HK2.out; first | omega | exact Nat.le_refl _⟩, ⟨by (with_reducible repeat (first | apply Kd.R_alloc | apply Kd.R_drewN | apply Kd.R_drew)); exact HO_555002.out⟩, ⟨by (with_reducible repeat (first | refine blk_drewN ?_ _ | refine blk_drew ?_ | refine blk_alloc ?_ _)); exact BK554.out⟩, ⟨by repeat (first | (with_reducible first | exact HB.out | apply below_alloc | apply pw_below_drewN | apply below_drew1 | refine below_set ?_ GE554.out) | exact HB.out)⟩⟩
                        · rw [if_neg c61] at H
                          have c61b0 : (((rd_T66 t555 0).f1) == x16_2) = false := beq_eq_false_iff_ne.mpr c61
                          have c61b1 : (((rd_T66 t555 0).f1) != x16_2) = true := bne_iff_ne.mpr c61
                          have H' := Aside0.mk H
                          clear H
                          obtain ⟨Ao63, co63, eo63⟩ := Kd.S_slice HO_13.out
                          subst eo63
                          have p571 : 0 ≤ (0 : Int) := (by omega)
                          have q571 : 0 < (t555.length : Int) := of_decide_eq_true (by first | (with_reducible assumption) | assumption)
                          obtain ⟨ad571, A571_3, c571_3, e571, hx571_0, hx571_1, hx571_2, hx571_3, hl571_3, hi571_3⟩ := at_T66 (Kd.S_reads' HO_13.out).2.2 0 p571 q571
                          cases e571
                          obtain ⟨ce571, hce571, hMe571, hcc571⟩ := Kd.S_get HO_13.out z66 0 p571 (by first | exact q571 | exact of_decide_eq_true (by first | (with_reducible assumption) | assumption) | (have e_ := (Kd.S_reads' HO_13.out).1; omega))
                          obtain ⟨ve571_3, rfl, ge571_3⟩ := k66_openM hMe571
                          have hv571_3 := hcc571 3 _ rfl
                          rw [add_field _ _ 3 (by omega)] at hv571_3
                          replace hv571_3 := Option.some.inj (hv571_3.symm.trans hx571_3)
                          rw [hv571_3] at ge571_3
                          have HL571_3 := Aside0.mk (show Kd.R (Kd.int .i64) 3 _ _ _ _ ((rd_T66 t555 0).f3) from ge571_3)
                          clear hv571_3 ge571_3
                          clear hcc571 hce571
                          have qi571 : (0 < t555.length) = True := eq_true (by omega)
                          (try rw [show ((0 : Int)).toNat = 0 from rfl] at hx571_0)
                          (try rw [show 0 * 4 = 0 from rfl] at hx571_0)
                          (try rw [Addr.add_zero'] at hx571_0)
                          (try rw [show ((0 : Int)).toNat = 0 from rfl] at hx571_1)
                          (try rw [show 0 * 4 = 0 from rfl] at hx571_1)
                          (try rw [Addr.add_zero'] at hx571_1)
                          (try rw [show ((0 : Int)).toNat = 0 from rfl] at hx571_2)
                          (try rw [show 0 * 4 = 0 from rfl] at hx571_2)
                          (try rw [Addr.add_zero'] at hx571_2)
                          (try rw [show ((0 : Int)).toNat = 0 from rfl] at hx571_3)
                          (try rw [show 0 * 4 = 0 from rfl] at hx571_3)
                          (try rw [Addr.add_zero'] at hx571_3)
                          have HR571_3 := Aside0.mk hi571_3
                          have HC571_3 := Aside0.mk hl571_3
                          clear hi571_3 hl571_3
                          replace p571 := eq_true p571
                          replace q571 := eq_true q571
                          go_wp2
                          go_meet
                          case rel => exact ⟨_, (true), (by first | rfl | (simp; done) | (simp [*]; done)), H', ⟨by have := HJ10.out; have := HK2.out; first | omega | exact Nat.le_refl _⟩, ⟨by (with_reducible repeat (first | apply Kd.R_alloc | apply Kd.R_drewN | apply Kd.R_drew)); exact HO_555002.out⟩, ⟨by (with_reducible repeat (first | refine blk_drewN ?_ _ | refine blk_drew ?_ | refine blk_alloc ?_ _)); exact BK554.out⟩, ⟨by repeat (first | (with_reducible first | exact HB.out | apply below_alloc | apply pw_below_drewN | apply below_drew1 | refine below_set ?_ GE554.out) | exact HB.out)⟩⟩
                      · rw [if_neg c60] at H
                        exact absurd H (by simp)
                    case rest =>
                      clear HC59
                      try clear c2
                      try clear p2
                      try clear c3
                      try clear c4
                      try clear c5
                      try clear p5
                      try clear q5
                      try clear hx5
                      try clear qi5
                      try clear c6
                      try clear c6b0
                      try clear c6b1
                      try clear p6
                      try clear c7
                      try clear c7b0
                      try clear c7b1
                      try clear c9
                      try clear c20
                      try clear c20b0
                      try clear c20b1
                      try clear c22
                      try clear c23
                      try clear c23b0
                      try clear c25
                      try clear c25b0
                      try clear c25b1
                      try clear c31
                      try clear c32
                      try clear c33
                      try clear c36
                      try clear c36b0
                      try clear c37
                      try clear c39
                      try clear c40
                      try clear c40b0
                      try clear c40b1
                      try clear c41
                      try clear c43
                      try clear c45
                      try clear c45b0
                      try clear c45b1
                      try clear c46
                      try clear c48
                      try clear c56
                      try clear c57
                      try clear p57
                      try clear q57
                      try clear hx57
                      try clear qi57
                      try clear c60
                      try clear c60b0
                      try clear c60b1
                      try clear c61
                      try clear c61b0
                      try clear c61b1
                      try clear hcz17_0
                      try clear hcz17_1
                      try clear hcz17_2
                      try clear hcz27_0
                      try clear hcz27_1
                      try clear hcz27_2
                      try clear hcz34_0
                      try clear hcz34_1
                      try clear hcz34_2
                      try clear hcz34_3
                      try clear hcz38_0
                      try clear hcz38_1
                      try clear hcz38_2
                      try clear hcz38_3
                      try clear hcz42_0
                      try clear hcz42_1
                      try clear hcz42_2
                      try clear hcz42_3
                      try clear hcz44_0
                      try clear hcz44_1
                      try clear hcz44_2
                      try clear hcz44_3
                      try clear hcz47_0
                      try clear hcz47_1
                      try clear hcz47_2
                      try clear hcz47_3
                      try clear hcz49_0
                      try clear hcz49_1
                      try clear hcz49_2
                      try clear hcz49_3
                      try clear hcz50_0
                      try clear hcz50_1
                      try clear hcz50_2
                      try clear hcz57_0
                      try clear hcz57_1
                      try clear hcz57_2
                      try clear hcz57_3
                      try clear hfz17_0
                      try clear hfz17_1
                      try clear hfz17_2
                      try clear hfz27_0
                      try clear hfz27_1
                      try clear hfz27_2
                      try clear hfz34_0
                      try clear hfz34_1
                      try clear hfz34_2
                      try clear hfz34_3
                      try clear hfz38_0
                      try clear hfz38_1
                      try clear hfz38_2
                      try clear hfz38_3
                      try clear hfz42_0
                      try clear hfz42_1
                      try clear hfz42_2
                      try clear hfz42_3
                      try clear hfz44_0
                      try clear hfz44_1
                      try clear hfz44_2
                      try clear hfz44_3
                      try clear hfz47_0
                      try clear hfz47_1
                      try clear hfz47_2
                      try clear hfz47_3
                      try clear hfz49_0
                      try clear hfz49_1
                      try clear hfz49_2
                      try clear hfz49_3
                      try clear hfz50_0
                      try clear hfz50_1
                      try clear hfz50_2
                      try clear hfz57_0
                      try clear hfz57_1
                      try clear hfz57_2
                      try clear hfz57_3
                      try clear hx571_0
                      try clear hx571_1
                      try clear hx571_2
                      try clear hx571_3
                      try clear p2
                      try clear p571
                      try clear p6
                      try clear q571
                      obtain ⟨kq, x111_58, rfl, HA, HJ58, HO_555002, BK554, HB⟩ := hcut
                      cases kq with
                      | zero => exact absurd HA.out (by simp [volutelaw12_BeamWhole.j3])
                      | succ kj58 =>
                        have H := HA.out
                        clear HA
                        simp only [volutelaw12_BeamWhole.j3] at H
                        by_cases c64 : x111_58 = true
                        · subst c64
                          have H1 : (some false) = some true := by first | (rw [if_pos rfl] at H; exact H) | exact (if_pos rfl).symm.trans H
                          clear H
                          have H := H1
                          clear H1
                          exact absurd (Option.some.inj H) (by decide)
                        · replace c64 := Bool.eq_false_iff.mpr c64
                          subst c64
                          have H1 : ((beam_Decode.f t548 t549 t550 16 (wrap64 (1 + (wrap64 (Int.tmod (IntKind.u64.wrap (a4)) 2))))).bind fun bt572 => (if x17_2 > 1 then (if bt572.2.2 = 5 then (if (bt572.1.length : Int) = 0 then (if bt572.2.1 = 0 then ((volutelaw12_wakes.f kj58).bind fun t577 => (some t577)) else (some false)) else (some false)) else (some false)) else (if bt572.2.2 = 0 then (if bt572.2.1 = x16_2 then ((volutelaw12_wakes.f kj58).bind fun t578 => (some t578)) else (some false)) else (some false)))) = some true := by rw [if_neg (show ¬ (false = true) by decide)] at H; exact H
                          clear H
                          have H := H1
                          clear H1
                          replace H := Option.bind_eq_some_iff.mp H
                          obtain ⟨⟨t572, t575, t576⟩, A650, H⟩ := H
                          replace H : (if x17_2 > 1 then (if t576 = 5 then (if (t572.length : Int) = 0 then (if t575 = 0 then ((volutelaw12_wakes.f kj58).bind fun t577 => (some t577)) else (some false)) else (some false)) else (some false)) else (if t576 = 0 then (if t575 = x16_2 then ((volutelaw12_wakes.f kj58).bind fun t578 => (some t578)) else (some false)) else (some false))) = some true := H
                          have A65 := Aside0.mk A650
                          clear A650
                          by_cases c66 : x17_2 > 1
                          · rw [if_pos c66] at H
                            have c66b0 : decide (1 < x17_2) = true := decide_eq_true c66
                            clear c66
                            by_cases c67 : t576 = 5
                            · rw [if_pos c67] at H
                              have c67b0 : (t576 == 5) = true := beq_iff_eq.mpr c67
                              have c67b1 : (t576 != 5) = false := bne_eq_false_iff_eq.mpr c67
                              clear c67
                              by_cases c68 : (t572.length : Int) = 0
                              · rw [if_pos c68] at H
                                have c68b0 : ((t572.length : Int) == 0) = true := beq_iff_eq.mpr c68
                                have c68b1 : ((t572.length : Int) != 0) = false := bne_eq_false_iff_eq.mpr c68
                                clear c68
                                by_cases c69 : t575 = 0
                                · rw [if_pos c69] at H
                                  have c69b0 : (t575 == 0) = true := beq_iff_eq.mpr c69
                                  have c69b1 : (t575 != 0) = false := bne_eq_false_iff_eq.mpr c69
                                  clear c69
                                  replace H := Option.bind_eq_some_iff.mp H
                                  obtain ⟨t577, A700, H⟩ := H
                                  replace H : (some t577) = some true := H
                                  have A70 := Aside0.mk A700
                                  clear A700
                                  obtain rfl : t577 = true := Option.some.inj H
                                  obtain ⟨hcz71_0, hcz71_1, hcz71_2⟩ := zC3 BK554
                                  obtain ⟨hfz71_0, hfz71_1, hfz71_2⟩ := zF3 BK554
                                  go_wp2_with (first | ((with_reducible refine gate_callee (f := 27) rfl ?_); refine goesL_ (some 115) rfl rfl Try.func27 (by kernel_rfl) rfl #[.agg #[.int .i64 t548, .int .i64 t549, .slice Ao18 t550.length co18], .int .i64 16, .int .i64 (wrap64 (1 + (wrap64 (Int.tmod (IntKind.u64.wrap (a4)) 2))))] rfl (by (try simp only [List.map_toArray, List.map_cons, List.map_nil]); first | done | rfl | (simp only [List.length_drop, List.length_take]; rfl)) ?_; (with_reducible refine (beam_Decode.calls t548 t549 _ _ t550 16 (wrap64 (1 + (wrap64 (Int.tmod (IntKind.u64.wrap (a4)) 2)))) t572 t575 t576 _ ?side1 ?side2 A65.out).mono ?_); (case side1 => repeat (first | exact (Kd.R_reads' HO_555002.out).2.2 | (with_reducible refine Kd.C_alloc ?_ _) | (with_reducible refine Kd.C_drewN ?_ _) | (with_reducible refine Kd.C_drew ?_))); (case side2 => exact (Kd.R_reads' HO_555002.out).2.1); rintro e w72 ⟨v573, rfl, ho0, hb⟩; refine ⟨_, rfl, ?_⟩; replace HO_555002 := zR HO_555002 hb; have HO574 := Aside0.mk (Kd.R_lower ho0 (below_size (zB HB))); replace BK554 := zb BK554 hb; replace HB := zs HB hb; (try clear hb); (try clear hb2); (try clear hk); (try clear hi); (try clear ho0); obtain ⟨Ao73, co73, eo73⟩ := Kd.R_slice HO574.out; subst eo73) | (go_at_call 30; (with_reducible refine (volutelaw12_wakes.calls kj58 _ A70.out).mono ?_); rintro e w74 ⟨rfl, hb⟩; replace HO_555002 := zR HO_555002 hb; replace HO574 := zR HO574 hb; replace BK554 := zb BK554 hb; replace HB := zs HB hb; (try clear hb); (try clear hb2); (try clear hk); (try clear hi)))
                                  go_ret
                                  exact ⟨by first | rfl | (simp [errW_none, errW_some] <;> rfl) | (simp [*, errW_none, errW_some] <;> rfl), by repeat (first | (with_reducible first | exact HB.out | apply below_alloc | apply pw_below_drewN | apply below_drew1 | refine below_set ?_ GE554.out) | exact HB.out)⟩
                                · rw [if_neg c69] at H
                                  have c69b0 : (t575 == 0) = false := beq_eq_false_iff_ne.mpr c69
                                  have c69b1 : (t575 != 0) = true := bne_iff_ne.mpr c69
                                  exact absurd (Option.some.inj H) (by decide)
                              · rw [if_neg c68] at H
                                have c68b0 : ((t572.length : Int) == 0) = false := beq_eq_false_iff_ne.mpr c68
                                have c68b1 : ((t572.length : Int) != 0) = true := bne_iff_ne.mpr c68
                                have c68b2 : ¬ (t572 = []) := fun h_ => c68 (by rw [h_]; rfl)
                                exact absurd (Option.some.inj H) (by decide)
                            · rw [if_neg c67] at H
                              have c67b0 : (t576 == 5) = false := beq_eq_false_iff_ne.mpr c67
                              have c67b1 : (t576 != 5) = true := bne_iff_ne.mpr c67
                              exact absurd (Option.some.inj H) (by decide)
                          · rw [if_neg c66] at H
                            have c66b0 : decide (1 < x17_2) = false := decide_eq_false c66
                            clear c66
                            by_cases c83 : t576 = 0
                            · rw [if_pos c83] at H
                              have c83b0 : (t576 == 0) = true := beq_iff_eq.mpr c83
                              have c83b1 : (t576 != 0) = false := bne_eq_false_iff_eq.mpr c83
                              clear c83
                              by_cases c84 : t575 = x16_2
                              · rw [if_pos c84] at H
                                have c84b0 : (t575 == x16_2) = true := beq_iff_eq.mpr c84
                                have c84b1 : (t575 != x16_2) = false := bne_eq_false_iff_eq.mpr c84
                                clear c84
                                replace H := Option.bind_eq_some_iff.mp H
                                obtain ⟨t578, A850, H⟩ := H
                                replace H : (some t578) = some true := H
                                have A85 := Aside0.mk A850
                                clear A850
                                obtain rfl : t578 = true := Option.some.inj H
                                obtain ⟨hcz86_0, hcz86_1, hcz86_2⟩ := zC3 BK554
                                obtain ⟨hfz86_0, hfz86_1, hfz86_2⟩ := zF3 BK554
                                go_wp2_with (first | ((with_reducible refine gate_callee (f := 27) rfl ?_); refine goesL_ (some 115) rfl rfl Try.func27 (by kernel_rfl) rfl #[.agg #[.int .i64 t548, .int .i64 t549, .slice Ao18 t550.length co18], .int .i64 16, .int .i64 (wrap64 (1 + (wrap64 (Int.tmod (IntKind.u64.wrap (a4)) 2))))] rfl (by (try simp only [List.map_toArray, List.map_cons, List.map_nil]); first | done | rfl | (simp only [List.length_drop, List.length_take]; rfl)) ?_; (with_reducible refine (beam_Decode.calls t548 t549 _ _ t550 16 (wrap64 (1 + (wrap64 (Int.tmod (IntKind.u64.wrap (a4)) 2)))) t572 t575 t576 _ ?side1 ?side2 A65.out).mono ?_); (case side1 => repeat (first | exact (Kd.R_reads' HO_555002.out).2.2 | (with_reducible refine Kd.C_alloc ?_ _) | (with_reducible refine Kd.C_drewN ?_ _) | (with_reducible refine Kd.C_drew ?_))); (case side2 => exact (Kd.R_reads' HO_555002.out).2.1); rintro e w87 ⟨v573, rfl, ho0, hb⟩; refine ⟨_, rfl, ?_⟩; replace HO_555002 := zR HO_555002 hb; have HO574 := Aside0.mk (Kd.R_lower ho0 (below_size (zB HB))); replace BK554 := zb BK554 hb; replace HB := zs HB hb; (try clear hb); (try clear hb2); (try clear hk); (try clear hi); (try clear ho0)) | (go_at_call 30; (with_reducible refine (volutelaw12_wakes.calls kj58 _ A85.out).mono ?_); rintro e w88 ⟨rfl, hb⟩; replace HO_555002 := zR HO_555002 hb; replace HO574 := zR HO574 hb; replace BK554 := zb BK554 hb; replace HB := zs HB hb; (try clear hb); (try clear hb2); (try clear hk); (try clear hi)))
                                go_ret
                                exact ⟨by first | rfl | (simp [errW_none, errW_some] <;> rfl) | (simp [*, errW_none, errW_some] <;> rfl), by repeat (first | (with_reducible first | exact HB.out | apply below_alloc | apply pw_below_drewN | apply below_drew1 | refine below_set ?_ GE554.out) | exact HB.out)⟩
                              · rw [if_neg c84] at H
                                have c84b0 : (t575 == x16_2) = false := beq_eq_false_iff_ne.mpr c84
                                have c84b1 : (t575 != x16_2) = true := bne_iff_ne.mpr c84
                                exact absurd (Option.some.inj H) (by decide)
                            · rw [if_neg c83] at H
                              have c83b0 : (t576 == 0) = false := beq_eq_false_iff_ne.mpr c83
                              have c83b1 : (t576 != 0) = true := bne_iff_ne.mpr c83
                              exact absurd (Option.some.inj H) (by decide)
      · replace c9 := Bool.eq_false_iff.mpr c9
        subst c9
        have H1 : (some false) = some true := by rw [if_neg (show ¬ (false = true) by decide)] at H; exact H
        clear H
        have H := H1
        clear H1
        exact absurd (Option.some.inj H) (by decide)
noncomputable def volutelaw12_BeamWhole.Pure : Prop := ∀ (a0 : Int) (a1 : Int) (a2 : Int) (l3 : List Int) (a4 : Int), (Lit.int .u8 a0).wf = true → (Lit.int .i64 a1).wf = true → (Lit.int .i64 a2).wf = true → l3.length ≤ maxLen → l3.length * 1 ≤ 140737488351232 → (∀ x ∈ l3, (Lit.int .u8 x).wf = true) → (Lit.int .i64 a4).wf = true → ∃ k, volutelaw12_BeamWhole.f k a0 a1 a2 l3 a4 = some true
theorem volutelaw12_BeamWhole.walk (P : volutelaw12_BeamWhole.Pure) (a0 : Int) (a1 : Int) (a2 : Int) (a3 : Option Addr) (len3 cap3 : Nat) (z3 : List Int) (a4 : Int) (w : World) (w0 : (Lit.int .u8 a0).wf = true) (w1 : (Lit.int .i64 a1).wf = true) (w2 : (Lit.int .i64 a2).wf = true) (w3 : (a3 = none ∧ len3 = 0 ∧ cap3 = 0 ∧ z3 = []) ∨ ∃ x, a3 = some x ∧ len3 ≤ cap3 ∧ cap3 ≤ maxLen ∧ z3.length = cap3 ∧ (∀ i, i < z3.length → w.cell? (x.add i) = some (.int .u8 (z3.getD i 0))) ∧ ∀ n ∈ z3, (Lit.int .u8 n).wf = true) (y3 : len3 * 1 ≤ 140737488351232) (w4 : (Lit.int .i64 a4).wf = true) :
    Calls Try.prog 6 #[.int .u8 a0, .int .i64 a1, .int .i64 a2, .slice a3 len3 cap3, .int .i64 a4] w fun e w' => e = .returned (.bool true) ∧ Below w.heap.size w w' := by
  obtain ⟨l3, rfl, hr3, hm3, hw3, hc3⟩ := ReadsInt.ofRowC w3
  obtain ⟨k, h⟩ := P a0 a1 a2 l3 a4 w0 w1 w2 hm3 y3 hw3 w4
  refine (volutelaw12_BeamWhole.calls k a0 a1 a2 _ _ l3 a4 w (Kd.C_of_reads (d := (0 : Int)) (h1 := fun _ => rfl) hr3) hc3 h).mono ?_
  rintro e w' ⟨rfl, hd⟩
  exact ⟨rfl, hd⟩
end Go.Proofs.Ytlolfijadcflaaa.P
