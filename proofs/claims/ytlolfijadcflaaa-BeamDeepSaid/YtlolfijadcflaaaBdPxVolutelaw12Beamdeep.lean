/- What the law's proof needs: PxVolutelaw12Beamdeep. -/
import Derived.Test.YtlolfijadcflaaaBdPx0
import Derived.Test.YtlolfijadcflaaaBdPxVolutelaw12
import Derived.Test.YtlolfijadcflaaaBdPxBeam
namespace Go.Proofs.Ytlolfijadcflaaa.P
open Go.RowKit Go.Proofs.YtlolfijadcflaaaW.PrintWords Go.Proofs.YtlolfijadcflaaaW.PrintLast Go.Proofs.YtlolfijadcflaaaW.PrintMore
attribute [local go_sem] max2_int min2_int max_two min_two max_three min_three max_four min_four   -- for this text's walks alone
set_option linter.unusedVariables false
set_option linter.unusedSimpArgs false
mutual
noncomputable def volutelaw12_BeamDeep.l0 : Nat → Int → Int → Int → Int → Int → Int → Int → List (S132) → Option (Bool)
  | 0, _, _, _, _, _, _, _, _ => none
  | k + 1, x4, x13, x14, x15, x16, x589000, x589001, x589002 => if x16 < 256 then ((beam_Node.f k x589000 x589001 x589002 (([wrap64 (Int.tdiv x16 16), Int.tmod x16 16] : List Int))).bind fun bt592 => (if bt592.2.2.2.2 = 0 then (if x13 < 0 then (volutelaw12_BeamDeep.j1 k x4 x13 x14 x15 x16 true x589000 x589001 x589002 bt592.1 bt592.2.1 bt592.2.2.1 bt592.2.2.2.1) else (volutelaw12_BeamDeep.j1 k x4 x13 x14 x15 x16 (decide (bt592.2.1 < x13)) x589000 x589001 x589002 bt592.1 bt592.2.1 bt592.2.2.1 bt592.2.2.2.1)) else (some false))) else ((beam_Decode.f x589000 x589001 x589002 x4 2).bind fun bt600 => (if x14 > 1 then (if bt600.2.2 = 5 then (if (bt600.1.length : Int) = 0 then (if bt600.2.1 = 0 then ((volutelaw12_wakes.f k).bind fun t605 => (some t605)) else (some false)) else (some false)) else (some false)) else (if bt600.2.2 = 0 then (if bt600.2.1 = x13 then (if (bt600.1.length : Int) = 2 then (if 0 < (bt600.1.length : Int) then (if (rd bt600.1 0) = (wrap64 (Int.tdiv x15 16)) then (if 1 < (bt600.1.length : Int) then (if (rd bt600.1 1) = (Int.tmod x15 16) then ((volutelaw12_wakes.f k).bind fun t608 => (some t608)) else (some false)) else (none)) else (some false)) else (none)) else (some false)) else (some false)) else (some false))))
noncomputable def volutelaw12_BeamDeep.j1 : Nat → Int → Int → Int → Int → Int → Bool → Int → Int → List (S132) → Int → Int → Int → List Int → Option (Bool)
  | 0, _, _, _, _, _, _, _, _, _, _, _, _, _ => none
  | k + 1, x4, x13, x14, x15, x16, x77, x589000, x589001, x589002, x600000, x600001, x600002, x600003 => if x77 = true then (if x600001 = x600001 then (volutelaw12_BeamDeep.l0 k x4 x600001 (0 + 1) x16 (wrap64 (x16 + 1)) x589000 x589001 x589002) else (volutelaw12_BeamDeep.l0 k x4 x600001 0 x16 (wrap64 (x16 + 1)) x589000 x589001 x589002)) else (if x600001 = x13 then (volutelaw12_BeamDeep.l0 k x4 x13 (wrap64 (x14 + 1)) x15 (wrap64 (x16 + 1)) x589000 x589001 x589002) else (volutelaw12_BeamDeep.l0 k x4 x13 x14 x15 (wrap64 (x16 + 1)) x589000 x589001 x589002))
end
noncomputable def volutelaw12_BeamDeep.f (k : Nat) (a0 : Int) (a1 : Int) (a2 : Int) (l3 : List Int) (a4 : Int) : Option (Bool) := if (l3.length : Int) > 60 then (some true) else (if (IntKind.u64.wrap (wrap64 ((wrap64 (2 * (wrap64 (1 + (wrap64 (Int.tmod (IntKind.u64.wrap (a1)) 4)))))) + 1))) = 0 then (none) else ((volutelaw12_Heard.f k (([a0] : List Int)) (wrap64 (1 + (wrap64 (Int.tmod (IntKind.u64.wrap (a1)) 4)))) (wrap64 (Int.tmod (IntKind.u64.wrap (a2)) (IntKind.u64.wrap (wrap64 ((wrap64 (2 * (wrap64 (1 + (wrap64 (Int.tmod (IntKind.u64.wrap (a1)) 4)))))) + 1))))) ([] : List Bool) l3).bind fun bt582 => (if bt582.2.2.2 = true then (volutelaw12_BeamDeep.l0 k (wrap64 (1 + (wrap64 (Int.tmod (IntKind.u64.wrap (a4)) 3)))) (-1) 0 0 0 bt582.1 bt582.2.1 bt582.2.2.1) else (some false))))
set_option maxHeartbeats 8000000 in
set_option maxRecDepth 100000 in
theorem volutelaw12_BeamDeep.calls (k : Nat) (a0 : Int) (a1 : Int) (a2 : Int) (A3 : Option Addr) (c3 : Nat) (l3 : List Int) (a4 : Int) (w : World) (hr3 : Kd.C (Kd.int .u8) w A3 l3.length l3) (hc3 : l3.length ≤ c3) (h : volutelaw12_BeamDeep.f k a0 a1 a2 l3 a4 = some true) :
    Calls Try.prog 7 #[.int .u8 a0, .int .i64 a1, .int .i64 a2, .slice A3 l3.length c3, .int .i64 a4] w fun e w' => e = .returned (.bool true) ∧ Below w.heap.size w w' := by
  have hu49 := Try.underlying49
  have hu66 := Try.underlying66
  have HR3 := Aside0.mk hr3
  have HC3 := Aside0.mk hc3
  clear hr3 hc3
  have HB := Aside0.mk (Below.refl w.heap.size w)
  have H : (if (l3.length : Int) > 60 then (some true) else (if (IntKind.u64.wrap (wrap64 ((wrap64 (2 * (wrap64 (1 + (wrap64 (Int.tmod (IntKind.u64.wrap (a1)) 4)))))) + 1))) = 0 then (none) else ((volutelaw12_Heard.f k (([a0] : List Int)) (wrap64 (1 + (wrap64 (Int.tmod (IntKind.u64.wrap (a1)) 4)))) (wrap64 (Int.tmod (IntKind.u64.wrap (a2)) (IntKind.u64.wrap (wrap64 ((wrap64 (2 * (wrap64 (1 + (wrap64 (Int.tmod (IntKind.u64.wrap (a1)) 4)))))) + 1))))) ([] : List Bool) l3).bind fun bt582 => (if bt582.2.2.2 = true then (volutelaw12_BeamDeep.l0 k (wrap64 (1 + (wrap64 (Int.tmod (IntKind.u64.wrap (a4)) 3)))) (-1) 0 0 0 bt582.1 bt582.2.1 bt582.2.2.1) else (some false))))) = some true := h
  clear h
  by_cases c6 : (l3.length : Int) > 60
  · rw [if_pos c6] at H
    have c6b0 : decide (60 < (l3.length : Int)) = true := decide_eq_true c6
    have c6b1 : decide (60 < l3.length) = true := decide_eq_true (by omega)
    clear c6
    clear H
    go_enter Try.func7, Try.ntmps7
    go_wp2
    go_ret
    exact ⟨by first | rfl | (simp [errW_none, errW_some] <;> rfl) | (simp [*, errW_none, errW_some] <;> rfl), by repeat (first | (with_reducible first | exact HB.out | apply below_alloc | apply pw_below_drewN | apply below_drew1) | exact HB.out)⟩
  · rw [if_neg c6] at H
    have c6b0 : decide (60 < (l3.length : Int)) = false := decide_eq_false c6
    have c6b1 : decide (60 < l3.length) = false := decide_eq_false (by omega)
    clear c6
    by_cases c7 : (IntKind.u64.wrap (wrap64 ((wrap64 (2 * (wrap64 (1 + (wrap64 (Int.tmod (IntKind.u64.wrap (a1)) 4)))))) + 1))) = 0
    · rw [if_pos c7] at H
      exact absurd H (by simp)
    · rw [if_neg c7] at H
      have c7b0 : ((IntKind.u64.wrap (wrap64 ((wrap64 (2 * (wrap64 (1 + (wrap64 (Int.tmod (IntKind.u64.wrap (a1)) 4)))))) + 1))) == 0) = false := beq_eq_false_iff_ne.mpr c7
      have c7b1 : ((IntKind.u64.wrap (wrap64 ((wrap64 (2 * (wrap64 (1 + (wrap64 (Int.tmod (IntKind.u64.wrap (a1)) 4)))))) + 1))) != 0) = true := bne_iff_ne.mpr c7
      obtain ⟨y579, hy579⟩ : ∃ y_ : List Int, y_ = (([a0] : List Int)) := ⟨_, rfl⟩
      replace H : ((volutelaw12_Heard.f k y579 (wrap64 (1 + (wrap64 (Int.tmod (IntKind.u64.wrap (a1)) 4)))) (wrap64 (Int.tmod (IntKind.u64.wrap (a2)) (IntKind.u64.wrap (wrap64 ((wrap64 (2 * (wrap64 (1 + (wrap64 (Int.tmod (IntKind.u64.wrap (a1)) 4)))))) + 1))))) ([] : List Bool) l3).bind fun bt582 => (if bt582.2.2.2 = true then (volutelaw12_BeamDeep.l0 k (wrap64 (1 + (wrap64 (Int.tmod (IntKind.u64.wrap (a4)) 3)))) (-1) 0 0 0 bt582.1 bt582.2.1 bt582.2.2.1) else (some false))) = some true := by first | (rw [hy579]; with_reducible exact H) | (have H2_ := (Option.bind_some _ _).symm.trans H; rw [hy579]; with_reducible exact H2_) | (have H2_ := (Option.bind_some _ _).symm.trans H; with_reducible exact H2_) | with_reducible exact H | (rw [hy579]; exact H) | exact H
      have Ny579 := Aside0.mk hy579
      clear hy579
      replace H := Option.bind_eq_some_iff.mp H
      obtain ⟨⟨t582, t583, t584, t587⟩, A80, H⟩ := H
      replace H : (if t587 = true then (volutelaw12_BeamDeep.l0 k (wrap64 (1 + (wrap64 (Int.tmod (IntKind.u64.wrap (a4)) 3)))) (-1) 0 0 0 t582 t583 t584) else (some false)) = some true := H
      have A8 := Aside0.mk A80
      clear A80
      by_cases c9 : t587 = true
      · subst c9
        have H1 : (volutelaw12_BeamDeep.l0 k (wrap64 (1 + (wrap64 (Int.tmod (IntKind.u64.wrap (a4)) 3)))) (-1) 0 0 0 t582 t583 t584) = some true := by first | (rw [if_pos rfl] at H; exact H) | exact (if_pos rfl).symm.trans H
        clear H
        have H := H1
        clear H1
        have H' := Aside0.mk H
        clear H
        go_enter Try.func7, Try.ntmps7
        go_wp2_with (first | ((with_reducible refine gate_dst (N := 45) rfl ?_); (try (refine gate_guard (by rfl) ?_; dsimp only)); refine Kd.R_lit (Kd.int .u8) _ 5 ?hg (N := 45) ?hd (xs := ([a0] : List Int)) (inner := [.int .u8 a0]) (ok := fun _ => True) (okp := fun _ => True) ?hr ?hp (fun _ hk => hk) trivial (Below.refl _ _) (Nat.le_refl _) (by simp) ?_; (case hd => rfl); (case hg => rfl); (case hr => first | (go_simp; done) | (go_simp; rfl)); (case hp => exact (Reps.one (show Kd.M (Kd.int .u8) _ _ _ a0 [.int .u8 a0] from rfl) (Reps.none _ _))); intro v580 w10 ho11 hb hg_ hnew_; clear hg_ hnew_; (first | rw [← Ny579.out] at ho11 | (simp only [Int.reduceToNat] at ho11; rw [← Ny579.out] at ho11)); have HO581 := Aside0.mk (Kd.R_lower ho11 (below_size (zB HB))); replace HB := zs HB hb; clear hb ho11; obtain ⟨Ao12, co12, eo12⟩ := Kd.R_slice HO581.out; subst eo12) | ((with_reducible refine gate_callee (f := 31) rfl ?_); refine goesL_ (some 49) rfl rfl Try.func31 (by kernel_rfl) rfl #[.slice Ao12 y579.length co12, .int .i64 (wrap64 (1 + (wrap64 (Int.tmod (IntKind.u64.wrap (a1)) 4)))), .int .i64 (wrap64 (Int.tmod (IntKind.u64.wrap (a2)) (IntKind.u64.wrap (wrap64 ((wrap64 (2 * (wrap64 (1 + (wrap64 (Int.tmod (IntKind.u64.wrap (a1)) 4)))))) + 1))))), .slice none 0 0, .slice A3 l3.length c3] rfl (by (try simp only [List.map_toArray, List.map_cons, List.map_nil]); first | done | rfl | (simp only [List.length_drop, List.length_take]; rfl)) ?_; (refine (volutelaw12_Heard.calls k _ _ y579 (wrap64 (1 + (wrap64 (Int.tmod (IntKind.u64.wrap (a1)) 4)))) (wrap64 (Int.tmod (IntKind.u64.wrap (a2)) (IntKind.u64.wrap (wrap64 ((wrap64 (2 * (wrap64 (1 + (wrap64 (Int.tmod (IntKind.u64.wrap (a1)) 4)))))) + 1))))) _ _ ([] : List Bool) _ _ l3 t582 t583 t584 true _ ?side1 ?side2 ?side3 ?side4 ?side5 ?side6 A8.out).mono ?_); (case side1 => repeat (first | exact (Kd.R_reads' HO581.out).2.2 | (with_reducible refine Kd.C_alloc ?_ _) | (with_reducible refine Kd.C_drewN ?_ _) | (with_reducible refine Kd.C_drew ?_))); (case side2 => exact (Kd.R_reads' HO581.out).2.1); (case side3 => exact Kd.C_nil _ _); (case side4 => exact Nat.le_refl _); (case side5 => repeat (first | exact (Kd.C_below HR3.out HB.out) | (with_reducible refine Kd.C_alloc ?_ _) | (with_reducible refine Kd.C_drewN ?_ _) | (with_reducible refine Kd.C_drew ?_))); (case side6 => exact HC3.out); rintro e w13 ⟨v585, rfl, ho0, hb⟩; refine ⟨_, rfl, ?_⟩; replace HO581 := zR HO581 hb; have HO586 := Aside0.mk (Kd.R_lower ho0 (below_size (zB HB))); replace HB := zs HB hb; (try clear hb); (try clear hb2); (try clear hk); (try clear hi); (try clear ho0)) | ((with_reducible refine gate_dst (N := 11) rfl ?_); (try (refine gate_guard (by rfl) ?_; dsimp only)); refine box_event ?hg (N := 11) ?hd (cs := #[.int .i64 0, .int .i64 0, .slice none 0 0]) (t := 49) ?hr ?_; (case hd => rfl); (case hg => rfl); (case hr => first | (go_simp; done) | (go_simp; rfl)); intro gb588 hg w14 hbox hb; replace HO581 := zR HO581 hb; replace HO586 := zR HO586 hb; have BK588 := Aside0.mk (hbox); have GW588 := zg HB hg; have GE588 := zg HB hg; replace HB := zs HB hb; clear hb hbox hg; obtain ⟨hcz15_0, hcz15_1, hcz15_2⟩ := zC3 BK588; obtain ⟨hfz15_0, hfz15_1, hfz15_2⟩ := zF3 BK588; obtain ⟨Ao16, co16, eo16⟩ := Kd.R_slice HO586.out; subst eo16))
        go_loopg [13, 14, 15, 16] k (fun kq v13 v14 v15 v16 w' => ∃ (x13_1 : Int) (x14_1 : Int) (x15_1 : Int) (x16_1 : Int), v13 = .int .i64 x13_1 ∧ v14 = .int .i64 x14_1 ∧ v15 = .int .i64 x15_1 ∧ v16 = .int .i64 x16_1 ∧ Aside0 (volutelaw12_BeamDeep.l0 kq (wrap64 (1 + (wrap64 (Int.tmod (IntKind.u64.wrap (a4)) 3)))) x13_1 x14_1 x15_1 x16_1 t582 t583 t584 = some true) ∧ Aside0 (kq ≤ k) ∧ Aside0 (Kd.R k132 132 w' w.heap.size (fun _ => True) (.slice Ao16 t584.length co16) t584) ∧ Aside0 (w'.heap[gb588]? = some (.cells #[.int .i64 t582, .int .i64 t583, (.slice Ao16 t584.length co16)] 49 (0, 0))) ∧ Aside0 (Below w.heap.size w w'))
        case atStart => exact ⟨((-1)), (0), (0), (0), (by first | rfl | (simp; done) | (simp [*]; done)), (by first | rfl | (simp; done) | (simp [*]; done)), (by first | rfl | (simp; done) | (simp [*]; done)), (by first | rfl | (simp; done) | (simp [*]; done)), H', ⟨Nat.le_refl _⟩, ⟨by (with_reducible repeat (first | apply Kd.R_alloc | apply Kd.R_drewN | apply Kd.R_drew)); exact Kd.R_mono (Kd.R_far (p := ⟨gb588, 2, none⟩) (Kd.R_far (p := ⟨gb588, 1, none⟩) (Kd.R_far (p := ⟨gb588, 0, none⟩) (Kd.R_types HO586.out BK588.out (by decide)) (fun _ hk => hk.2) (.int .i64 t582)) (fun _ hk => hk.2) (.int .i64 t583)) (fun _ hk => hk.2) (.slice Ao16 t584.length co16)) (fun _ hk => trivial)⟩, ⟨by (with_reducible repeat (first | refine blk_drewN ?_ _ | refine blk_drew ?_ | refine blk_alloc ?_ _)); refine blk_put (cs := #[.int .i64 t582, .int .i64 t583, .slice none 0 0]) ?_ 2 _ rfl; (with_reducible repeat (first | refine blk_drewN ?_ _ | refine blk_drew ?_ | refine blk_alloc ?_ _)); refine blk_put (cs := #[.int .i64 t582, .int .i64 0, .slice none 0 0]) ?_ 1 _ rfl; (with_reducible repeat (first | refine blk_drewN ?_ _ | refine blk_drew ?_ | refine blk_alloc ?_ _)); refine blk_put (cs := #[.int .i64 0, .int .i64 0, .slice none 0 0]) ?_ 0 _ rfl; (with_reducible repeat (first | refine blk_drewN ?_ _ | refine blk_drew ?_ | refine blk_alloc ?_ _)); exact BK588.out⟩, ⟨by repeat (first | (with_reducible first | exact HB.out | apply below_alloc | apply pw_below_drewN | apply below_drew1 | refine below_set ?_ GE588.out) | exact HB.out)⟩⟩
        case round =>
          clear H'
          try clear p2
          try clear c3
          try clear c6
          try clear c6b0
          try clear c6b1
          try clear p6
          try clear c7
          try clear c7b0
          try clear c7b1
          try clear c9
          try clear hcz15_0
          try clear hcz15_1
          try clear hcz15_2
          try clear hfz15_0
          try clear hfz15_1
          try clear hfz15_2
          obtain ⟨x13_1, x14_1, x15_1, x16_1, rfl, rfl, rfl, rfl, HA, HK1, HO_589002, BK588, HB⟩ := hrel
          cases gk with
          | zero => exact absurd HA.out (by simp [volutelaw12_BeamDeep.l0])
          | succ k1 =>
            have H := HA.out
            clear HA
            simp only [volutelaw12_BeamDeep.l0] at H
            by_cases c17 : x16_1 < 256
            · rw [if_pos c17] at H
              have c17b0 : decide (x16_1 < 256) = true := decide_eq_true c17
              clear c17
              obtain ⟨y589, hy589⟩ : ∃ y_ : List Int, y_ = (([wrap64 (Int.tdiv x16_1 16), Int.tmod x16_1 16] : List Int)) := ⟨_, rfl⟩
              replace H : ((beam_Node.f k1 t582 t583 t584 y589).bind fun bt592 => (if bt592.2.2.2.2 = 0 then (if x13_1 < 0 then (volutelaw12_BeamDeep.j1 k1 (wrap64 (1 + (wrap64 (Int.tmod (IntKind.u64.wrap (a4)) 3)))) x13_1 x14_1 x15_1 x16_1 true t582 t583 t584 bt592.1 bt592.2.1 bt592.2.2.1 bt592.2.2.2.1) else (volutelaw12_BeamDeep.j1 k1 (wrap64 (1 + (wrap64 (Int.tmod (IntKind.u64.wrap (a4)) 3)))) x13_1 x14_1 x15_1 x16_1 (decide (bt592.2.1 < x13_1)) t582 t583 t584 bt592.1 bt592.2.1 bt592.2.2.1 bt592.2.2.2.1)) else (some false))) = some true := by first | (rw [hy589]; with_reducible exact H) | (have H2_ := (Option.bind_some _ _).symm.trans H; rw [hy589]; with_reducible exact H2_) | (have H2_ := (Option.bind_some _ _).symm.trans H; with_reducible exact H2_) | with_reducible exact H | (rw [hy589]; exact H) | exact H
              have Ny589 := Aside0.mk hy589
              clear hy589
              replace H := Option.bind_eq_some_iff.mp H
              obtain ⟨⟨t592, t593, t594, t595, t598⟩, A180, H⟩ := H
              replace H : (if t598 = 0 then (if x13_1 < 0 then (volutelaw12_BeamDeep.j1 k1 (wrap64 (1 + (wrap64 (Int.tmod (IntKind.u64.wrap (a4)) 3)))) x13_1 x14_1 x15_1 x16_1 true t582 t583 t584 t592 t593 t594 t595) else (volutelaw12_BeamDeep.j1 k1 (wrap64 (1 + (wrap64 (Int.tmod (IntKind.u64.wrap (a4)) 3)))) x13_1 x14_1 x15_1 x16_1 (decide (t593 < x13_1)) t582 t583 t584 t592 t593 t594 t595)) else (some false)) = some true := H
              have A18 := Aside0.mk A180
              clear A180
              by_cases c19 : t598 = 0
              · rw [if_pos c19] at H
                have c19b0 : (t598 == 0) = true := beq_iff_eq.mpr c19
                have c19b1 : (t598 != 0) = false := bne_eq_false_iff_eq.mpr c19
                clear c19
                have HC20 := Aside0.mk H
                clear H
                obtain ⟨hcz21_0, hcz21_1, hcz21_2⟩ := zC3 BK588
                obtain ⟨hfz21_0, hfz21_1, hfz21_2⟩ := zF3 BK588
                go_upto_region 15 with (first | ((with_reducible refine gate_dst (N := 64) rfl ?_); (try (refine gate_guard (by rfl) ?_; dsimp only)); refine Kd.R_lit (Kd.int .i64) _ 3 ?hg (N := 64) ?hd (xs := ([wrap64 (Int.tdiv x16_1 16), Int.tmod x16_1 16] : List Int)) (inner := [.int .i64 (wrap64 (Int.tdiv x16_1 16)), .int .i64 (Int.tmod x16_1 16)]) (ok := fun _ => True) (okp := fun _ => True) ?hr ?hp (fun _ hk => hk) trivial (Below.refl _ _) (Nat.le_refl _) (by simp) ?_; (case hd => rfl); (case hg => rfl); (case hr => first | (go_simp; done) | (go_simp; rfl)); (case hp => exact (Reps.one (show Kd.M (Kd.int .i64) _ _ _ (wrap64 (Int.tdiv x16_1 16)) [.int .i64 (wrap64 (Int.tdiv x16_1 16))] from rfl) (Reps.one (show Kd.M (Kd.int .i64) _ _ _ (Int.tmod x16_1 16) [.int .i64 (Int.tmod x16_1 16)] from rfl) (Reps.none _ _)))); intro v590 w22 ho23 hb hg_ hnew_; clear hg_ hnew_; (first | rw [← Ny589.out] at ho23 | (simp only [Int.reduceToNat] at ho23; rw [← Ny589.out] at ho23)); replace HO_589002 := zR HO_589002 hb; have HO591 := Aside0.mk (Kd.R_lower ho23 (below_size (zB HB))); replace BK588 := zb BK588 hb; replace HB := zs HB hb; clear hb ho23; obtain ⟨Ao24, co24, eo24⟩ := Kd.R_slice HO591.out; subst eo24) | ((with_reducible refine gate_callee (f := 33) rfl ?_); refine goesL_ (some 65) rfl rfl Try.func33 (by kernel_rfl) rfl #[.agg #[.int .i64 t582, .int .i64 t583, .slice Ao16 t584.length co16], .slice Ao24 y589.length co24] rfl (by (try simp only [List.map_toArray, List.map_cons, List.map_nil]); first | done | rfl | (simp only [List.length_drop, List.length_take]; rfl)) ?_; (with_reducible refine (beam_Node.calls k1 t582 t583 _ _ t584 _ _ y589 t592 t593 t594 t595 t598 _ ?side1 ?side2 ?side3 ?side4 A18.out).mono ?_); (case side1 => repeat (first | exact (Kd.R_reads' HO_589002.out).2.2 | (with_reducible refine Kd.C_alloc ?_ _) | (with_reducible refine Kd.C_drewN ?_ _) | (with_reducible refine Kd.C_drew ?_))); (case side2 => exact (Kd.R_reads' HO_589002.out).2.1); (case side3 => repeat (first | exact (Kd.R_reads' HO591.out).2.2 | (with_reducible refine Kd.C_alloc ?_ _) | (with_reducible refine Kd.C_drewN ?_ _) | (with_reducible refine Kd.C_drew ?_))); (case side4 => exact (Kd.R_reads' HO591.out).2.1); rintro e w25 ⟨v596, rfl, ho0, hb⟩; refine ⟨_, rfl, ?_⟩; replace HO_589002 := zR HO_589002 hb; have HO597 := Aside0.mk (Kd.R_lower (Kd.R_new' ho0 (Kd.R_lt (zr_ HO591))) (below_size (zB HB))); replace HO591 := Aside0.mk (Kd.R_elder' (zr_ HO591) (Kd.R_base ho0) hb); replace BK588 := zb BK588 hb; replace HB := zs HB hb; (try clear hb); (try clear hb2); (try clear hk); (try clear hi); (try clear ho0)) | ((with_reducible refine gate_dst (N := 17) rfl ?_); (try (refine gate_guard (by rfl) ?_; dsimp only)); refine box_event ?hg (N := 17) ?hd (cs := #[.int .u32 0, .int .i64 0, .int .i64 0, .slice none 0 0]) (t := 66) ?hr ?_; (case hd => rfl); (case hg => rfl); (case hr => first | (go_simp; done) | (go_simp; rfl)); intro gb599 hg w26 hbox hb; replace HO_589002 := zR HO_589002 hb; replace HO591 := zR HO591 hb; replace HO597 := zR HO597 hb; have BK599 := Aside0.mk (hbox); have GW599 := zg HB hg; have GE599 := zg HB hg; replace HB := zs HB hb; have NB588_599 := zl BK588 hg; have NB599_588 := zr BK588 hg; replace BK588 := zb BK588 hb; clear hb hbox hg; have hnb27 := NB599_588.out; have hnc27 := NB588_599.out; obtain ⟨hcz28_0, hcz28_1, hcz28_2, hcz28_3⟩ := zC4 BK599; obtain ⟨hfz28_0, hfz28_1, hfz28_2, hfz28_3⟩ := zF4 BK599; obtain ⟨Ao29, co29, eo29⟩ := Kd.R_slice HO597.out; subst eo29))
                (try simp only [Act.put, List.setIfInBounds_toArray, List.set_cons_zero, List.set_cons_succ])
                go_cut [77] (fun v77 wc => ∃ (kq : Nat) (x77_19 : Bool), v77 = .bool x77_19 ∧ Aside0 (volutelaw12_BeamDeep.j1 kq (wrap64 (1 + (wrap64 (Int.tmod (IntKind.u64.wrap (a4)) 3)))) x13_1 x14_1 x15_1 x16_1 x77_19 t582 t583 t584 t592 t593 t594 t595 = some true) ∧ Aside0 (kq ≤ k1) ∧ Aside0 (Kd.R k132 132 wc w.heap.size (fun _ => True) (.slice Ao16 t584.length co16) t584) ∧ Aside0 (Kd.R (Kd.int .i64) 3 wc w.heap.size (fun _ => True) (.slice Ao29 t595.length co29) t595) ∧ Aside0 (wc.heap[gb588]? = some (.cells #[.int .i64 t582, .int .i64 t583, (.slice Ao16 t584.length co16)] 49 (0, 0))) ∧ Aside0 (wc.heap[gb599]? = some (.cells #[.int .u32 t592, .int .i64 t593, .int .i64 t594, (.slice Ao29 t595.length co29)] 66 (0, 0))) ∧ Aside0 (Below w.heap.size w wc))
                case first =>
                  have H := HC20.out
                  clear HC20
                  by_cases c30 : x13_1 < 0
                  · rw [if_pos c30] at H
                    have c30b0 : decide (x13_1 < 0) = true := decide_eq_true c30
                    clear c30
                    (first | rw [c30b0] | (simp only [i64_w, i32_w]; rw [c30b0]) | skip)
                    have H' := Aside0.mk H
                    clear H
                    go_wp2
                    go_meet
                    case rel => exact ⟨_, (true), (by first | rfl | (simp; done) | (simp [*]; done)), H', ⟨by have := HK1.out; first | omega | exact Nat.le_refl _⟩, ⟨by (with_reducible repeat (first | apply Kd.R_alloc | apply Kd.R_drewN | apply Kd.R_drew)); exact Kd.R_mono (Kd.R_far (p := ⟨gb599, 3, none⟩) (Kd.R_far (p := ⟨gb599, 2, none⟩) (Kd.R_far (p := ⟨gb599, 1, none⟩) (Kd.R_far (p := ⟨gb599, 0, none⟩) (Kd.R_types HO_589002.out BK599.out (by decide)) (fun _ hk => hk.2) (.int .u32 t592)) (fun _ hk => hk.2) (.int .i64 t593)) (fun _ hk => hk.2) (.int .i64 t594)) (fun _ hk => hk.2) (.slice Ao29 t595.length co29)) (fun _ hk => trivial)⟩, ⟨by (with_reducible repeat (first | apply Kd.R_alloc | apply Kd.R_drewN | apply Kd.R_drew)); exact Kd.R_mono (Kd.R_far (p := ⟨gb599, 3, none⟩) (Kd.R_far (p := ⟨gb599, 2, none⟩) (Kd.R_far (p := ⟨gb599, 1, none⟩) (Kd.R_far (p := ⟨gb599, 0, none⟩) (Kd.R_types HO597.out BK599.out (by decide)) (fun _ hk => hk.2) (.int .u32 t592)) (fun _ hk => hk.2) (.int .i64 t593)) (fun _ hk => hk.2) (.int .i64 t594)) (fun _ hk => hk.2) (.slice Ao29 t595.length co29)) (fun _ hk => trivial)⟩, ⟨by (with_reducible repeat (first | refine blk_drewN ?_ _ | refine blk_drew ?_ | refine blk_alloc ?_ _)); refine blk_far ?_ NB588_599.out _; (with_reducible repeat (first | refine blk_drewN ?_ _ | refine blk_drew ?_ | refine blk_alloc ?_ _)); refine blk_far ?_ NB588_599.out _; (with_reducible repeat (first | refine blk_drewN ?_ _ | refine blk_drew ?_ | refine blk_alloc ?_ _)); refine blk_far ?_ NB588_599.out _; (with_reducible repeat (first | refine blk_drewN ?_ _ | refine blk_drew ?_ | refine blk_alloc ?_ _)); refine blk_far ?_ NB588_599.out _; (with_reducible repeat (first | refine blk_drewN ?_ _ | refine blk_drew ?_ | refine blk_alloc ?_ _)); exact BK588.out⟩, ⟨by (with_reducible repeat (first | refine blk_drewN ?_ _ | refine blk_drew ?_ | refine blk_alloc ?_ _)); refine blk_put (cs := #[.int .u32 t592, .int .i64 t593, .int .i64 t594, .slice none 0 0]) ?_ 3 _ rfl; (with_reducible repeat (first | refine blk_drewN ?_ _ | refine blk_drew ?_ | refine blk_alloc ?_ _)); refine blk_put (cs := #[.int .u32 t592, .int .i64 t593, .int .i64 0, .slice none 0 0]) ?_ 2 _ rfl; (with_reducible repeat (first | refine blk_drewN ?_ _ | refine blk_drew ?_ | refine blk_alloc ?_ _)); refine blk_put (cs := #[.int .u32 t592, .int .i64 0, .int .i64 0, .slice none 0 0]) ?_ 1 _ rfl; (with_reducible repeat (first | refine blk_drewN ?_ _ | refine blk_drew ?_ | refine blk_alloc ?_ _)); refine blk_put (cs := #[.int .u32 0, .int .i64 0, .int .i64 0, .slice none 0 0]) ?_ 0 _ rfl; (with_reducible repeat (first | refine blk_drewN ?_ _ | refine blk_drew ?_ | refine blk_alloc ?_ _)); exact BK599.out⟩, ⟨by repeat (first | (with_reducible first | exact HB.out | apply below_alloc | apply pw_below_drewN | apply below_drew1 | refine below_set ?_ GE588.out | refine below_set ?_ GE599.out) | exact HB.out)⟩⟩
                  · rw [if_neg c30] at H
                    have c30b0 : decide (x13_1 < 0) = false := decide_eq_false c30
                    clear c30
                    (first | rw [c30b0] | (simp only [i64_w, i32_w]; rw [c30b0]) | skip)
                    have H' := Aside0.mk H
                    clear H
                    have hnb31 := NB599_588.out
                    have hnc31 := NB588_599.out
                    obtain ⟨hcz32_0, hcz32_1, hcz32_2, hcz32_3⟩ := zC4 BK599
                    obtain ⟨hfz32_0, hfz32_1, hfz32_2, hfz32_3⟩ := zF4 BK599
                    go_wp2
                    go_meet
                    case rel => exact ⟨_, (decide (t593 < x13_1)), (by first | rfl | (simp; done) | (simp [*]; done)), H', ⟨by have := HK1.out; first | omega | exact Nat.le_refl _⟩, ⟨by (with_reducible repeat (first | apply Kd.R_alloc | apply Kd.R_drewN | apply Kd.R_drew)); exact Kd.R_mono (Kd.R_far (p := ⟨gb599, 3, none⟩) (Kd.R_far (p := ⟨gb599, 2, none⟩) (Kd.R_far (p := ⟨gb599, 1, none⟩) (Kd.R_far (p := ⟨gb599, 0, none⟩) (Kd.R_types HO_589002.out BK599.out (by decide)) (fun _ hk => hk.2) (.int .u32 t592)) (fun _ hk => hk.2) (.int .i64 t593)) (fun _ hk => hk.2) (.int .i64 t594)) (fun _ hk => hk.2) (.slice Ao29 t595.length co29)) (fun _ hk => trivial)⟩, ⟨by (with_reducible repeat (first | apply Kd.R_alloc | apply Kd.R_drewN | apply Kd.R_drew)); exact Kd.R_mono (Kd.R_far (p := ⟨gb599, 3, none⟩) (Kd.R_far (p := ⟨gb599, 2, none⟩) (Kd.R_far (p := ⟨gb599, 1, none⟩) (Kd.R_far (p := ⟨gb599, 0, none⟩) (Kd.R_types HO597.out BK599.out (by decide)) (fun _ hk => hk.2) (.int .u32 t592)) (fun _ hk => hk.2) (.int .i64 t593)) (fun _ hk => hk.2) (.int .i64 t594)) (fun _ hk => hk.2) (.slice Ao29 t595.length co29)) (fun _ hk => trivial)⟩, ⟨by (with_reducible repeat (first | refine blk_drewN ?_ _ | refine blk_drew ?_ | refine blk_alloc ?_ _)); refine blk_far ?_ NB588_599.out _; (with_reducible repeat (first | refine blk_drewN ?_ _ | refine blk_drew ?_ | refine blk_alloc ?_ _)); refine blk_far ?_ NB588_599.out _; (with_reducible repeat (first | refine blk_drewN ?_ _ | refine blk_drew ?_ | refine blk_alloc ?_ _)); refine blk_far ?_ NB588_599.out _; (with_reducible repeat (first | refine blk_drewN ?_ _ | refine blk_drew ?_ | refine blk_alloc ?_ _)); refine blk_far ?_ NB588_599.out _; (with_reducible repeat (first | refine blk_drewN ?_ _ | refine blk_drew ?_ | refine blk_alloc ?_ _)); exact BK588.out⟩, ⟨by (with_reducible repeat (first | refine blk_drewN ?_ _ | refine blk_drew ?_ | refine blk_alloc ?_ _)); refine blk_put (cs := #[.int .u32 t592, .int .i64 t593, .int .i64 t594, .slice none 0 0]) ?_ 3 _ rfl; (with_reducible repeat (first | refine blk_drewN ?_ _ | refine blk_drew ?_ | refine blk_alloc ?_ _)); refine blk_put (cs := #[.int .u32 t592, .int .i64 t593, .int .i64 0, .slice none 0 0]) ?_ 2 _ rfl; (with_reducible repeat (first | refine blk_drewN ?_ _ | refine blk_drew ?_ | refine blk_alloc ?_ _)); refine blk_put (cs := #[.int .u32 t592, .int .i64 0, .int .i64 0, .slice none 0 0]) ?_ 1 _ rfl; (with_reducible repeat (first | refine blk_drewN ?_ _ | refine blk_drew ?_ | refine blk_alloc ?_ _)); refine blk_put (cs := #[.int .u32 0, .int .i64 0, .int .i64 0, .slice none 0 0]) ?_ 0 _ rfl; (with_reducible repeat (first | refine blk_drewN ?_ _ | refine blk_drew ?_ | refine blk_alloc ?_ _)); exact BK599.out⟩, ⟨by repeat (first | (with_reducible first | exact HB.out | apply below_alloc | apply pw_below_drewN | apply below_drew1 | refine below_set ?_ GE588.out | refine below_set ?_ GE599.out) | exact HB.out)⟩⟩
                case rest =>
                  clear HC20
                  try clear c1
                  try clear c2
                  try clear p2
                  try clear c3
                  try clear c6
                  try clear c6b0
                  try clear c6b1
                  try clear p6
                  try clear c7
                  try clear c7b0
                  try clear c7b1
                  try clear c9
                  try clear c17
                  try clear c17b0
                  try clear c19
                  try clear c19b0
                  try clear c19b1
                  try clear c27
                  try clear c30
                  try clear c30b0
                  try clear c31
                  try clear hcz15_0
                  try clear hcz15_1
                  try clear hcz15_2
                  try clear hcz21_0
                  try clear hcz21_1
                  try clear hcz21_2
                  try clear hcz28_0
                  try clear hcz28_1
                  try clear hcz28_2
                  try clear hcz28_3
                  try clear hcz32_0
                  try clear hcz32_1
                  try clear hcz32_2
                  try clear hcz32_3
                  try clear hfz15_0
                  try clear hfz15_1
                  try clear hfz15_2
                  try clear hfz21_0
                  try clear hfz21_1
                  try clear hfz21_2
                  try clear hfz28_0
                  try clear hfz28_1
                  try clear hfz28_2
                  try clear hfz28_3
                  try clear hfz32_0
                  try clear hfz32_1
                  try clear hfz32_2
                  try clear hfz32_3
                  try clear p2
                  try clear p6
                  obtain ⟨kq, x77_19, rfl, HA, HJ19, HO_589002, HO_600003, BK588, BK599, HB⟩ := hcut
                  cases kq with
                  | zero => exact absurd HA.out (by simp [volutelaw12_BeamDeep.j1])
                  | succ kj19 =>
                    have H := HA.out
                    clear HA
                    simp only [volutelaw12_BeamDeep.j1] at H
                    by_cases c33 : x77_19 = true
                    · subst c33
                      have H1 : (if t593 = t593 then (volutelaw12_BeamDeep.l0 kj19 (wrap64 (1 + (wrap64 (Int.tmod (IntKind.u64.wrap (a4)) 3)))) t593 (0 + 1) x16_1 (wrap64 (x16_1 + 1)) t582 t583 t584) else (volutelaw12_BeamDeep.l0 kj19 (wrap64 (1 + (wrap64 (Int.tmod (IntKind.u64.wrap (a4)) 3)))) t593 0 x16_1 (wrap64 (x16_1 + 1)) t582 t583 t584)) = some true := by first | (rw [if_pos rfl] at H; exact H) | exact (if_pos rfl).symm.trans H | (rw [if_pos rfl]; simp only [if_true, reduceIte] at H; exact H)
                      clear H
                      have H := H1
                      clear H1
                      by_cases c34 : t593 = t593
                      · rw [if_pos c34] at H
                        have c34b0 : (t593 == t593) = true := beq_iff_eq.mpr c34
                        have c34b1 : (t593 != t593) = false := bne_eq_false_iff_eq.mpr c34
                        clear c34
                        have H' := Aside0.mk H
                        clear H
                        have hnb35 := NB599_588.out
                        have hnc35 := NB588_599.out
                        obtain ⟨hcz36_0, hcz36_1, hcz36_2, hcz36_3⟩ := zC4 BK599
                        obtain ⟨hfz36_0, hfz36_1, hfz36_2, hfz36_3⟩ := zF4 BK599
                        go_wp2
                        go_roundg kj19
                        case measure => have := HK1.out; have := HJ19.out; omega
                        case rel => exact ⟨(t593), (0 + 1), (x16_1), (wrap64 (x16_1 + 1)), (by first | rfl | (simp; done) | (simp [*]; done)), (by first | rfl | (simp; done) | (simp [*]; done)), (by first | rfl | (simp; done) | (simp [*]; done)), (by first | rfl | (simp; done) | (simp [*]; done)), H', ⟨by have := HK1.out; have := HJ19.out; omega⟩, ⟨by (with_reducible repeat (first | apply Kd.R_alloc | apply Kd.R_drewN | apply Kd.R_drew)); exact HO_589002.out⟩, ⟨by (with_reducible repeat (first | refine blk_drewN ?_ _ | refine blk_drew ?_ | refine blk_alloc ?_ _)); exact BK588.out⟩, ⟨by repeat (first | (with_reducible first | exact HB.out | apply below_alloc | apply pw_below_drewN | apply below_drew1 | refine below_set ?_ GE588.out | refine below_set ?_ GE599.out) | exact HB.out)⟩⟩
                      · exact absurd rfl c34
                    · replace c33 := Bool.eq_false_iff.mpr c33
                      subst c33
                      have H1 : (if t593 = x13_1 then (volutelaw12_BeamDeep.l0 kj19 (wrap64 (1 + (wrap64 (Int.tmod (IntKind.u64.wrap (a4)) 3)))) x13_1 (wrap64 (x14_1 + 1)) x15_1 (wrap64 (x16_1 + 1)) t582 t583 t584) else (volutelaw12_BeamDeep.l0 kj19 (wrap64 (1 + (wrap64 (Int.tmod (IntKind.u64.wrap (a4)) 3)))) x13_1 x14_1 x15_1 (wrap64 (x16_1 + 1)) t582 t583 t584)) = some true := by rw [if_neg (show ¬ (false = true) by decide)] at H; exact H
                      clear H
                      have H := H1
                      clear H1
                      by_cases c39 : t593 = x13_1
                      · rw [if_pos c39] at H
                        have c39b0 : (t593 == x13_1) = true := beq_iff_eq.mpr c39
                        have c39b1 : (t593 != x13_1) = false := bne_eq_false_iff_eq.mpr c39
                        clear c39
                        have H' := Aside0.mk H
                        clear H
                        have hnb40 := NB599_588.out
                        have hnc40 := NB588_599.out
                        obtain ⟨hcz41_0, hcz41_1, hcz41_2, hcz41_3⟩ := zC4 BK599
                        obtain ⟨hfz41_0, hfz41_1, hfz41_2, hfz41_3⟩ := zF4 BK599
                        go_wp2
                        go_roundg kj19
                        case measure => have := HK1.out; have := HJ19.out; omega
                        case rel => exact ⟨(x13_1), (wrap64 (x14_1 + 1)), (x15_1), (wrap64 (x16_1 + 1)), (by first | rfl | (simp; done) | (simp [*]; done)), (by first | rfl | (simp; done) | (simp [*]; done)), (by first | rfl | (simp; done) | (simp [*]; done)), (by first | rfl | (simp; done) | (simp [*]; done)), H', ⟨by have := HK1.out; have := HJ19.out; omega⟩, ⟨by (with_reducible repeat (first | apply Kd.R_alloc | apply Kd.R_drewN | apply Kd.R_drew)); exact HO_589002.out⟩, ⟨by (with_reducible repeat (first | refine blk_drewN ?_ _ | refine blk_drew ?_ | refine blk_alloc ?_ _)); exact BK588.out⟩, ⟨by repeat (first | (with_reducible first | exact HB.out | apply below_alloc | apply pw_below_drewN | apply below_drew1 | refine below_set ?_ GE588.out | refine below_set ?_ GE599.out) | exact HB.out)⟩⟩
                      · rw [if_neg c39] at H
                        have c39b0 : (t593 == x13_1) = false := beq_eq_false_iff_ne.mpr c39
                        have c39b1 : (t593 != x13_1) = true := bne_iff_ne.mpr c39
                        have H' := Aside0.mk H
                        clear H
                        have hnb42 := NB599_588.out
                        have hnc42 := NB588_599.out
                        obtain ⟨hcz43_0, hcz43_1, hcz43_2, hcz43_3⟩ := zC4 BK599
                        obtain ⟨hfz43_0, hfz43_1, hfz43_2, hfz43_3⟩ := zF4 BK599
                        go_wp2
                        go_roundg kj19
                        case measure => have := HK1.out; have := HJ19.out; omega
                        case rel => exact ⟨(x13_1), (x14_1), (x15_1), (wrap64 (x16_1 + 1)), (by first | rfl | (simp; done) | (simp [*]; done)), (by first | rfl | (simp; done) | (simp [*]; done)), (by first | rfl | (simp; done) | (simp [*]; done)), (by first | rfl | (simp; done) | (simp [*]; done)), H', ⟨by have := HK1.out; have := HJ19.out; omega⟩, ⟨by (with_reducible repeat (first | apply Kd.R_alloc | apply Kd.R_drewN | apply Kd.R_drew)); exact HO_589002.out⟩, ⟨by (with_reducible repeat (first | refine blk_drewN ?_ _ | refine blk_drew ?_ | refine blk_alloc ?_ _)); exact BK588.out⟩, ⟨by repeat (first | (with_reducible first | exact HB.out | apply below_alloc | apply pw_below_drewN | apply below_drew1 | refine below_set ?_ GE588.out | refine below_set ?_ GE599.out) | exact HB.out)⟩⟩
              · rw [if_neg c19] at H
                have c19b0 : (t598 == 0) = false := beq_eq_false_iff_ne.mpr c19
                have c19b1 : (t598 != 0) = true := bne_iff_ne.mpr c19
                exact absurd (Option.some.inj H) (by decide)
            · rw [if_neg c17] at H
              have c17b0 : decide (x16_1 < 256) = false := decide_eq_false c17
              clear c17
              replace H := Option.bind_eq_some_iff.mp H
              obtain ⟨⟨t600, t603, t604⟩, A530, H⟩ := H
              replace H : (if x14_1 > 1 then (if t604 = 5 then (if (t600.length : Int) = 0 then (if t603 = 0 then ((volutelaw12_wakes.f k1).bind fun t605 => (some t605)) else (some false)) else (some false)) else (some false)) else (if t604 = 0 then (if t603 = x13_1 then (if (t600.length : Int) = 2 then (if 0 < (t600.length : Int) then (if (rd t600 0) = (wrap64 (Int.tdiv x15_1 16)) then (if 1 < (t600.length : Int) then (if (rd t600 1) = (Int.tmod x15_1 16) then ((volutelaw12_wakes.f k1).bind fun t608 => (some t608)) else (some false)) else (none)) else (some false)) else (none)) else (some false)) else (some false)) else (some false))) = some true := H
              have A53 := Aside0.mk A530
              clear A530
              by_cases c54 : x14_1 > 1
              · rw [if_pos c54] at H
                have c54b0 : decide (1 < x14_1) = true := decide_eq_true c54
                clear c54
                by_cases c55 : t604 = 5
                · rw [if_pos c55] at H
                  have c55b0 : (t604 == 5) = true := beq_iff_eq.mpr c55
                  have c55b1 : (t604 != 5) = false := bne_eq_false_iff_eq.mpr c55
                  clear c55
                  by_cases c56 : (t600.length : Int) = 0
                  · rw [if_pos c56] at H
                    have c56b0 : ((t600.length : Int) == 0) = true := beq_iff_eq.mpr c56
                    have c56b1 : ((t600.length : Int) != 0) = false := bne_eq_false_iff_eq.mpr c56
                    clear c56
                    by_cases c57 : t603 = 0
                    · rw [if_pos c57] at H
                      have c57b0 : (t603 == 0) = true := beq_iff_eq.mpr c57
                      have c57b1 : (t603 != 0) = false := bne_eq_false_iff_eq.mpr c57
                      clear c57
                      replace H := Option.bind_eq_some_iff.mp H
                      obtain ⟨t605, A580, H⟩ := H
                      replace H : (some t605) = some true := H
                      have A58 := Aside0.mk A580
                      clear A580
                      obtain rfl : t605 = true := Option.some.inj H
                      obtain ⟨hcz59_0, hcz59_1, hcz59_2⟩ := zC3 BK588
                      obtain ⟨hfz59_0, hfz59_1, hfz59_2⟩ := zF3 BK588
                      go_wp2_with (first | ((with_reducible refine gate_callee (f := 27) rfl ?_); refine goesL_ (some 90) rfl rfl Try.func27 (by kernel_rfl) rfl #[.agg #[.int .i64 t582, .int .i64 t583, .slice Ao16 t584.length co16], .int .i64 (wrap64 (1 + (wrap64 (Int.tmod (IntKind.u64.wrap (a4)) 3)))), .int .i64 2] rfl (by (try simp only [List.map_toArray, List.map_cons, List.map_nil]); first | done | rfl | (simp only [List.length_drop, List.length_take]; rfl)) ?_; (with_reducible refine (beam_Decode.calls t582 t583 _ _ t584 (wrap64 (1 + (wrap64 (Int.tmod (IntKind.u64.wrap (a4)) 3)))) 2 t600 t603 t604 _ ?side1 ?side2 A53.out).mono ?_); (case side1 => repeat (first | exact (Kd.R_reads' HO_589002.out).2.2 | (with_reducible refine Kd.C_alloc ?_ _) | (with_reducible refine Kd.C_drewN ?_ _) | (with_reducible refine Kd.C_drew ?_))); (case side2 => exact (Kd.R_reads' HO_589002.out).2.1); rintro e w60 ⟨v601, rfl, ho0, hb⟩; refine ⟨_, rfl, ?_⟩; replace HO_589002 := zR HO_589002 hb; have HO602 := Aside0.mk (Kd.R_lower ho0 (below_size (zB HB))); replace BK588 := zb BK588 hb; replace HB := zs HB hb; (try clear hb); (try clear hb2); (try clear hk); (try clear hi); (try clear ho0); obtain ⟨Ao61, co61, eo61⟩ := Kd.R_slice HO602.out; subst eo61) | (go_at_call 30; (with_reducible refine (volutelaw12_wakes.calls k1 _ A58.out).mono ?_); rintro e w62 ⟨rfl, hb⟩; replace HO_589002 := zR HO_589002 hb; replace HO602 := zR HO602 hb; replace BK588 := zb BK588 hb; replace HB := zs HB hb; (try clear hb); (try clear hb2); (try clear hk); (try clear hi)))
                      go_ret
                      exact ⟨by first | rfl | (simp [errW_none, errW_some] <;> rfl) | (simp [*, errW_none, errW_some] <;> rfl), by repeat (first | (with_reducible first | exact HB.out | apply below_alloc | apply pw_below_drewN | apply below_drew1 | refine below_set ?_ GE588.out) | exact HB.out)⟩
                    · rw [if_neg c57] at H
                      have c57b0 : (t603 == 0) = false := beq_eq_false_iff_ne.mpr c57
                      have c57b1 : (t603 != 0) = true := bne_iff_ne.mpr c57
                      exact absurd (Option.some.inj H) (by decide)
                  · rw [if_neg c56] at H
                    have c56b0 : ((t600.length : Int) == 0) = false := beq_eq_false_iff_ne.mpr c56
                    have c56b1 : ((t600.length : Int) != 0) = true := bne_iff_ne.mpr c56
                    have c56b2 : ¬ (t600 = []) := fun h_ => c56 (by rw [h_]; rfl)
                    exact absurd (Option.some.inj H) (by decide)
                · rw [if_neg c55] at H
                  have c55b0 : (t604 == 5) = false := beq_eq_false_iff_ne.mpr c55
                  have c55b1 : (t604 != 5) = true := bne_iff_ne.mpr c55
                  exact absurd (Option.some.inj H) (by decide)
              · rw [if_neg c54] at H
                have c54b0 : decide (1 < x14_1) = false := decide_eq_false c54
                clear c54
                by_cases c71 : t604 = 0
                · rw [if_pos c71] at H
                  have c71b0 : (t604 == 0) = true := beq_iff_eq.mpr c71
                  have c71b1 : (t604 != 0) = false := bne_eq_false_iff_eq.mpr c71
                  clear c71
                  by_cases c72 : t603 = x13_1
                  · rw [if_pos c72] at H
                    have c72b0 : (t603 == x13_1) = true := beq_iff_eq.mpr c72
                    have c72b1 : (t603 != x13_1) = false := bne_eq_false_iff_eq.mpr c72
                    clear c72
                    by_cases c73 : (t600.length : Int) = 2
                    · rw [if_pos c73] at H
                      have c73b0 : ((t600.length : Int) == 2) = true := beq_iff_eq.mpr c73
                      have c73b1 : ((t600.length : Int) != 2) = false := bne_eq_false_iff_eq.mpr c73
                      clear c73
                      by_cases c74 : 0 < (t600.length : Int)
                      · rw [if_pos c74] at H
                        have c74b0 : decide (0 < (t600.length : Int)) = true := decide_eq_true c74
                        have c74b1 : decide (0 < t600.length) = true := decide_eq_true (by omega)
                        clear c74
                        by_cases c75 : (rd t600 0) = (wrap64 (Int.tdiv x15_1 16))
                        · rw [if_pos c75] at H
                          have c75b0 : ((rd t600 0) == (wrap64 (Int.tdiv x15_1 16))) = true := beq_iff_eq.mpr c75
                          have c75b1 : ((rd t600 0) != (wrap64 (Int.tdiv x15_1 16))) = false := bne_eq_false_iff_eq.mpr c75
                          clear c75
                          by_cases c76 : 1 < (t600.length : Int)
                          · rw [if_pos c76] at H
                            have c76b0 : decide (1 < (t600.length : Int)) = true := decide_eq_true c76
                            have c76b1 : decide (1 < t600.length) = true := decide_eq_true (by omega)
                            clear c76
                            by_cases c77 : (rd t600 1) = (Int.tmod x15_1 16)
                            · rw [if_pos c77] at H
                              have c77b0 : ((rd t600 1) == (Int.tmod x15_1 16)) = true := beq_iff_eq.mpr c77
                              have c77b1 : ((rd t600 1) != (Int.tmod x15_1 16)) = false := bne_eq_false_iff_eq.mpr c77
                              clear c77
                              replace H := Option.bind_eq_some_iff.mp H
                              obtain ⟨t608, A780, H⟩ := H
                              replace H : (some t608) = some true := H
                              have A78 := Aside0.mk A780
                              clear A780
                              obtain rfl : t608 = true := Option.some.inj H
                              obtain ⟨hcz79_0, hcz79_1, hcz79_2⟩ := zC3 BK588
                              obtain ⟨hfz79_0, hfz79_1, hfz79_2⟩ := zF3 BK588
                              go_wp2_with (first | ((with_reducible refine gate_callee (f := 27) rfl ?_); refine goesL_ (some 90) rfl rfl Try.func27 (by kernel_rfl) rfl #[.agg #[.int .i64 t582, .int .i64 t583, .slice Ao16 t584.length co16], .int .i64 (wrap64 (1 + (wrap64 (Int.tmod (IntKind.u64.wrap (a4)) 3)))), .int .i64 2] rfl (by (try simp only [List.map_toArray, List.map_cons, List.map_nil]); first | done | rfl | (simp only [List.length_drop, List.length_take]; rfl)) ?_; (with_reducible refine (beam_Decode.calls t582 t583 _ _ t584 (wrap64 (1 + (wrap64 (Int.tmod (IntKind.u64.wrap (a4)) 3)))) 2 t600 t603 t604 _ ?side1 ?side2 A53.out).mono ?_); (case side1 => repeat (first | exact (Kd.R_reads' HO_589002.out).2.2 | (with_reducible refine Kd.C_alloc ?_ _) | (with_reducible refine Kd.C_drewN ?_ _) | (with_reducible refine Kd.C_drew ?_))); (case side2 => exact (Kd.R_reads' HO_589002.out).2.1); rintro e w80 ⟨v601, rfl, ho0, hb⟩; refine ⟨_, rfl, ?_⟩; replace HO_589002 := zR HO_589002 hb; have HO602 := Aside0.mk (Kd.R_lower ho0 (below_size (zB HB))); replace BK588 := zb BK588 hb; replace HB := zs HB hb; (try clear hb); (try clear hb2); (try clear hk); (try clear hi); (try clear ho0); obtain ⟨Ao81, co81, eo81⟩ := Kd.R_slice HO602.out; subst eo81; have p606 : 0 ≤ (0 : Int) := (by omega); have q606 : 0 < (t600.length : Int) := of_decide_eq_true (by first | (with_reducible assumption) | assumption); obtain ⟨ad606, e606, hx606_0⟩ := Kd.at_int (Kd.R_reads' HO602.out).2.2 0 p606 q606; cases e606; have qi606 : (0 < t600.length) = True := eq_true (by omega); (try rw [show ((0 : Int)).toNat = 0 from rfl] at hx606_0); (try rw [Addr.add_zero'] at hx606_0); replace p606 := eq_true p606; replace q606 := eq_true q606; have p607 : 0 ≤ (1 : Int) := (by omega); have q607 : 1 < (t600.length : Int) := of_decide_eq_true (by first | (with_reducible assumption) | assumption); obtain ⟨ad607, e607, hx607_0⟩ := Kd.at_int (Kd.R_reads' HO602.out).2.2 1 p607 q607; obtain rfl : ad606 = ad607 := (by injection e607); (try simp only [show (1 : Int).toNat = 1 from rfl, Nat.reduceMul, Nat.reduceEqDiff, Go.Addr.add, ↓reduceIte] at hx607_0); have qi607 : (1 < t600.length) = True := eq_true (by omega); (try rw [show ((1 : Int)).toNat = 1 from rfl] at hx607_0); replace p607 := eq_true p607; replace q607 := eq_true q607) | (go_at_call 30; (with_reducible refine (volutelaw12_wakes.calls k1 _ A78.out).mono ?_); rintro e w82 ⟨rfl, hb⟩; replace HO_589002 := zR HO_589002 hb; replace HO602 := zR HO602 hb; replace BK588 := zb BK588 hb; replace HB := zs HB hb; (try clear hb); (try clear hb2); (try clear hk); (try clear hi)))
                              go_ret
                              exact ⟨by first | rfl | (simp [errW_none, errW_some] <;> rfl) | (simp [*, errW_none, errW_some] <;> rfl), by repeat (first | (with_reducible first | exact HB.out | apply below_alloc | apply pw_below_drewN | apply below_drew1 | refine below_set ?_ GE588.out) | exact HB.out)⟩
                            · rw [if_neg c77] at H
                              have c77b0 : ((rd t600 1) == (Int.tmod x15_1 16)) = false := beq_eq_false_iff_ne.mpr c77
                              have c77b1 : ((rd t600 1) != (Int.tmod x15_1 16)) = true := bne_iff_ne.mpr c77
                              exact absurd (Option.some.inj H) (by decide)
                          · rw [if_neg c76] at H
                            exact absurd H (by simp)
                        · rw [if_neg c75] at H
                          have c75b0 : ((rd t600 0) == (wrap64 (Int.tdiv x15_1 16))) = false := beq_eq_false_iff_ne.mpr c75
                          have c75b1 : ((rd t600 0) != (wrap64 (Int.tdiv x15_1 16))) = true := bne_iff_ne.mpr c75
                          exact absurd (Option.some.inj H) (by decide)
                      · rw [if_neg c74] at H
                        exact absurd H (by simp)
                    · rw [if_neg c73] at H
                      have c73b0 : ((t600.length : Int) == 2) = false := beq_eq_false_iff_ne.mpr c73
                      have c73b1 : ((t600.length : Int) != 2) = true := bne_iff_ne.mpr c73
                      exact absurd (Option.some.inj H) (by decide)
                  · rw [if_neg c72] at H
                    have c72b0 : (t603 == x13_1) = false := beq_eq_false_iff_ne.mpr c72
                    have c72b1 : (t603 != x13_1) = true := bne_iff_ne.mpr c72
                    exact absurd (Option.some.inj H) (by decide)
                · rw [if_neg c71] at H
                  have c71b0 : (t604 == 0) = false := beq_eq_false_iff_ne.mpr c71
                  have c71b1 : (t604 != 0) = true := bne_iff_ne.mpr c71
                  exact absurd (Option.some.inj H) (by decide)
      · replace c9 := Bool.eq_false_iff.mpr c9
        subst c9
        have H1 : (some false) = some true := by rw [if_neg (show ¬ (false = true) by decide)] at H; exact H
        clear H
        have H := H1
        clear H1
        exact absurd (Option.some.inj H) (by decide)
noncomputable def volutelaw12_BeamDeep.Pure : Prop := ∀ (a0 : Int) (a1 : Int) (a2 : Int) (l3 : List Int) (a4 : Int), (Lit.int .u8 a0).wf = true → (Lit.int .i64 a1).wf = true → (Lit.int .i64 a2).wf = true → l3.length ≤ maxLen → l3.length * 1 ≤ 140737488351232 → (∀ x ∈ l3, (Lit.int .u8 x).wf = true) → (Lit.int .i64 a4).wf = true → ∃ k, volutelaw12_BeamDeep.f k a0 a1 a2 l3 a4 = some true
theorem volutelaw12_BeamDeep.walk (P : volutelaw12_BeamDeep.Pure) (a0 : Int) (a1 : Int) (a2 : Int) (a3 : Option Addr) (len3 cap3 : Nat) (z3 : List Int) (a4 : Int) (w : World) (w0 : (Lit.int .u8 a0).wf = true) (w1 : (Lit.int .i64 a1).wf = true) (w2 : (Lit.int .i64 a2).wf = true) (w3 : (a3 = none ∧ len3 = 0 ∧ cap3 = 0 ∧ z3 = []) ∨ ∃ x, a3 = some x ∧ len3 ≤ cap3 ∧ cap3 ≤ maxLen ∧ z3.length = cap3 ∧ (∀ i, i < z3.length → w.cell? (x.add i) = some (.int .u8 (z3.getD i 0))) ∧ ∀ n ∈ z3, (Lit.int .u8 n).wf = true) (y3 : len3 * 1 ≤ 140737488351232) (w4 : (Lit.int .i64 a4).wf = true) :
    Calls Try.prog 7 #[.int .u8 a0, .int .i64 a1, .int .i64 a2, .slice a3 len3 cap3, .int .i64 a4] w fun e w' => e = .returned (.bool true) ∧ Below w.heap.size w w' := by
  obtain ⟨l3, rfl, hr3, hm3, hw3, hc3⟩ := ReadsInt.ofRowC w3
  obtain ⟨k, h⟩ := P a0 a1 a2 l3 a4 w0 w1 w2 hm3 y3 hw3 w4
  refine (volutelaw12_BeamDeep.calls k a0 a1 a2 _ _ l3 a4 w (Kd.C_of_reads (d := (0 : Int)) (h1 := fun _ => rfl) hr3) hc3 h).mono ?_
  rintro e w' ⟨rfl, hd⟩
  exact ⟨rfl, hd⟩
end Go.Proofs.Ytlolfijadcflaaa.P
