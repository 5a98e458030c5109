/- What the law's proof needs: PxVolutelaw09Pilefull. -/
import Derived.Test.YtfhihhfckpolpaaEFPx0
import Derived.Test.YtfhihhfckpolpaaEFPxVolutekeep
import Derived.Test.YtfhihhfckpolpaaEFPxPile
import Derived.Test.YtfhihhfckpolpaaEFPxVolutelaw09
import Derived.Test.YtfhihhfckpolpaaEFShort
namespace Go.Proofs.Ytfhihhfckpolpaa.P
open Go.RowKit Go.Proofs.YtfhihhfckpolpaaW.PrintWords Go.Proofs.YtfhihhfckpolpaaW.PrintLast Go.Proofs.YtfhihhfckpolpaaW.PrintMore
attribute [local go_sem] max2_int min2_int max_two min_two max_three min_three max_four min_four   -- for this text's walks alone
set_option linter.unusedVariables false
set_option linter.unusedSimpArgs false
def volutelaw09_PileFull.l0 : Nat → Int → Int → Int → Int → Int → Int → List (S88) → Option (Bool)
  | 0, _, _, _, _, _, _, _ => none
  | k + 1, x0, x1, x2, x9, x402000, x402001, x402002 => if x9 < (wrap64 (x0 * x1)) then ((pile_Put.f k x402000 x402001 x402002 x9 (wrap64 (Int.tmod (IntKind.u64.wrap (wrap64 (x2 + x9))) 256))).bind fun bt402 => (if bt402.2.2.2.2 = 0 then (if bt402.2.2.2.1 = true then (volutelaw09_PileFull.l0 k x0 x1 x2 (wrap64 (x9 + 1)) bt402.1 bt402.2.1 bt402.2.2.1) else (some false)) else (some false))) else (if (IntKind.u64.wrap (wrap64 ((wrap64 (x0 * x1)) + 5))) = 0 then (none) else ((pile_Put.f k x402000 x402001 x402002 (wrap64 (Int.tmod (IntKind.u64.wrap (x2)) (IntKind.u64.wrap (wrap64 ((wrap64 (x0 * x1)) + 5))))) 3).bind fun bt410 => (if bt410.2.2.2.2 = 0 then (if bt410.2.2.2.1 = true then (some false) else ((volutekeep_Pile.f k bt410.1 bt410.2.1 bt410.2.2.1 x402000 x402001 x402002).bind fun t418 => (if t418 = true then (if (x402002.length : Int) = (wrap64 (x0 * x1)) then ((pile_Check.f k x402000 x402001 x402002).bind fun t419 => (if t419 = 0 then ((volutelaw09_wakes.f k).bind fun t420 => (some t420)) else (some false))) else (some false)) else (some false)))) else (some false))))
def volutelaw09_PileFull.f (k : Nat) (a0 : Int) (a1 : Int) (a2 : Int) : Option (Bool) := (pile_New.f (wrap64 (1 + (wrap64 (Int.tmod (IntKind.u64.wrap (a0)) 30)))) (wrap64 (1 + (wrap64 (Int.tmod (IntKind.u64.wrap (a1)) 8))))).bind fun bt395 => (if bt395.2.2.2 = 0 then (volutelaw09_PileFull.l0 k (wrap64 (1 + (wrap64 (Int.tmod (IntKind.u64.wrap (a0)) 30)))) (wrap64 (1 + (wrap64 (Int.tmod (IntKind.u64.wrap (a1)) 8)))) a2 0 bt395.1 bt395.2.1 bt395.2.2.1) else (some false))
def volutelaw09_PileFull.T12 : Bool × List (List Nat × List Nat) := (true, [([], []), ([], []), ([1], [1]), ([], []), ([], []), ([3, 4], [3, 4]), ([5], [5]), ([6], [6]), ([2, 7], [2, 7]), ([8], [8]), ([0, 9], [0, 9]), ([10], [10]), ([11], [11]), ([11], [11]), ([11], [11]), ([], []), ([15, 12, 10, 0, 1, 2, 3, 4, 5, 6, 7, 8, 9, 10, 11, 12, 15], [12, 15]), ([13, 16, 0, 1, 2, 3, 4, 5, 6, 7, 8, 9, 10, 11, 12, 13, 15, 16], [13]), ([14, 17, 0, 1, 2, 3, 4, 5, 6, 7, 8, 9, 10, 11, 12, 13, 14, 15, 16, 17], [14])])
def volutelaw09_PileFull.B12 : List Nat := [0, 0, 2, 0, 0, 24, 56, 120, 254, 510, 1023, 2047, 4095, 4095, 4095, 0, 40959, 114687, 262143]
theorem volutelaw09_PileFull.tab12 : rtab .any (opsOf Try.f10 12) = volutelaw09_PileFull.T12 := by kernel_rfl
theorem volutelaw09_PileFull.bits12 : waitsOk volutelaw09_PileFull.T12.2 volutelaw09_PileFull.B12 = true := by kernel_rfl
set_option maxHeartbeats 8000000 in
set_option maxRecDepth 100000 in
theorem volutelaw09_PileFull.calls (k : Nat) (a0 : Int) (a1 : Int) (a2 : Int) (w : World) (h : volutelaw09_PileFull.f k a0 a1 a2 = some true) :
    Calls Try.prog 10 #[.int .i64 a0, .int .i64 a1, .int .i64 a2] w fun e w' => e = .returned (.bool true) ∧ Below w.heap.size w w' := by
  have hu67 := Try.underlying67
  have HB := Aside0.mk (Below.refl w.heap.size w)
  have H : ((pile_New.f (wrap64 (1 + (wrap64 (Int.tmod (IntKind.u64.wrap (a0)) 30)))) (wrap64 (1 + (wrap64 (Int.tmod (IntKind.u64.wrap (a1)) 8))))).bind fun bt395 => (if bt395.2.2.2 = 0 then (volutelaw09_PileFull.l0 k (wrap64 (1 + (wrap64 (Int.tmod (IntKind.u64.wrap (a0)) 30)))) (wrap64 (1 + (wrap64 (Int.tmod (IntKind.u64.wrap (a1)) 8)))) a2 0 bt395.1 bt395.2.1 bt395.2.2.1) else (some false))) = some true := h
  clear h
  replace H := Option.bind_eq_some_iff.mp H
  obtain ⟨⟨t395, t396, t397, t400⟩, A40, H⟩ := H
  replace H : (if t400 = 0 then (volutelaw09_PileFull.l0 k (wrap64 (1 + (wrap64 (Int.tmod (IntKind.u64.wrap (a0)) 30)))) (wrap64 (1 + (wrap64 (Int.tmod (IntKind.u64.wrap (a1)) 8)))) a2 0 t395 t396 t397) else (some false)) = some true := H
  have A4 := Aside0.mk A40
  clear A40
  by_cases c5 : t400 = 0
  · rw [if_pos c5] at H
    have c5b0 : (t400 == 0) = true := beq_iff_eq.mpr c5
    have c5b1 : (t400 != 0) = false := bne_eq_false_iff_eq.mpr c5
    clear c5
    have H' := Aside0.mk H
    clear H
    go_enter Try.func10, Try.ntmps10
    go_wp2_with (first | ((with_reducible refine gate_callee (f := 35) rfl ?_); refine goesL_ (some 28) rfl rfl Try.func35 (by kernel_rfl) rfl #[.int .i64 (wrap64 (1 + (wrap64 (Int.tmod (IntKind.u64.wrap (a0)) 30)))), .int .i64 (wrap64 (1 + (wrap64 (Int.tmod (IntKind.u64.wrap (a1)) 8))))] rfl (by (try simp only [List.map_toArray, List.map_cons, List.map_nil]); first | done | rfl | (simp only [List.length_drop, List.length_take]; rfl)) ?_; (with_reducible refine (pile_New.calls (wrap64 (1 + (wrap64 (Int.tmod (IntKind.u64.wrap (a0)) 30)))) (wrap64 (1 + (wrap64 (Int.tmod (IntKind.u64.wrap (a1)) 8)))) t395 t396 t397 t400 _ A4.out).mono ?_); rintro e w6 ⟨v398, rfl, ho0, hb⟩; refine ⟨_, rfl, ?_⟩; have HO399 := Aside0.mk (Kd.R_lower ho0 (below_size (zB HB))); replace HB := zs HB hb; (try clear hb); (try clear hb2); (try clear hk); (try clear hi); (try clear ho0)) | ((with_reducible refine gate_dst (N := 7) rfl ?_); (try (refine gate_guard (by rfl) ?_; dsimp only)); refine box_event ?hg (N := 7) ?hd (cs := #[.int .i64 0, .int .i64 0, .slice none 0 0]) (t := 67) ?hr ?_; (case hd => rfl); (case hg => rfl); (case hr => first | (go_simp; done) | (go_simp; rfl)); intro gb401 hg w7 hbox hb; replace HO399 := zR HO399 hb; have BK401 := Aside0.mk (hbox); have GW401 := zg HB hg; have GE401 := zg HB hg; replace HB := zs HB hb; clear hb hbox hg; obtain ⟨hcz8_0, hcz8_1, hcz8_2⟩ := zC3 BK401; obtain ⟨hfz8_0, hfz8_1, hfz8_2⟩ := zF3 BK401; obtain ⟨Ao9, co9, eo9⟩ := Kd.R_slice HO399.out; subst eo9))
    go_loopg [9] k (fun kq v9 w' => ∃ (x9_1 : Int) (x402000_1 : Int) (x402001_1 : Int) (x402002_1 : List (S88)) (u402002 : Value), v9 = .int .i64 x9_1 ∧ Aside0 (volutelaw09_PileFull.l0 kq (wrap64 (1 + (wrap64 (Int.tmod (IntKind.u64.wrap (a0)) 30)))) (wrap64 (1 + (wrap64 (Int.tmod (IntKind.u64.wrap (a1)) 8)))) a2 x9_1 x402000_1 x402001_1 x402002_1 = some true) ∧ Aside0 (kq ≤ k) ∧ Aside0 (Kd.R k88 88 w' w.heap.size (fun _ => True) u402002 x402002_1) ∧ Aside0 (w'.heap[gb401]? = some (.cells #[.int .i64 x402000_1, .int .i64 x402001_1, u402002] 67 (0, 0))) ∧ Aside0 (Below w.heap.size w w'))
    case atStart => exact ⟨(0), (t395), (t396), (t397), (.slice Ao9 t397.length co9), (by first | rfl | (simp; done) | (simp [*]; done)), H', ⟨Nat.le_refl _⟩, ⟨by (with_reducible repeat (first | apply Kd.R_alloc | apply Kd.R_drewN | apply Kd.R_drew)); exact Kd.R_mono (Kd.R_far (p := ⟨gb401, 2, none⟩) (Kd.R_far (p := ⟨gb401, 1, none⟩) (Kd.R_far (p := ⟨gb401, 0, none⟩) (Kd.R_types HO399.out BK401.out (by decide)) (fun _ hk => hk.2) (.int .i64 t395)) (fun _ hk => hk.2) (.int .i64 t396)) (fun _ hk => hk.2) (.slice Ao9 t397.length co9)) (fun _ hk => trivial)⟩, ⟨by (with_reducible repeat (first | refine blk_drewN ?_ _ | refine blk_drew ?_ | refine blk_alloc ?_ _)); refine blk_put (cs := #[.int .i64 t395, .int .i64 t396, .slice none 0 0]) ?_ 2 _ rfl; (with_reducible repeat (first | refine blk_drewN ?_ _ | refine blk_drew ?_ | refine blk_alloc ?_ _)); refine blk_put (cs := #[.int .i64 t395, .int .i64 0, .slice none 0 0]) ?_ 1 _ rfl; (with_reducible repeat (first | refine blk_drewN ?_ _ | refine blk_drew ?_ | refine blk_alloc ?_ _)); refine blk_put (cs := #[.int .i64 0, .int .i64 0, .slice none 0 0]) ?_ 0 _ rfl; (with_reducible repeat (first | refine blk_drewN ?_ _ | refine blk_drew ?_ | refine blk_alloc ?_ _)); exact BK401.out⟩, ⟨by repeat (first | (with_reducible first | exact HB.out | apply below_alloc | apply pw_below_drewN | apply below_drew1 | refine below_set ?_ GE401.out) | exact HB.out)⟩⟩
    case round =>
      clear H'
      try clear c1
      try clear p2
      try clear c3
      try clear c5
      try clear c5b0
      try clear c5b1
      try clear p6
      try clear hcz8_0
      try clear hcz8_1
      try clear hcz8_2
      try clear hfz8_0
      try clear hfz8_1
      try clear hfz8_2
      obtain ⟨x9_1, x402000_1, x402001_1, x402002_1, u402002, rfl, HA, HK1, HO_402002, BK401, HB⟩ := hrel
      cases gk with
      | zero => exact absurd HA.out (by simp [volutelaw09_PileFull.l0])
      | succ k1 =>
        have H := HA.out
        clear HA
        simp only [volutelaw09_PileFull.l0] at H
        by_cases c10 : x9_1 < (wrap64 ((wrap64 (1 + (wrap64 (Int.tmod (IntKind.u64.wrap (a0)) 30)))) * (wrap64 (1 + (wrap64 (Int.tmod (IntKind.u64.wrap (a1)) 8))))))
        · rw [if_pos c10] at H
          have c10b0 : decide (x9_1 < (wrap64 ((wrap64 (1 + (wrap64 (Int.tmod (IntKind.u64.wrap (a0)) 30)))) * (wrap64 (1 + (wrap64 (Int.tmod (IntKind.u64.wrap (a1)) 8))))))) = true := decide_eq_true c10
          clear c10
          replace H := Option.bind_eq_some_iff.mp H
          obtain ⟨⟨t402, t403, t404, t407, t408⟩, A110, H⟩ := H
          replace H : (if t408 = 0 then (if t407 = true then (volutelaw09_PileFull.l0 k1 (wrap64 (1 + (wrap64 (Int.tmod (IntKind.u64.wrap (a0)) 30)))) (wrap64 (1 + (wrap64 (Int.tmod (IntKind.u64.wrap (a1)) 8)))) a2 (wrap64 (x9_1 + 1)) t402 t403 t404) else (some false)) else (some false)) = some true := H
          have A11 := Aside0.mk A110
          clear A110
          by_cases c12 : t408 = 0
          · rw [if_pos c12] at H
            have c12b0 : (t408 == 0) = true := beq_iff_eq.mpr c12
            have c12b1 : (t408 != 0) = false := bne_eq_false_iff_eq.mpr c12
            clear c12
            by_cases c13 : t407 = true
            · subst c13
              have H1 : (volutelaw09_PileFull.l0 k1 (wrap64 (1 + (wrap64 (Int.tmod (IntKind.u64.wrap (a0)) 30)))) (wrap64 (1 + (wrap64 (Int.tmod (IntKind.u64.wrap (a1)) 8)))) a2 (wrap64 (x9_1 + 1)) t402 t403 t404) = some true := by rw [if_pos rfl] at H; exact H
              clear H
              have H := H1
              clear H1
              have H' := Aside0.mk H
              clear H
              obtain ⟨hcz14_0, hcz14_1, hcz14_2⟩ := zC3 BK401
              obtain ⟨hfz14_0, hfz14_1, hfz14_2⟩ := zF3 BK401
              obtain ⟨Ao15, co15, eo15⟩ := Kd.R_slice HO_402002.out
              subst eo15
              go_wp2_with (first | ((with_reducible refine gate_callee (f := 36) rfl ?_); refine goesL_ (some 49) rfl rfl Try.func36 (by kernel_rfl) rfl #[.agg #[.int .i64 x402000_1, .int .i64 x402001_1, .slice Ao15 x402002_1.length co15], .int .i64 x9_1, .int .i64 (wrap64 (Int.tmod (IntKind.u64.wrap (wrap64 (a2 + x9_1))) 256))] rfl (by (try simp only [List.map_toArray, List.map_cons, List.map_nil]); first | done | rfl | (simp only [List.length_drop, List.length_take]; rfl)) ?_; (with_reducible refine (pile_Put.calls k1 x402000_1 x402001_1 _ _ x402002_1 x9_1 (wrap64 (Int.tmod (IntKind.u64.wrap (wrap64 (a2 + x9_1))) 256)) t402 t403 t404 true t408 _ ?side1 ?side2 A11.out).mono ?_); (case side1 => repeat (first | exact (Kd.R_reads' HO_402002.out).2.2 | (with_reducible refine Kd.C_alloc ?_ _) | (with_reducible refine Kd.C_drewN ?_ _) | (with_reducible refine Kd.C_drew ?_))); (case side2 => exact (Kd.R_reads' HO_402002.out).2.1); rintro e w16 ⟨v405, rfl, ho0, hb⟩; refine ⟨_, rfl, ?_⟩; have HO406 := Aside0.mk (Kd.R_lower (Kd.R_new' ho0 (Kd.R_lt (zr_ HO_402002))) (below_size (zB HB))); replace HO_402002 := Aside0.mk (Kd.R_elder' (zr_ HO_402002) (Kd.R_base ho0) hb); replace BK401 := zb BK401 hb; replace HB := zs HB hb; (try clear hb); (try clear hb2); (try clear hk); (try clear hi); (try clear ho0)) | ((with_reducible refine gate_dst (N := 10) rfl ?_); (try (refine gate_guard (by rfl) ?_; dsimp only)); refine box_event ?hg (N := 10) ?hd (cs := #[.int .i64 0, .int .i64 0, .slice none 0 0]) (t := 67) ?hr ?_; (case hd => rfl); (case hg => rfl); (case hr => first | (go_simp; done) | (go_simp; rfl)); intro gb409 hg w17 hbox hb; replace HO_402002 := zR HO_402002 hb; replace HO406 := zR HO406 hb; have BK409 := Aside0.mk (hbox); have GW409 := zg HB hg; have GE409 := zg HB hg; replace HB := zs HB hb; have NB401_409 := zl BK401 hg; have NB409_401 := zr BK401 hg; replace BK401 := zb BK401 hb; clear hb hbox hg; have hnb18 := NB409_401.out; have hnc18 := NB401_409.out; obtain ⟨hcz19_0, hcz19_1, hcz19_2⟩ := zC3 BK409; obtain ⟨hfz19_0, hfz19_1, hfz19_2⟩ := zF3 BK409; obtain ⟨Ao20, co20, eo20⟩ := Kd.R_slice HO406.out; subst eo20; obtain ⟨hcz21_0, hcz21_1, hcz21_2⟩ := zC3 BK401; obtain ⟨hfz21_0, hfz21_1⟩ := zF2 BK401; have hfz21_2 := blk_frozen BK401.out 2))
              go_roundg k1
              case measure => have := HK1.out; omega
              case rel => exact ⟨(wrap64 (x9_1 + 1)), (t402), (t403), (t404), (.slice Ao20 t404.length co20), (by first | rfl | (simp; done) | (simp [*]; done)), H', ⟨by have := HK1.out; omega⟩, ⟨by (with_reducible repeat (first | apply Kd.R_alloc | apply Kd.R_drewN | apply Kd.R_drew)); exact Kd.R_mono (Kd.R_far (p := ⟨gb401, 2, none⟩) (Kd.R_far (p := ⟨gb401, 1, none⟩) (Kd.R_far (p := ⟨gb401, 0, none⟩) (Kd.R_far (p := ⟨gb409, 2, none⟩) (Kd.R_far (p := ⟨gb409, 1, none⟩) (Kd.R_far (p := ⟨gb409, 0, none⟩) (Kd.R_types (Kd.R_types HO406.out BK409.out (by decide)) BK401.out (by decide)) (fun _ hk => hk.1.2) (.int .i64 t402)) (fun _ hk => hk.1.2) (.int .i64 t403)) (fun _ hk => hk.1.2) (.slice Ao20 t404.length co20)) (fun _ hk => hk.2) (.int .i64 t402)) (fun _ hk => hk.2) (.int .i64 t403)) (fun _ hk => hk.2) (.slice Ao20 t404.length co20)) (fun _ hk => trivial)⟩, ⟨by (with_reducible repeat (first | refine blk_drewN ?_ _ | refine blk_drew ?_ | refine blk_alloc ?_ _)); refine blk_put (cs := #[.int .i64 t402, .int .i64 t403, .slice Ao15 x402002_1.length co15]) ?_ 2 _ rfl; (with_reducible repeat (first | refine blk_drewN ?_ _ | refine blk_drew ?_ | refine blk_alloc ?_ _)); refine blk_put (cs := #[.int .i64 t402, .int .i64 x402001_1, .slice Ao15 x402002_1.length co15]) ?_ 1 _ rfl; (with_reducible repeat (first | refine blk_drewN ?_ _ | refine blk_drew ?_ | refine blk_alloc ?_ _)); refine blk_put (cs := #[.int .i64 x402000_1, .int .i64 x402001_1, .slice Ao15 x402002_1.length co15]) ?_ 0 _ rfl; (with_reducible repeat (first | refine blk_drewN ?_ _ | refine blk_drew ?_ | refine blk_alloc ?_ _)); refine blk_far ?_ NB401_409.out _; (with_reducible repeat (first | refine blk_drewN ?_ _ | refine blk_drew ?_ | refine blk_alloc ?_ _)); refine blk_far ?_ NB401_409.out _; (with_reducible repeat (first | refine blk_drewN ?_ _ | refine blk_drew ?_ | refine blk_alloc ?_ _)); refine blk_far ?_ NB401_409.out _; (with_reducible repeat (first | refine blk_drewN ?_ _ | refine blk_drew ?_ | refine blk_alloc ?_ _)); exact BK401.out⟩, ⟨by repeat (first | (with_reducible first | exact HB.out | apply below_alloc | apply pw_below_drewN | apply below_drew1 | refine below_set ?_ GE401.out | refine below_set ?_ GE409.out) | exact HB.out)⟩⟩
            · replace c13 := Bool.eq_false_iff.mpr c13
              subst c13
              have H1 : (some false) = some true := by rw [if_neg (show ¬ (false = true) by decide)] at H; exact H
              clear H
              have H := H1
              clear H1
              exact absurd (Option.some.inj H) (by decide)
          · rw [if_neg c12] at H
            have c12b0 : (t408 == 0) = false := beq_eq_false_iff_ne.mpr c12
            have c12b1 : (t408 != 0) = true := bne_iff_ne.mpr c12
            exact absurd (Option.some.inj H) (by decide)
        · rw [if_neg c10] at H
          have c10b0 : decide (x9_1 < (wrap64 ((wrap64 (1 + (wrap64 (Int.tmod (IntKind.u64.wrap (a0)) 30)))) * (wrap64 (1 + (wrap64 (Int.tmod (IntKind.u64.wrap (a1)) 8))))))) = false := decide_eq_false c10
          clear c10
          by_cases c36 : (IntKind.u64.wrap (wrap64 ((wrap64 ((wrap64 (1 + (wrap64 (Int.tmod (IntKind.u64.wrap (a0)) 30)))) * (wrap64 (1 + (wrap64 (Int.tmod (IntKind.u64.wrap (a1)) 8)))))) + 5))) = 0
          · rw [if_pos c36] at H
            exact absurd H (by simp)
          · rw [if_neg c36] at H
            have c36b0 : ((IntKind.u64.wrap (wrap64 ((wrap64 ((wrap64 (1 + (wrap64 (Int.tmod (IntKind.u64.wrap (a0)) 30)))) * (wrap64 (1 + (wrap64 (Int.tmod (IntKind.u64.wrap (a1)) 8)))))) + 5))) == 0) = false := beq_eq_false_iff_ne.mpr c36
            have c36b1 : ((IntKind.u64.wrap (wrap64 ((wrap64 ((wrap64 (1 + (wrap64 (Int.tmod (IntKind.u64.wrap (a0)) 30)))) * (wrap64 (1 + (wrap64 (Int.tmod (IntKind.u64.wrap (a1)) 8)))))) + 5))) != 0) = true := bne_iff_ne.mpr c36
            replace H := Option.bind_eq_some_iff.mp H
            obtain ⟨⟨t410, t411, t412, t415, t416⟩, A370, H⟩ := H
            replace H : (if t416 = 0 then (if t415 = true then (some false) else ((volutekeep_Pile.f k1 t410 t411 t412 x402000_1 x402001_1 x402002_1).bind fun t418 => (if t418 = true then (if (x402002_1.length : Int) = (wrap64 ((wrap64 (1 + (wrap64 (Int.tmod (IntKind.u64.wrap (a0)) 30)))) * (wrap64 (1 + (wrap64 (Int.tmod (IntKind.u64.wrap (a1)) 8)))))) then ((pile_Check.f k1 x402000_1 x402001_1 x402002_1).bind fun t419 => (if t419 = 0 then ((volutelaw09_wakes.f k1).bind fun t420 => (some t420)) else (some false))) else (some false)) else (some false)))) else (some false)) = some true := H
            have A37 := Aside0.mk A370
            clear A370
            by_cases c38 : t416 = 0
            · rw [if_pos c38] at H
              have c38b0 : (t416 == 0) = true := beq_iff_eq.mpr c38
              have c38b1 : (t416 != 0) = false := bne_eq_false_iff_eq.mpr c38
              clear c38
              by_cases c39 : t415 = true
              · subst c39
                have H1 : (some false) = some true := by rw [if_pos rfl] at H; exact H
                clear H
                have H := H1
                clear H1
                exact absurd (Option.some.inj H) (by decide)
              · replace c39 := Bool.eq_false_iff.mpr c39
                subst c39
                have H1 : ((volutekeep_Pile.f k1 t410 t411 t412 x402000_1 x402001_1 x402002_1).bind fun t418 => (if t418 = true then (if (x402002_1.length : Int) = (wrap64 ((wrap64 (1 + (wrap64 (Int.tmod (IntKind.u64.wrap (a0)) 30)))) * (wrap64 (1 + (wrap64 (Int.tmod (IntKind.u64.wrap (a1)) 8)))))) then ((pile_Check.f k1 x402000_1 x402001_1 x402002_1).bind fun t419 => (if t419 = 0 then ((volutelaw09_wakes.f k1).bind fun t420 => (some t420)) else (some false))) else (some false)) else (some false))) = some true := by rw [if_neg (show ¬ (false = true) by decide)] at H; exact H
                clear H
                have H := H1
                clear H1
                replace H := Option.bind_eq_some_iff.mp H
                obtain ⟨t418, A490, H⟩ := H
                replace H : (if t418 = true then (if (x402002_1.length : Int) = (wrap64 ((wrap64 (1 + (wrap64 (Int.tmod (IntKind.u64.wrap (a0)) 30)))) * (wrap64 (1 + (wrap64 (Int.tmod (IntKind.u64.wrap (a1)) 8)))))) then ((pile_Check.f k1 x402000_1 x402001_1 x402002_1).bind fun t419 => (if t419 = 0 then ((volutelaw09_wakes.f k1).bind fun t420 => (some t420)) else (some false))) else (some false)) else (some false)) = some true := H
                have A49 := Aside0.mk A490
                clear A490
                by_cases c50 : t418 = true
                · subst c50
                  have H1 : (if (x402002_1.length : Int) = (wrap64 ((wrap64 (1 + (wrap64 (Int.tmod (IntKind.u64.wrap (a0)) 30)))) * (wrap64 (1 + (wrap64 (Int.tmod (IntKind.u64.wrap (a1)) 8)))))) then ((pile_Check.f k1 x402000_1 x402001_1 x402002_1).bind fun t419 => (if t419 = 0 then ((volutelaw09_wakes.f k1).bind fun t420 => (some t420)) else (some false))) else (some false)) = some true := by rw [if_pos rfl] at H; exact H
                  clear H
                  have H := H1
                  clear H1
                  by_cases c51 : (x402002_1.length : Int) = (wrap64 ((wrap64 (1 + (wrap64 (Int.tmod (IntKind.u64.wrap (a0)) 30)))) * (wrap64 (1 + (wrap64 (Int.tmod (IntKind.u64.wrap (a1)) 8))))))
                  · rw [if_pos c51] at H
                    have c51b0 : ((x402002_1.length : Int) == (wrap64 ((wrap64 (1 + (wrap64 (Int.tmod (IntKind.u64.wrap (a0)) 30)))) * (wrap64 (1 + (wrap64 (Int.tmod (IntKind.u64.wrap (a1)) 8))))))) = true := beq_iff_eq.mpr c51
                    have c51b1 : ((x402002_1.length : Int) != (wrap64 ((wrap64 (1 + (wrap64 (Int.tmod (IntKind.u64.wrap (a0)) 30)))) * (wrap64 (1 + (wrap64 (Int.tmod (IntKind.u64.wrap (a1)) 8))))))) = false := bne_eq_false_iff_eq.mpr c51
                    clear c51
                    replace H := Option.bind_eq_some_iff.mp H
                    obtain ⟨t419, A520, H⟩ := H
                    replace H : (if t419 = 0 then ((volutelaw09_wakes.f k1).bind fun t420 => (some t420)) else (some false)) = some true := H
                    have A52 := Aside0.mk A520
                    clear A520
                    by_cases c53 : t419 = 0
                    · rw [if_pos c53] at H
                      have c53b0 : (t419 == 0) = true := beq_iff_eq.mpr c53
                      have c53b1 : (t419 != 0) = false := bne_eq_false_iff_eq.mpr c53
                      clear c53
                      replace H := Option.bind_eq_some_iff.mp H
                      obtain ⟨t420, A540, H⟩ := H
                      replace H : (some t420) = some true := H
                      have A54 := Aside0.mk A540
                      clear A540
                      obtain rfl : t420 = true := Option.some.inj H
                      obtain ⟨Ao55, co55, eo55⟩ := Kd.R_slice HO_402002.out
                      subst eo55
                      try go_wp2
                      replace HO_402002 := Aside0.mk (Kd.R_drew HO_402002.out)
                      replace BK401 := Aside0.mk (blk_drew BK401.out)
                      replace HB := Aside0.mk (below_drew1 HB.out)
                      refine start_ (n := 19) (S := fun w' => w'.cell? ⟨gb401, 0, none⟩ = some (.int .i64 x402000_1) ∧ w'.cell? ⟨gb401, 1, none⟩ = some (.int .i64 x402001_1) ∧ w'.cell? ⟨gb401, 2, none⟩ = some (.slice Ao55 x402002_1.length co55)) (ds := []) #[false, false, false, false, false, false, false, false, false, false, false, false, false, false, false, false, false, false, false] (by kernel_rfl) rfl rfl ⟨(blk_cell BK401.out 0).trans rfl, (blk_cell BK401.out 1).trans rfl, (blk_cell BK401.out 2).trans rfl⟩ (fun hHeld => ?_); refine with_tabW volutelaw09_PileFull.tab12 volutelaw09_PileFull.bits12 (fun HT_ HW_ => ?_)
                      generalize wr.drew = w56 at HO_402002 BK401 HB hHeld ⊢
                      refine pu 1 62 (lb 19 2) rfl rfl (any_of HT_.out (by kernel_rfl)) ?_
                      refine pu 2 63 (lb 19 6) rfl rfl (any_of HT_.out (by kernel_rfl)) ?_
                      refine pu 3 64 (lb 19 14) rfl rfl (any_of HT_.out (by kernel_rfl)) ?_
                      refine pu 4 65 (lb 19 30) rfl rfl (any_of HT_.out (by kernel_rfl)) ?_
                      refine pu 5 66 (lb 19 62) rfl rfl (any_of HT_.out (by kernel_rfl)) ?_
                      refine pu 6 67 (lb 19 126) rfl rfl (any_of HT_.out (by kernel_rfl)) ?_
                      refine pu 7 68 (lb 19 254) rfl rfl (any_of HT_.out (by kernel_rfl)) ?_
                      refine pu 8 69 (lb 19 510) rfl rfl (any_of HT_.out (by kernel_rfl)) ?_
                      refine pu 9 70 (lb 19 1022) rfl rfl (any_of HT_.out (by kernel_rfl)) ?_
                      refine take_ (i := 0) (N := some 61) (v := ?_) (a' := ?_) (lb 19 1023) rfl rfl (take_ofW HT_.out HW_.out (by kernel_rfl)) (fun _ _ _ h => h) (Or.inl ⟨by rfl, ?_⟩) hHeld ?_ ?_
                      rotate_left
                      · rintro w' ⟨s0, s1, s2⟩
                        go_simp
                        with_reducible rfl
                      rotate_left
                      · simp only [Act.put, List.setIfInBounds_toArray, List.set_cons_zero, List.set_cons_succ, i64_w, i32_w]
                        rfl
                      refine join_ (σ := Value × Nat) 3 #[true, true, true, true, true, true, true, true, true, true, true, true, true, true, true, true, false, false, false] (fun s_ => [(71, .tuple #[.agg #[.int .i64 t410, .int .i64 t411, s_.1], .bool false, .int .i64 t416]), (13, .pointer (some ⟨s_.2, 0, none⟩)), (60, .tuple #[.agg #[.int .i64 t410, .int .i64 t411, s_.1], .bool false, .int .i64 t416]), (72, .agg #[.int .i64 t410, .int .i64 t411, s_.1]), (73, .bool false), (74, .int .i64 t416)]) (fun s_ w' => (w'.cell? ⟨gb401, 0, none⟩ = some (.int .i64 x402000_1) ∧ w'.cell? ⟨gb401, 1, none⟩ = some (.int .i64 x402001_1) ∧ w'.cell? ⟨gb401, 2, none⟩ = some (.slice Ao55 x402002_1.length co55)) ∧ (Kd.R k88 88 w' w.heap.size (fun k_ => some k_ ≠ (.slice Ao55 x402002_1.length co55 : Value).ownBlock) s_.1 t412) ∧ (Kd.R k88 88 w' w.heap.size (fun k_ => some k_ ≠ (s_.1 : Value).ownBlock) (.slice Ao55 x402002_1.length co55) x402002_1) ∧ (w'.heap[gb401]? = some (.cells #[.int .i64 x402000_1, .int .i64 x402001_1, .slice Ao55 x402002_1.length co55] 67 (0, 0))) ∧ (w'.heap[s_.2]? = some (.cells #[.int .i64 0, .int .i64 0, .slice none 0 0] 67 (0, 0))) ∧ (w.heap.size ≤ s_.2) ∧ (w.heap.size ≤ s_.2) ∧ (gb401 ≠ s_.2) ∧ (s_.2 ≠ gb401) ∧ (Below w.heap.size w w')) ?_ ?_
                      rotate_left
                      · intro hCont
                        refine two_ (i := 10) (j := 15) (Ni := some 71) (Nj := some 13) (lb 19 2047) (lb 19 33791) rfl rfl rfl rfl (two_of HT_.out (by kernel_rfl)) (by decide) (by decide) (fun K hK => ?_) (fun K hK => ?_)
                        · skip
                          refine goes_ Try.func36 (by kernel_rfl) rfl #[.agg #[.int .i64 x402000_1, .int .i64 x402001_1, .slice Ao55 x402002_1.length co55], .int .i64 (wrap64 (Int.tmod (IntKind.u64.wrap (a2)) (IntKind.u64.wrap (wrap64 ((wrap64 ((wrap64 (1 + (wrap64 (Int.tmod (IntKind.u64.wrap (a0)) 30)))) * (wrap64 (1 + (wrap64 (Int.tmod (IntKind.u64.wrap (a1)) 8)))))) + 5))))), .int .i64 3] (by rfl) rfl rfl (by (try simp only [List.map_toArray, List.map_cons, List.map_nil]); first | done | rfl | (simp only [List.length_drop, List.length_take]; rfl)) ?_
                          with_reducible refine (pile_Put.calls k1 x402000_1 x402001_1 _ _ x402002_1 (wrap64 (Int.tmod (IntKind.u64.wrap (a2)) (IntKind.u64.wrap (wrap64 ((wrap64 ((wrap64 (1 + (wrap64 (Int.tmod (IntKind.u64.wrap (a0)) 30)))) * (wrap64 (1 + (wrap64 (Int.tmod (IntKind.u64.wrap (a1)) 8)))))) + 5))))) 3 t410 t411 t412 false t416 _ ?side1 ?side2 A37.out).mono ?_
                          (case side1 => repeat (first | exact (Kd.R_reads' HO_402002.out).2.2 | (with_reducible refine Kd.C_alloc ?_ _) | (with_reducible refine Kd.C_drewN ?_ _) | (with_reducible refine Kd.C_drew ?_)))
                          (case side2 => exact (Kd.R_reads' HO_402002.out).2.1)
                          rintro e w57 ⟨v413, rfl, ho0, hb⟩
                          refine ⟨_, rfl, ?_⟩
                          have HO414 := Aside0.mk (Kd.R_lower (Kd.R_new' ho0 (Kd.R_lt (zr_ HO_402002))) (below_size (zB HB)))
                          replace HO_402002 := Aside0.mk (Kd.R_elder' (zr_ HO_402002) (Kd.R_base ho0) hb)
                          replace BK401 := zb BK401 hb
                          replace HB := zs HB hb
                          (try clear hb)
                          (try clear hb2)
                          (try clear hk)
                          (try clear hi)
                          (try clear ho0)
                          refine hK.out _ _ ⟨(blk_cell BK401.out 0).trans rfl, (blk_cell BK401.out 1).trans rfl, (blk_cell BK401.out 2).trans rfl⟩ (fun hHeld => ?_)
                          clear hK K
                          refine norm_ (a' := ?_) ?_ ?_
                          rotate_left
                          · show Act.put _ (some 71) _ = _
                            simp only [Act.put, List.setIfInBounds_toArray, List.set_cons_zero, List.set_cons_succ, i64_w, i32_w]
                            rfl
                          refine pu 11 60 (lb 19 4095) rfl rfl (any_of HT_.out (by kernel_rfl)) ?_
                          refine pu 12 72 (lb 19 8191) rfl rfl (any_of HT_.out (by kernel_rfl)) ?_
                          refine pu 13 73 (lb 19 16383) rfl rfl (any_of HT_.out (by kernel_rfl)) ?_
                          refine pu 14 74 (lb 19 32767) rfl rfl (any_of HT_.out (by kernel_rfl)) ?_
                          refine one_ (i := 15) (N := some 13) (lb 19 65535) rfl rfl (one_of HT_.out (by kernel_rfl)) (by decide) (fun K hK => ?_)
                          refine box_step ?hg (N := 13) ?hd (cs := #[.int .i64 0, .int .i64 0, .slice none 0 0]) (t := 67) ?hr ?_; (case hd => rfl); (case hg => rfl); (case hr => first | (go_simp; done) | (go_simp; rfl))
                          intro gb417 hg w58 hbox hb
                          replace HO_402002 := zR HO_402002 hb
                          replace HO414 := zR HO414 hb
                          have BK417 := Aside0.mk (hbox)
                          have GW417 := zg HB hg
                          have GE417 := zg HB hg
                          replace HB := zs HB hb
                          have NB401_417 := zl BK401 hg
                          have NB417_401 := zr BK401 hg
                          replace BK401 := zb BK401 hb
                          clear hb hbox hg
                          refine hK.out _ _ ⟨(blk_cell BK401.out 0).trans rfl, (blk_cell BK401.out 1).trans rfl, (blk_cell BK401.out 2).trans rfl⟩ (fun hHeld => ?_)
                          clear hK K
                          refine norm_ (a' := ?_) ?_ ?_
                          rotate_left
                          · show Act.put _ (some 13) _ = _
                            simp only [Act.put, List.setIfInBounds_toArray, List.set_cons_zero, List.set_cons_succ, i64_w, i32_w]
                            rfl
                          exact norm_ (by simp only [putAll, Act.put, List.setIfInBounds_toArray, List.set_cons_zero, List.set_cons_succ]) (hCont (v413, gb417) _ ⟨hHeld, (by (with_reducible repeat (first | apply Kd.R_alloc | apply Kd.R_drewN | apply Kd.R_drew)); exact Kd.R_mono HO414.out (fun _ hk => hk.2)), (by (with_reducible repeat (first | apply Kd.R_alloc | apply Kd.R_drewN | apply Kd.R_drew)); exact Kd.R_mono HO_402002.out (fun _ hk => hk.2)), (zk BK401), (zk BK417), GW417.out, GE417.out, NB401_417.out, NB417_401.out, (zB HB)⟩)
                        · skip
                          refine box_step ?hg (N := 13) ?hd (cs := #[.int .i64 0, .int .i64 0, .slice none 0 0]) (t := 67) ?hr ?_; (case hd => rfl); (case hg => rfl); (case hr => first | (go_simp; done) | (go_simp; rfl))
                          intro gb417 hg w57 hbox hb
                          replace HO_402002 := zR HO_402002 hb
                          have BK417 := Aside0.mk (hbox)
                          have GW417 := zg HB hg
                          have GE417 := zg HB hg
                          replace HB := zs HB hb
                          have NB401_417 := zl BK401 hg
                          have NB417_401 := zr BK401 hg
                          replace BK401 := zb BK401 hb
                          clear hb hbox hg
                          refine hK.out _ _ ⟨(blk_cell BK401.out 0).trans rfl, (blk_cell BK401.out 1).trans rfl, (blk_cell BK401.out 2).trans rfl⟩ (fun hHeld => ?_)
                          clear hK K
                          refine norm_ (a' := ?_) ?_ ?_
                          rotate_left
                          · show Act.put _ (some 13) _ = _
                            simp only [Act.put, List.setIfInBounds_toArray, List.set_cons_zero, List.set_cons_succ, i64_w, i32_w]
                            rfl
                          refine one_ (i := 10) (N := some 71) (lb 19 34815) rfl rfl (one_of HT_.out (by kernel_rfl)) (by decide) (fun K hK => ?_)
                          refine goes_ Try.func36 (by kernel_rfl) rfl #[.agg #[.int .i64 x402000_1, .int .i64 x402001_1, .slice Ao55 x402002_1.length co55], .int .i64 (wrap64 (Int.tmod (IntKind.u64.wrap (a2)) (IntKind.u64.wrap (wrap64 ((wrap64 ((wrap64 (1 + (wrap64 (Int.tmod (IntKind.u64.wrap (a0)) 30)))) * (wrap64 (1 + (wrap64 (Int.tmod (IntKind.u64.wrap (a1)) 8)))))) + 5))))), .int .i64 3] (by rfl) rfl rfl (by (try simp only [List.map_toArray, List.map_cons, List.map_nil]); first | done | rfl | (simp only [List.length_drop, List.length_take]; rfl)) ?_
                          with_reducible refine (pile_Put.calls k1 x402000_1 x402001_1 _ _ x402002_1 (wrap64 (Int.tmod (IntKind.u64.wrap (a2)) (IntKind.u64.wrap (wrap64 ((wrap64 ((wrap64 (1 + (wrap64 (Int.tmod (IntKind.u64.wrap (a0)) 30)))) * (wrap64 (1 + (wrap64 (Int.tmod (IntKind.u64.wrap (a1)) 8)))))) + 5))))) 3 t410 t411 t412 false t416 _ ?side1 ?side2 A37.out).mono ?_
                          (case side1 => repeat (first | exact (Kd.R_reads' HO_402002.out).2.2 | (with_reducible refine Kd.C_alloc ?_ _) | (with_reducible refine Kd.C_drewN ?_ _) | (with_reducible refine Kd.C_drew ?_)))
                          (case side2 => exact (Kd.R_reads' HO_402002.out).2.1)
                          rintro e w58 ⟨v413, rfl, ho0, hb⟩
                          refine ⟨_, rfl, ?_⟩
                          have HO414 := Aside0.mk (Kd.R_lower (Kd.R_new' ho0 (Kd.R_lt (zr_ HO_402002))) (below_size (zB HB)))
                          replace HO_402002 := Aside0.mk (Kd.R_elder' (zr_ HO_402002) (Kd.R_base ho0) hb)
                          replace BK401 := zb BK401 hb
                          replace BK417 := zb BK417 hb
                          replace HB := zs HB hb
                          (try clear hb)
                          (try clear hb2)
                          (try clear hk)
                          (try clear hi)
                          (try clear ho0)
                          refine hK.out _ _ ⟨(blk_cell BK401.out 0).trans rfl, (blk_cell BK401.out 1).trans rfl, (blk_cell BK401.out 2).trans rfl⟩ (fun hHeld => ?_)
                          clear hK K
                          refine norm_ (a' := ?_) ?_ ?_
                          rotate_left
                          · show Act.put _ (some 71) _ = _
                            simp only [Act.put, List.setIfInBounds_toArray, List.set_cons_zero, List.set_cons_succ, i64_w, i32_w]
                            rfl
                          refine pu 11 60 (lb 19 36863) rfl rfl (any_of HT_.out (by kernel_rfl)) ?_
                          refine pu 12 72 (lb 19 40959) rfl rfl (any_of HT_.out (by kernel_rfl)) ?_
                          refine pu 13 73 (lb 19 49151) rfl rfl (any_of HT_.out (by kernel_rfl)) ?_
                          refine pu 14 74 (lb 19 65535) rfl rfl (any_of HT_.out (by kernel_rfl)) ?_
                          exact norm_ (by simp only [putAll, Act.put, List.setIfInBounds_toArray, List.set_cons_zero, List.set_cons_succ]) (hCont (v413, gb417) _ ⟨hHeld, (by (with_reducible repeat (first | apply Kd.R_alloc | apply Kd.R_drewN | apply Kd.R_drew)); exact Kd.R_mono HO414.out (fun _ hk => hk.2)), (by (with_reducible repeat (first | apply Kd.R_alloc | apply Kd.R_drewN | apply Kd.R_drew)); exact Kd.R_mono HO_402002.out (fun _ hk => hk.2)), (zk BK401), (zk BK417), GW417.out, GE417.out, NB401_417.out, NB417_401.out, (zB HB)⟩)
                      rintro ⟨v413, gb417⟩ w59 ⟨hS_, h0_, h1_, h2_, h3_, h4_, h5_, h6_, h7_, h8_⟩
                      have n0_ : Aside0 (Kd.R k88 88 w59 w.heap.size (fun k_ => some k_ ≠ (.slice Ao55 x402002_1.length co55 : Value).ownBlock) v413 t412) := ⟨h0_⟩
                      have n1_ : Aside0 (Kd.R k88 88 w59 w.heap.size (fun k_ => some k_ ≠ (v413 : Value).ownBlock) (.slice Ao55 x402002_1.length co55) x402002_1) := ⟨h1_⟩
                      have n2_ : Aside0 (w59.heap[gb401]? = some (.cells #[.int .i64 x402000_1, .int .i64 x402001_1, .slice Ao55 x402002_1.length co55] 67 (0, 0))) := ⟨h2_⟩
                      have n3_ : Aside0 (w59.heap[gb417]? = some (.cells #[.int .i64 0, .int .i64 0, .slice none 0 0] 67 (0, 0))) := ⟨h3_⟩
                      have n4_ : Aside0 (w.heap.size ≤ gb417) := ⟨h4_⟩
                      have n5_ : Aside0 (w.heap.size ≤ gb417) := ⟨h5_⟩
                      have n6_ : Aside0 (gb401 ≠ gb417) := ⟨h6_⟩
                      have n7_ : Aside0 (gb417 ≠ gb401) := ⟨h7_⟩
                      have n8_ : Aside0 (Below w.heap.size w w59) := ⟨h8_⟩
                      clear HO_402002
                      clear BK401
                      clear HB
                      clear h0_ h1_ h2_ h3_ h4_ h5_ h6_ h7_ h8_
                      have HO414 := n0_
                      have HO_402002 := n1_
                      have BK401 := n2_
                      have BK417 := n3_
                      have GW417 := n4_
                      have GE417 := n5_
                      have NB401_417 := n6_
                      have NB417_401 := n7_
                      have HB := n8_
                      clear n0_ n1_ n2_ n3_ n4_ n5_ n6_ n7_ n8_
                      have hHeld : w59.cell? ⟨gb401, 0, none⟩ = some (.int .i64 x402000_1) ∧ w59.cell? ⟨gb401, 1, none⟩ = some (.int .i64 x402001_1) ∧ w59.cell? ⟨gb401, 2, none⟩ = some (.slice Ao55 x402002_1.length co55) := hS_
                      obtain ⟨Ao62, co62, eo62⟩ := Kd.R_slice HO414.out
                      (first | subst eo62 | (injection eo62 with f1_ f2_ f3_; have f4_ := f1_.symm; have f5_ := f3_.symm; clear f1_ f2_ f3_; subst f4_; subst f5_))
                      refine norm_ (a' := ?_) ?_ ?_
                      rotate_left
                      · simp only [putAll, Act.put, List.setIfInBounds_toArray, List.set_cons_zero, List.set_cons_succ]
                        rfl
                      refine one_ (i := 16) (N := none) (lb 19 131071) rfl rfl (one_of HT_.out (by kernel_rfl)) (by decide) (fun K hK => ?_)
                      have hs60 : w59.cell? ⟨gb417, 0, none⟩ = some (.int .i64 0) := (blk_cell BK417.out 0).trans rfl
                      have hfs60 := blk_frozen BK417.out 0
                      have hns60_0 := NB401_417.out
                      have hms60_0 := NB417_401.out
                      have hs61 : w59.cell? ⟨gb417, 1, none⟩ = some (.int .i64 0) := (blk_cell BK417.out 1).trans rfl
                      have hfs61 := blk_frozen BK417.out 1
                      have hns61_0 := NB401_417.out
                      have hms61_0 := NB417_401.out
                      have hs63 : w59.cell? ⟨gb417, 2, none⟩ = some (.slice none 0 0) := (blk_cell BK417.out 2).trans rfl
                      have hfs63 := blk_frozen BK417.out 2
                      have hns63_0 := NB401_417.out
                      have hms63_0 := NB417_401.out
                      refine skip_ (w1 := ?_) (by rfl) rfl ?_ ?_
                      rotate_left
                      · go_simp
                        rfl
                      refine hK.out _ _ ⟨((cell_far (p := ⟨gb417, _, none⟩) NB401_417.out _).trans (((cell_far (p := ⟨gb417, _, none⟩) NB401_417.out _).trans (((cell_far (p := ⟨gb417, _, none⟩) NB401_417.out _).trans (hHeld.1)))))), ((cell_far (p := ⟨gb417, _, none⟩) NB401_417.out _).trans (((cell_far (p := ⟨gb417, _, none⟩) NB401_417.out _).trans (((cell_far (p := ⟨gb417, _, none⟩) NB401_417.out _).trans (hHeld.2.1)))))), ((cell_far (p := ⟨gb417, _, none⟩) NB401_417.out _).trans (((cell_far (p := ⟨gb417, _, none⟩) NB401_417.out _).trans (((cell_far (p := ⟨gb417, _, none⟩) NB401_417.out _).trans (hHeld.2.2))))))⟩ (fun hHeld => ?_)
                      clear hK K
                      refine pu 17 14 (lb 19 262143) rfl rfl (any_of HT_.out (by kernel_rfl)) ?_
                      refine pu 18 8 (lb 19 524287) rfl rfl (any_of HT_.out (by kernel_rfl)) ?_
                      refine done_ (done_of HT_.out (by kernel_rfl)) ?_
                      have hnb64 := NB417_401.out
                      have hnc64 := NB401_417.out
                      obtain ⟨hcz65_0, hcz65_1, hcz65_2⟩ := zC3 BK417
                      obtain ⟨hfz65_0, hfz65_1, hfz65_2⟩ := zF3 BK417
                      obtain ⟨hcz66_0, hcz66_1, hcz66_2⟩ := zC3 BK401
                      obtain ⟨hfz66_0, hfz66_1, hfz66_2⟩ := zF3 BK401
                      try go_wp2_with (first | (go_at_call 37; (with_reducible refine (volutekeep_Pile.calls k1 t410 t411 _ _ t412 x402000_1 x402001_1 _ _ x402002_1 true _ ?side1 ?side2 ?side3 ?side4 A49.out).mono ?_); (case side1 => refine (Kd.R_reads' (e := 88) (base := w.heap.size) (ok := fun k_ => some k_ ≠ (.slice Ao55 x402002_1.length co55 : Value).ownBlock) (n := t412.length) (c := co62) ?_).2.2; exact (by (with_reducible repeat (first | apply Kd.R_alloc | apply Kd.R_drewN | apply Kd.R_drew)); exact (Kd.R_mono (Kd.R_far (p := ⟨gb417, 2, none⟩) (Kd.R_far (p := ⟨gb417, 1, none⟩) (Kd.R_far (p := ⟨gb417, 0, none⟩) (Kd.R_types HO414.out BK417.out (by decide)) (fun _ hk => hk.2) (.int .i64 t410)) (fun _ hk => hk.2) (.int .i64 t411)) (fun _ hk => hk.2) (.slice Ao62 t412.length co62)) (fun _ h_ => h_.1)))); (case side2 => exact (Kd.R_reads' HO414.out).2.1); (case side3 => refine (Kd.R_reads' (e := 88) (base := w.heap.size) (ok := fun k_ => some k_ ≠ (.slice Ao62 t412.length co62 : Value).ownBlock) (n := x402002_1.length) (c := co55) ?_).2.2; exact (by (with_reducible repeat (first | apply Kd.R_alloc | apply Kd.R_drewN | apply Kd.R_drew)); exact (Kd.R_mono (Kd.R_far (p := ⟨gb417, 2, none⟩) (Kd.R_far (p := ⟨gb417, 1, none⟩) (Kd.R_far (p := ⟨gb417, 0, none⟩) (Kd.R_types HO_402002.out BK417.out (by decide)) (fun _ hk => hk.2) (.int .i64 t410)) (fun _ hk => hk.2) (.int .i64 t411)) (fun _ hk => hk.2) (.slice Ao62 t412.length co62)) (fun _ h_ => h_.1)))); (case side4 => exact (Kd.R_reads' HO_402002.out).2.1); rintro e w67 ⟨rfl, hb⟩; have n0_ := Aside0.mk (Kd.R_below (by (with_reducible repeat (first | apply Kd.R_alloc | apply Kd.R_drewN | apply Kd.R_drew)); exact (Kd.R_mono (Kd.R_far (p := ⟨gb417, 2, none⟩) (Kd.R_far (p := ⟨gb417, 1, none⟩) (Kd.R_far (p := ⟨gb417, 0, none⟩) (Kd.R_types HO_402002.out BK417.out (by decide)) (fun _ hk => hk.2) (.int .i64 t410)) (fun _ hk => hk.2) (.int .i64 t411)) (fun _ hk => hk.2) (.slice Ao62 t412.length co62)) (fun _ h_ => h_.1))) hb); have n1_ := Aside0.mk (Kd.R_below (by (with_reducible repeat (first | apply Kd.R_alloc | apply Kd.R_drewN | apply Kd.R_drew)); exact (Kd.R_mono (Kd.R_far (p := ⟨gb417, 2, none⟩) (Kd.R_far (p := ⟨gb417, 1, none⟩) (Kd.R_far (p := ⟨gb417, 0, none⟩) (Kd.R_types HO414.out BK417.out (by decide)) (fun _ hk => hk.2) (.int .i64 t410)) (fun _ hk => hk.2) (.int .i64 t411)) (fun _ hk => hk.2) (.slice Ao62 t412.length co62)) (fun _ h_ => h_.1))) hb); have n2_ := zb BK401 hb; have n3_ := Aside0.mk (blk_below (g := gb417) (o := .cells #[.int .i64 t410, .int .i64 t411, .slice Ao62 t412.length co62] 67 (0, 0)) (by (with_reducible repeat (first | refine blk_drewN ?_ _ | refine blk_drew ?_ | refine blk_alloc ?_ _)); refine blk_put (cs := #[.int .i64 t410, .int .i64 t411, .slice none 0 0]) ?_ 2 _ rfl; (with_reducible repeat (first | refine blk_drewN ?_ _ | refine blk_drew ?_ | refine blk_alloc ?_ _)); refine blk_put (cs := #[.int .i64 t410, .int .i64 0, .slice none 0 0]) ?_ 1 _ rfl; (with_reducible repeat (first | refine blk_drewN ?_ _ | refine blk_drew ?_ | refine blk_alloc ?_ _)); refine blk_put (cs := #[.int .i64 0, .int .i64 0, .slice none 0 0]) ?_ 0 _ rfl; (with_reducible repeat (first | refine blk_drewN ?_ _ | refine blk_drew ?_ | refine blk_alloc ?_ _)); exact BK417.out) hb); have n4_ := zs HB hb; clear HO_402002; clear HO414; clear BK401; clear BK417; clear HB; have HO_402002 := n0_; have HO414 := n1_; have BK401 := n2_; have BK417 := n3_; have HB := n4_; clear n0_ n1_ n2_ n3_ n4_; (try clear hb); (try clear hb2); (try clear hk); (try clear hi); obtain ⟨hcz68_0, hcz68_1, hcz68_2⟩ := zC3 BK401; obtain ⟨hfz68_0, hfz68_1⟩ := zF2 BK401; have hfz68_2 := blk_frozen BK401.out 2) | (go_at_call 39; (with_reducible refine (pile_Check.calls k1 x402000_1 x402001_1 _ _ x402002_1 t419 _ ?side1 ?side2 A52.out).mono ?_); (case side1 => repeat (first | exact (Kd.R_reads' HO_402002.out).2.2 | (with_reducible refine Kd.C_alloc ?_ _) | (with_reducible refine Kd.C_drewN ?_ _) | (with_reducible refine Kd.C_drew ?_))); (case side2 => exact (Kd.R_reads' HO_402002.out).2.1); rintro e w69 ⟨rfl, hb⟩; replace HO_402002 := zR HO_402002 hb; replace HO414 := zR HO414 hb; replace BK401 := zb BK401 hb; replace BK417 := zb BK417 hb; replace HB := zs HB hb; (try clear hb); (try clear hb2); (try clear hk); (try clear hi)) | (go_at_call 38; (with_reducible refine (volutelaw09_wakes.calls k1 _ A54.out).mono ?_); rintro e w70 ⟨rfl, hb⟩; replace HO_402002 := zR HO_402002 hb; replace HO414 := zR HO414 hb; replace BK401 := zb BK401 hb; replace BK417 := zb BK417 hb; replace HB := zs HB hb; (try clear hb); (try clear hb2); (try clear hk); (try clear hi)))
                      go_ret
                      exact ⟨by first | rfl | (simp [errW_none, errW_some] <;> rfl) | (simp [*, errW_none, errW_some] <;> rfl), by repeat (first | (with_reducible first | exact HB.out | apply below_alloc | apply pw_below_drewN | apply below_drew1 | refine below_set ?_ GE401.out | refine below_set ?_ GE417.out) | exact HB.out)⟩
                    · rw [if_neg c53] at H
                      have c53b0 : (t419 == 0) = false := beq_eq_false_iff_ne.mpr c53
                      have c53b1 : (t419 != 0) = true := bne_iff_ne.mpr c53
                      exact absurd (Option.some.inj H) (by decide)
                  · rw [if_neg c51] at H
                    have c51b0 : ((x402002_1.length : Int) == (wrap64 ((wrap64 (1 + (wrap64 (Int.tmod (IntKind.u64.wrap (a0)) 30)))) * (wrap64 (1 + (wrap64 (Int.tmod (IntKind.u64.wrap (a1)) 8))))))) = false := beq_eq_false_iff_ne.mpr c51
                    have c51b1 : ((x402002_1.length : Int) != (wrap64 ((wrap64 (1 + (wrap64 (Int.tmod (IntKind.u64.wrap (a0)) 30)))) * (wrap64 (1 + (wrap64 (Int.tmod (IntKind.u64.wrap (a1)) 8))))))) = true := bne_iff_ne.mpr c51
                    exact absurd (Option.some.inj H) (by decide)
                · replace c50 := Bool.eq_false_iff.mpr c50
                  subst c50
                  have H1 : (some false) = some true := by rw [if_neg (show ¬ (false = true) by decide)] at H; exact H
                  clear H
                  have H := H1
                  clear H1
                  exact absurd (Option.some.inj H) (by decide)
            · rw [if_neg c38] at H
              have c38b0 : (t416 == 0) = false := beq_eq_false_iff_ne.mpr c38
              have c38b1 : (t416 != 0) = true := bne_iff_ne.mpr c38
              exact absurd (Option.some.inj H) (by decide)
  · rw [if_neg c5] at H
    have c5b0 : (t400 == 0) = false := beq_eq_false_iff_ne.mpr c5
    have c5b1 : (t400 != 0) = true := bne_iff_ne.mpr c5
    exact absurd (Option.some.inj H) (by decide)
def volutelaw09_PileFull.Pure : Prop := ∀ (a0 : Int) (a1 : Int) (a2 : Int), (Lit.int .i64 a0).wf = true → (Lit.int .i64 a1).wf = true → (Lit.int .i64 a2).wf = true → ∃ k, volutelaw09_PileFull.f k a0 a1 a2 = some true
theorem volutelaw09_PileFull.walk (P : volutelaw09_PileFull.Pure) (a0 : Int) (a1 : Int) (a2 : Int) (w : World) (w0 : (Lit.int .i64 a0).wf = true) (w1 : (Lit.int .i64 a1).wf = true) (w2 : (Lit.int .i64 a2).wf = true) :
    Calls Try.prog 10 #[.int .i64 a0, .int .i64 a1, .int .i64 a2] w fun e w' => e = .returned (.bool true) ∧ Below w.heap.size w w' := by
  obtain ⟨k, h⟩ := P a0 a1 a2 w0 w1 w2
  refine (volutelaw09_PileFull.calls k a0 a1 a2 w h).mono ?_
  rintro e w' ⟨rfl, hd⟩
  exact ⟨rfl, hd⟩
end Go.Proofs.Ytfhihhfckpolpaa.P
