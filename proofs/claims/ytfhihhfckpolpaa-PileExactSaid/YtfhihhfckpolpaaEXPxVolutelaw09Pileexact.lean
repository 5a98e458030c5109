/- What the law's proof needs: PxVolutelaw09Pileexact. -/
import Derived.Test.YtfhihhfckpolpaaEXPx0
import Derived.Test.YtfhihhfckpolpaaEXPxVolutekeep
import Derived.Test.YtfhihhfckpolpaaEXPxPile
import Derived.Test.YtfhihhfckpolpaaEXPxVolutelaw09
import Derived.Test.YtfhihhfckpolpaaEXPxVoluteref04
import Derived.Test.YtfhihhfckpolpaaEXPxVoluteref04Pile
import Derived.Test.YtfhihhfckpolpaaEXShort
namespace Go.Proofs.Ytfhihhfckpolpaa.P
open Go.RowKit Go.Proofs.YtfhihhfckpolpaaW.PrintWords Go.Proofs.YtfhihhfckpolpaaW.PrintLast Go.Proofs.YtfhihhfckpolpaaW.PrintMore
attribute [local go_sem] max2_int min2_int max_two min_two max_three min_three max_four min_four   -- for this text's walks alone
set_option linter.unusedVariables false
set_option linter.unusedSimpArgs false
mutual
def volutelaw09_PileExact.j0 : Nat → Int → Int → Int → Bool → Bool → Int → Int → List (S88) → Int → Int → List (S88) → Option (Bool)
  | 0, _, _, _, _, _, _, _, _, _, _, _ => none
  | k + 1, x1, x2, x3, x10, x41, x630000, x630001, x630002, x636000, x636001, x636002 => if x41 = true then (some false) else ((pile_New.f x630000 x630001).bind fun bt639 => ((voluteref04_N.f x630000).bind fun t646 => (if t646 = true then (if x630001 ≥ 1 then (volutelaw09_PileExact.j1 k x1 x2 x3 x10 bt639.2.2.2 (decide (x630001 ≤ 16)) x630000 x630001 x630002 x636000 x636001 x636002 bt639.1 bt639.2.1 bt639.2.2.1) else (volutelaw09_PileExact.j1 k x1 x2 x3 x10 bt639.2.2.2 false x630000 x630001 x630002 x636000 x636001 x636002 bt639.1 bt639.2.1 bt639.2.2.1)) else (volutelaw09_PileExact.j1 k x1 x2 x3 x10 bt639.2.2.2 false x630000 x630001 x630002 x636000 x636001 x636002 bt639.1 bt639.2.1 bt639.2.2.1))))
def volutelaw09_PileExact.j1 : Nat → Int → Int → Int → Bool → Int → Bool → Int → Int → List (S88) → Int → Int → List (S88) → Int → Int → List (S88) → Option (Bool)
  | 0, _, _, _, _, _, _, _, _, _, _, _, _, _, _, _ => none
  | k + 1, x1, x2, x3, x10, x12, x62, x630000, x630001, x630002, x636000, x636001, x636002, x646000, x646001, x646002 => if x62 = true then (if x12 = 0 then ((volutekeep_Pile.f k x646000 x646001 x646002 x630000 x630001 ([] : List (S88))).bind fun t647 => (if t647 = true then (volutelaw09_PileExact.j2 k x1 x2 x3 x10 x630000 x630001 x630002 x636000 x636001 x636002) else (some false))) else (some false)) else (if x12 = 1 then ((volutekeep_Pile.f k x646000 x646001 x646002 0 0 ([] : List (S88))).bind fun t648 => (if t648 = true then (volutelaw09_PileExact.j2 k x1 x2 x3 x10 x630000 x630001 x630002 x636000 x636001 x636002) else (some false))) else (some false))
def volutelaw09_PileExact.j2 : Nat → Int → Int → Int → Bool → Int → Int → List (S88) → Int → Int → List (S88) → Option (Bool)
  | 0, _, _, _, _, _, _, _, _, _, _ => none
  | k + 1, x1, x2, x3, x10, x630000, x630001, x630002, x636000, x636001, x636002 => (pile_Put.f k x636000 x636001 x636002 x1 x2).bind fun bt649 => ((pile_Of.f k x636000 x636001 x636002 x3).bind fun bt657 => ((volutekeep_Pile.f k x636000 x636001 x636002 x630000 x630001 x630002).bind fun t661 => (if t661 = true then (if x10 = true then ((voluteref04_Put.f k x630000 x630001 x630002 x1 x2).bind fun bt664 => (if bt649.2.2.2.2 = bt664.2.2.2.2 then (if (bt649.2.2.2.1 != bt664.2.2.2.1) = true then (volutelaw09_PileExact.j3 k x3 bt657.1 bt657.2 true x630000 x630001 x630002 x636000 x636001 x636002 bt649.1 bt649.2.1 bt649.2.2.1) else ((volutekeep_Pile.f k bt649.1 bt649.2.1 bt649.2.2.1 bt664.1 bt664.2.1 bt664.2.2.1).bind fun t672 => (volutelaw09_PileExact.j3 k x3 bt657.1 bt657.2 (!t672) x630000 x630001 x630002 x636000 x636001 x636002 bt649.1 bt649.2.1 bt649.2.2.1))) else (volutelaw09_PileExact.j3 k x3 bt657.1 bt657.2 true x630000 x630001 x630002 x636000 x636001 x636002 bt649.1 bt649.2.1 bt649.2.2.1))) else (if bt649.2.2.2.2 = 1 then (if bt657.2 = 1 then (if bt649.2.2.2.1 = true then (some false) else (if (bt657.1.length : Int) = 0 then ((volutekeep_Pile.f k bt649.1 bt649.2.1 bt649.2.2.1 0 0 ([] : List (S88))).bind fun t662 => (if t662 = true then ((volutelaw09_wakes.f k).bind fun t663 => (some t663)) else (some false))) else (some false))) else (some false)) else (some false))) else (some false))))
def volutelaw09_PileExact.j3 : Nat → Int → List (S88) → Int → Bool → Int → Int → List (S88) → Int → Int → List (S88) → Int → Int → List (S88) → Option (Bool)
  | 0, _, _, _, _, _, _, _, _, _, _, _, _, _ => none
  | k + 1, x3, x15, x16, x147, x630000, x630001, x630002, x636000, x636001, x636002, x657000, x657001, x657002 => if x147 = true then (some false) else ((volutekeep_SpoilSyms.f k x657002).bind fun t673 => (if x3 < 0 then (volutelaw09_PileExact.j4 k x3 x15 x16 true x630000 x630001 x630002 x636000 x636001 x636002) else (volutelaw09_PileExact.j4 k x3 x15 x16 (decide (x3 ≥ x630000)) x630000 x630001 x630002 x636000 x636001 x636002)))
def volutelaw09_PileExact.j4 : Nat → Int → List (S88) → Int → Bool → Int → Int → List (S88) → Int → Int → List (S88) → Option (Bool)
  | 0, _, _, _, _, _, _, _, _, _, _ => none
  | k + 1, x3, x15, x16, x158, x630000, x630001, x630002, x636000, x636001, x636002 => if x158 = true then (if x16 = 1 then (if (x15.length : Int) = 0 then ((volutelaw09_wakes.f k).bind fun t674 => (some t674)) else (some false)) else (some false)) else (if x16 = 0 then ((voluteref04_Of.f k x630000 x630001 x630002 x3).bind fun t675 => ((volutekeep_Syms.f k x15 t675).bind fun t678 => (volutelaw09_PileExact.j5 k x15 (!t678) x630000 x630001 x630002 x636000 x636001 x636002))) else (volutelaw09_PileExact.j5 k x15 true x630000 x630001 x630002 x636000 x636001 x636002))
def volutelaw09_PileExact.j5 : Nat → List (S88) → Bool → Int → Int → List (S88) → Int → Int → List (S88) → Option (Bool)
  | 0, _, _, _, _, _, _, _, _ => none
  | k + 1, x15, x178, x630000, x630001, x630002, x636000, x636001, x636002 => if x178 = true then (some false) else ((volutekeep_SpoilSyms.f k x15).bind fun t679 => ((volutekeep_Pile.f k x636000 x636001 x636002 x630000 x630001 x630002).bind fun t680 => (if t680 = true then ((volutelaw09_wakes.f k).bind fun t681 => (some t681)) else (some false))))
end
def volutelaw09_PileExact.f (k : Nat) (a0_0 : Int) (a0_1 : Int) (l0_2 : List (S88)) (a1 : Int) (a2 : Int) (a3 : Int) : Option (Bool) := if (l0_2.length : Int) > 2000 then (some true) else ((volutekeep_TwinPile.f a0_0 a0_1 l0_2).bind fun bt630 => ((voluteref04_Pile.f k a0_0 a0_1 l0_2).bind fun t636 => ((pile_Check.f k bt630.1 bt630.2.1 bt630.2.2).bind fun t637 => (if ((t637 == 0) != t636) = true then (volutelaw09_PileExact.j0 k a1 a2 a3 t636 true a0_0 a0_1 l0_2 bt630.1 bt630.2.1 bt630.2.2) else (if t636 = true then (volutelaw09_PileExact.j0 k a1 a2 a3 t636 false a0_0 a0_1 l0_2 bt630.1 bt630.2.1 bt630.2.2) else ((pile_Check.f k bt630.1 bt630.2.1 bt630.2.2).bind fun t638 => (volutelaw09_PileExact.j0 k a1 a2 a3 t636 (t638 != 1) a0_0 a0_1 l0_2 bt630.1 bt630.2.1 bt630.2.2)))))))
set_option maxHeartbeats 8000000 in
set_option maxRecDepth 100000 in
theorem volutelaw09_PileExact.calls (k : Nat) (a0_0 : Int) (a0_1 : Int) (A0_2 : Option Addr) (c0_2 : Nat) (l0_2 : List (S88)) (a1 : Int) (a2 : Int) (a3 : Int) (w : World) (hr0_2 : Kd.C k88 w A0_2 l0_2.length l0_2) (hc0_2 : l0_2.length ≤ c0_2) (h : volutelaw09_PileExact.f k a0_0 a0_1 l0_2 a1 a2 a3 = some true) :
    Calls Try.prog 11 #[.agg #[.int .i64 a0_0, .int .i64 a0_1, .slice A0_2 l0_2.length c0_2], .int .i64 a1, .int .i64 a2, .int .i64 a3] w fun e w' => e = .returned (.bool true) ∧ Below w.heap.size w w' := by
  have hu67 := Try.underlying67
  have HR0_2 := Aside0.mk hr0_2
  have HC0_2 := Aside0.mk hc0_2
  clear hr0_2 hc0_2
  have HB := Aside0.mk (Below.refl w.heap.size w)
  have H : (if (l0_2.length : Int) > 2000 then (some true) else ((volutekeep_TwinPile.f a0_0 a0_1 l0_2).bind fun bt630 => ((voluteref04_Pile.f k a0_0 a0_1 l0_2).bind fun t636 => ((pile_Check.f k bt630.1 bt630.2.1 bt630.2.2).bind fun t637 => (if ((t637 == 0) != t636) = true then (volutelaw09_PileExact.j0 k a1 a2 a3 t636 true a0_0 a0_1 l0_2 bt630.1 bt630.2.1 bt630.2.2) else (if t636 = true then (volutelaw09_PileExact.j0 k a1 a2 a3 t636 false a0_0 a0_1 l0_2 bt630.1 bt630.2.1 bt630.2.2) else ((pile_Check.f k bt630.1 bt630.2.1 bt630.2.2).bind fun t638 => (volutelaw09_PileExact.j0 k a1 a2 a3 t636 (t638 != 1) a0_0 a0_1 l0_2 bt630.1 bt630.2.1 bt630.2.2)))))))) = some true := h
  clear h
  by_cases c5 : (l0_2.length : Int) > 2000
  · rw [if_pos c5] at H
    have c5b0 : decide (2000 < (l0_2.length : Int)) = true := decide_eq_true c5
    have c5b1 : decide (2000 < l0_2.length) = true := decide_eq_true (by omega)
    clear c5
    clear H
    as_aux_lemma =>
     go_enter Try.func11, Try.ntmps11
     go_wp2_with (first | ((with_reducible refine gate_dst (N := 4) rfl ?_); (try (refine gate_guard (by rfl) ?_; dsimp only)); refine box_event ?hg (N := 4) ?hd (cs := #[.int .i64 a0_0, .int .i64 a0_1, .slice A0_2 l0_2.length c0_2]) (t := 67) ?hr ?_; (case hd => rfl); (case hg => rfl); (case hr => first | (go_simp; done) | (go_simp; rfl)); intro gb629 hg w6 hbox hb; have BK629 := Aside0.mk (hbox); have GW629 := zg HB hg; have GE629 := zg HB hg; replace HB := zs HB hb; clear hb hbox hg; obtain ⟨hcz7_0, hcz7_1, hcz7_2⟩ := zC3 BK629; obtain ⟨hfz7_0, hfz7_1⟩ := zF2 BK629; have hfz7_2 := blk_frozen BK629.out 2))
     go_ret
     exact ⟨by first | rfl | (simp [errW_none, errW_some] <;> rfl) | (simp [*, errW_none, errW_some] <;> rfl), by repeat (first | (with_reducible first | exact HB.out | apply below_alloc | apply pw_below_drewN | apply below_drew1 | refine below_set ?_ GE629.out) | exact HB.out)⟩
  · rw [if_neg c5] at H
    have c5b0 : decide (2000 < (l0_2.length : Int)) = false := decide_eq_false c5
    have c5b1 : decide (2000 < l0_2.length) = false := decide_eq_false (by omega)
    clear c5
    replace H := Option.bind_eq_some_iff.mp H
    obtain ⟨⟨t630, t631, t632⟩, A80, H⟩ := H
    replace H : ((voluteref04_Pile.f k a0_0 a0_1 l0_2).bind fun t636 => ((pile_Check.f k t630 t631 t632).bind fun t637 => (if ((t637 == 0) != t636) = true then (volutelaw09_PileExact.j0 k a1 a2 a3 t636 true a0_0 a0_1 l0_2 t630 t631 t632) else (if t636 = true then (volutelaw09_PileExact.j0 k a1 a2 a3 t636 false a0_0 a0_1 l0_2 t630 t631 t632) else ((pile_Check.f k t630 t631 t632).bind fun t638 => (volutelaw09_PileExact.j0 k a1 a2 a3 t636 (t638 != 1) a0_0 a0_1 l0_2 t630 t631 t632)))))) = some true := H
    have A8 := Aside0.mk A80
    clear A80
    replace H := Option.bind_eq_some_iff.mp H
    obtain ⟨t636, A90, H⟩ := H
    replace H : ((pile_Check.f k t630 t631 t632).bind fun t637 => (if ((t637 == 0) != t636) = true then (volutelaw09_PileExact.j0 k a1 a2 a3 t636 true a0_0 a0_1 l0_2 t630 t631 t632) else (if t636 = true then (volutelaw09_PileExact.j0 k a1 a2 a3 t636 false a0_0 a0_1 l0_2 t630 t631 t632) else ((pile_Check.f k t630 t631 t632).bind fun t638 => (volutelaw09_PileExact.j0 k a1 a2 a3 t636 (t638 != 1) a0_0 a0_1 l0_2 t630 t631 t632))))) = some true := H
    have A9 := Aside0.mk A90
    clear A90
    have HC10 := Aside0.mk H
    clear H
    as_aux_lemma =>
     go_enter Try.func11, Try.ntmps11
     go_upto_region 5 with (first | ((with_reducible refine gate_dst (N := 4) rfl ?_); (try (refine gate_guard (by rfl) ?_; dsimp only)); refine box_event ?hg (N := 4) ?hd (cs := #[.int .i64 a0_0, .int .i64 a0_1, .slice A0_2 l0_2.length c0_2]) (t := 67) ?hr ?_; (case hd => rfl); (case hg => rfl); (case hr => first | (go_simp; done) | (go_simp; rfl)); intro gb629 hg w11 hbox hb; have BK629 := Aside0.mk (hbox); have GW629 := zg HB hg; have GE629 := zg HB hg; replace HB := zs HB hb; clear hb hbox hg; obtain ⟨hcz12_0, hcz12_1, hcz12_2⟩ := zC3 BK629; obtain ⟨hfz12_0, hfz12_1⟩ := zF2 BK629; have hfz12_2 := blk_frozen BK629.out 2) | ((with_reducible refine gate_callee (f := 40) rfl ?_); refine goesL_ (some 25) rfl rfl Try.func40 (by kernel_rfl) rfl #[.agg #[.int .i64 a0_0, .int .i64 a0_1, .slice A0_2 l0_2.length c0_2]] rfl (by (try simp only [List.map_toArray, List.map_cons, List.map_nil]); first | done | rfl | (simp only [List.length_drop, List.length_take]; rfl)) ?_; (with_reducible refine (volutekeep_TwinPile.calls a0_0 a0_1 _ _ l0_2 t630 t631 t632 _ ?side1 ?side2 A8.out).mono ?_); (case side1 => repeat (first | exact (Kd.C_below HR0_2.out HB.out) | (with_reducible refine Kd.C_alloc ?_ _) | (with_reducible refine Kd.C_drewN ?_ _) | (with_reducible refine Kd.C_drew ?_))); (case side2 => exact HC0_2.out); rintro e w13 ⟨v633, rfl, ho0, hb⟩; refine ⟨_, rfl, ?_⟩; have HO634 := Aside0.mk (Kd.R_lower ho0 (below_size (zB HB))); replace BK629 := zb BK629 hb; replace HB := zs HB hb; (try clear hb); (try clear hb2); (try clear hk); (try clear hi); (try clear ho0)) | ((with_reducible refine gate_dst (N := 9) rfl ?_); (try (refine gate_guard (by rfl) ?_; dsimp only)); refine box_event ?hg (N := 9) ?hd (cs := #[.int .i64 0, .int .i64 0, .slice none 0 0]) (t := 67) ?hr ?_; (case hd => rfl); (case hg => rfl); (case hr => first | (go_simp; done) | (go_simp; rfl)); intro gb635 hg w14 hbox hb; replace HO634 := zR HO634 hb; have BK635 := Aside0.mk (hbox); have GW635 := zg HB hg; have GE635 := zg HB hg; replace HB := zs HB hb; have NB629_635 := zl BK629 hg; have NB635_629 := zr BK629 hg; replace BK629 := zb BK629 hb; clear hb hbox hg; have hnb15 := NB635_629.out; have hnc15 := NB629_635.out; obtain ⟨hcz16_0, hcz16_1, hcz16_2⟩ := zC3 BK635; obtain ⟨hfz16_0, hfz16_1, hfz16_2⟩ := zF3 BK635; obtain ⟨Ao17, co17, eo17⟩ := Kd.R_slice HO634.out; subst eo17; obtain ⟨hcz18_0, hcz18_1, hcz18_2⟩ := zC3 BK629; obtain ⟨hfz18_0, hfz18_1⟩ := zF2 BK629; have hfz18_2 := blk_frozen BK629.out 2) | ((with_reducible refine gate_callee (f := 41) rfl ?_); refine goesL_ (some 27) rfl rfl Try.func41 (by kernel_rfl) rfl #[.agg #[.int .i64 a0_0, .int .i64 a0_1, .slice A0_2 l0_2.length c0_2]] rfl (by (try simp only [List.map_toArray, List.map_cons, List.map_nil]); first | done | rfl | (simp only [List.length_drop, List.length_take]; rfl)) ?_; (with_reducible refine (voluteref04_Pile.calls k a0_0 a0_1 _ _ l0_2 t636 _ ?side1 ?side2 A9.out).mono ?_); (case side1 => exact Kd.C_below HR0_2.out (zB HB)); (case side2 => exact HC0_2.out); rintro e w19 ⟨rfl, hb⟩; refine ⟨_, rfl, ?_⟩; have n0_ := Aside0.mk (Kd.R_below (by (with_reducible repeat (first | apply Kd.R_alloc | apply Kd.R_drewN | apply Kd.R_drew)); exact (Kd.R_mono (Kd.R_far (p := ⟨gb635, 2, none⟩) (Kd.R_far (p := ⟨gb635, 1, none⟩) (Kd.R_far (p := ⟨gb635, 0, none⟩) (Kd.R_types HO634.out BK635.out (by decide)) (fun _ hk => hk.2) (.int .i64 t630)) (fun _ hk => hk.2) (.int .i64 t631)) (fun _ hk => hk.2) (.slice Ao17 t632.length co17)) (fun _ h_ => h_.1))) hb); have n1_ := zb BK629 hb; have n2_ := Aside0.mk (blk_below (g := gb635) (o := .cells #[.int .i64 t630, .int .i64 t631, .slice Ao17 t632.length co17] 67 (0, 0)) (by (with_reducible repeat (first | refine blk_drewN ?_ _ | refine blk_drew ?_ | refine blk_alloc ?_ _)); refine blk_put (cs := #[.int .i64 t630, .int .i64 t631, .slice none 0 0]) ?_ 2 _ rfl; (with_reducible repeat (first | refine blk_drewN ?_ _ | refine blk_drew ?_ | refine blk_alloc ?_ _)); refine blk_put (cs := #[.int .i64 t630, .int .i64 0, .slice none 0 0]) ?_ 1 _ rfl; (with_reducible repeat (first | refine blk_drewN ?_ _ | refine blk_drew ?_ | refine blk_alloc ?_ _)); refine blk_put (cs := #[.int .i64 0, .int .i64 0, .slice none 0 0]) ?_ 0 _ rfl; (with_reducible repeat (first | refine blk_drewN ?_ _ | refine blk_drew ?_ | refine blk_alloc ?_ _)); exact BK635.out) hb); have n3_ := zs HB hb; clear HO634; clear BK629; clear BK635; clear HB; have HO634 := n0_; have BK629 := n1_; have BK635 := n2_; have HB := n3_; clear n0_ n1_ n2_ n3_; (try clear hb); (try clear hb2); (try clear hk); (try clear hi)))
     (try simp only [Act.put, List.setIfInBounds_toArray, List.set_cons_zero, List.set_cons_succ])
     go_cut [41] (fun v41 wc => ∃ (kq : Nat) (x41_9 : Bool), v41 = .bool x41_9 ∧ Aside0 (volutelaw09_PileExact.j0 kq a1 a2 a3 t636 x41_9 a0_0 a0_1 l0_2 t630 t631 t632 = some true) ∧ Aside0 (kq ≤ k) ∧ Aside0 (Kd.R k88 88 wc w.heap.size (fun _ => True) (.slice Ao17 t632.length co17) t632) ∧ Aside0 (wc.heap[gb629]? = some (.cells #[.int .i64 a0_0, .int .i64 a0_1, (.slice A0_2 l0_2.length c0_2)] 67 (0, 0))) ∧ Aside0 (wc.heap[gb635]? = some (.cells #[.int .i64 t630, .int .i64 t631, (.slice Ao17 t632.length co17)] 67 (0, 0))) ∧ Aside0 (Below w.heap.size w wc))
     case first =>
       have H := HC10.out
       clear HC10
       replace H := Option.bind_eq_some_iff.mp H
       obtain ⟨t637, A200, H⟩ := H
       replace H : (if ((t637 == 0) != t636) = true then (volutelaw09_PileExact.j0 k a1 a2 a3 t636 true a0_0 a0_1 l0_2 t630 t631 t632) else (if t636 = true then (volutelaw09_PileExact.j0 k a1 a2 a3 t636 false a0_0 a0_1 l0_2 t630 t631 t632) else ((pile_Check.f k t630 t631 t632).bind fun t638 => (volutelaw09_PileExact.j0 k a1 a2 a3 t636 (t638 != 1) a0_0 a0_1 l0_2 t630 t631 t632)))) = some true := H
       have A20 := Aside0.mk A200
       clear A200
       by_cases c21 : ((t637 == 0) != t636) = true
       · rw [if_pos c21] at H
         have c21b0 : ((t637 == 0) != t636) = true := c21
         (try (have c21b1 : decide ((t637 == 0) = t636) = false := by simpa using c21))
         (try (have c21b2 : ((t637 == 0) == t636) = false := by simpa using c21))
         (try (have c21b3 : ¬ ((t637 == 0) = t636) := by simpa using c21))
         clear c21
         (first | rw [c21b0] | (simp only [i64_w, i32_w]; rw [c21b0]) | skip)
         have H' := Aside0.mk H
         clear H
         have hnb22 := NB635_629.out
         have hnc22 := NB629_635.out
         obtain ⟨hcz23_0, hcz23_1, hcz23_2⟩ := zC3 BK635
         obtain ⟨hfz23_0, hfz23_1, hfz23_2⟩ := zF3 BK635
         go_wp2_with (first | ((with_reducible refine gate_callee (f := 39) rfl ?_); refine goesL_ (some 29) rfl rfl Try.func39 (by kernel_rfl) rfl #[.agg #[.int .i64 t630, .int .i64 t631, .slice Ao17 t632.length co17]] rfl (by (try simp only [List.map_toArray, List.map_cons, List.map_nil]); first | done | rfl | (simp only [List.length_drop, List.length_take]; rfl)) ?_; (with_reducible refine (pile_Check.calls k t630 t631 _ _ t632 t637 _ ?side1 ?side2 A20.out).mono ?_); (case side1 => repeat (first | exact (Kd.R_reads' HO634.out).2.2 | (with_reducible refine Kd.C_alloc ?_ _) | (with_reducible refine Kd.C_drewN ?_ _) | (with_reducible refine Kd.C_drew ?_))); (case side2 => exact (Kd.R_reads' HO634.out).2.1); rintro e w24 ⟨rfl, hb⟩; refine ⟨_, rfl, ?_⟩; replace HO634 := zR HO634 hb; replace BK629 := zb BK629 hb; replace BK635 := zb BK635 hb; replace HB := zs HB hb; (try clear hb); (try clear hb2); (try clear hk); (try clear hi)))
         go_meet
         case rel => exact ⟨_, (true), (by first | rfl | (simp; done) | (simp [*]; done)), H', ⟨by first | omega | exact Nat.le_refl _⟩, ⟨by (with_reducible repeat (first | apply Kd.R_alloc | apply Kd.R_drewN | apply Kd.R_drew)); exact HO634.out⟩, ⟨by (with_reducible repeat (first | refine blk_drewN ?_ _ | refine blk_drew ?_ | refine blk_alloc ?_ _)); exact BK629.out⟩, ⟨by (with_reducible repeat (first | refine blk_drewN ?_ _ | refine blk_drew ?_ | refine blk_alloc ?_ _)); exact BK635.out⟩, ⟨by repeat (first | (with_reducible first | exact HB.out | apply below_alloc | apply pw_below_drewN | apply below_drew1 | refine below_set ?_ GE629.out | refine below_set ?_ GE635.out) | exact HB.out)⟩⟩
       · rw [if_neg c21] at H
         have c21b0 : ((t637 == 0) != t636) = false := by simpa using c21
         (try (have c21b1 : decide ((t637 == 0) = t636) = true := by simpa using c21))
         (try (have c21b2 : ((t637 == 0) == t636) = true := by simpa using c21))
         clear c21
         (first | rw [c21b0] | (simp only [i64_w, i32_w]; rw [c21b0]) | skip)
         by_cases c25 : t636 = true
         · subst c25
           have H1 : (volutelaw09_PileExact.j0 k a1 a2 a3 true false a0_0 a0_1 l0_2 t630 t631 t632) = some true := by rw [if_pos rfl] at H; exact H
           clear H
           have H := H1
           clear H1
           have H' := Aside0.mk H
           clear H
           have hnb26 := NB635_629.out
           have hnc26 := NB629_635.out
           obtain ⟨hcz27_0, hcz27_1, hcz27_2⟩ := zC3 BK635
           obtain ⟨hfz27_0, hfz27_1, hfz27_2⟩ := zF3 BK635
           go_wp2_with (first | ((with_reducible refine gate_callee (f := 39) rfl ?_); refine goesL_ (some 29) rfl rfl Try.func39 (by kernel_rfl) rfl #[.agg #[.int .i64 t630, .int .i64 t631, .slice Ao17 t632.length co17]] rfl (by (try simp only [List.map_toArray, List.map_cons, List.map_nil]); first | done | rfl | (simp only [List.length_drop, List.length_take]; rfl)) ?_; (with_reducible refine (pile_Check.calls k t630 t631 _ _ t632 t637 _ ?side1 ?side2 A20.out).mono ?_); (case side1 => repeat (first | exact (Kd.R_reads' HO634.out).2.2 | (with_reducible refine Kd.C_alloc ?_ _) | (with_reducible refine Kd.C_drewN ?_ _) | (with_reducible refine Kd.C_drew ?_))); (case side2 => exact (Kd.R_reads' HO634.out).2.1); rintro e w28 ⟨rfl, hb⟩; refine ⟨_, rfl, ?_⟩; replace HO634 := zR HO634 hb; replace BK629 := zb BK629 hb; replace BK635 := zb BK635 hb; replace HB := zs HB hb; (try clear hb); (try clear hb2); (try clear hk); (try clear hi)))
           go_meet
           case rel => exact ⟨_, (false), (by first | rfl | (simp; done) | (simp [*]; done)), H', ⟨by first | omega | exact Nat.le_refl _⟩, ⟨by (with_reducible repeat (first | apply Kd.R_alloc | apply Kd.R_drewN | apply Kd.R_drew)); exact HO634.out⟩, ⟨by (with_reducible repeat (first | refine blk_drewN ?_ _ | refine blk_drew ?_ | refine blk_alloc ?_ _)); exact BK629.out⟩, ⟨by (with_reducible repeat (first | refine blk_drewN ?_ _ | refine blk_drew ?_ | refine blk_alloc ?_ _)); exact BK635.out⟩, ⟨by repeat (first | (with_reducible first | exact HB.out | apply below_alloc | apply pw_below_drewN | apply below_drew1 | refine below_set ?_ GE629.out | refine below_set ?_ GE635.out) | exact HB.out)⟩⟩
         · replace c25 := Bool.eq_false_iff.mpr c25
           subst c25
           have H1 : ((pile_Check.f k t630 t631 t632).bind fun t638 => (volutelaw09_PileExact.j0 k a1 a2 a3 false (t638 != 1) a0_0 a0_1 l0_2 t630 t631 t632)) = some true := by rw [if_neg (show ¬ (false = true) by decide)] at H; exact H
           clear H
           have H := H1
           clear H1
           replace H := Option.bind_eq_some_iff.mp H
           obtain ⟨t638, A290, H⟩ := H
           replace H : (volutelaw09_PileExact.j0 k a1 a2 a3 false (t638 != 1) a0_0 a0_1 l0_2 t630 t631 t632) = some true := H
           have A29 := Aside0.mk A290
           clear A290
           have H' := Aside0.mk H
           clear H
           have hnb30 := NB635_629.out
           have hnc30 := NB629_635.out
           obtain ⟨hcz31_0, hcz31_1, hcz31_2⟩ := zC3 BK635
           obtain ⟨hfz31_0, hfz31_1, hfz31_2⟩ := zF3 BK635
           go_wp2_with (first | ((with_reducible refine gate_callee (f := 39) rfl ?_); refine goesL_ (some 29) rfl rfl Try.func39 (by kernel_rfl) rfl #[.agg #[.int .i64 t630, .int .i64 t631, .slice Ao17 t632.length co17]] rfl (by (try simp only [List.map_toArray, List.map_cons, List.map_nil]); first | done | rfl | (simp only [List.length_drop, List.length_take]; rfl)) ?_; (with_reducible refine (pile_Check.calls k t630 t631 _ _ t632 t637 _ ?side1 ?side2 A20.out).mono ?_); (case side1 => repeat (first | exact (Kd.R_reads' HO634.out).2.2 | (with_reducible refine Kd.C_alloc ?_ _) | (with_reducible refine Kd.C_drewN ?_ _) | (with_reducible refine Kd.C_drew ?_))); (case side2 => exact (Kd.R_reads' HO634.out).2.1); rintro e w32 ⟨rfl, hb⟩; refine ⟨_, rfl, ?_⟩; replace HO634 := zR HO634 hb; replace BK629 := zb BK629 hb; replace BK635 := zb BK635 hb; replace HB := zs HB hb; (try clear hb); (try clear hb2); (try clear hk); (try clear hi); obtain ⟨hcz33_0, hcz33_1, hcz33_2⟩ := zC3 BK635; obtain ⟨hfz33_0, hfz33_1⟩ := zF2 BK635; have hfz33_2 := blk_frozen BK635.out 2) | (go_at_call 39; (with_reducible refine (pile_Check.calls k t630 t631 _ _ t632 t638 _ ?side1 ?side2 A29.out).mono ?_); (case side1 => repeat (first | exact (Kd.R_reads' HO634.out).2.2 | (with_reducible refine Kd.C_alloc ?_ _) | (with_reducible refine Kd.C_drewN ?_ _) | (with_reducible refine Kd.C_drew ?_))); (case side2 => exact (Kd.R_reads' HO634.out).2.1); rintro e w34 ⟨rfl, hb⟩; replace HO634 := zR HO634 hb; replace BK629 := zb BK629 hb; replace BK635 := zb BK635 hb; replace HB := zs HB hb; (try clear hb); (try clear hb2); (try clear hk); (try clear hi)))
           go_meet
           case rel => exact ⟨_, ((t638 != 1)), (by first | rfl | (simp; done) | (simp [*]; done)), H', ⟨by first | omega | exact Nat.le_refl _⟩, ⟨by (with_reducible repeat (first | apply Kd.R_alloc | apply Kd.R_drewN | apply Kd.R_drew)); exact HO634.out⟩, ⟨by (with_reducible repeat (first | refine blk_drewN ?_ _ | refine blk_drew ?_ | refine blk_alloc ?_ _)); exact BK629.out⟩, ⟨by (with_reducible repeat (first | refine blk_drewN ?_ _ | refine blk_drew ?_ | refine blk_alloc ?_ _)); exact BK635.out⟩, ⟨by repeat (first | (with_reducible first | exact HB.out | apply below_alloc | apply pw_below_drewN | apply below_drew1 | refine below_set ?_ GE629.out | refine below_set ?_ GE635.out) | exact HB.out)⟩⟩
     case rest =>
       clear HC10
       try clear c1
       try clear c2
       try clear p2
       try clear c3
       try clear c4
       try clear c5
       try clear c5b0
       try clear c5b1
       try clear c11
       try clear c15
       try clear c21
       try clear c21b0
       try clear c21b1
       try clear c21b2
       try clear c22
       try clear c25
       try clear c26
       try clear c30
       try clear hcz12_0
       try clear hcz12_1
       try clear hcz12_2
       try clear hcz16_0
       try clear hcz16_1
       try clear hcz16_2
       try clear hcz18_0
       try clear hcz18_1
       try clear hcz18_2
       try clear hcz23_0
       try clear hcz23_1
       try clear hcz23_2
       try clear hcz27_0
       try clear hcz27_1
       try clear hcz27_2
       try clear hcz31_0
       try clear hcz31_1
       try clear hcz31_2
       try clear hcz33_0
       try clear hcz33_1
       try clear hcz33_2
       try clear hcz7_0
       try clear hcz7_1
       try clear hcz7_2
       try clear hfz12_0
       try clear hfz12_1
       try clear hfz12_2
       try clear hfz16_0
       try clear hfz16_1
       try clear hfz16_2
       try clear hfz18_0
       try clear hfz18_1
       try clear hfz18_2
       try clear hfz23_0
       try clear hfz23_1
       try clear hfz23_2
       try clear hfz27_0
       try clear hfz27_1
       try clear hfz27_2
       try clear hfz31_0
       try clear hfz31_1
       try clear hfz31_2
       try clear hfz33_0
       try clear hfz33_1
       try clear hfz33_2
       try clear hfz7_0
       try clear hfz7_1
       try clear hfz7_2
       obtain ⟨kq, x41_9, rfl, HA, HJ9, HO_636002, BK629, BK635, HB⟩ := hcut
       as_aux_lemma =>
        cases kq with
        | zero => exact absurd HA.out (by simp [volutelaw09_PileExact.j0])
        | succ kj9 =>
          have H := HA.out
          clear HA
          simp only [volutelaw09_PileExact.j0] at H
          by_cases c35 : x41_9 = true
          · subst c35
            have H1 : (some false) = some true := by rw [if_pos rfl] at H; exact H
            clear H
            have H := H1
            clear H1
            exact absurd (Option.some.inj H) (by decide)
          · replace c35 := Bool.eq_false_iff.mpr c35
            subst c35
            have H1 : ((pile_New.f a0_0 a0_1).bind fun bt639 => ((voluteref04_N.f a0_0).bind fun t646 => (if t646 = true then (if a0_1 ≥ 1 then (volutelaw09_PileExact.j1 kj9 a1 a2 a3 t636 bt639.2.2.2 (decide (a0_1 ≤ 16)) a0_0 a0_1 l0_2 t630 t631 t632 bt639.1 bt639.2.1 bt639.2.2.1) else (volutelaw09_PileExact.j1 kj9 a1 a2 a3 t636 bt639.2.2.2 false a0_0 a0_1 l0_2 t630 t631 t632 bt639.1 bt639.2.1 bt639.2.2.1)) else (volutelaw09_PileExact.j1 kj9 a1 a2 a3 t636 bt639.2.2.2 false a0_0 a0_1 l0_2 t630 t631 t632 bt639.1 bt639.2.1 bt639.2.2.1)))) = some true := by rw [if_neg (show ¬ (false = true) by decide)] at H; exact H
            clear H
            have H := H1
            clear H1
            replace H := Option.bind_eq_some_iff.mp H
            obtain ⟨⟨t639, t640, t641, t644⟩, A360, H⟩ := H
            replace H : ((voluteref04_N.f a0_0).bind fun t646 => (if t646 = true then (if a0_1 ≥ 1 then (volutelaw09_PileExact.j1 kj9 a1 a2 a3 t636 t644 (decide (a0_1 ≤ 16)) a0_0 a0_1 l0_2 t630 t631 t632 t639 t640 t641) else (volutelaw09_PileExact.j1 kj9 a1 a2 a3 t636 t644 false a0_0 a0_1 l0_2 t630 t631 t632 t639 t640 t641)) else (volutelaw09_PileExact.j1 kj9 a1 a2 a3 t636 t644 false a0_0 a0_1 l0_2 t630 t631 t632 t639 t640 t641))) = some true := H
            have A36 := Aside0.mk A360
            clear A360
            have HC37 := Aside0.mk H
            clear H
            have hnb38 := NB629_635.out
            have hnc38 := NB635_629.out
            obtain ⟨hcz39_0, hcz39_1, hcz39_2⟩ := zC3 BK629
            obtain ⟨hfz39_0, hfz39_1, hfz39_2⟩ := zF3 BK629
            go_upto_region 8 with (first | ((with_reducible refine gate_callee (f := 35) rfl ?_); refine goesL_ (some 47) rfl rfl Try.func35 (by kernel_rfl) rfl #[.int .i64 a0_0, .int .i64 a0_1] rfl (by (try simp only [List.map_toArray, List.map_cons, List.map_nil]); first | done | rfl | (simp only [List.length_drop, List.length_take]; rfl)) ?_; (with_reducible refine (pile_New.calls a0_0 a0_1 t639 t640 t641 t644 _ A36.out).mono ?_); rintro e w40 ⟨v642, rfl, ho0, hb⟩; refine ⟨_, rfl, ?_⟩; have HO643 := Aside0.mk (Kd.R_lower (Kd.R_new' ho0 (Kd.R_lt (zr_ HO_636002))) (below_size (zB HB))); replace HO_636002 := Aside0.mk (Kd.R_elder' (zr_ HO_636002) (Kd.R_base ho0) hb); replace BK629 := zb BK629 hb; replace BK635 := zb BK635 hb; replace HB := zs HB hb; (try clear hb); (try clear hb2); (try clear hk); (try clear hi); (try clear ho0)) | ((with_reducible refine gate_dst (N := 11) rfl ?_); (try (refine gate_guard (by rfl) ?_; dsimp only)); refine box_event ?hg (N := 11) ?hd (cs := #[.int .i64 0, .int .i64 0, .slice none 0 0]) (t := 67) ?hr ?_; (case hd => rfl); (case hg => rfl); (case hr => first | (go_simp; done) | (go_simp; rfl)); intro gb645 hg w41 hbox hb; replace HO_636002 := zR HO_636002 hb; replace HO643 := zR HO643 hb; have BK645 := Aside0.mk (hbox); have GW645 := zg HB hg; have GE645 := zg HB hg; replace HB := zs HB hb; have NB629_645 := zl BK629 hg; have NB645_629 := zr BK629 hg; replace BK629 := zb BK629 hb; have NB635_645 := zl BK635 hg; have NB645_635 := zr BK635 hg; replace BK635 := zb BK635 hb; clear hb hbox hg; have hnb42 := NB645_629.out; have hnc42 := NB629_645.out; have hnb43 := NB645_635.out; have hnc43 := NB635_645.out; obtain ⟨hcz44_0, hcz44_1, hcz44_2⟩ := zC3 BK645; obtain ⟨hfz44_0, hfz44_1, hfz44_2⟩ := zF3 BK645; obtain ⟨Ao45, co45, eo45⟩ := Kd.R_slice HO643.out; subst eo45))
            (try simp only [Act.put, List.setIfInBounds_toArray, List.set_cons_zero, List.set_cons_succ])
            go_cut [62] (fun v62 wc => ∃ (kq : Nat) (x62_36 : Bool), v62 = .bool x62_36 ∧ Aside0 (volutelaw09_PileExact.j1 kq a1 a2 a3 t636 t644 x62_36 a0_0 a0_1 l0_2 t630 t631 t632 t639 t640 t641 = some true) ∧ Aside0 (kq ≤ kj9) ∧ Aside0 (Kd.R k88 88 wc w.heap.size (fun k_ => some k_ ≠ ((.slice Ao45 t641.length co45) : Value).ownBlock) (.slice Ao17 t632.length co17) t632) ∧ Aside0 (Kd.R k88 88 wc w.heap.size (fun k_ => some k_ ≠ ((.slice Ao17 t632.length co17) : Value).ownBlock) (.slice Ao45 t641.length co45) t641) ∧ Aside0 (wc.heap[gb629]? = some (.cells #[.int .i64 a0_0, .int .i64 a0_1, (.slice A0_2 l0_2.length c0_2)] 67 (0, 0))) ∧ Aside0 (wc.heap[gb635]? = some (.cells #[.int .i64 t630, .int .i64 t631, (.slice Ao17 t632.length co17)] 67 (0, 0))) ∧ Aside0 (wc.heap[gb645]? = some (.cells #[.int .i64 t639, .int .i64 t640, (.slice Ao45 t641.length co45)] 67 (0, 0))) ∧ Aside0 (Below w.heap.size w wc))
            case first =>
              have H := HC37.out
              clear HC37
              replace H := Option.bind_eq_some_iff.mp H
              obtain ⟨t646, A460, H⟩ := H
              replace H : (if t646 = true then (if a0_1 ≥ 1 then (volutelaw09_PileExact.j1 kj9 a1 a2 a3 t636 t644 (decide (a0_1 ≤ 16)) a0_0 a0_1 l0_2 t630 t631 t632 t639 t640 t641) else (volutelaw09_PileExact.j1 kj9 a1 a2 a3 t636 t644 false a0_0 a0_1 l0_2 t630 t631 t632 t639 t640 t641)) else (volutelaw09_PileExact.j1 kj9 a1 a2 a3 t636 t644 false a0_0 a0_1 l0_2 t630 t631 t632 t639 t640 t641)) = some true := H
              have A46 := Aside0.mk A460
              clear A460
              by_cases c47 : t646 = true
              · subst c47
                have H1 : (if a0_1 ≥ 1 then (volutelaw09_PileExact.j1 kj9 a1 a2 a3 t636 t644 (decide (a0_1 ≤ 16)) a0_0 a0_1 l0_2 t630 t631 t632 t639 t640 t641) else (volutelaw09_PileExact.j1 kj9 a1 a2 a3 t636 t644 false a0_0 a0_1 l0_2 t630 t631 t632 t639 t640 t641)) = some true := by rw [if_pos rfl] at H; exact H
                clear H
                have H := H1
                clear H1
                by_cases c48 : a0_1 ≥ 1
                · rw [if_pos c48] at H
                  have c48b0 : decide (1 ≤ a0_1) = true := decide_eq_true c48
                  clear c48
                  (first | rw [c48b0] | (simp only [i64_w, i32_w]; rw [c48b0]) | skip)
                  have H' := Aside0.mk H
                  clear H
                  have hnb49 := NB629_635.out
                  have hnc49 := NB635_629.out
                  have hnb50 := NB629_645.out
                  have hnc50 := NB645_629.out
                  obtain ⟨hcz51_0, hcz51_1, hcz51_2⟩ := zC3 BK629
                  obtain ⟨hfz51_0, hfz51_1, hfz51_2⟩ := zF3 BK629
                  go_wp2_with (first | ((with_reducible refine gate_callee (f := 42) rfl ?_); refine goesL_ (some 52) rfl rfl Try.func42 (by kernel_rfl) rfl #[.int .i64 a0_0] rfl (by (try simp only [List.map_toArray, List.map_cons, List.map_nil]); first | done | rfl | (simp only [List.length_drop, List.length_take]; rfl)) ?_; (with_reducible refine (voluteref04_N.calls a0_0 true _ A46.out).mono ?_); rintro e w' ⟨rfl, ⟨nd, rfl⟩⟩; refine ⟨_, rfl, ?_⟩))
                  go_meet
                  case rel => exact ⟨_, (decide (a0_1 ≤ 16)), (by first | rfl | (simp; done) | (simp [*]; done)), H', ⟨by have := HJ9.out; first | omega | exact Nat.le_refl _⟩, ⟨by (with_reducible repeat (first | apply Kd.R_alloc | apply Kd.R_drewN | apply Kd.R_drew)); exact Kd.R_mono (Kd.R_far (p := ⟨gb645, 2, none⟩) (Kd.R_far (p := ⟨gb645, 1, none⟩) (Kd.R_far (p := ⟨gb645, 0, none⟩) (Kd.R_types HO_636002.out BK645.out (by decide)) (fun _ hk => hk.2) (.int .i64 t639)) (fun _ hk => hk.2) (.int .i64 t640)) (fun _ hk => hk.2) (.slice Ao45 t641.length co45)) (fun _ hk => hk.1.2)⟩, ⟨by (with_reducible repeat (first | apply Kd.R_alloc | apply Kd.R_drewN | apply Kd.R_drew)); exact Kd.R_mono (Kd.R_far (p := ⟨gb645, 2, none⟩) (Kd.R_far (p := ⟨gb645, 1, none⟩) (Kd.R_far (p := ⟨gb645, 0, none⟩) (Kd.R_types HO643.out BK645.out (by decide)) (fun _ hk => hk.2) (.int .i64 t639)) (fun _ hk => hk.2) (.int .i64 t640)) (fun _ hk => hk.2) (.slice Ao45 t641.length co45)) (fun _ hk => hk.1.2)⟩, ⟨by (with_reducible repeat (first | refine blk_drewN ?_ _ | refine blk_drew ?_ | refine blk_alloc ?_ _)); refine blk_far ?_ NB629_645.out _; (with_reducible repeat (first | refine blk_drewN ?_ _ | refine blk_drew ?_ | refine blk_alloc ?_ _)); refine blk_far ?_ NB629_645.out _; (with_reducible repeat (first | refine blk_drewN ?_ _ | refine blk_drew ?_ | refine blk_alloc ?_ _)); refine blk_far ?_ NB629_645.out _; (with_reducible repeat (first | refine blk_drewN ?_ _ | refine blk_drew ?_ | refine blk_alloc ?_ _)); exact BK629.out⟩, ⟨by (with_reducible repeat (first | refine blk_drewN ?_ _ | refine blk_drew ?_ | refine blk_alloc ?_ _)); refine blk_far ?_ NB635_645.out _; (with_reducible repeat (first | refine blk_drewN ?_ _ | refine blk_drew ?_ | refine blk_alloc ?_ _)); refine blk_far ?_ NB635_645.out _; (with_reducible repeat (first | refine blk_drewN ?_ _ | refine blk_drew ?_ | refine blk_alloc ?_ _)); refine blk_far ?_ NB635_645.out _; (with_reducible repeat (first | refine blk_drewN ?_ _ | refine blk_drew ?_ | refine blk_alloc ?_ _)); exact BK635.out⟩, ⟨by (with_reducible repeat (first | refine blk_drewN ?_ _ | refine blk_drew ?_ | refine blk_alloc ?_ _)); refine blk_put (cs := #[.int .i64 t639, .int .i64 t640, .slice none 0 0]) ?_ 2 _ rfl; (with_reducible repeat (first | refine blk_drewN ?_ _ | refine blk_drew ?_ | refine blk_alloc ?_ _)); refine blk_put (cs := #[.int .i64 t639, .int .i64 0, .slice none 0 0]) ?_ 1 _ rfl; (with_reducible repeat (first | refine blk_drewN ?_ _ | refine blk_drew ?_ | refine blk_alloc ?_ _)); refine blk_put (cs := #[.int .i64 0, .int .i64 0, .slice none 0 0]) ?_ 0 _ rfl; (with_reducible repeat (first | refine blk_drewN ?_ _ | refine blk_drew ?_ | refine blk_alloc ?_ _)); exact BK645.out⟩, ⟨by repeat (first | (with_reducible first | exact HB.out | apply below_alloc | apply pw_below_drewN | apply below_drew1 | refine below_set ?_ GE629.out | refine below_set ?_ GE635.out | refine below_set ?_ GE645.out) | exact HB.out)⟩⟩
                · rw [if_neg c48] at H
                  have c48b0 : decide (1 ≤ a0_1) = false := decide_eq_false c48
                  clear c48
                  (first | rw [c48b0] | (simp only [i64_w, i32_w]; rw [c48b0]) | skip)
                  have H' := Aside0.mk H
                  clear H
                  have hnb52 := NB629_635.out
                  have hnc52 := NB635_629.out
                  have hnb53 := NB629_645.out
                  have hnc53 := NB645_629.out
                  obtain ⟨hcz54_0, hcz54_1, hcz54_2⟩ := zC3 BK629
                  obtain ⟨hfz54_0, hfz54_1, hfz54_2⟩ := zF3 BK629
                  go_wp2_with (first | ((with_reducible refine gate_callee (f := 42) rfl ?_); refine goesL_ (some 52) rfl rfl Try.func42 (by kernel_rfl) rfl #[.int .i64 a0_0] rfl (by (try simp only [List.map_toArray, List.map_cons, List.map_nil]); first | done | rfl | (simp only [List.length_drop, List.length_take]; rfl)) ?_; (with_reducible refine (voluteref04_N.calls a0_0 true _ A46.out).mono ?_); rintro e w' ⟨rfl, ⟨nd, rfl⟩⟩; refine ⟨_, rfl, ?_⟩))
                  go_meet
                  case rel => exact ⟨_, (false), (by first | rfl | (simp; done) | (simp [*]; done)), H', ⟨by have := HJ9.out; first | omega | exact Nat.le_refl _⟩, ⟨by (with_reducible repeat (first | apply Kd.R_alloc | apply Kd.R_drewN | apply Kd.R_drew)); exact Kd.R_mono (Kd.R_far (p := ⟨gb645, 2, none⟩) (Kd.R_far (p := ⟨gb645, 1, none⟩) (Kd.R_far (p := ⟨gb645, 0, none⟩) (Kd.R_types HO_636002.out BK645.out (by decide)) (fun _ hk => hk.2) (.int .i64 t639)) (fun _ hk => hk.2) (.int .i64 t640)) (fun _ hk => hk.2) (.slice Ao45 t641.length co45)) (fun _ hk => hk.1.2)⟩, ⟨by (with_reducible repeat (first | apply Kd.R_alloc | apply Kd.R_drewN | apply Kd.R_drew)); exact Kd.R_mono (Kd.R_far (p := ⟨gb645, 2, none⟩) (Kd.R_far (p := ⟨gb645, 1, none⟩) (Kd.R_far (p := ⟨gb645, 0, none⟩) (Kd.R_types HO643.out BK645.out (by decide)) (fun _ hk => hk.2) (.int .i64 t639)) (fun _ hk => hk.2) (.int .i64 t640)) (fun _ hk => hk.2) (.slice Ao45 t641.length co45)) (fun _ hk => hk.1.2)⟩, ⟨by (with_reducible repeat (first | refine blk_drewN ?_ _ | refine blk_drew ?_ | refine blk_alloc ?_ _)); refine blk_far ?_ NB629_645.out _; (with_reducible repeat (first | refine blk_drewN ?_ _ | refine blk_drew ?_ | refine blk_alloc ?_ _)); refine blk_far ?_ NB629_645.out _; (with_reducible repeat (first | refine blk_drewN ?_ _ | refine blk_drew ?_ | refine blk_alloc ?_ _)); refine blk_far ?_ NB629_645.out _; (with_reducible repeat (first | refine blk_drewN ?_ _ | refine blk_drew ?_ | refine blk_alloc ?_ _)); exact BK629.out⟩, ⟨by (with_reducible repeat (first | refine blk_drewN ?_ _ | refine blk_drew ?_ | refine blk_alloc ?_ _)); refine blk_far ?_ NB635_645.out _; (with_reducible repeat (first | refine blk_drewN ?_ _ | refine blk_drew ?_ | refine blk_alloc ?_ _)); refine blk_far ?_ NB635_645.out _; (with_reducible repeat (first | refine blk_drewN ?_ _ | refine blk_drew ?_ | refine blk_alloc ?_ _)); refine blk_far ?_ NB635_645.out _; (with_reducible repeat (first | refine blk_drewN ?_ _ | refine blk_drew ?_ | refine blk_alloc ?_ _)); exact BK635.out⟩, ⟨by (with_reducible repeat (first | refine blk_drewN ?_ _ | refine blk_drew ?_ | refine blk_alloc ?_ _)); refine blk_put (cs := #[.int .i64 t639, .int .i64 t640, .slice none 0 0]) ?_ 2 _ rfl; (with_reducible repeat (first | refine blk_drewN ?_ _ | refine blk_drew ?_ | refine blk_alloc ?_ _)); refine blk_put (cs := #[.int .i64 t639, .int .i64 0, .slice none 0 0]) ?_ 1 _ rfl; (with_reducible repeat (first | refine blk_drewN ?_ _ | refine blk_drew ?_ | refine blk_alloc ?_ _)); refine blk_put (cs := #[.int .i64 0, .int .i64 0, .slice none 0 0]) ?_ 0 _ rfl; (with_reducible repeat (first | refine blk_drewN ?_ _ | refine blk_drew ?_ | refine blk_alloc ?_ _)); exact BK645.out⟩, ⟨by repeat (first | (with_reducible first | exact HB.out | apply below_alloc | apply pw_below_drewN | apply below_drew1 | refine below_set ?_ GE629.out | refine below_set ?_ GE635.out | refine below_set ?_ GE645.out) | exact HB.out)⟩⟩
              · replace c47 := Bool.eq_false_iff.mpr c47
                subst c47
                have H1 : (volutelaw09_PileExact.j1 kj9 a1 a2 a3 t636 t644 false a0_0 a0_1 l0_2 t630 t631 t632 t639 t640 t641) = some true := by rw [if_neg (show ¬ (false = true) by decide)] at H; exact H
                clear H
                have H := H1
                clear H1
                have H' := Aside0.mk H
                clear H
                have hnb55 := NB629_635.out
                have hnc55 := NB635_629.out
                have hnb56 := NB629_645.out
                have hnc56 := NB645_629.out
                obtain ⟨hcz57_0, hcz57_1, hcz57_2⟩ := zC3 BK629
                obtain ⟨hfz57_0, hfz57_1, hfz57_2⟩ := zF3 BK629
                go_wp2_with (first | ((with_reducible refine gate_callee (f := 42) rfl ?_); refine goesL_ (some 52) rfl rfl Try.func42 (by kernel_rfl) rfl #[.int .i64 a0_0] rfl (by (try simp only [List.map_toArray, List.map_cons, List.map_nil]); first | done | rfl | (simp only [List.length_drop, List.length_take]; rfl)) ?_; (with_reducible refine (voluteref04_N.calls a0_0 false _ A46.out).mono ?_); rintro e w' ⟨rfl, ⟨nd, rfl⟩⟩; refine ⟨_, rfl, ?_⟩))
                go_meet
                case rel => exact ⟨_, (false), (by first | rfl | (simp; done) | (simp [*]; done)), H', ⟨by have := HJ9.out; first | omega | exact Nat.le_refl _⟩, ⟨by (with_reducible repeat (first | apply Kd.R_alloc | apply Kd.R_drewN | apply Kd.R_drew)); exact Kd.R_mono (Kd.R_far (p := ⟨gb645, 2, none⟩) (Kd.R_far (p := ⟨gb645, 1, none⟩) (Kd.R_far (p := ⟨gb645, 0, none⟩) (Kd.R_types HO_636002.out BK645.out (by decide)) (fun _ hk => hk.2) (.int .i64 t639)) (fun _ hk => hk.2) (.int .i64 t640)) (fun _ hk => hk.2) (.slice Ao45 t641.length co45)) (fun _ hk => hk.1.2)⟩, ⟨by (with_reducible repeat (first | apply Kd.R_alloc | apply Kd.R_drewN | apply Kd.R_drew)); exact Kd.R_mono (Kd.R_far (p := ⟨gb645, 2, none⟩) (Kd.R_far (p := ⟨gb645, 1, none⟩) (Kd.R_far (p := ⟨gb645, 0, none⟩) (Kd.R_types HO643.out BK645.out (by decide)) (fun _ hk => hk.2) (.int .i64 t639)) (fun _ hk => hk.2) (.int .i64 t640)) (fun _ hk => hk.2) (.slice Ao45 t641.length co45)) (fun _ hk => hk.1.2)⟩, ⟨by (with_reducible repeat (first | refine blk_drewN ?_ _ | refine blk_drew ?_ | refine blk_alloc ?_ _)); refine blk_far ?_ NB629_645.out _; (with_reducible repeat (first | refine blk_drewN ?_ _ | refine blk_drew ?_ | refine blk_alloc ?_ _)); refine blk_far ?_ NB629_645.out _; (with_reducible repeat (first | refine blk_drewN ?_ _ | refine blk_drew ?_ | refine blk_alloc ?_ _)); refine blk_far ?_ NB629_645.out _; (with_reducible repeat (first | refine blk_drewN ?_ _ | refine blk_drew ?_ | refine blk_alloc ?_ _)); exact BK629.out⟩, ⟨by (with_reducible repeat (first | refine blk_drewN ?_ _ | refine blk_drew ?_ | refine blk_alloc ?_ _)); refine blk_far ?_ NB635_645.out _; (with_reducible repeat (first | refine blk_drewN ?_ _ | refine blk_drew ?_ | refine blk_alloc ?_ _)); refine blk_far ?_ NB635_645.out _; (with_reducible repeat (first | refine blk_drewN ?_ _ | refine blk_drew ?_ | refine blk_alloc ?_ _)); refine blk_far ?_ NB635_645.out _; (with_reducible repeat (first | refine blk_drewN ?_ _ | refine blk_drew ?_ | refine blk_alloc ?_ _)); exact BK635.out⟩, ⟨by (with_reducible repeat (first | refine blk_drewN ?_ _ | refine blk_drew ?_ | refine blk_alloc ?_ _)); refine blk_put (cs := #[.int .i64 t639, .int .i64 t640, .slice none 0 0]) ?_ 2 _ rfl; (with_reducible repeat (first | refine blk_drewN ?_ _ | refine blk_drew ?_ | refine blk_alloc ?_ _)); refine blk_put (cs := #[.int .i64 t639, .int .i64 0, .slice none 0 0]) ?_ 1 _ rfl; (with_reducible repeat (first | refine blk_drewN ?_ _ | refine blk_drew ?_ | refine blk_alloc ?_ _)); refine blk_put (cs := #[.int .i64 0, .int .i64 0, .slice none 0 0]) ?_ 0 _ rfl; (with_reducible repeat (first | refine blk_drewN ?_ _ | refine blk_drew ?_ | refine blk_alloc ?_ _)); exact BK645.out⟩, ⟨by repeat (first | (with_reducible first | exact HB.out | apply below_alloc | apply pw_below_drewN | apply below_drew1 | refine below_set ?_ GE629.out | refine below_set ?_ GE635.out | refine below_set ?_ GE645.out) | exact HB.out)⟩⟩
            case rest =>
              clear HC37
              try clear c1
              try clear c2
              try clear p2
              try clear c3
              try clear c4
              try clear c5
              try clear c5b0
              try clear c5b1
              try clear c11
              try clear c15
              try clear c21
              try clear c21b0
              try clear c21b1
              try clear c21b2
              try clear c22
              try clear c25
              try clear c26
              try clear c30
              try clear c35
              try clear c38
              try clear c39
              try clear c40
              try clear c41
              try clear c42
              try clear c43
              try clear c47
              try clear c48
              try clear c48b0
              try clear c49
              try clear c50
              try clear c52
              try clear c53
              try clear c55
              try clear c56
              try clear hcz12_0
              try clear hcz12_1
              try clear hcz12_2
              try clear hcz16_0
              try clear hcz16_1
              try clear hcz16_2
              try clear hcz18_0
              try clear hcz18_1
              try clear hcz18_2
              try clear hcz23_0
              try clear hcz23_1
              try clear hcz23_2
              try clear hcz27_0
              try clear hcz27_1
              try clear hcz27_2
              try clear hcz31_0
              try clear hcz31_1
              try clear hcz31_2
              try clear hcz33_0
              try clear hcz33_1
              try clear hcz33_2
              try clear hcz39_0
              try clear hcz39_1
              try clear hcz39_2
              try clear hcz44_0
              try clear hcz44_1
              try clear hcz44_2
              try clear hcz51_0
              try clear hcz51_1
              try clear hcz51_2
              try clear hcz54_0
              try clear hcz54_1
              try clear hcz54_2
              try clear hcz57_0
              try clear hcz57_1
              try clear hcz57_2
              try clear hcz7_0
              try clear hcz7_1
              try clear hcz7_2
              try clear hfz12_0
              try clear hfz12_1
              try clear hfz12_2
              try clear hfz16_0
              try clear hfz16_1
              try clear hfz16_2
              try clear hfz18_0
              try clear hfz18_1
              try clear hfz18_2
              try clear hfz23_0
              try clear hfz23_1
              try clear hfz23_2
              try clear hfz27_0
              try clear hfz27_1
              try clear hfz27_2
              try clear hfz31_0
              try clear hfz31_1
              try clear hfz31_2
              try clear hfz33_0
              try clear hfz33_1
              try clear hfz33_2
              try clear hfz39_0
              try clear hfz39_1
              try clear hfz39_2
              try clear hfz44_0
              try clear hfz44_1
              try clear hfz44_2
              try clear hfz51_0
              try clear hfz51_1
              try clear hfz51_2
              try clear hfz54_0
              try clear hfz54_1
              try clear hfz54_2
              try clear hfz57_0
              try clear hfz57_1
              try clear hfz57_2
              try clear hfz7_0
              try clear hfz7_1
              try clear hfz7_2
              try clear p2
              obtain ⟨kq, x62_36, rfl, HA, HJ36, HO_636002, HO_646002, BK629, BK635, BK645, HB⟩ := hcut
              as_aux_lemma =>
               cases kq with
               | zero => exact absurd HA.out (by simp [volutelaw09_PileExact.j1])
               | succ kj36 =>
                 have H := HA.out
                 clear HA
                 simp only [volutelaw09_PileExact.j1] at H
                 have HC58 := Aside0.mk H
                 clear H
                 go_upto_if 62 with (fail)
                 go_cut [] (fun wc => ∃ (kq : Nat), Aside0 (volutelaw09_PileExact.j2 kq a1 a2 a3 t636 a0_0 a0_1 l0_2 t630 t631 t632 = some true) ∧ Aside0 (kq ≤ kj36) ∧ Aside0 (Kd.R k88 88 wc w.heap.size (fun k_ => some k_ ≠ ((.slice Ao45 t641.length co45) : Value).ownBlock) (.slice Ao17 t632.length co17) t632) ∧ Aside0 (Kd.R k88 88 wc w.heap.size (fun k_ => some k_ ≠ ((.slice Ao17 t632.length co17) : Value).ownBlock) (.slice Ao45 t641.length co45) t641) ∧ Aside0 (wc.heap[gb629]? = some (.cells #[.int .i64 a0_0, .int .i64 a0_1, (.slice A0_2 l0_2.length c0_2)] 67 (0, 0))) ∧ Aside0 (wc.heap[gb635]? = some (.cells #[.int .i64 t630, .int .i64 t631, (.slice Ao17 t632.length co17)] 67 (0, 0))) ∧ Aside0 (wc.heap[gb645]? = some (.cells #[.int .i64 t639, .int .i64 t640, (.slice Ao45 t641.length co45)] 67 (0, 0))) ∧ Aside0 (Below w.heap.size w wc))
                 case first =>
                   have H := HC58.out
                   clear HC58
                   by_cases c59 : x62_36 = true
                   · subst c59
                     have H1 : (if t644 = 0 then ((volutekeep_Pile.f kj36 t639 t640 t641 a0_0 a0_1 ([] : List (S88))).bind fun t647 => (if t647 = true then (volutelaw09_PileExact.j2 kj36 a1 a2 a3 t636 a0_0 a0_1 l0_2 t630 t631 t632) else (some false))) else (some false)) = some true := by rw [if_pos rfl] at H; exact H
                     clear H
                     have H := H1
                     clear H1
                     by_cases c60 : t644 = 0
                     · rw [if_pos c60] at H
                       have c60b0 : (t644 == 0) = true := beq_iff_eq.mpr c60
                       have c60b1 : (t644 != 0) = false := bne_eq_false_iff_eq.mpr c60
                       clear c60
                       (first | rw [c60b0] | (simp only [i64_w, i32_w]; rw [c60b0]) | skip)
                       replace H := Option.bind_eq_some_iff.mp H
                       obtain ⟨t647, A610, H⟩ := H
                       replace H : (if t647 = true then (volutelaw09_PileExact.j2 kj36 a1 a2 a3 t636 a0_0 a0_1 l0_2 t630 t631 t632) else (some false)) = some true := H
                       have A61 := Aside0.mk A610
                       clear A610
                       by_cases c62 : t647 = true
                       · subst c62
                         have H1 : (volutelaw09_PileExact.j2 kj36 a1 a2 a3 t636 a0_0 a0_1 l0_2 t630 t631 t632) = some true := by rw [if_pos rfl] at H; exact H
                         clear H
                         have H := H1
                         clear H1
                         have H' := Aside0.mk H
                         clear H
                         have hnb63 := NB645_629.out
                         have hnc63 := NB629_645.out
                         have hnb64 := NB645_635.out
                         have hnc64 := NB635_645.out
                         obtain ⟨hcz65_0, hcz65_1, hcz65_2⟩ := zC3 BK645
                         obtain ⟨hfz65_0, hfz65_1, hfz65_2⟩ := zF3 BK645
                         have hnb66 := NB629_635.out
                         have hnc66 := NB635_629.out
                         obtain ⟨hcz67_0, hcz67_1, hcz67_2⟩ := zC3 BK629
                         obtain ⟨hfz67_0, hfz67_1, hfz67_2⟩ := zF3 BK629
                         go_wp2_with (first | (go_at_call 37; (refine (volutekeep_Pile.calls kj36 t639 t640 _ _ t641 a0_0 a0_1 _ _ ([] : List (S88)) true _ ?side1 ?side2 ?side3 ?side4 A61.out).mono ?_); (case side1 => repeat (first | exact (Kd.R_reads' HO_646002.out).2.2 | (with_reducible refine Kd.C_alloc ?_ _) | (with_reducible refine Kd.C_drewN ?_ _) | (with_reducible refine Kd.C_drew ?_))); (case side2 => exact (Kd.R_reads' HO_646002.out).2.1); (case side3 => exact Kd.C_nil _ _); (case side4 => exact Nat.le_refl _); rintro e w68 ⟨rfl, hb⟩; replace HO_636002 := zR HO_636002 hb; replace HO_646002 := zR HO_646002 hb; replace BK629 := zb BK629 hb; replace BK635 := zb BK635 hb; replace BK645 := zb BK645 hb; replace HB := zs HB hb; (try clear hb); (try clear hb2); (try clear hk); (try clear hi)))
                         go_meet
                         case rel => exact ⟨_, H', ⟨by have := HJ9.out; have := HJ36.out; first | omega | exact Nat.le_refl _⟩, ⟨by (with_reducible repeat (first | apply Kd.R_alloc | apply Kd.R_drewN | apply Kd.R_drew)); exact HO_636002.out⟩, ⟨by (with_reducible repeat (first | apply Kd.R_alloc | apply Kd.R_drewN | apply Kd.R_drew)); exact HO_646002.out⟩, ⟨by (with_reducible repeat (first | refine blk_drewN ?_ _ | refine blk_drew ?_ | refine blk_alloc ?_ _)); exact BK629.out⟩, ⟨by (with_reducible repeat (first | refine blk_drewN ?_ _ | refine blk_drew ?_ | refine blk_alloc ?_ _)); exact BK635.out⟩, ⟨by (with_reducible repeat (first | refine blk_drewN ?_ _ | refine blk_drew ?_ | refine blk_alloc ?_ _)); exact BK645.out⟩, ⟨by repeat (first | (with_reducible first | exact HB.out | apply below_alloc | apply pw_below_drewN | apply below_drew1 | refine below_set ?_ GE629.out | refine below_set ?_ GE635.out | refine below_set ?_ GE645.out) | exact HB.out)⟩⟩
                       · replace c62 := Bool.eq_false_iff.mpr c62
                         subst c62
                         have H1 : (some false) = some true := by rw [if_neg (show ¬ (false = true) by decide)] at H; exact H
                         clear H
                         have H := H1
                         clear H1
                         exact absurd (Option.some.inj H) (by decide)
                     · rw [if_neg c60] at H
                       have c60b0 : (t644 == 0) = false := beq_eq_false_iff_ne.mpr c60
                       have c60b1 : (t644 != 0) = true := bne_iff_ne.mpr c60
                       (first | rw [c60b0] | (simp only [i64_w, i32_w]; rw [c60b0]) | skip)
                       exact absurd (Option.some.inj H) (by decide)
                   · replace c59 := Bool.eq_false_iff.mpr c59
                     subst c59
                     have H1 : (if t644 = 1 then ((volutekeep_Pile.f kj36 t639 t640 t641 0 0 ([] : List (S88))).bind fun t648 => (if t648 = true then (volutelaw09_PileExact.j2 kj36 a1 a2 a3 t636 a0_0 a0_1 l0_2 t630 t631 t632) else (some false))) else (some false)) = some true := by rw [if_neg (show ¬ (false = true) by decide)] at H; exact H
                     clear H
                     have H := H1
                     clear H1
                     by_cases c75 : t644 = 1
                     · rw [if_pos c75] at H
                       have c75b0 : (t644 == 1) = true := beq_iff_eq.mpr c75
                       have c75b1 : (t644 != 1) = false := bne_eq_false_iff_eq.mpr c75
                       clear c75
                       replace H := Option.bind_eq_some_iff.mp H
                       obtain ⟨t648, A760, H⟩ := H
                       replace H : (if t648 = true then (volutelaw09_PileExact.j2 kj36 a1 a2 a3 t636 a0_0 a0_1 l0_2 t630 t631 t632) else (some false)) = some true := H
                       have A76 := Aside0.mk A760
                       clear A760
                       by_cases c77 : t648 = true
                       · subst c77
                         have H1 : (volutelaw09_PileExact.j2 kj36 a1 a2 a3 t636 a0_0 a0_1 l0_2 t630 t631 t632) = some true := by rw [if_pos rfl] at H; exact H
                         clear H
                         have H := H1
                         clear H1
                         have H' := Aside0.mk H
                         clear H
                         have hnb78 := NB645_629.out
                         have hnc78 := NB629_645.out
                         have hnb79 := NB645_635.out
                         have hnc79 := NB635_645.out
                         obtain ⟨hcz80_0, hcz80_1, hcz80_2⟩ := zC3 BK645
                         obtain ⟨hfz80_0, hfz80_1, hfz80_2⟩ := zF3 BK645
                         go_wp2_with (first | (go_at_call 37; (refine (volutekeep_Pile.calls kj36 t639 t640 _ _ t641 0 0 _ _ ([] : List (S88)) true _ ?side1 ?side2 ?side3 ?side4 A76.out).mono ?_); (case side1 => repeat (first | exact (Kd.R_reads' HO_646002.out).2.2 | (with_reducible refine Kd.C_alloc ?_ _) | (with_reducible refine Kd.C_drewN ?_ _) | (with_reducible refine Kd.C_drew ?_))); (case side2 => exact (Kd.R_reads' HO_646002.out).2.1); (case side3 => exact Kd.C_nil _ _); (case side4 => exact Nat.le_refl _); rintro e w81 ⟨rfl, hb⟩; replace HO_636002 := zR HO_636002 hb; replace HO_646002 := zR HO_646002 hb; replace BK629 := zb BK629 hb; replace BK635 := zb BK635 hb; replace BK645 := zb BK645 hb; replace HB := zs HB hb; (try clear hb); (try clear hb2); (try clear hk); (try clear hi)))
                         go_meet
                         case rel => exact ⟨_, H', ⟨by have := HJ9.out; have := HJ36.out; first | omega | exact Nat.le_refl _⟩, ⟨by (with_reducible repeat (first | apply Kd.R_alloc | apply Kd.R_drewN | apply Kd.R_drew)); exact HO_636002.out⟩, ⟨by (with_reducible repeat (first | apply Kd.R_alloc | apply Kd.R_drewN | apply Kd.R_drew)); exact HO_646002.out⟩, ⟨by (with_reducible repeat (first | refine blk_drewN ?_ _ | refine blk_drew ?_ | refine blk_alloc ?_ _)); exact BK629.out⟩, ⟨by (with_reducible repeat (first | refine blk_drewN ?_ _ | refine blk_drew ?_ | refine blk_alloc ?_ _)); exact BK635.out⟩, ⟨by (with_reducible repeat (first | refine blk_drewN ?_ _ | refine blk_drew ?_ | refine blk_alloc ?_ _)); exact BK645.out⟩, ⟨by repeat (first | (with_reducible first | exact HB.out | apply below_alloc | apply pw_below_drewN | apply below_drew1 | refine below_set ?_ GE629.out | refine below_set ?_ GE635.out | refine below_set ?_ GE645.out) | exact HB.out)⟩⟩
                       · replace c77 := Bool.eq_false_iff.mpr c77
                         subst c77
                         have H1 : (some false) = some true := by rw [if_neg (show ¬ (false = true) by decide)] at H; exact H
                         clear H
                         have H := H1
                         clear H1
                         exact absurd (Option.some.inj H) (by decide)
                     · rw [if_neg c75] at H
                       have c75b0 : (t644 == 1) = false := beq_eq_false_iff_ne.mpr c75
                       have c75b1 : (t644 != 1) = true := bne_iff_ne.mpr c75
                       exact absurd (Option.some.inj H) (by decide)
                 case rest =>
                   clear HC58
                   try clear c1
                   try clear c2
                   try clear p2
                   try clear c3
                   try clear c4
                   try clear c5
                   try clear c5b0
                   try clear c5b1
                   try clear c6
                   try clear c7
                   try clear c8
                   try clear c11
                   try clear c15
                   try clear c21
                   try clear c21b0
                   try clear c21b1
                   try clear c21b2
                   try clear c22
                   try clear c25
                   try clear c26
                   try clear c30
                   try clear c35
                   try clear c38
                   try clear c39
                   try clear c40
                   try clear c41
                   try clear c42
                   try clear c43
                   try clear c47
                   try clear c48
                   try clear c48b0
                   try clear c49
                   try clear c50
                   try clear c52
                   try clear c53
                   try clear c55
                   try clear c56
                   try clear c59
                   try clear c60
                   try clear c60b0
                   try clear c60b1
                   try clear c62
                   try clear c63
                   try clear c64
                   try clear c66
                   try clear c69
                   try clear c70
                   try clear c72
                   try clear c75
                   try clear c75b0
                   try clear c75b1
                   try clear c77
                   try clear c78
                   try clear c79
                   try clear c82
                   try clear c83
                   try clear hcz12_0
                   try clear hcz12_1
                   try clear hcz12_2
                   try clear hcz16_0
                   try clear hcz16_1
                   try clear hcz16_2
                   try clear hcz18_0
                   try clear hcz18_1
                   try clear hcz18_2
                   try clear hcz23_0
                   try clear hcz23_1
                   try clear hcz23_2
                   try clear hcz27_0
                   try clear hcz27_1
                   try clear hcz27_2
                   try clear hcz31_0
                   try clear hcz31_1
                   try clear hcz31_2
                   try clear hcz33_0
                   try clear hcz33_1
                   try clear hcz33_2
                   try clear hcz39_0
                   try clear hcz39_1
                   try clear hcz39_2
                   try clear hcz44_0
                   try clear hcz44_1
                   try clear hcz44_2
                   try clear hcz51_0
                   try clear hcz51_1
                   try clear hcz51_2
                   try clear hcz54_0
                   try clear hcz54_1
                   try clear hcz54_2
                   try clear hcz57_0
                   try clear hcz57_1
                   try clear hcz57_2
                   try clear hcz65_0
                   try clear hcz65_1
                   try clear hcz65_2
                   try clear hcz67_0
                   try clear hcz67_1
                   try clear hcz67_2
                   try clear hcz71_0
                   try clear hcz71_1
                   try clear hcz71_2
                   try clear hcz73_0
                   try clear hcz73_1
                   try clear hcz73_2
                   try clear hcz7_0
                   try clear hcz7_1
                   try clear hcz7_2
                   try clear hcz80_0
                   try clear hcz80_1
                   try clear hcz80_2
                   try clear hcz84_0
                   try clear hcz84_1
                   try clear hcz84_2
                   try clear hfz12_0
                   try clear hfz12_1
                   try clear hfz12_2
                   try clear hfz16_0
                   try clear hfz16_1
                   try clear hfz16_2
                   try clear hfz18_0
                   try clear hfz18_1
                   try clear hfz18_2
                   try clear hfz23_0
                   try clear hfz23_1
                   try clear hfz23_2
                   try clear hfz27_0
                   try clear hfz27_1
                   try clear hfz27_2
                   try clear hfz31_0
                   try clear hfz31_1
                   try clear hfz31_2
                   try clear hfz33_0
                   try clear hfz33_1
                   try clear hfz33_2
                   try clear hfz39_0
                   try clear hfz39_1
                   try clear hfz39_2
                   try clear hfz44_0
                   try clear hfz44_1
                   try clear hfz44_2
                   try clear hfz51_0
                   try clear hfz51_1
                   try clear hfz51_2
                   try clear hfz54_0
                   try clear hfz54_1
                   try clear hfz54_2
                   try clear hfz57_0
                   try clear hfz57_1
                   try clear hfz57_2
                   try clear hfz65_0
                   try clear hfz65_1
                   try clear hfz65_2
                   try clear hfz67_0
                   try clear hfz67_1
                   try clear hfz67_2
                   try clear hfz71_0
                   try clear hfz71_1
                   try clear hfz71_2
                   try clear hfz73_0
                   try clear hfz73_1
                   try clear hfz73_2
                   try clear hfz7_0
                   try clear hfz7_1
                   try clear hfz7_2
                   try clear hfz80_0
                   try clear hfz80_1
                   try clear hfz80_2
                   try clear hfz84_0
                   try clear hfz84_1
                   try clear hfz84_2
                   try clear p2
                   obtain ⟨kq, HA, HJ57, HO_636002, HO_646002, BK629, BK635, BK645, HB⟩ := hcut
                   as_aux_lemma =>
                    cases kq with
                    | zero => exact absurd HA.out (by simp [volutelaw09_PileExact.j2])
                    | succ kj57 =>
                      have H := HA.out
                      clear HA
                      simp only [volutelaw09_PileExact.j2] at H
                      replace H := Option.bind_eq_some_iff.mp H
                      obtain ⟨⟨t649, t650, t651, t654, t655⟩, A860, H⟩ := H
                      replace H : ((pile_Of.f kj57 t630 t631 t632 a3).bind fun bt657 => ((volutekeep_Pile.f kj57 t630 t631 t632 a0_0 a0_1 l0_2).bind fun t661 => (if t661 = true then (if t636 = true then ((voluteref04_Put.f kj57 a0_0 a0_1 l0_2 a1 a2).bind fun bt664 => (if t655 = bt664.2.2.2.2 then (if (t654 != bt664.2.2.2.1) = true then (volutelaw09_PileExact.j3 kj57 a3 bt657.1 bt657.2 true a0_0 a0_1 l0_2 t630 t631 t632 t649 t650 t651) else ((volutekeep_Pile.f kj57 t649 t650 t651 bt664.1 bt664.2.1 bt664.2.2.1).bind fun t672 => (volutelaw09_PileExact.j3 kj57 a3 bt657.1 bt657.2 (!t672) a0_0 a0_1 l0_2 t630 t631 t632 t649 t650 t651))) else (volutelaw09_PileExact.j3 kj57 a3 bt657.1 bt657.2 true a0_0 a0_1 l0_2 t630 t631 t632 t649 t650 t651))) else (if t655 = 1 then (if bt657.2 = 1 then (if t654 = true then (some false) else (if (bt657.1.length : Int) = 0 then ((volutekeep_Pile.f kj57 t649 t650 t651 0 0 ([] : List (S88))).bind fun t662 => (if t662 = true then ((volutelaw09_wakes.f kj57).bind fun t663 => (some t663)) else (some false))) else (some false))) else (some false)) else (some false))) else (some false)))) = some true := H
                      have A86 := Aside0.mk A860
                      clear A860
                      replace H := Option.bind_eq_some_iff.mp H
                      obtain ⟨⟨t657, t660⟩, A870, H⟩ := H
                      replace H : ((volutekeep_Pile.f kj57 t630 t631 t632 a0_0 a0_1 l0_2).bind fun t661 => (if t661 = true then (if t636 = true then ((voluteref04_Put.f kj57 a0_0 a0_1 l0_2 a1 a2).bind fun bt664 => (if t655 = bt664.2.2.2.2 then (if (t654 != bt664.2.2.2.1) = true then (volutelaw09_PileExact.j3 kj57 a3 t657 t660 true a0_0 a0_1 l0_2 t630 t631 t632 t649 t650 t651) else ((volutekeep_Pile.f kj57 t649 t650 t651 bt664.1 bt664.2.1 bt664.2.2.1).bind fun t672 => (volutelaw09_PileExact.j3 kj57 a3 t657 t660 (!t672) a0_0 a0_1 l0_2 t630 t631 t632 t649 t650 t651))) else (volutelaw09_PileExact.j3 kj57 a3 t657 t660 true a0_0 a0_1 l0_2 t630 t631 t632 t649 t650 t651))) else (if t655 = 1 then (if t660 = 1 then (if t654 = true then (some false) else (if (t657.length : Int) = 0 then ((volutekeep_Pile.f kj57 t649 t650 t651 0 0 ([] : List (S88))).bind fun t662 => (if t662 = true then ((volutelaw09_wakes.f kj57).bind fun t663 => (some t663)) else (some false))) else (some false))) else (some false)) else (some false))) else (some false))) = some true := H
                      have A87 := Aside0.mk A870
                      clear A870
                      replace H := Option.bind_eq_some_iff.mp H
                      obtain ⟨t661, A880, H⟩ := H
                      replace H : (if t661 = true then (if t636 = true then ((voluteref04_Put.f kj57 a0_0 a0_1 l0_2 a1 a2).bind fun bt664 => (if t655 = bt664.2.2.2.2 then (if (t654 != bt664.2.2.2.1) = true then (volutelaw09_PileExact.j3 kj57 a3 t657 t660 true a0_0 a0_1 l0_2 t630 t631 t632 t649 t650 t651) else ((volutekeep_Pile.f kj57 t649 t650 t651 bt664.1 bt664.2.1 bt664.2.2.1).bind fun t672 => (volutelaw09_PileExact.j3 kj57 a3 t657 t660 (!t672) a0_0 a0_1 l0_2 t630 t631 t632 t649 t650 t651))) else (volutelaw09_PileExact.j3 kj57 a3 t657 t660 true a0_0 a0_1 l0_2 t630 t631 t632 t649 t650 t651))) else (if t655 = 1 then (if t660 = 1 then (if t654 = true then (some false) else (if (t657.length : Int) = 0 then ((volutekeep_Pile.f kj57 t649 t650 t651 0 0 ([] : List (S88))).bind fun t662 => (if t662 = true then ((volutelaw09_wakes.f kj57).bind fun t663 => (some t663)) else (some false))) else (some false))) else (some false)) else (some false))) else (some false)) = some true := H
                      have A88 := Aside0.mk A880
                      clear A880
                      by_cases c89 : t661 = true
                      · subst c89
                        have H1 : (if t636 = true then ((voluteref04_Put.f kj57 a0_0 a0_1 l0_2 a1 a2).bind fun bt664 => (if t655 = bt664.2.2.2.2 then (if (t654 != bt664.2.2.2.1) = true then (volutelaw09_PileExact.j3 kj57 a3 t657 t660 true a0_0 a0_1 l0_2 t630 t631 t632 t649 t650 t651) else ((volutekeep_Pile.f kj57 t649 t650 t651 bt664.1 bt664.2.1 bt664.2.2.1).bind fun t672 => (volutelaw09_PileExact.j3 kj57 a3 t657 t660 (!t672) a0_0 a0_1 l0_2 t630 t631 t632 t649 t650 t651))) else (volutelaw09_PileExact.j3 kj57 a3 t657 t660 true a0_0 a0_1 l0_2 t630 t631 t632 t649 t650 t651))) else (if t655 = 1 then (if t660 = 1 then (if t654 = true then (some false) else (if (t657.length : Int) = 0 then ((volutekeep_Pile.f kj57 t649 t650 t651 0 0 ([] : List (S88))).bind fun t662 => (if t662 = true then ((volutelaw09_wakes.f kj57).bind fun t663 => (some t663)) else (some false))) else (some false))) else (some false)) else (some false))) = some true := by rw [if_pos rfl] at H; exact H
                        clear H
                        have H := H1
                        clear H1
                        by_cases c90 : t636 = true
                        · subst c90
                          have H1 : ((voluteref04_Put.f kj57 a0_0 a0_1 l0_2 a1 a2).bind fun bt664 => (if t655 = bt664.2.2.2.2 then (if (t654 != bt664.2.2.2.1) = true then (volutelaw09_PileExact.j3 kj57 a3 t657 t660 true a0_0 a0_1 l0_2 t630 t631 t632 t649 t650 t651) else ((volutekeep_Pile.f kj57 t649 t650 t651 bt664.1 bt664.2.1 bt664.2.2.1).bind fun t672 => (volutelaw09_PileExact.j3 kj57 a3 t657 t660 (!t672) a0_0 a0_1 l0_2 t630 t631 t632 t649 t650 t651))) else (volutelaw09_PileExact.j3 kj57 a3 t657 t660 true a0_0 a0_1 l0_2 t630 t631 t632 t649 t650 t651))) = some true := by rw [if_pos rfl] at H; exact H
                          clear H
                          have H := H1
                          clear H1
                          replace H := Option.bind_eq_some_iff.mp H
                          obtain ⟨⟨t664, t665, t666, t669, t670⟩, A910, H⟩ := H
                          replace H : (if t655 = t670 then (if (t654 != t669) = true then (volutelaw09_PileExact.j3 kj57 a3 t657 t660 true a0_0 a0_1 l0_2 t630 t631 t632 t649 t650 t651) else ((volutekeep_Pile.f kj57 t649 t650 t651 t664 t665 t666).bind fun t672 => (volutelaw09_PileExact.j3 kj57 a3 t657 t660 (!t672) a0_0 a0_1 l0_2 t630 t631 t632 t649 t650 t651))) else (volutelaw09_PileExact.j3 kj57 a3 t657 t660 true a0_0 a0_1 l0_2 t630 t631 t632 t649 t650 t651)) = some true := H
                          have A91 := Aside0.mk A910
                          clear A910
                          have HC92 := Aside0.mk H
                          clear H
                          have hnb93 := NB635_629.out
                          have hnc93 := NB629_635.out
                          have hnb94 := NB635_645.out
                          have hnc94 := NB645_635.out
                          obtain ⟨hcz95_0, hcz95_1, hcz95_2⟩ := zC3 BK635
                          obtain ⟨hfz95_0, hfz95_1, hfz95_2⟩ := zF3 BK635
                          go_upto_region 20 with (first | ((with_reducible refine gate_callee (f := 36) rfl ?_); refine goesL_ (some 87) rfl rfl Try.func36 (by kernel_rfl) rfl #[.agg #[.int .i64 t630, .int .i64 t631, .slice Ao17 t632.length co17], .int .i64 a1, .int .i64 a2] rfl (by (try simp only [List.map_toArray, List.map_cons, List.map_nil]); first | done | rfl | (simp only [List.length_drop, List.length_take]; rfl)) ?_; (with_reducible refine (pile_Put.calls kj57 t630 t631 _ _ t632 a1 a2 t649 t650 t651 t654 t655 _ ?side1 ?side2 A86.out).mono ?_); (case side1 => repeat (first | exact (Kd.R_reads' HO_636002.out).2.2 | (with_reducible refine Kd.C_alloc ?_ _) | (with_reducible refine Kd.C_drewN ?_ _) | (with_reducible refine Kd.C_drew ?_))); (case side2 => exact (Kd.R_reads' HO_636002.out).2.1); rintro e w96 ⟨v652, rfl, ho0, hb⟩; refine ⟨_, rfl, ?_⟩; have HO653 := Aside0.mk (Kd.R_lower (Kd.R_new' (Kd.R_new' ho0 (Kd.R_lt (zr_ HO_636002))) (Kd.R_lt (zr_ HO_646002))) (below_size (zB HB))); replace HO_636002 := Aside0.mk (Kd.R_elder' (zr_ HO_636002) (Kd.R_base ho0) hb); replace HO_646002 := Aside0.mk (Kd.R_elder' (zr_ HO_646002) (Kd.R_base ho0) hb); replace BK629 := zb BK629 hb; replace BK635 := zb BK635 hb; replace BK645 := zb BK645 hb; replace HB := zs HB hb; (try clear hb); (try clear hb2); (try clear hk); (try clear hi); (try clear ho0)) | ((with_reducible refine gate_dst (N := 13) rfl ?_); (try (refine gate_guard (by rfl) ?_; dsimp only)); refine box_event ?hg (N := 13) ?hd (cs := #[.int .i64 0, .int .i64 0, .slice none 0 0]) (t := 67) ?hr ?_; (case hd => rfl); (case hg => rfl); (case hr => first | (go_simp; done) | (go_simp; rfl)); intro gb656 hg w97 hbox hb; replace HO_636002 := zR HO_636002 hb; replace HO_646002 := zR HO_646002 hb; replace HO653 := zR HO653 hb; have BK656 := Aside0.mk (hbox); have GW656 := zg HB hg; have GE656 := zg HB hg; replace HB := zs HB hb; have NB629_656 := zl BK629 hg; have NB656_629 := zr BK629 hg; replace BK629 := zb BK629 hb; have NB635_656 := zl BK635 hg; have NB656_635 := zr BK635 hg; replace BK635 := zb BK635 hb; have NB645_656 := zl BK645 hg; have NB656_645 := zr BK645 hg; replace BK645 := zb BK645 hb; clear hb hbox hg; have hnb98 := NB656_629.out; have hnc98 := NB629_656.out; have hnb99 := NB656_635.out; have hnc99 := NB635_656.out; have hnb100 := NB656_645.out; have hnc100 := NB645_656.out; obtain ⟨hcz101_0, hcz101_1, hcz101_2⟩ := zC3 BK656; obtain ⟨hfz101_0, hfz101_1, hfz101_2⟩ := zF3 BK656; obtain ⟨Ao102, co102, eo102⟩ := Kd.R_slice HO653.out; subst eo102; obtain ⟨hcz103_0, hcz103_1, hcz103_2⟩ := zC3 BK635; obtain ⟨hfz103_0, hfz103_1⟩ := zF2 BK635; have hfz103_2 := blk_frozen BK635.out 2) | ((with_reducible refine gate_callee (f := 43) rfl ?_); refine goesL_ (some 94) rfl rfl Try.func43 (by kernel_rfl) rfl #[.agg #[.int .i64 t630, .int .i64 t631, .slice Ao17 t632.length co17], .int .i64 a3] rfl (by (try simp only [List.map_toArray, List.map_cons, List.map_nil]); first | done | rfl | (simp only [List.length_drop, List.length_take]; rfl)) ?_; (with_reducible refine (pile_Of.calls kj57 t630 t631 _ _ t632 a3 t657 t660 _ ?side1 ?side2 A87.out).mono ?_); (case side1 => refine (Kd.R_reads' (e := 88) (base := w.heap.size) (ok := fun k_ => (some k_ ≠ (.slice Ao45 t641.length co45 : Value).ownBlock ∧ some k_ ≠ (.slice Ao102 t651.length co102 : Value).ownBlock)) (n := t632.length) (c := co17) ?_).2.2; exact (by (with_reducible repeat (first | apply Kd.R_alloc | apply Kd.R_drewN | apply Kd.R_drew)); exact (Kd.R_mono (Kd.R_far (p := ⟨gb656, 2, none⟩) (Kd.R_far (p := ⟨gb656, 1, none⟩) (Kd.R_far (p := ⟨gb656, 0, none⟩) (Kd.R_types HO_636002.out BK656.out (by decide)) (fun _ hk => hk.2) (.int .i64 t649)) (fun _ hk => hk.2) (.int .i64 t650)) (fun _ hk => hk.2) (.slice Ao102 t651.length co102)) (fun _ h_ => h_.1)))); (case side2 => exact (Kd.R_reads' HO_636002.out).2.1); rintro e w104 ⟨v658, rfl, ho0, hb⟩; refine ⟨_, rfl, ?_⟩; have n0_ := Aside0.mk (Kd.R_elder' (by (with_reducible repeat (first | apply Kd.R_alloc | apply Kd.R_drewN | apply Kd.R_drew)); exact (Kd.R_mono (Kd.R_far (p := ⟨gb656, 2, none⟩) (Kd.R_far (p := ⟨gb656, 1, none⟩) (Kd.R_far (p := ⟨gb656, 0, none⟩) (Kd.R_types HO_636002.out BK656.out (by decide)) (fun _ hk => hk.2) (.int .i64 t649)) (fun _ hk => hk.2) (.int .i64 t650)) (fun _ hk => hk.2) (.slice Ao102 t651.length co102)) (fun _ h_ => h_.1))) (Kd.R_base ho0) hb); have n1_ := Aside0.mk (Kd.R_elder' (by (with_reducible repeat (first | apply Kd.R_alloc | apply Kd.R_drewN | apply Kd.R_drew)); exact (Kd.R_mono (Kd.R_far (p := ⟨gb656, 2, none⟩) (Kd.R_far (p := ⟨gb656, 1, none⟩) (Kd.R_far (p := ⟨gb656, 0, none⟩) (Kd.R_types HO_646002.out BK656.out (by decide)) (fun _ hk => hk.2) (.int .i64 t649)) (fun _ hk => hk.2) (.int .i64 t650)) (fun _ hk => hk.2) (.slice Ao102 t651.length co102)) (fun _ h_ => h_.1))) (Kd.R_base ho0) hb); have n2_ := Aside0.mk (Kd.R_elder' (by (with_reducible repeat (first | apply Kd.R_alloc | apply Kd.R_drewN | apply Kd.R_drew)); exact (Kd.R_mono (Kd.R_far (p := ⟨gb656, 2, none⟩) (Kd.R_far (p := ⟨gb656, 1, none⟩) (Kd.R_far (p := ⟨gb656, 0, none⟩) (Kd.R_types HO653.out BK656.out (by decide)) (fun _ hk => hk.2) (.int .i64 t649)) (fun _ hk => hk.2) (.int .i64 t650)) (fun _ hk => hk.2) (.slice Ao102 t651.length co102)) (fun _ h_ => h_.1))) (Kd.R_base ho0) hb); have n3_ := Aside0.mk (Kd.R_lower (Kd.R_new' (Kd.R_new' (Kd.R_new' ho0 (Kd.R_lt (by (with_reducible repeat (first | apply Kd.R_alloc | apply Kd.R_drewN | apply Kd.R_drew)); exact (Kd.R_mono (Kd.R_far (p := ⟨gb656, 2, none⟩) (Kd.R_far (p := ⟨gb656, 1, none⟩) (Kd.R_far (p := ⟨gb656, 0, none⟩) (Kd.R_types HO_636002.out BK656.out (by decide)) (fun _ hk => hk.2) (.int .i64 t649)) (fun _ hk => hk.2) (.int .i64 t650)) (fun _ hk => hk.2) (.slice Ao102 t651.length co102)) (fun _ h_ => h_.1))))) (Kd.R_lt (by (with_reducible repeat (first | apply Kd.R_alloc | apply Kd.R_drewN | apply Kd.R_drew)); exact (Kd.R_mono (Kd.R_far (p := ⟨gb656, 2, none⟩) (Kd.R_far (p := ⟨gb656, 1, none⟩) (Kd.R_far (p := ⟨gb656, 0, none⟩) (Kd.R_types HO_646002.out BK656.out (by decide)) (fun _ hk => hk.2) (.int .i64 t649)) (fun _ hk => hk.2) (.int .i64 t650)) (fun _ hk => hk.2) (.slice Ao102 t651.length co102)) (fun _ h_ => h_.1))))) (Kd.R_lt (by (with_reducible repeat (first | apply Kd.R_alloc | apply Kd.R_drewN | apply Kd.R_drew)); exact (Kd.R_mono (Kd.R_far (p := ⟨gb656, 2, none⟩) (Kd.R_far (p := ⟨gb656, 1, none⟩) (Kd.R_far (p := ⟨gb656, 0, none⟩) (Kd.R_types HO653.out BK656.out (by decide)) (fun _ hk => hk.2) (.int .i64 t649)) (fun _ hk => hk.2) (.int .i64 t650)) (fun _ hk => hk.2) (.slice Ao102 t651.length co102)) (fun _ h_ => h_.1))))) (below_size (zB HB))); have n4_ := zb BK629 hb; have n5_ := zb BK635 hb; have n6_ := zb BK645 hb; have n7_ := Aside0.mk (blk_below (g := gb656) (o := .cells #[.int .i64 t649, .int .i64 t650, .slice Ao102 t651.length co102] 67 (0, 0)) (by (with_reducible repeat (first | refine blk_drewN ?_ _ | refine blk_drew ?_ | refine blk_alloc ?_ _)); refine blk_put (cs := #[.int .i64 t649, .int .i64 t650, .slice none 0 0]) ?_ 2 _ rfl; (with_reducible repeat (first | refine blk_drewN ?_ _ | refine blk_drew ?_ | refine blk_alloc ?_ _)); refine blk_put (cs := #[.int .i64 t649, .int .i64 0, .slice none 0 0]) ?_ 1 _ rfl; (with_reducible repeat (first | refine blk_drewN ?_ _ | refine blk_drew ?_ | refine blk_alloc ?_ _)); refine blk_put (cs := #[.int .i64 0, .int .i64 0, .slice none 0 0]) ?_ 0 _ rfl; (with_reducible repeat (first | refine blk_drewN ?_ _ | refine blk_drew ?_ | refine blk_alloc ?_ _)); exact BK656.out) hb); have n8_ := zs HB hb; clear HO_636002; clear HO_646002; clear HO653; clear BK629; clear BK635; clear BK645; clear BK656; clear HB; have HO_636002 := n0_; have HO_646002 := n1_; have HO653 := n2_; have HO659 := n3_; have BK629 := n4_; have BK635 := n5_; have BK645 := n6_; have BK656 := n7_; have HB := n8_; clear n0_ n1_ n2_ n3_ n4_ n5_ n6_ n7_ n8_; (try clear hb); (try clear hb2); (try clear hk); (try clear hi); (try clear ho0); obtain ⟨hcz105_0, hcz105_1, hcz105_2⟩ := zC3 BK635; obtain ⟨hfz105_0, hfz105_1, hfz105_2⟩ := zF3 BK635; have hnb106 := NB629_645.out; have hnc106 := NB645_629.out; obtain ⟨hcz107_0, hcz107_1, hcz107_2⟩ := zC3 BK629; obtain ⟨hfz107_0, hfz107_1⟩ := zF2 BK629; have hfz107_2 := blk_frozen BK629.out 2) | ((with_reducible refine gate_callee (f := 37) rfl ?_); refine goesL_ (some 99) rfl rfl Try.func37 (by kernel_rfl) rfl #[.agg #[.int .i64 t630, .int .i64 t631, .slice Ao17 t632.length co17], .agg #[.int .i64 a0_0, .int .i64 a0_1, .slice A0_2 l0_2.length c0_2]] rfl (by (try simp only [List.map_toArray, List.map_cons, List.map_nil]); first | done | rfl | (simp only [List.length_drop, List.length_take]; rfl)) ?_; (with_reducible refine (volutekeep_Pile.calls kj57 t630 t631 _ _ t632 a0_0 a0_1 _ _ l0_2 true _ ?side1 ?side2 ?side3 ?side4 A88.out).mono ?_); (case side1 => repeat (first | exact (Kd.R_reads' HO_636002.out).2.2 | (with_reducible refine Kd.C_alloc ?_ _) | (with_reducible refine Kd.C_drewN ?_ _) | (with_reducible refine Kd.C_drew ?_))); (case side2 => exact (Kd.R_reads' HO_636002.out).2.1); (case side3 => repeat (first | exact (Kd.C_below HR0_2.out HB.out) | (with_reducible refine Kd.C_alloc ?_ _) | (with_reducible refine Kd.C_drewN ?_ _) | (with_reducible refine Kd.C_drew ?_))); (case side4 => exact HC0_2.out); rintro e w108 ⟨rfl, hb⟩; refine ⟨_, rfl, ?_⟩; replace HO_636002 := zR HO_636002 hb; replace HO_646002 := zR HO_646002 hb; replace HO653 := zR HO653 hb; replace HO659 := zR HO659 hb; replace BK629 := zb BK629 hb; replace BK635 := zb BK635 hb; replace BK645 := zb BK645 hb; replace BK656 := zb BK656 hb; replace HB := zs HB hb; (try clear hb); (try clear hb2); (try clear hk); (try clear hi); obtain ⟨hcz109_0, hcz109_1, hcz109_2⟩ := zC3 BK629; obtain ⟨hfz109_0, hfz109_1⟩ := zF2 BK629; have hfz109_2 := blk_frozen BK629.out 2) | ((with_reducible refine gate_callee (f := 44) rfl ?_); refine goesL_ (some 130) rfl rfl Try.func44 (by kernel_rfl) rfl #[.agg #[.int .i64 a0_0, .int .i64 a0_1, .slice A0_2 l0_2.length c0_2], .int .i64 a1, .int .i64 a2] rfl (by (try simp only [List.map_toArray, List.map_cons, List.map_nil]); first | done | rfl | (simp only [List.length_drop, List.length_take]; rfl)) ?_; (with_reducible refine (voluteref04_Put.calls kj57 a0_0 a0_1 _ _ l0_2 a1 a2 t664 t665 t666 t669 t670 _ ?side1 ?side2 A91.out).mono ?_); (case side1 => repeat (first | exact (Kd.C_below HR0_2.out HB.out) | (with_reducible refine Kd.C_alloc ?_ _) | (with_reducible refine Kd.C_drewN ?_ _) | (with_reducible refine Kd.C_drew ?_))); (case side2 => exact HC0_2.out); rintro e w110 ⟨v667, rfl, ho0, hb⟩; refine ⟨_, rfl, ?_⟩; have HO668 := Aside0.mk (Kd.R_lower (Kd.R_new' (Kd.R_new' (Kd.R_new' (Kd.R_new' ho0 (Kd.R_lt (zr_ HO_636002))) (Kd.R_lt (zr_ HO_646002))) (Kd.R_lt (zr_ HO653))) (Kd.R_lt (zr_ HO659))) (below_size (zB HB))); replace HO_636002 := Aside0.mk (Kd.R_elder' (zr_ HO_636002) (Kd.R_base ho0) hb); replace HO_646002 := Aside0.mk (Kd.R_elder' (zr_ HO_646002) (Kd.R_base ho0) hb); replace HO653 := Aside0.mk (Kd.R_elder' (zr_ HO653) (Kd.R_base ho0) hb); replace HO659 := Aside0.mk (Kd.R_elder' (zr_ HO659) (Kd.R_base ho0) hb); replace BK629 := zb BK629 hb; replace BK635 := zb BK635 hb; replace BK645 := zb BK645 hb; replace BK656 := zb BK656 hb; replace HB := zs HB hb; (try clear hb); (try clear hb2); (try clear hk); (try clear hi); (try clear ho0)) | ((with_reducible refine gate_dst (N := 17) rfl ?_); (try (refine gate_guard (by rfl) ?_; dsimp only)); refine box_event ?hg (N := 17) ?hd (cs := #[.int .i64 0, .int .i64 0, .slice none 0 0]) (t := 67) ?hr ?_; (case hd => rfl); (case hg => rfl); (case hr => first | (go_simp; done) | (go_simp; rfl)); intro gb671 hg w111 hbox hb; replace HO_636002 := zR HO_636002 hb; replace HO_646002 := zR HO_646002 hb; replace HO653 := zR HO653 hb; replace HO659 := zR HO659 hb; replace HO668 := zR HO668 hb; have BK671 := Aside0.mk (hbox); have GW671 := zg HB hg; have GE671 := zg HB hg; replace HB := zs HB hb; have NB629_671 := zl BK629 hg; have NB671_629 := zr BK629 hg; replace BK629 := zb BK629 hb; have NB635_671 := zl BK635 hg; have NB671_635 := zr BK635 hg; replace BK635 := zb BK635 hb; have NB645_671 := zl BK645 hg; have NB671_645 := zr BK645 hg; replace BK645 := zb BK645 hb; have NB656_671 := zl BK656 hg; have NB671_656 := zr BK656 hg; replace BK656 := zb BK656 hb; clear hb hbox hg; have hnb112 := NB671_629.out; have hnc112 := NB629_671.out; have hnb113 := NB671_635.out; have hnc113 := NB635_671.out; have hnb114 := NB671_645.out; have hnc114 := NB645_671.out; have hnb115 := NB671_656.out; have hnc115 := NB656_671.out; obtain ⟨hcz116_0, hcz116_1, hcz116_2⟩ := zC3 BK671; obtain ⟨hfz116_0, hfz116_1, hfz116_2⟩ := zF3 BK671; obtain ⟨Ao117, co117, eo117⟩ := Kd.R_slice HO668.out; subst eo117))
                          (try simp only [Act.put, List.setIfInBounds_toArray, List.set_cons_zero, List.set_cons_succ])
                          go_cut [147] (fun v147 wc => ∃ (kq : Nat) (x147_91 : Bool), v147 = .bool x147_91 ∧ Aside0 (volutelaw09_PileExact.j3 kq a3 t657 t660 x147_91 a0_0 a0_1 l0_2 t630 t631 t632 t649 t650 t651 = some true) ∧ Aside0 (kq ≤ kj57) ∧ Aside0 (Kd.R k88 88 wc w.heap.size (fun k_ => some k_ ≠ ((.slice Ao17 t632.length co17) : Value).ownBlock ∧ some k_ ≠ ((.slice Ao45 t641.length co45) : Value).ownBlock ∧ some k_ ≠ ((.slice Ao102 t651.length co102) : Value).ownBlock ∧ some k_ ≠ ((.slice Ao117 t666.length co117) : Value).ownBlock) v658 t657) ∧ Aside0 (Kd.R k88 88 wc w.heap.size (fun k_ => some k_ ≠ (v658 : Value).ownBlock ∧ some k_ ≠ ((.slice Ao45 t641.length co45) : Value).ownBlock ∧ some k_ ≠ ((.slice Ao102 t651.length co102) : Value).ownBlock ∧ some k_ ≠ ((.slice Ao117 t666.length co117) : Value).ownBlock) (.slice Ao17 t632.length co17) t632) ∧ Aside0 (Kd.R k88 88 wc w.heap.size (fun k_ => some k_ ≠ (v658 : Value).ownBlock ∧ some k_ ≠ ((.slice Ao17 t632.length co17) : Value).ownBlock ∧ some k_ ≠ ((.slice Ao102 t651.length co102) : Value).ownBlock ∧ some k_ ≠ ((.slice Ao117 t666.length co117) : Value).ownBlock) (.slice Ao45 t641.length co45) t641) ∧ Aside0 (Kd.R k88 88 wc w.heap.size (fun k_ => some k_ ≠ (v658 : Value).ownBlock ∧ some k_ ≠ ((.slice Ao17 t632.length co17) : Value).ownBlock ∧ some k_ ≠ ((.slice Ao45 t641.length co45) : Value).ownBlock ∧ some k_ ≠ ((.slice Ao117 t666.length co117) : Value).ownBlock) (.slice Ao102 t651.length co102) t651) ∧ Aside0 (Kd.R k88 88 wc w.heap.size (fun k_ => some k_ ≠ (v658 : Value).ownBlock ∧ some k_ ≠ ((.slice Ao17 t632.length co17) : Value).ownBlock ∧ some k_ ≠ ((.slice Ao45 t641.length co45) : Value).ownBlock ∧ some k_ ≠ ((.slice Ao102 t651.length co102) : Value).ownBlock) (.slice Ao117 t666.length co117) t666) ∧ Aside0 (wc.heap[gb629]? = some (.cells #[.int .i64 a0_0, .int .i64 a0_1, (.slice A0_2 l0_2.length c0_2)] 67 (0, 0))) ∧ Aside0 (wc.heap[gb635]? = some (.cells #[.int .i64 t630, .int .i64 t631, (.slice Ao17 t632.length co17)] 67 (0, 0))) ∧ Aside0 (wc.heap[gb645]? = some (.cells #[.int .i64 t639, .int .i64 t640, (.slice Ao45 t641.length co45)] 67 (0, 0))) ∧ Aside0 (wc.heap[gb656]? = some (.cells #[.int .i64 t649, .int .i64 t650, (.slice Ao102 t651.length co102)] 67 (0, 0))) ∧ Aside0 (wc.heap[gb671]? = some (.cells #[.int .i64 t664, .int .i64 t665, (.slice Ao117 t666.length co117)] 67 (0, 0))) ∧ Aside0 (Below w.heap.size w wc))
                          case first =>
                            have H := HC92.out
                            clear HC92
                            by_cases c118 : t655 = t670
                            · rw [if_pos c118] at H
                              have c118b0 : (t655 == t670) = true := beq_iff_eq.mpr c118
                              have c118b1 : (t655 != t670) = false := bne_eq_false_iff_eq.mpr c118
                              clear c118
                              (first | rw [c118b0] | (simp only [i64_w, i32_w]; rw [c118b0]) | skip)
                              by_cases c119 : (t654 != t669) = true
                              · rw [if_pos c119] at H
                                have c119b0 : (t654 != t669) = true := c119
                                (try (have c119b1 : decide (t654 = t669) = false := by simpa using c119))
                                (try (have c119b2 : (t654 == t669) = false := by simpa using c119))
                                (try (have c119b3 : ¬ (t654 = t669) := by simpa using c119))
                                clear c119
                                have H' := Aside0.mk H
                                clear H
                                go_wp2
                                go_meet
                                case rel => exact ⟨_, (true), (by first | rfl | (simp; done) | (simp [*]; done)), H', ⟨by have := HJ9.out; have := HJ36.out; have := HJ57.out; first | omega | exact Nat.le_refl _⟩, ⟨by (with_reducible repeat (first | apply Kd.R_alloc | apply Kd.R_drewN | apply Kd.R_drew)); exact Kd.R_mono (Kd.R_far (p := ⟨gb671, 2, none⟩) (Kd.R_far (p := ⟨gb671, 1, none⟩) (Kd.R_far (p := ⟨gb671, 0, none⟩) (Kd.R_types HO659.out BK671.out (by decide)) (fun _ hk => hk.2) (.int .i64 t664)) (fun _ hk => hk.2) (.int .i64 t665)) (fun _ hk => hk.2) (.slice Ao117 t666.length co117)) (fun _ hk => ⟨hk.1.1.1.1.2, ⟨hk.1.1.1.2, ⟨hk.1.1.2, hk.1.2⟩⟩⟩)⟩, ⟨by (with_reducible repeat (first | apply Kd.R_alloc | apply Kd.R_drewN | apply Kd.R_drew)); exact Kd.R_mono (Kd.R_far (p := ⟨gb671, 2, none⟩) (Kd.R_far (p := ⟨gb671, 1, none⟩) (Kd.R_far (p := ⟨gb671, 0, none⟩) (Kd.R_types HO_636002.out BK671.out (by decide)) (fun _ hk => hk.2) (.int .i64 t664)) (fun _ hk => hk.2) (.int .i64 t665)) (fun _ hk => hk.2) (.slice Ao117 t666.length co117)) (fun _ hk => ⟨hk.1.1.2, ⟨hk.1.1.1.1, ⟨hk.1.1.1.2, hk.1.2⟩⟩⟩)⟩, ⟨by (with_reducible repeat (first | apply Kd.R_alloc | apply Kd.R_drewN | apply Kd.R_drew)); exact Kd.R_mono (Kd.R_far (p := ⟨gb671, 2, none⟩) (Kd.R_far (p := ⟨gb671, 1, none⟩) (Kd.R_far (p := ⟨gb671, 0, none⟩) (Kd.R_types HO_646002.out BK671.out (by decide)) (fun _ hk => hk.2) (.int .i64 t664)) (fun _ hk => hk.2) (.int .i64 t665)) (fun _ hk => hk.2) (.slice Ao117 t666.length co117)) (fun _ hk => ⟨hk.1.1.2, ⟨hk.1.1.1.1, ⟨hk.1.1.1.2, hk.1.2⟩⟩⟩)⟩, ⟨by (with_reducible repeat (first | apply Kd.R_alloc | apply Kd.R_drewN | apply Kd.R_drew)); exact Kd.R_mono (Kd.R_far (p := ⟨gb671, 2, none⟩) (Kd.R_far (p := ⟨gb671, 1, none⟩) (Kd.R_far (p := ⟨gb671, 0, none⟩) (Kd.R_types HO653.out BK671.out (by decide)) (fun _ hk => hk.2) (.int .i64 t664)) (fun _ hk => hk.2) (.int .i64 t665)) (fun _ hk => hk.2) (.slice Ao117 t666.length co117)) (fun _ hk => ⟨hk.1.1.2, ⟨hk.1.1.1.1.2, ⟨hk.1.1.1.2, hk.1.2⟩⟩⟩)⟩, ⟨by (with_reducible repeat (first | apply Kd.R_alloc | apply Kd.R_drewN | apply Kd.R_drew)); exact Kd.R_mono (Kd.R_far (p := ⟨gb671, 2, none⟩) (Kd.R_far (p := ⟨gb671, 1, none⟩) (Kd.R_far (p := ⟨gb671, 0, none⟩) (Kd.R_types HO668.out BK671.out (by decide)) (fun _ hk => hk.2) (.int .i64 t664)) (fun _ hk => hk.2) (.int .i64 t665)) (fun _ hk => hk.2) (.slice Ao117 t666.length co117)) (fun _ hk => ⟨hk.1.2, ⟨hk.1.1.1.1.2, ⟨hk.1.1.1.2, hk.1.1.2⟩⟩⟩)⟩, ⟨by (with_reducible repeat (first | refine blk_drewN ?_ _ | refine blk_drew ?_ | refine blk_alloc ?_ _)); refine blk_far ?_ NB629_671.out _; (with_reducible repeat (first | refine blk_drewN ?_ _ | refine blk_drew ?_ | refine blk_alloc ?_ _)); refine blk_far ?_ NB629_671.out _; (with_reducible repeat (first | refine blk_drewN ?_ _ | refine blk_drew ?_ | refine blk_alloc ?_ _)); refine blk_far ?_ NB629_671.out _; (with_reducible repeat (first | refine blk_drewN ?_ _ | refine blk_drew ?_ | refine blk_alloc ?_ _)); exact BK629.out⟩, ⟨by (with_reducible repeat (first | refine blk_drewN ?_ _ | refine blk_drew ?_ | refine blk_alloc ?_ _)); refine blk_far ?_ NB635_671.out _; (with_reducible repeat (first | refine blk_drewN ?_ _ | refine blk_drew ?_ | refine blk_alloc ?_ _)); refine blk_far ?_ NB635_671.out _; (with_reducible repeat (first | refine blk_drewN ?_ _ | refine blk_drew ?_ | refine blk_alloc ?_ _)); refine blk_far ?_ NB635_671.out _; (with_reducible repeat (first | refine blk_drewN ?_ _ | refine blk_drew ?_ | refine blk_alloc ?_ _)); exact BK635.out⟩, ⟨by (with_reducible repeat (first | refine blk_drewN ?_ _ | refine blk_drew ?_ | refine blk_alloc ?_ _)); refine blk_far ?_ NB645_671.out _; (with_reducible repeat (first | refine blk_drewN ?_ _ | refine blk_drew ?_ | refine blk_alloc ?_ _)); refine blk_far ?_ NB645_671.out _; (with_reducible repeat (first | refine blk_drewN ?_ _ | refine blk_drew ?_ | refine blk_alloc ?_ _)); refine blk_far ?_ NB645_671.out _; (with_reducible repeat (first | refine blk_drewN ?_ _ | refine blk_drew ?_ | refine blk_alloc ?_ _)); exact BK645.out⟩, ⟨by (with_reducible repeat (first | refine blk_drewN ?_ _ | refine blk_drew ?_ | refine blk_alloc ?_ _)); refine blk_far ?_ NB656_671.out _; (with_reducible repeat (first | refine blk_drewN ?_ _ | refine blk_drew ?_ | refine blk_alloc ?_ _)); refine blk_far ?_ NB656_671.out _; (with_reducible repeat (first | refine blk_drewN ?_ _ | refine blk_drew ?_ | refine blk_alloc ?_ _)); refine blk_far ?_ NB656_671.out _; (with_reducible repeat (first | refine blk_drewN ?_ _ | refine blk_drew ?_ | refine blk_alloc ?_ _)); exact BK656.out⟩, ⟨by (with_reducible repeat (first | refine blk_drewN ?_ _ | refine blk_drew ?_ | refine blk_alloc ?_ _)); refine blk_put (cs := #[.int .i64 t664, .int .i64 t665, .slice none 0 0]) ?_ 2 _ rfl; (with_reducible repeat (first | refine blk_drewN ?_ _ | refine blk_drew ?_ | refine blk_alloc ?_ _)); refine blk_put (cs := #[.int .i64 t664, .int .i64 0, .slice none 0 0]) ?_ 1 _ rfl; (with_reducible repeat (first | refine blk_drewN ?_ _ | refine blk_drew ?_ | refine blk_alloc ?_ _)); refine blk_put (cs := #[.int .i64 0, .int .i64 0, .slice none 0 0]) ?_ 0 _ rfl; (with_reducible repeat (first | refine blk_drewN ?_ _ | refine blk_drew ?_ | refine blk_alloc ?_ _)); exact BK671.out⟩, ⟨by repeat (first | (with_reducible first | exact HB.out | apply below_alloc | apply pw_below_drewN | apply below_drew1 | refine below_set ?_ GE629.out | refine below_set ?_ GE635.out | refine below_set ?_ GE645.out | refine below_set ?_ GE656.out | refine below_set ?_ GE671.out) | exact HB.out)⟩⟩
                              · rw [if_neg c119] at H
                                have c119b0 : (t654 != t669) = false := by simpa using c119
                                (try (have c119b1 : decide (t654 = t669) = true := by simpa using c119))
                                (try (have c119b2 : (t654 == t669) = true := by simpa using c119))
                                clear c119
                                replace H := Option.bind_eq_some_iff.mp H
                                obtain ⟨t672, A1200, H⟩ := H
                                replace H : (volutelaw09_PileExact.j3 kj57 a3 t657 t660 (!t672) a0_0 a0_1 l0_2 t630 t631 t632 t649 t650 t651) = some true := H
                                have A120 := Aside0.mk A1200
                                clear A1200
                                have H' := Aside0.mk H
                                clear H
                                have hnb121 := NB656_629.out
                                have hnc121 := NB629_656.out
                                have hnb122 := NB656_635.out
                                have hnc122 := NB635_656.out
                                have hnb123 := NB656_645.out
                                have hnc123 := NB645_656.out
                                have hnb124 := NB656_671.out
                                have hnc124 := NB671_656.out
                                obtain ⟨hcz125_0, hcz125_1, hcz125_2⟩ := zC3 BK656
                                obtain ⟨hfz125_0, hfz125_1, hfz125_2⟩ := zF3 BK656
                                have hnb126 := NB671_629.out
                                have hnc126 := NB629_671.out
                                have hnb127 := NB671_635.out
                                have hnc127 := NB635_671.out
                                have hnb128 := NB671_645.out
                                have hnc128 := NB645_671.out
                                obtain ⟨hcz129_0, hcz129_1, hcz129_2⟩ := zC3 BK671
                                obtain ⟨hfz129_0, hfz129_1, hfz129_2⟩ := zF3 BK671
                                go_wp2_with (first | (go_at_call 37; (with_reducible refine (volutekeep_Pile.calls kj57 t649 t650 _ _ t651 t664 t665 _ _ t666 t672 _ ?side1 ?side2 ?side3 ?side4 A120.out).mono ?_); (case side1 => refine (Kd.R_reads' (e := 88) (base := w.heap.size) (ok := fun k_ => ((((True ∧ some k_ ≠ (.slice Ao17 t632.length co17 : Value).ownBlock) ∧ some k_ ≠ (.slice Ao45 t641.length co45 : Value).ownBlock) ∧ some k_ ≠ (v658 : Value).ownBlock) ∧ some k_ ≠ (.slice Ao117 t666.length co117 : Value).ownBlock)) (n := t651.length) (c := co102) ?_).2.2; exact (by (with_reducible repeat (first | apply Kd.R_alloc | apply Kd.R_drewN | apply Kd.R_drew)); exact (Kd.R_mono (Kd.R_far (p := ⟨gb671, 2, none⟩) (Kd.R_far (p := ⟨gb671, 1, none⟩) (Kd.R_far (p := ⟨gb671, 0, none⟩) (Kd.R_types HO653.out BK671.out (by decide)) (fun _ hk => hk.2) (.int .i64 t664)) (fun _ hk => hk.2) (.int .i64 t665)) (fun _ hk => hk.2) (.slice Ao117 t666.length co117)) (fun _ h_ => h_.1)))); (case side2 => exact (Kd.R_reads' HO653.out).2.1); (case side3 => refine (Kd.R_reads' (e := 88) (base := w.heap.size) (ok := fun k_ => ((((True ∧ some k_ ≠ (.slice Ao17 t632.length co17 : Value).ownBlock) ∧ some k_ ≠ (.slice Ao45 t641.length co45 : Value).ownBlock) ∧ some k_ ≠ (.slice Ao102 t651.length co102 : Value).ownBlock) ∧ some k_ ≠ (v658 : Value).ownBlock)) (n := t666.length) (c := co117) ?_).2.2; exact (by (with_reducible repeat (first | apply Kd.R_alloc | apply Kd.R_drewN | apply Kd.R_drew)); exact (Kd.R_mono (Kd.R_far (p := ⟨gb671, 2, none⟩) (Kd.R_far (p := ⟨gb671, 1, none⟩) (Kd.R_far (p := ⟨gb671, 0, none⟩) (Kd.R_types HO668.out BK671.out (by decide)) (fun _ hk => hk.2) (.int .i64 t664)) (fun _ hk => hk.2) (.int .i64 t665)) (fun _ hk => hk.2) (.slice Ao117 t666.length co117)) (fun _ h_ => h_.1)))); (case side4 => exact (Kd.R_reads' HO668.out).2.1); rintro e w130 ⟨rfl, hb⟩; have n0_ := Aside0.mk (Kd.R_below (by (with_reducible repeat (first | apply Kd.R_alloc | apply Kd.R_drewN | apply Kd.R_drew)); exact (Kd.R_mono (Kd.R_far (p := ⟨gb671, 2, none⟩) (Kd.R_far (p := ⟨gb671, 1, none⟩) (Kd.R_far (p := ⟨gb671, 0, none⟩) (Kd.R_types HO_636002.out BK671.out (by decide)) (fun _ hk => hk.2) (.int .i64 t664)) (fun _ hk => hk.2) (.int .i64 t665)) (fun _ hk => hk.2) (.slice Ao117 t666.length co117)) (fun _ h_ => h_.1))) hb); have n1_ := Aside0.mk (Kd.R_below (by (with_reducible repeat (first | apply Kd.R_alloc | apply Kd.R_drewN | apply Kd.R_drew)); exact (Kd.R_mono (Kd.R_far (p := ⟨gb671, 2, none⟩) (Kd.R_far (p := ⟨gb671, 1, none⟩) (Kd.R_far (p := ⟨gb671, 0, none⟩) (Kd.R_types HO_646002.out BK671.out (by decide)) (fun _ hk => hk.2) (.int .i64 t664)) (fun _ hk => hk.2) (.int .i64 t665)) (fun _ hk => hk.2) (.slice Ao117 t666.length co117)) (fun _ h_ => h_.1))) hb); have n2_ := Aside0.mk (Kd.R_below (by (with_reducible repeat (first | apply Kd.R_alloc | apply Kd.R_drewN | apply Kd.R_drew)); exact (Kd.R_mono (Kd.R_far (p := ⟨gb671, 2, none⟩) (Kd.R_far (p := ⟨gb671, 1, none⟩) (Kd.R_far (p := ⟨gb671, 0, none⟩) (Kd.R_types HO653.out BK671.out (by decide)) (fun _ hk => hk.2) (.int .i64 t664)) (fun _ hk => hk.2) (.int .i64 t665)) (fun _ hk => hk.2) (.slice Ao117 t666.length co117)) (fun _ h_ => h_.1))) hb); have n3_ := Aside0.mk (Kd.R_below (by (with_reducible repeat (first | apply Kd.R_alloc | apply Kd.R_drewN | apply Kd.R_drew)); exact (Kd.R_mono (Kd.R_far (p := ⟨gb671, 2, none⟩) (Kd.R_far (p := ⟨gb671, 1, none⟩) (Kd.R_far (p := ⟨gb671, 0, none⟩) (Kd.R_types HO659.out BK671.out (by decide)) (fun _ hk => hk.2) (.int .i64 t664)) (fun _ hk => hk.2) (.int .i64 t665)) (fun _ hk => hk.2) (.slice Ao117 t666.length co117)) (fun _ h_ => h_.1))) hb); have n4_ := Aside0.mk (Kd.R_below (by (with_reducible repeat (first | apply Kd.R_alloc | apply Kd.R_drewN | apply Kd.R_drew)); exact (Kd.R_mono (Kd.R_far (p := ⟨gb671, 2, none⟩) (Kd.R_far (p := ⟨gb671, 1, none⟩) (Kd.R_far (p := ⟨gb671, 0, none⟩) (Kd.R_types HO668.out BK671.out (by decide)) (fun _ hk => hk.2) (.int .i64 t664)) (fun _ hk => hk.2) (.int .i64 t665)) (fun _ hk => hk.2) (.slice Ao117 t666.length co117)) (fun _ h_ => h_.1))) hb); have n5_ := zb BK629 hb; have n6_ := zb BK635 hb; have n7_ := zb BK645 hb; have n8_ := zb BK656 hb; have n9_ := Aside0.mk (blk_below (g := gb671) (o := .cells #[.int .i64 t664, .int .i64 t665, .slice Ao117 t666.length co117] 67 (0, 0)) (by (with_reducible repeat (first | refine blk_drewN ?_ _ | refine blk_drew ?_ | refine blk_alloc ?_ _)); refine blk_put (cs := #[.int .i64 t664, .int .i64 t665, .slice none 0 0]) ?_ 2 _ rfl; (with_reducible repeat (first | refine blk_drewN ?_ _ | refine blk_drew ?_ | refine blk_alloc ?_ _)); refine blk_put (cs := #[.int .i64 t664, .int .i64 0, .slice none 0 0]) ?_ 1 _ rfl; (with_reducible repeat (first | refine blk_drewN ?_ _ | refine blk_drew ?_ | refine blk_alloc ?_ _)); refine blk_put (cs := #[.int .i64 0, .int .i64 0, .slice none 0 0]) ?_ 0 _ rfl; (with_reducible repeat (first | refine blk_drewN ?_ _ | refine blk_drew ?_ | refine blk_alloc ?_ _)); exact BK671.out) hb); have n10_ := zs HB hb; clear HO_636002; clear HO_646002; clear HO653; clear HO659; clear HO668; clear BK629; clear BK635; clear BK645; clear BK656; clear BK671; clear HB; have HO_636002 := n0_; have HO_646002 := n1_; have HO653 := n2_; have HO659 := n3_; have HO668 := n4_; have BK629 := n5_; have BK635 := n6_; have BK645 := n7_; have BK656 := n8_; have BK671 := n9_; have HB := n10_; clear n0_ n1_ n2_ n3_ n4_ n5_ n6_ n7_ n8_ n9_ n10_; (try clear hb); (try clear hb2); (try clear hk); (try clear hi)))
                                go_meet
                                case rel => exact ⟨_, (!t672), (by first | rfl | (simp; done) | (simp [*]; done)), H', ⟨by have := HJ9.out; have := HJ36.out; have := HJ57.out; first | omega | exact Nat.le_refl _⟩, ⟨by (with_reducible repeat (first | apply Kd.R_alloc | apply Kd.R_drewN | apply Kd.R_drew)); exact Kd.R_mono HO659.out (fun _ hk => ⟨hk.1.1.1.2, ⟨hk.1.1.2, ⟨hk.1.2, hk.2⟩⟩⟩)⟩, ⟨by (with_reducible repeat (first | apply Kd.R_alloc | apply Kd.R_drewN | apply Kd.R_drew)); exact Kd.R_mono HO_636002.out (fun _ hk => ⟨hk.1.2, ⟨hk.1.1.1, ⟨hk.1.1.2, hk.2⟩⟩⟩)⟩, ⟨by (with_reducible repeat (first | apply Kd.R_alloc | apply Kd.R_drewN | apply Kd.R_drew)); exact Kd.R_mono HO_646002.out (fun _ hk => ⟨hk.1.2, ⟨hk.1.1.1, ⟨hk.1.1.2, hk.2⟩⟩⟩)⟩, ⟨by (with_reducible repeat (first | apply Kd.R_alloc | apply Kd.R_drewN | apply Kd.R_drew)); exact Kd.R_mono HO653.out (fun _ hk => ⟨hk.1.2, ⟨hk.1.1.1.2, ⟨hk.1.1.2, hk.2⟩⟩⟩)⟩, ⟨by (with_reducible repeat (first | apply Kd.R_alloc | apply Kd.R_drewN | apply Kd.R_drew)); exact Kd.R_mono HO668.out (fun _ hk => ⟨hk.2, ⟨hk.1.1.1.2, ⟨hk.1.1.2, hk.1.2⟩⟩⟩)⟩, ⟨by (with_reducible repeat (first | refine blk_drewN ?_ _ | refine blk_drew ?_ | refine blk_alloc ?_ _)); exact BK629.out⟩, ⟨by (with_reducible repeat (first | refine blk_drewN ?_ _ | refine blk_drew ?_ | refine blk_alloc ?_ _)); exact BK635.out⟩, ⟨by (with_reducible repeat (first | refine blk_drewN ?_ _ | refine blk_drew ?_ | refine blk_alloc ?_ _)); exact BK645.out⟩, ⟨by (with_reducible repeat (first | refine blk_drewN ?_ _ | refine blk_drew ?_ | refine blk_alloc ?_ _)); exact BK656.out⟩, ⟨by (with_reducible repeat (first | refine blk_drewN ?_ _ | refine blk_drew ?_ | refine blk_alloc ?_ _)); exact BK671.out⟩, ⟨by repeat (first | (with_reducible first | exact HB.out | apply below_alloc | apply pw_below_drewN | apply below_drew1 | refine below_set ?_ GE629.out | refine below_set ?_ GE635.out | refine below_set ?_ GE645.out | refine below_set ?_ GE656.out | refine below_set ?_ GE671.out) | exact HB.out)⟩⟩
                            · rw [if_neg c118] at H
                              have c118b0 : (t655 == t670) = false := beq_eq_false_iff_ne.mpr c118
                              have c118b1 : (t655 != t670) = true := bne_iff_ne.mpr c118
                              (first | rw [c118b0] | (simp only [i64_w, i32_w]; rw [c118b0]) | skip)
                              have H' := Aside0.mk H
                              clear H
                              go_wp2
                              go_meet
                              case rel => exact ⟨_, (true), (by first | rfl | (simp; done) | (simp [*]; done)), H', ⟨by have := HJ9.out; have := HJ36.out; have := HJ57.out; first | omega | exact Nat.le_refl _⟩, ⟨by (with_reducible repeat (first | apply Kd.R_alloc | apply Kd.R_drewN | apply Kd.R_drew)); exact Kd.R_mono (Kd.R_far (p := ⟨gb671, 2, none⟩) (Kd.R_far (p := ⟨gb671, 1, none⟩) (Kd.R_far (p := ⟨gb671, 0, none⟩) (Kd.R_types HO659.out BK671.out (by decide)) (fun _ hk => hk.2) (.int .i64 t664)) (fun _ hk => hk.2) (.int .i64 t665)) (fun _ hk => hk.2) (.slice Ao117 t666.length co117)) (fun _ hk => ⟨hk.1.1.1.1.2, ⟨hk.1.1.1.2, ⟨hk.1.1.2, hk.1.2⟩⟩⟩)⟩, ⟨by (with_reducible repeat (first | apply Kd.R_alloc | apply Kd.R_drewN | apply Kd.R_drew)); exact Kd.R_mono (Kd.R_far (p := ⟨gb671, 2, none⟩) (Kd.R_far (p := ⟨gb671, 1, none⟩) (Kd.R_far (p := ⟨gb671, 0, none⟩) (Kd.R_types HO_636002.out BK671.out (by decide)) (fun _ hk => hk.2) (.int .i64 t664)) (fun _ hk => hk.2) (.int .i64 t665)) (fun _ hk => hk.2) (.slice Ao117 t666.length co117)) (fun _ hk => ⟨hk.1.1.2, ⟨hk.1.1.1.1, ⟨hk.1.1.1.2, hk.1.2⟩⟩⟩)⟩, ⟨by (with_reducible repeat (first | apply Kd.R_alloc | apply Kd.R_drewN | apply Kd.R_drew)); exact Kd.R_mono (Kd.R_far (p := ⟨gb671, 2, none⟩) (Kd.R_far (p := ⟨gb671, 1, none⟩) (Kd.R_far (p := ⟨gb671, 0, none⟩) (Kd.R_types HO_646002.out BK671.out (by decide)) (fun _ hk => hk.2) (.int .i64 t664)) (fun _ hk => hk.2) (.int .i64 t665)) (fun _ hk => hk.2) (.slice Ao117 t666.length co117)) (fun _ hk => ⟨hk.1.1.2, ⟨hk.1.1.1.1, ⟨hk.1.1.1.2, hk.1.2⟩⟩⟩)⟩, ⟨by (with_reducible repeat (first | apply Kd.R_alloc | apply Kd.R_drewN | apply Kd.R_drew)); exact Kd.R_mono (Kd.R_far (p := ⟨gb671, 2, none⟩) (Kd.R_far (p := ⟨gb671, 1, none⟩) (Kd.R_far (p := ⟨gb671, 0, none⟩) (Kd.R_types HO653.out BK671.out (by decide)) (fun _ hk => hk.2) (.int .i64 t664)) (fun _ hk => hk.2) (.int .i64 t665)) (fun _ hk => hk.2) (.slice Ao117 t666.length co117)) (fun _ hk => ⟨hk.1.1.2, ⟨hk.1.1.1.1.2, ⟨hk.1.1.1.2, hk.1.2⟩⟩⟩)⟩, ⟨by (with_reducible repeat (first | apply Kd.R_alloc | apply Kd.R_drewN | apply Kd.R_drew)); exact Kd.R_mono (Kd.R_far (p := ⟨gb671, 2, none⟩) (Kd.R_far (p := ⟨gb671, 1, none⟩) (Kd.R_far (p := ⟨gb671, 0, none⟩) (Kd.R_types HO668.out BK671.out (by decide)) (fun _ hk => hk.2) (.int .i64 t664)) (fun _ hk => hk.2) (.int .i64 t665)) (fun _ hk => hk.2) (.slice Ao117 t666.length co117)) (fun _ hk => ⟨hk.1.2, ⟨hk.1.1.1.1.2, ⟨hk.1.1.1.2, hk.1.1.2⟩⟩⟩)⟩, ⟨by (with_reducible repeat (first | refine blk_drewN ?_ _ | refine blk_drew ?_ | refine blk_alloc ?_ _)); refine blk_far ?_ NB629_671.out _; (with_reducible repeat (first | refine blk_drewN ?_ _ | refine blk_drew ?_ | refine blk_alloc ?_ _)); refine blk_far ?_ NB629_671.out _; (with_reducible repeat (first | refine blk_drewN ?_ _ | refine blk_drew ?_ | refine blk_alloc ?_ _)); refine blk_far ?_ NB629_671.out _; (with_reducible repeat (first | refine blk_drewN ?_ _ | refine blk_drew ?_ | refine blk_alloc ?_ _)); exact BK629.out⟩, ⟨by (with_reducible repeat (first | refine blk_drewN ?_ _ | refine blk_drew ?_ | refine blk_alloc ?_ _)); refine blk_far ?_ NB635_671.out _; (with_reducible repeat (first | refine blk_drewN ?_ _ | refine blk_drew ?_ | refine blk_alloc ?_ _)); refine blk_far ?_ NB635_671.out _; (with_reducible repeat (first | refine blk_drewN ?_ _ | refine blk_drew ?_ | refine blk_alloc ?_ _)); refine blk_far ?_ NB635_671.out _; (with_reducible repeat (first | refine blk_drewN ?_ _ | refine blk_drew ?_ | refine blk_alloc ?_ _)); exact BK635.out⟩, ⟨by (with_reducible repeat (first | refine blk_drewN ?_ _ | refine blk_drew ?_ | refine blk_alloc ?_ _)); refine blk_far ?_ NB645_671.out _; (with_reducible repeat (first | refine blk_drewN ?_ _ | refine blk_drew ?_ | refine blk_alloc ?_ _)); refine blk_far ?_ NB645_671.out _; (with_reducible repeat (first | refine blk_drewN ?_ _ | refine blk_drew ?_ | refine blk_alloc ?_ _)); refine blk_far ?_ NB645_671.out _; (with_reducible repeat (first | refine blk_drewN ?_ _ | refine blk_drew ?_ | refine blk_alloc ?_ _)); exact BK645.out⟩, ⟨by (with_reducible repeat (first | refine blk_drewN ?_ _ | refine blk_drew ?_ | refine blk_alloc ?_ _)); refine blk_far ?_ NB656_671.out _; (with_reducible repeat (first | refine blk_drewN ?_ _ | refine blk_drew ?_ | refine blk_alloc ?_ _)); refine blk_far ?_ NB656_671.out _; (with_reducible repeat (first | refine blk_drewN ?_ _ | refine blk_drew ?_ | refine blk_alloc ?_ _)); refine blk_far ?_ NB656_671.out _; (with_reducible repeat (first | refine blk_drewN ?_ _ | refine blk_drew ?_ | refine blk_alloc ?_ _)); exact BK656.out⟩, ⟨by (with_reducible repeat (first | refine blk_drewN ?_ _ | refine blk_drew ?_ | refine blk_alloc ?_ _)); refine blk_put (cs := #[.int .i64 t664, .int .i64 t665, .slice none 0 0]) ?_ 2 _ rfl; (with_reducible repeat (first | refine blk_drewN ?_ _ | refine blk_drew ?_ | refine blk_alloc ?_ _)); refine blk_put (cs := #[.int .i64 t664, .int .i64 0, .slice none 0 0]) ?_ 1 _ rfl; (with_reducible repeat (first | refine blk_drewN ?_ _ | refine blk_drew ?_ | refine blk_alloc ?_ _)); refine blk_put (cs := #[.int .i64 0, .int .i64 0, .slice none 0 0]) ?_ 0 _ rfl; (with_reducible repeat (first | refine blk_drewN ?_ _ | refine blk_drew ?_ | refine blk_alloc ?_ _)); exact BK671.out⟩, ⟨by repeat (first | (with_reducible first | exact HB.out | apply below_alloc | apply pw_below_drewN | apply below_drew1 | refine below_set ?_ GE629.out | refine below_set ?_ GE635.out | refine below_set ?_ GE645.out | refine below_set ?_ GE656.out | refine below_set ?_ GE671.out) | exact HB.out)⟩⟩
                          case rest =>
                            clear HC92
                            try clear c1
                            try clear c2
                            try clear p2
                            try clear c3
                            try clear c4
                            try clear c5
                            try clear c5b0
                            try clear c5b1
                            try clear c6
                            try clear c7
                            try clear c8
                            try clear c9
                            try clear c10
                            try clear c11
                            try clear c12
                            try clear c15
                            try clear c21
                            try clear c21b0
                            try clear c21b1
                            try clear c21b2
                            try clear c22
                            try clear c25
                            try clear c26
                            try clear c30
                            try clear c35
                            try clear c36
                            try clear c37
                            try clear c38
                            try clear c39
                            try clear c40
                            try clear c41
                            try clear c42
                            try clear c43
                            try clear c44
                            try clear c47
                            try clear c48
                            try clear c48b0
                            try clear c49
                            try clear c50
                            try clear c52
                            try clear c53
                            try clear c55
                            try clear c56
                            try clear c59
                            try clear c60
                            try clear c60b0
                            try clear c60b1
                            try clear c62
                            try clear c63
                            try clear c64
                            try clear c66
                            try clear c69
                            try clear c70
                            try clear c72
                            try clear c75
                            try clear c75b0
                            try clear c75b1
                            try clear c77
                            try clear c78
                            try clear c79
                            try clear c82
                            try clear c83
                            try clear c89
                            try clear c90
                            try clear c93
                            try clear c94
                            try clear c98
                            try clear c99
                            try clear c100
                            try clear c106
                            try clear c112
                            try clear c113
                            try clear c114
                            try clear c115
                            try clear c118
                            try clear c118b0
                            try clear c118b1
                            try clear c119
                            try clear c119b0
                            try clear c119b1
                            try clear c119b2
                            try clear c121
                            try clear c122
                            try clear c123
                            try clear c124
                            try clear c126
                            try clear c127
                            try clear c128
                            try clear hcz101_0
                            try clear hcz101_1
                            try clear hcz101_2
                            try clear hcz103_0
                            try clear hcz103_1
                            try clear hcz103_2
                            try clear hcz105_0
                            try clear hcz105_1
                            try clear hcz105_2
                            try clear hcz107_0
                            try clear hcz107_1
                            try clear hcz107_2
                            try clear hcz109_0
                            try clear hcz109_1
                            try clear hcz109_2
                            try clear hcz116_0
                            try clear hcz116_1
                            try clear hcz116_2
                            try clear hcz125_0
                            try clear hcz125_1
                            try clear hcz125_2
                            try clear hcz129_0
                            try clear hcz129_1
                            try clear hcz129_2
                            try clear hcz12_0
                            try clear hcz12_1
                            try clear hcz12_2
                            try clear hcz16_0
                            try clear hcz16_1
                            try clear hcz16_2
                            try clear hcz18_0
                            try clear hcz18_1
                            try clear hcz18_2
                            try clear hcz23_0
                            try clear hcz23_1
                            try clear hcz23_2
                            try clear hcz27_0
                            try clear hcz27_1
                            try clear hcz27_2
                            try clear hcz31_0
                            try clear hcz31_1
                            try clear hcz31_2
                            try clear hcz33_0
                            try clear hcz33_1
                            try clear hcz33_2
                            try clear hcz39_0
                            try clear hcz39_1
                            try clear hcz39_2
                            try clear hcz44_0
                            try clear hcz44_1
                            try clear hcz44_2
                            try clear hcz51_0
                            try clear hcz51_1
                            try clear hcz51_2
                            try clear hcz54_0
                            try clear hcz54_1
                            try clear hcz54_2
                            try clear hcz57_0
                            try clear hcz57_1
                            try clear hcz57_2
                            try clear hcz65_0
                            try clear hcz65_1
                            try clear hcz65_2
                            try clear hcz67_0
                            try clear hcz67_1
                            try clear hcz67_2
                            try clear hcz71_0
                            try clear hcz71_1
                            try clear hcz71_2
                            try clear hcz73_0
                            try clear hcz73_1
                            try clear hcz73_2
                            try clear hcz7_0
                            try clear hcz7_1
                            try clear hcz7_2
                            try clear hcz80_0
                            try clear hcz80_1
                            try clear hcz80_2
                            try clear hcz84_0
                            try clear hcz84_1
                            try clear hcz84_2
                            try clear hcz95_0
                            try clear hcz95_1
                            try clear hcz95_2
                            try clear hfz101_0
                            try clear hfz101_1
                            try clear hfz101_2
                            try clear hfz103_0
                            try clear hfz103_1
                            try clear hfz103_2
                            try clear hfz105_0
                            try clear hfz105_1
                            try clear hfz105_2
                            try clear hfz107_0
                            try clear hfz107_1
                            try clear hfz107_2
                            try clear hfz109_0
                            try clear hfz109_1
                            try clear hfz109_2
                            try clear hfz116_0
                            try clear hfz116_1
                            try clear hfz116_2
                            try clear hfz125_0
                            try clear hfz125_1
                            try clear hfz125_2
                            try clear hfz129_0
                            try clear hfz129_1
                            try clear hfz129_2
                            try clear hfz12_0
                            try clear hfz12_1
                            try clear hfz12_2
                            try clear hfz16_0
                            try clear hfz16_1
                            try clear hfz16_2
                            try clear hfz18_0
                            try clear hfz18_1
                            try clear hfz18_2
                            try clear hfz23_0
                            try clear hfz23_1
                            try clear hfz23_2
                            try clear hfz27_0
                            try clear hfz27_1
                            try clear hfz27_2
                            try clear hfz31_0
                            try clear hfz31_1
                            try clear hfz31_2
                            try clear hfz33_0
                            try clear hfz33_1
                            try clear hfz33_2
                            try clear hfz39_0
                            try clear hfz39_1
                            try clear hfz39_2
                            try clear hfz44_0
                            try clear hfz44_1
                            try clear hfz44_2
                            try clear hfz51_0
                            try clear hfz51_1
                            try clear hfz51_2
                            try clear hfz54_0
                            try clear hfz54_1
                            try clear hfz54_2
                            try clear hfz57_0
                            try clear hfz57_1
                            try clear hfz57_2
                            try clear hfz65_0
                            try clear hfz65_1
                            try clear hfz65_2
                            try clear hfz67_0
                            try clear hfz67_1
                            try clear hfz67_2
                            try clear hfz71_0
                            try clear hfz71_1
                            try clear hfz71_2
                            try clear hfz73_0
                            try clear hfz73_1
                            try clear hfz73_2
                            try clear hfz7_0
                            try clear hfz7_1
                            try clear hfz7_2
                            try clear hfz80_0
                            try clear hfz80_1
                            try clear hfz80_2
                            try clear hfz84_0
                            try clear hfz84_1
                            try clear hfz84_2
                            try clear hfz95_0
                            try clear hfz95_1
                            try clear hfz95_2
                            try clear p2
                            obtain ⟨kq, x147_91, rfl, HA, HJ91, HO_15, HO_636002, HO_646002, HO_657002, HO_672002, BK629, BK635, BK645, BK656, BK671, HB⟩ := hcut
                            as_aux_lemma =>
                             cases kq with
                             | zero => exact absurd HA.out (by simp [volutelaw09_PileExact.j3])
                             | succ kj91 =>
                               have H := HA.out
                               clear HA
                               simp only [volutelaw09_PileExact.j3] at H
                               by_cases c131 : x147_91 = true
                               · subst c131
                                 have H1 : (some false) = some true := by rw [if_pos rfl] at H; exact H
                                 clear H
                                 have H := H1
                                 clear H1
                                 exact absurd (Option.some.inj H) (by decide)
                               · replace c131 := Bool.eq_false_iff.mpr c131
                                 subst c131
                                 have H1 : ((volutekeep_SpoilSyms.f kj91 t651).bind fun t673 => (if a3 < 0 then (volutelaw09_PileExact.j4 kj91 a3 t657 t660 true a0_0 a0_1 l0_2 t630 t631 t632) else (volutelaw09_PileExact.j4 kj91 a3 t657 t660 (decide (a3 ≥ a0_0)) a0_0 a0_1 l0_2 t630 t631 t632))) = some true := by rw [if_neg (show ¬ (false = true) by decide)] at H; exact H
                                 clear H
                                 have H := H1
                                 clear H1
                                 replace H := Option.bind_eq_some_iff.mp H
                                 obtain ⟨t673, A1320, H⟩ := H
                                 replace H : (if a3 < 0 then (volutelaw09_PileExact.j4 kj91 a3 t657 t660 true a0_0 a0_1 l0_2 t630 t631 t632) else (volutelaw09_PileExact.j4 kj91 a3 t657 t660 (decide (a3 ≥ a0_0)) a0_0 a0_1 l0_2 t630 t631 t632)) = some true := H
                                 have A132 := Aside0.mk A1320
                                 clear A1320
                                 have HC133 := Aside0.mk H
                                 clear H
                                 have hnb134 := NB656_629.out
                                 have hnc134 := NB629_656.out
                                 have hnb135 := NB656_635.out
                                 have hnc135 := NB635_656.out
                                 have hnb136 := NB656_645.out
                                 have hnc136 := NB645_656.out
                                 have hnb137 := NB656_671.out
                                 have hnc137 := NB671_656.out
                                 obtain ⟨hcz138_0, hcz138_1, hcz138_2⟩ := zC3 BK656
                                 obtain ⟨hfz138_0, hfz138_1, hfz138_2⟩ := zF3 BK656
                                 go_upto_region 23 with (first | ((with_reducible refine gate_callee (f := 45) rfl ?_); refine goesL_ (some 150) rfl rfl Try.func45 (by kernel_rfl) rfl #[.slice Ao102 t651.length co102] rfl (by (try simp only [List.map_toArray, List.map_cons, List.map_nil]); first | done | rfl | (simp only [List.length_drop, List.length_take]; rfl)) ?_; (with_reducible refine (volutekeep_SpoilSyms.calls kj91 (fun k_ => some k_ = (.slice Ao102 t651.length co102 : Value).ownBlock) (.slice Ao102 t651.length co102) t651 t673 w _ ?side1 ?side2 A132.out).mono ?_); (case side1 => repeat (first | (with_reducible first | exact HB.out | apply below_alloc | apply pw_below_drewN | apply below_drew1 | refine below_set ?_ GE629.out | refine below_set ?_ GE635.out | refine below_set ?_ GE645.out | refine below_set ?_ GE656.out | refine below_set ?_ GE671.out) | exact HB.out)); (case side2 => exact Kd.R_tight rfl HO_657002.out); rintro e w139 ⟨rfl, hy0, hb, hkp⟩; refine ⟨_, rfl, ?_⟩; replace HO_15 := Aside0.mk (Kd.R_mono (ok' := fun k_ => some k_ ≠ (.slice Ao17 t632.length co17 : Value).ownBlock ∧ some k_ ≠ (.slice Ao45 t641.length co45 : Value).ownBlock ∧ some k_ ≠ (.slice Ao102 t651.length co102 : Value).ownBlock ∧ some k_ ≠ (.slice Ao117 t666.length co117 : Value).ownBlock) (Kd.R_keptB (HO_15.out) hkp (fun k_ hk_ hs_ => (hk_.2.2.1) hs_)) (fun k_ hk_ => ⟨hk_.1.1, hk_.1.2.1, hk_.1.2.2.1, hk_.1.2.2.2⟩)); replace HO_636002 := Aside0.mk (Kd.R_mono (ok' := fun k_ => some k_ ≠ (v658 : Value).ownBlock ∧ some k_ ≠ (.slice Ao45 t641.length co45 : Value).ownBlock ∧ some k_ ≠ (.slice Ao102 t651.length co102 : Value).ownBlock ∧ some k_ ≠ (.slice Ao117 t666.length co117 : Value).ownBlock) (Kd.R_keptB (HO_636002.out) hkp (fun k_ hk_ hs_ => (hk_.2.2.1) hs_)) (fun k_ hk_ => ⟨hk_.1.1, hk_.1.2.1, hk_.1.2.2.1, hk_.1.2.2.2⟩)); replace HO_646002 := Aside0.mk (Kd.R_mono (ok' := fun k_ => some k_ ≠ (v658 : Value).ownBlock ∧ some k_ ≠ (.slice Ao17 t632.length co17 : Value).ownBlock ∧ some k_ ≠ (.slice Ao102 t651.length co102 : Value).ownBlock ∧ some k_ ≠ (.slice Ao117 t666.length co117 : Value).ownBlock) (Kd.R_keptB (HO_646002.out) hkp (fun k_ hk_ hs_ => (hk_.2.2.1) hs_)) (fun k_ hk_ => ⟨hk_.1.1, hk_.1.2.1, hk_.1.2.2.1, hk_.1.2.2.2⟩)); replace HO_672002 := Aside0.mk (Kd.R_mono (ok' := fun k_ => some k_ ≠ (v658 : Value).ownBlock ∧ some k_ ≠ (.slice Ao17 t632.length co17 : Value).ownBlock ∧ some k_ ≠ (.slice Ao45 t641.length co45 : Value).ownBlock ∧ some k_ ≠ (.slice Ao102 t651.length co102 : Value).ownBlock) (Kd.R_keptB (HO_672002.out) hkp (fun k_ hk_ hs_ => (hk_.2.2.2) hs_)) (fun k_ hk_ => ⟨hk_.1.1, hk_.1.2.1, hk_.1.2.2.1, hk_.1.2.2.2⟩)); replace BK629 := Aside0.mk (blk_kept (zk BK629) hkp (fun hs_ => (fun e_ => (Kd.R_ne HO_657002.out BK629.out (by decide)) e_) hs_)); replace BK635 := Aside0.mk (blk_kept (zk BK635) hkp (fun hs_ => (fun e_ => (Kd.R_ne HO_657002.out BK635.out (by decide)) e_) hs_)); replace BK645 := Aside0.mk (blk_kept (zk BK645) hkp (fun hs_ => (fun e_ => (Kd.R_ne HO_657002.out BK645.out (by decide)) e_) hs_)); replace BK656 := Aside0.mk (blk_kept (zk BK656) hkp (fun hs_ => (fun e_ => (Kd.R_ne HO_657002.out BK656.out (by decide)) e_) hs_)); replace BK671 := Aside0.mk (blk_kept (zk BK671) hkp (fun hs_ => (fun e_ => (Kd.R_ne HO_657002.out BK671.out (by decide)) e_) hs_)); replace HO_657002 := Aside0.mk (Kd.R_reok rfl hy0 (fun k_ e_ => HO_657002.out.1 k_ e_)); replace HB := Aside0.mk (hb); (try clear hb); (try clear hkp); (try clear hy0)))
                                 (try simp only [Act.put, List.setIfInBounds_toArray, List.set_cons_zero, List.set_cons_succ])
                                 go_cut [158] (fun v158 wc => ∃ (kq : Nat) (x158_132 : Bool), v158 = .bool x158_132 ∧ Aside0 (volutelaw09_PileExact.j4 kq a3 t657 t660 x158_132 a0_0 a0_1 l0_2 t630 t631 t632 = some true) ∧ Aside0 (kq ≤ kj91) ∧ Aside0 (Kd.R k88 88 wc w.heap.size (fun k_ => some k_ ≠ ((.slice Ao17 t632.length co17) : Value).ownBlock ∧ some k_ ≠ ((.slice Ao45 t641.length co45) : Value).ownBlock ∧ some k_ ≠ ((.slice Ao102 t651.length co102) : Value).ownBlock ∧ some k_ ≠ ((.slice Ao117 t666.length co117) : Value).ownBlock) v658 t657) ∧ Aside0 (Kd.R k88 88 wc w.heap.size (fun k_ => some k_ ≠ (v658 : Value).ownBlock ∧ some k_ ≠ ((.slice Ao45 t641.length co45) : Value).ownBlock ∧ some k_ ≠ ((.slice Ao102 t651.length co102) : Value).ownBlock ∧ some k_ ≠ ((.slice Ao117 t666.length co117) : Value).ownBlock) (.slice Ao17 t632.length co17) t632) ∧ Aside0 (Kd.R k88 88 wc w.heap.size (fun k_ => some k_ ≠ (v658 : Value).ownBlock ∧ some k_ ≠ ((.slice Ao17 t632.length co17) : Value).ownBlock ∧ some k_ ≠ ((.slice Ao102 t651.length co102) : Value).ownBlock ∧ some k_ ≠ ((.slice Ao117 t666.length co117) : Value).ownBlock) (.slice Ao45 t641.length co45) t641) ∧ Aside0 (Kd.R k88 88 wc w.heap.size (fun k_ => some k_ ≠ (v658 : Value).ownBlock ∧ some k_ ≠ ((.slice Ao17 t632.length co17) : Value).ownBlock ∧ some k_ ≠ ((.slice Ao45 t641.length co45) : Value).ownBlock ∧ some k_ ≠ ((.slice Ao117 t666.length co117) : Value).ownBlock) (.slice Ao102 t651.length co102) t673) ∧ Aside0 (Kd.R k88 88 wc w.heap.size (fun k_ => some k_ ≠ (v658 : Value).ownBlock ∧ some k_ ≠ ((.slice Ao17 t632.length co17) : Value).ownBlock ∧ some k_ ≠ ((.slice Ao45 t641.length co45) : Value).ownBlock ∧ some k_ ≠ ((.slice Ao102 t651.length co102) : Value).ownBlock) (.slice Ao117 t666.length co117) t666) ∧ Aside0 (wc.heap[gb629]? = some (.cells #[.int .i64 a0_0, .int .i64 a0_1, (.slice A0_2 l0_2.length c0_2)] 67 (0, 0))) ∧ Aside0 (wc.heap[gb635]? = some (.cells #[.int .i64 t630, .int .i64 t631, (.slice Ao17 t632.length co17)] 67 (0, 0))) ∧ Aside0 (wc.heap[gb645]? = some (.cells #[.int .i64 t639, .int .i64 t640, (.slice Ao45 t641.length co45)] 67 (0, 0))) ∧ Aside0 (wc.heap[gb656]? = some (.cells #[.int .i64 t649, .int .i64 t650, (.slice Ao102 t651.length co102)] 67 (0, 0))) ∧ Aside0 (wc.heap[gb671]? = some (.cells #[.int .i64 t664, .int .i64 t665, (.slice Ao117 t666.length co117)] 67 (0, 0))) ∧ Aside0 (Below w.heap.size w wc))
                                 case first =>
                                   have H := HC133.out
                                   clear HC133
                                   by_cases c140 : a3 < 0
                                   · rw [if_pos c140] at H
                                     have c140b0 : decide (a3 < 0) = true := decide_eq_true c140
                                     clear c140
                                     (first | rw [c140b0] | (simp only [i64_w, i32_w]; rw [c140b0]) | skip)
                                     have H' := Aside0.mk H
                                     clear H
                                     go_wp2
                                     go_meet
                                     case rel => exact ⟨_, (true), (by first | rfl | (simp; done) | (simp [*]; done)), H', ⟨by have := HJ9.out; have := HJ36.out; have := HJ57.out; have := HJ91.out; first | omega | exact Nat.le_refl _⟩, ⟨by (with_reducible repeat (first | apply Kd.R_alloc | apply Kd.R_drewN | apply Kd.R_drew)); exact HO_15.out⟩, ⟨by (with_reducible repeat (first | apply Kd.R_alloc | apply Kd.R_drewN | apply Kd.R_drew)); exact HO_636002.out⟩, ⟨by (with_reducible repeat (first | apply Kd.R_alloc | apply Kd.R_drewN | apply Kd.R_drew)); exact HO_646002.out⟩, ⟨by (with_reducible repeat (first | apply Kd.R_alloc | apply Kd.R_drewN | apply Kd.R_drew)); exact HO_657002.out⟩, ⟨by (with_reducible repeat (first | apply Kd.R_alloc | apply Kd.R_drewN | apply Kd.R_drew)); exact HO_672002.out⟩, ⟨by (with_reducible repeat (first | refine blk_drewN ?_ _ | refine blk_drew ?_ | refine blk_alloc ?_ _)); exact BK629.out⟩, ⟨by (with_reducible repeat (first | refine blk_drewN ?_ _ | refine blk_drew ?_ | refine blk_alloc ?_ _)); exact BK635.out⟩, ⟨by (with_reducible repeat (first | refine blk_drewN ?_ _ | refine blk_drew ?_ | refine blk_alloc ?_ _)); exact BK645.out⟩, ⟨by (with_reducible repeat (first | refine blk_drewN ?_ _ | refine blk_drew ?_ | refine blk_alloc ?_ _)); exact BK656.out⟩, ⟨by (with_reducible repeat (first | refine blk_drewN ?_ _ | refine blk_drew ?_ | refine blk_alloc ?_ _)); exact BK671.out⟩, ⟨by repeat (first | (with_reducible first | exact HB.out | apply below_alloc | apply pw_below_drewN | apply below_drew1 | refine below_set ?_ GE629.out | refine below_set ?_ GE635.out | refine below_set ?_ GE645.out | refine below_set ?_ GE656.out | refine below_set ?_ GE671.out) | exact HB.out)⟩⟩
                                   · rw [if_neg c140] at H
                                     have c140b0 : decide (a3 < 0) = false := decide_eq_false c140
                                     clear c140
                                     (first | rw [c140b0] | (simp only [i64_w, i32_w]; rw [c140b0]) | skip)
                                     have H' := Aside0.mk H
                                     clear H
                                     have hnb141 := NB629_635.out
                                     have hnc141 := NB635_629.out
                                     have hnb142 := NB629_645.out
                                     have hnc142 := NB645_629.out
                                     have hnb143 := NB629_656.out
                                     have hnc143 := NB656_629.out
                                     have hnb144 := NB629_671.out
                                     have hnc144 := NB671_629.out
                                     obtain ⟨hcz145_0, hcz145_1, hcz145_2⟩ := zC3 BK629
                                     obtain ⟨hfz145_0, hfz145_1, hfz145_2⟩ := zF3 BK629
                                     go_wp2
                                     go_meet
                                     case rel => exact ⟨_, (decide (a3 ≥ a0_0)), (by first | rfl | (simp; done) | (simp [*]; done)), H', ⟨by have := HJ9.out; have := HJ36.out; have := HJ57.out; have := HJ91.out; first | omega | exact Nat.le_refl _⟩, ⟨by (with_reducible repeat (first | apply Kd.R_alloc | apply Kd.R_drewN | apply Kd.R_drew)); exact HO_15.out⟩, ⟨by (with_reducible repeat (first | apply Kd.R_alloc | apply Kd.R_drewN | apply Kd.R_drew)); exact HO_636002.out⟩, ⟨by (with_reducible repeat (first | apply Kd.R_alloc | apply Kd.R_drewN | apply Kd.R_drew)); exact HO_646002.out⟩, ⟨by (with_reducible repeat (first | apply Kd.R_alloc | apply Kd.R_drewN | apply Kd.R_drew)); exact HO_657002.out⟩, ⟨by (with_reducible repeat (first | apply Kd.R_alloc | apply Kd.R_drewN | apply Kd.R_drew)); exact HO_672002.out⟩, ⟨by (with_reducible repeat (first | refine blk_drewN ?_ _ | refine blk_drew ?_ | refine blk_alloc ?_ _)); exact BK629.out⟩, ⟨by (with_reducible repeat (first | refine blk_drewN ?_ _ | refine blk_drew ?_ | refine blk_alloc ?_ _)); exact BK635.out⟩, ⟨by (with_reducible repeat (first | refine blk_drewN ?_ _ | refine blk_drew ?_ | refine blk_alloc ?_ _)); exact BK645.out⟩, ⟨by (with_reducible repeat (first | refine blk_drewN ?_ _ | refine blk_drew ?_ | refine blk_alloc ?_ _)); exact BK656.out⟩, ⟨by (with_reducible repeat (first | refine blk_drewN ?_ _ | refine blk_drew ?_ | refine blk_alloc ?_ _)); exact BK671.out⟩, ⟨by repeat (first | (with_reducible first | exact HB.out | apply below_alloc | apply pw_below_drewN | apply below_drew1 | refine below_set ?_ GE629.out | refine below_set ?_ GE635.out | refine below_set ?_ GE645.out | refine below_set ?_ GE656.out | refine below_set ?_ GE671.out) | exact HB.out)⟩⟩
                                 case rest =>
                                   clear HC133
                                   try clear c1
                                   try clear c2
                                   try clear p2
                                   try clear c3
                                   try clear c4
                                   try clear c5
                                   try clear c5b0
                                   try clear c5b1
                                   try clear c6
                                   try clear c7
                                   try clear c8
                                   try clear c9
                                   try clear c10
                                   try clear c11
                                   try clear c12
                                   try clear c13
                                   try clear c14
                                   try clear c15
                                   try clear c21
                                   try clear c21b0
                                   try clear c21b1
                                   try clear c21b2
                                   try clear c22
                                   try clear c25
                                   try clear c26
                                   try clear c30
                                   try clear c35
                                   try clear c36
                                   try clear c37
                                   try clear c38
                                   try clear c39
                                   try clear c40
                                   try clear c41
                                   try clear c42
                                   try clear c43
                                   try clear c44
                                   try clear c45
                                   try clear c47
                                   try clear c48
                                   try clear c48b0
                                   try clear c49
                                   try clear c50
                                   try clear c52
                                   try clear c53
                                   try clear c55
                                   try clear c56
                                   try clear c59
                                   try clear c60
                                   try clear c60b0
                                   try clear c60b1
                                   try clear c62
                                   try clear c63
                                   try clear c64
                                   try clear c66
                                   try clear c69
                                   try clear c70
                                   try clear c72
                                   try clear c75
                                   try clear c75b0
                                   try clear c75b1
                                   try clear c77
                                   try clear c78
                                   try clear c79
                                   try clear c82
                                   try clear c83
                                   try clear c89
                                   try clear c90
                                   try clear c93
                                   try clear c94
                                   try clear c98
                                   try clear c99
                                   try clear c100
                                   try clear c106
                                   try clear c112
                                   try clear c113
                                   try clear c114
                                   try clear c115
                                   try clear c118
                                   try clear c118b0
                                   try clear c118b1
                                   try clear c119
                                   try clear c119b0
                                   try clear c119b1
                                   try clear c119b2
                                   try clear c121
                                   try clear c122
                                   try clear c123
                                   try clear c124
                                   try clear c126
                                   try clear c127
                                   try clear c128
                                   try clear c131
                                   try clear c134
                                   try clear c135
                                   try clear c136
                                   try clear c137
                                   try clear c140
                                   try clear c140b0
                                   try clear c141
                                   try clear c142
                                   try clear c143
                                   try clear c144
                                   try clear hcz101_0
                                   try clear hcz101_1
                                   try clear hcz101_2
                                   try clear hcz103_0
                                   try clear hcz103_1
                                   try clear hcz103_2
                                   try clear hcz105_0
                                   try clear hcz105_1
                                   try clear hcz105_2
                                   try clear hcz107_0
                                   try clear hcz107_1
                                   try clear hcz107_2
                                   try clear hcz109_0
                                   try clear hcz109_1
                                   try clear hcz109_2
                                   try clear hcz116_0
                                   try clear hcz116_1
                                   try clear hcz116_2
                                   try clear hcz125_0
                                   try clear hcz125_1
                                   try clear hcz125_2
                                   try clear hcz129_0
                                   try clear hcz129_1
                                   try clear hcz129_2
                                   try clear hcz12_0
                                   try clear hcz12_1
                                   try clear hcz12_2
                                   try clear hcz138_0
                                   try clear hcz138_1
                                   try clear hcz138_2
                                   try clear hcz145_0
                                   try clear hcz145_1
                                   try clear hcz145_2
                                   try clear hcz16_0
                                   try clear hcz16_1
                                   try clear hcz16_2
                                   try clear hcz18_0
                                   try clear hcz18_1
                                   try clear hcz18_2
                                   try clear hcz23_0
                                   try clear hcz23_1
                                   try clear hcz23_2
                                   try clear hcz27_0
                                   try clear hcz27_1
                                   try clear hcz27_2
                                   try clear hcz31_0
                                   try clear hcz31_1
                                   try clear hcz31_2
                                   try clear hcz33_0
                                   try clear hcz33_1
                                   try clear hcz33_2
                                   try clear hcz39_0
                                   try clear hcz39_1
                                   try clear hcz39_2
                                   try clear hcz44_0
                                   try clear hcz44_1
                                   try clear hcz44_2
                                   try clear hcz51_0
                                   try clear hcz51_1
                                   try clear hcz51_2
                                   try clear hcz54_0
                                   try clear hcz54_1
                                   try clear hcz54_2
                                   try clear hcz57_0
                                   try clear hcz57_1
                                   try clear hcz57_2
                                   try clear hcz65_0
                                   try clear hcz65_1
                                   try clear hcz65_2
                                   try clear hcz67_0
                                   try clear hcz67_1
                                   try clear hcz67_2
                                   try clear hcz71_0
                                   try clear hcz71_1
                                   try clear hcz71_2
                                   try clear hcz73_0
                                   try clear hcz73_1
                                   try clear hcz73_2
                                   try clear hcz7_0
                                   try clear hcz7_1
                                   try clear hcz7_2
                                   try clear hcz80_0
                                   try clear hcz80_1
                                   try clear hcz80_2
                                   try clear hcz84_0
                                   try clear hcz84_1
                                   try clear hcz84_2
                                   try clear hcz95_0
                                   try clear hcz95_1
                                   try clear hcz95_2
                                   try clear hfz101_0
                                   try clear hfz101_1
                                   try clear hfz101_2
                                   try clear hfz103_0
                                   try clear hfz103_1
                                   try clear hfz103_2
                                   try clear hfz105_0
                                   try clear hfz105_1
                                   try clear hfz105_2
                                   try clear hfz107_0
                                   try clear hfz107_1
                                   try clear hfz107_2
                                   try clear hfz109_0
                                   try clear hfz109_1
                                   try clear hfz109_2
                                   try clear hfz116_0
                                   try clear hfz116_1
                                   try clear hfz116_2
                                   try clear hfz125_0
                                   try clear hfz125_1
                                   try clear hfz125_2
                                   try clear hfz129_0
                                   try clear hfz129_1
                                   try clear hfz129_2
                                   try clear hfz12_0
                                   try clear hfz12_1
                                   try clear hfz12_2
                                   try clear hfz138_0
                                   try clear hfz138_1
                                   try clear hfz138_2
                                   try clear hfz145_0
                                   try clear hfz145_1
                                   try clear hfz145_2
                                   try clear hfz16_0
                                   try clear hfz16_1
                                   try clear hfz16_2
                                   try clear hfz18_0
                                   try clear hfz18_1
                                   try clear hfz18_2
                                   try clear hfz23_0
                                   try clear hfz23_1
                                   try clear hfz23_2
                                   try clear hfz27_0
                                   try clear hfz27_1
                                   try clear hfz27_2
                                   try clear hfz31_0
                                   try clear hfz31_1
                                   try clear hfz31_2
                                   try clear hfz33_0
                                   try clear hfz33_1
                                   try clear hfz33_2
                                   try clear hfz39_0
                                   try clear hfz39_1
                                   try clear hfz39_2
                                   try clear hfz44_0
                                   try clear hfz44_1
                                   try clear hfz44_2
                                   try clear hfz51_0
                                   try clear hfz51_1
                                   try clear hfz51_2
                                   try clear hfz54_0
                                   try clear hfz54_1
                                   try clear hfz54_2
                                   try clear hfz57_0
                                   try clear hfz57_1
                                   try clear hfz57_2
                                   try clear hfz65_0
                                   try clear hfz65_1
                                   try clear hfz65_2
                                   try clear hfz67_0
                                   try clear hfz67_1
                                   try clear hfz67_2
                                   try clear hfz71_0
                                   try clear hfz71_1
                                   try clear hfz71_2
                                   try clear hfz73_0
                                   try clear hfz73_1
                                   try clear hfz73_2
                                   try clear hfz7_0
                                   try clear hfz7_1
                                   try clear hfz7_2
                                   try clear hfz80_0
                                   try clear hfz80_1
                                   try clear hfz80_2
                                   try clear hfz84_0
                                   try clear hfz84_1
                                   try clear hfz84_2
                                   try clear hfz95_0
                                   try clear hfz95_1
                                   try clear hfz95_2
                                   try clear p2
                                   obtain ⟨kq, x158_132, rfl, HA, HJ132, HO_15, HO_636002, HO_646002, HO_657002, HO_672002, BK629, BK635, BK645, BK656, BK671, HB⟩ := hcut
                                   as_aux_lemma =>
                                    have hl657002_132 := (Kd.R_reads' HO_657002.out).1
                                    rw [hl657002_132] at HO_657002
                                    (try simp only [hl657002_132])
                                    (try simp only [hl657002_132] at BK629)
                                    (try simp only [hl657002_132] at BK635)
                                    (try simp only [hl657002_132] at BK645)
                                    (try simp only [hl657002_132] at BK656)
                                    (try simp only [hl657002_132] at BK671)
                                    (try simp only [hl657002_132] at HO_15)
                                    (try simp only [hl657002_132] at HO_636002)
                                    (try simp only [hl657002_132] at HO_646002)
                                    (try simp only [hl657002_132] at HO_672002)
                                    cases kq with
                                    | zero => exact absurd HA.out (by simp [volutelaw09_PileExact.j4])
                                    | succ kj132 =>
                                      have H := HA.out
                                      clear HA
                                      simp only [volutelaw09_PileExact.j4] at H
                                      by_cases c146 : x158_132 = true
                                      · subst c146
                                        have H1 : (if t660 = 1 then (if (t657.length : Int) = 0 then ((volutelaw09_wakes.f kj132).bind fun t674 => (some t674)) else (some false)) else (some false)) = some true := by rw [if_pos rfl] at H; exact H
                                        clear H
                                        have H := H1
                                        clear H1
                                        by_cases c147 : t660 = 1
                                        · rw [if_pos c147] at H
                                          have c147b0 : (t660 == 1) = true := beq_iff_eq.mpr c147
                                          have c147b1 : (t660 != 1) = false := bne_eq_false_iff_eq.mpr c147
                                          clear c147
                                          by_cases c148 : (t657.length : Int) = 0
                                          · rw [if_pos c148] at H
                                            have c148b0 : ((t657.length : Int) == 0) = true := beq_iff_eq.mpr c148
                                            have c148b1 : ((t657.length : Int) != 0) = false := bne_eq_false_iff_eq.mpr c148
                                            clear c148
                                            replace H := Option.bind_eq_some_iff.mp H
                                            obtain ⟨t674, A1490, H⟩ := H
                                            replace H : (some t674) = some true := H
                                            have A149 := Aside0.mk A1490
                                            clear A1490
                                            obtain rfl : t674 = true := Option.some.inj H
                                            obtain ⟨Ao150, co150, eo150⟩ := Kd.R_slice HO_15.out
                                            subst eo150
                                            go_wp2_with (first | (go_at_call 38; (with_reducible refine (volutelaw09_wakes.calls kj132 _ A149.out).mono ?_); rintro e w151 ⟨rfl, hb⟩; replace HO_15 := zR HO_15 hb; replace HO_636002 := zR HO_636002 hb; replace HO_646002 := zR HO_646002 hb; replace HO_657002 := zR HO_657002 hb; replace HO_672002 := zR HO_672002 hb; replace BK629 := zb BK629 hb; replace BK635 := zb BK635 hb; replace BK645 := zb BK645 hb; replace BK656 := zb BK656 hb; replace BK671 := zb BK671 hb; replace HB := zs HB hb; (try clear hb); (try clear hb2); (try clear hk); (try clear hi)))
                                            go_ret
                                            exact ⟨by first | rfl | (simp [errW_none, errW_some] <;> rfl) | (simp [*, errW_none, errW_some] <;> rfl), by repeat (first | (with_reducible first | exact HB.out | apply below_alloc | apply pw_below_drewN | apply below_drew1 | refine below_set ?_ GE629.out | refine below_set ?_ GE635.out | refine below_set ?_ GE645.out | refine below_set ?_ GE656.out | refine below_set ?_ GE671.out) | exact HB.out)⟩
                                          · rw [if_neg c148] at H
                                            have c148b0 : ((t657.length : Int) == 0) = false := beq_eq_false_iff_ne.mpr c148
                                            have c148b1 : ((t657.length : Int) != 0) = true := bne_iff_ne.mpr c148
                                            have c148b2 : ¬ (t657 = []) := fun h_ => c148 (by rw [h_]; rfl)
                                            exact absurd (Option.some.inj H) (by decide)
                                        · rw [if_neg c147] at H
                                          have c147b0 : (t660 == 1) = false := beq_eq_false_iff_ne.mpr c147
                                          have c147b1 : (t660 != 1) = true := bne_iff_ne.mpr c147
                                          exact absurd (Option.some.inj H) (by decide)
                                      · replace c146 := Bool.eq_false_iff.mpr c146
                                        subst c146
                                        have H1 : (if t660 = 0 then ((voluteref04_Of.f kj132 a0_0 a0_1 l0_2 a3).bind fun t675 => ((volutekeep_Syms.f kj132 t657 t675).bind fun t678 => (volutelaw09_PileExact.j5 kj132 t657 (!t678) a0_0 a0_1 l0_2 t630 t631 t632))) else (volutelaw09_PileExact.j5 kj132 t657 true a0_0 a0_1 l0_2 t630 t631 t632)) = some true := by rw [if_neg (show ¬ (false = true) by decide)] at H; exact H
                                        clear H
                                        have H := H1
                                        clear H1
                                        have HC153 := Aside0.mk H
                                        clear H
                                        go_upto_region 25 with (fail)
                                        go_cut [178] (fun v178 wc => ∃ (kq : Nat) (x178_152 : Bool), v178 = .bool x178_152 ∧ Aside0 (volutelaw09_PileExact.j5 kq t657 x178_152 a0_0 a0_1 l0_2 t630 t631 t632 = some true) ∧ Aside0 (kq ≤ kj132) ∧ Aside0 (Kd.R k88 88 wc w.heap.size (fun k_ => some k_ ≠ ((.slice Ao17 t632.length co17) : Value).ownBlock ∧ some k_ ≠ ((.slice Ao45 t641.length co45) : Value).ownBlock ∧ some k_ ≠ ((.slice Ao102 t673.length co102) : Value).ownBlock ∧ some k_ ≠ ((.slice Ao117 t666.length co117) : Value).ownBlock) v658 t657) ∧ Aside0 (Kd.R k88 88 wc w.heap.size (fun k_ => some k_ ≠ (v658 : Value).ownBlock ∧ some k_ ≠ ((.slice Ao45 t641.length co45) : Value).ownBlock ∧ some k_ ≠ ((.slice Ao102 t673.length co102) : Value).ownBlock ∧ some k_ ≠ ((.slice Ao117 t666.length co117) : Value).ownBlock) (.slice Ao17 t632.length co17) t632) ∧ Aside0 (Kd.R k88 88 wc w.heap.size (fun k_ => some k_ ≠ (v658 : Value).ownBlock ∧ some k_ ≠ ((.slice Ao17 t632.length co17) : Value).ownBlock ∧ some k_ ≠ ((.slice Ao102 t673.length co102) : Value).ownBlock ∧ some k_ ≠ ((.slice Ao117 t666.length co117) : Value).ownBlock) (.slice Ao45 t641.length co45) t641) ∧ Aside0 (Kd.R k88 88 wc w.heap.size (fun k_ => some k_ ≠ (v658 : Value).ownBlock ∧ some k_ ≠ ((.slice Ao17 t632.length co17) : Value).ownBlock ∧ some k_ ≠ ((.slice Ao45 t641.length co45) : Value).ownBlock ∧ some k_ ≠ ((.slice Ao117 t666.length co117) : Value).ownBlock) (.slice Ao102 t673.length co102) t673) ∧ Aside0 (Kd.R k88 88 wc w.heap.size (fun k_ => some k_ ≠ (v658 : Value).ownBlock ∧ some k_ ≠ ((.slice Ao17 t632.length co17) : Value).ownBlock ∧ some k_ ≠ ((.slice Ao45 t641.length co45) : Value).ownBlock ∧ some k_ ≠ ((.slice Ao102 t673.length co102) : Value).ownBlock) (.slice Ao117 t666.length co117) t666) ∧ Aside0 (wc.heap[gb629]? = some (.cells #[.int .i64 a0_0, .int .i64 a0_1, (.slice A0_2 l0_2.length c0_2)] 67 (0, 0))) ∧ Aside0 (wc.heap[gb635]? = some (.cells #[.int .i64 t630, .int .i64 t631, (.slice Ao17 t632.length co17)] 67 (0, 0))) ∧ Aside0 (wc.heap[gb645]? = some (.cells #[.int .i64 t639, .int .i64 t640, (.slice Ao45 t641.length co45)] 67 (0, 0))) ∧ Aside0 (wc.heap[gb656]? = some (.cells #[.int .i64 t649, .int .i64 t650, (.slice Ao102 t673.length co102)] 67 (0, 0))) ∧ Aside0 (wc.heap[gb671]? = some (.cells #[.int .i64 t664, .int .i64 t665, (.slice Ao117 t666.length co117)] 67 (0, 0))) ∧ Aside0 (Below w.heap.size w wc))
                                        case first =>
                                          have H := HC153.out
                                          clear HC153
                                          by_cases c154 : t660 = 0
                                          · rw [if_pos c154] at H
                                            have c154b0 : (t660 == 0) = true := beq_iff_eq.mpr c154
                                            have c154b1 : (t660 != 0) = false := bne_eq_false_iff_eq.mpr c154
                                            clear c154
                                            (first | rw [c154b0] | (simp only [i64_w, i32_w]; rw [c154b0]) | skip)
                                            replace H := Option.bind_eq_some_iff.mp H
                                            obtain ⟨t675, A1550, H⟩ := H
                                            replace H : ((volutekeep_Syms.f kj132 t657 t675).bind fun t678 => (volutelaw09_PileExact.j5 kj132 t657 (!t678) a0_0 a0_1 l0_2 t630 t631 t632)) = some true := H
                                            have A155 := Aside0.mk A1550
                                            clear A1550
                                            replace H := Option.bind_eq_some_iff.mp H
                                            obtain ⟨t678, A1560, H⟩ := H
                                            replace H : (volutelaw09_PileExact.j5 kj132 t657 (!t678) a0_0 a0_1 l0_2 t630 t631 t632) = some true := H
                                            have A156 := Aside0.mk A1560
                                            clear A1560
                                            have H' := Aside0.mk H
                                            clear H
                                            have hnb157 := NB629_635.out
                                            have hnc157 := NB635_629.out
                                            have hnb158 := NB629_645.out
                                            have hnc158 := NB645_629.out
                                            have hnb159 := NB629_656.out
                                            have hnc159 := NB656_629.out
                                            have hnb160 := NB629_671.out
                                            have hnc160 := NB671_629.out
                                            obtain ⟨hcz161_0, hcz161_1, hcz161_2⟩ := zC3 BK629
                                            obtain ⟨hfz161_0, hfz161_1, hfz161_2⟩ := zF3 BK629
                                            go_wp2_with (first | (go_at_call 47; (with_reducible refine (voluteref04_Of.calls kj132 a0_0 a0_1 _ _ l0_2 a3 t675 _ ?side1 ?side2 A155.out).mono ?_); (case side1 => repeat (first | exact (Kd.C_below HR0_2.out HB.out) | (with_reducible refine Kd.C_alloc ?_ _) | (with_reducible refine Kd.C_drewN ?_ _) | (with_reducible refine Kd.C_drew ?_))); (case side2 => exact HC0_2.out); rintro e w162 ⟨v676, rfl, ho0, hb⟩; have HO677 := Aside0.mk (Kd.R_lower (Kd.R_new' (Kd.R_new' (Kd.R_new' (Kd.R_new' (Kd.R_new' ho0 (Kd.R_lt (zr_ HO_15))) (Kd.R_lt (zr_ HO_636002))) (Kd.R_lt (zr_ HO_646002))) (Kd.R_lt (zr_ HO_657002))) (Kd.R_lt (zr_ HO_672002))) (below_size (zB HB))); replace HO_15 := Aside0.mk (Kd.R_elder' (zr_ HO_15) (Kd.R_base ho0) hb); replace HO_636002 := Aside0.mk (Kd.R_elder' (zr_ HO_636002) (Kd.R_base ho0) hb); replace HO_646002 := Aside0.mk (Kd.R_elder' (zr_ HO_646002) (Kd.R_base ho0) hb); replace HO_657002 := Aside0.mk (Kd.R_elder' (zr_ HO_657002) (Kd.R_base ho0) hb); replace HO_672002 := Aside0.mk (Kd.R_elder' (zr_ HO_672002) (Kd.R_base ho0) hb); replace BK629 := zb BK629 hb; replace BK635 := zb BK635 hb; replace BK645 := zb BK645 hb; replace BK656 := zb BK656 hb; replace BK671 := zb BK671 hb; replace HB := zs HB hb; (try clear hb); (try clear hb2); (try clear hk); (try clear hi); (try clear ho0); obtain ⟨Ao163, co163, eo163⟩ := Kd.R_slice HO_15.out; subst eo163; obtain ⟨Ao164, co164, eo164⟩ := Kd.R_slice HO677.out; subst eo164) | (go_at_call 46; (with_reducible refine (volutekeep_Syms.calls kj132 _ _ t657 _ _ t675 t678 _ ?side1 ?side2 ?side3 ?side4 A156.out).mono ?_); (case side1 => repeat (first | exact (Kd.R_reads' HO_15.out).2.2 | (with_reducible refine Kd.C_alloc ?_ _) | (with_reducible refine Kd.C_drewN ?_ _) | (with_reducible refine Kd.C_drew ?_))); (case side2 => exact (Kd.R_reads' HO_15.out).2.1); (case side3 => repeat (first | exact (Kd.R_reads' HO677.out).2.2 | (with_reducible refine Kd.C_alloc ?_ _) | (with_reducible refine Kd.C_drewN ?_ _) | (with_reducible refine Kd.C_drew ?_))); (case side4 => exact (Kd.R_reads' HO677.out).2.1); rintro e w' ⟨rfl, ⟨nd, rfl⟩⟩))
                                            go_meet
                                            case rel => exact ⟨_, (!t678), (by first | rfl | (simp; done) | (simp [*]; done)), H', ⟨by have := HJ9.out; have := HJ36.out; have := HJ57.out; have := HJ91.out; have := HJ132.out; first | omega | exact Nat.le_refl _⟩, ⟨by (try simp only [hl657002_132]); (with_reducible repeat (first | apply Kd.R_alloc | apply Kd.R_drewN | apply Kd.R_drew)); exact Kd.R_mono HO_15.out (fun _ hk => ⟨hk.1.1, ⟨hk.1.2.1, ⟨hk.1.2.2.1, hk.1.2.2.2⟩⟩⟩)⟩, ⟨by (try simp only [hl657002_132]); (with_reducible repeat (first | apply Kd.R_alloc | apply Kd.R_drewN | apply Kd.R_drew)); exact Kd.R_mono HO_636002.out (fun _ hk => ⟨hk.1.1, ⟨hk.1.2.1, ⟨hk.1.2.2.1, hk.1.2.2.2⟩⟩⟩)⟩, ⟨by (try simp only [hl657002_132]); (with_reducible repeat (first | apply Kd.R_alloc | apply Kd.R_drewN | apply Kd.R_drew)); exact Kd.R_mono HO_646002.out (fun _ hk => ⟨hk.1.1, ⟨hk.1.2.1, ⟨hk.1.2.2.1, hk.1.2.2.2⟩⟩⟩)⟩, ⟨by (try simp only [hl657002_132]); (with_reducible repeat (first | apply Kd.R_alloc | apply Kd.R_drewN | apply Kd.R_drew)); exact Kd.R_mono HO_657002.out (fun _ hk => ⟨hk.1.1, ⟨hk.1.2.1, ⟨hk.1.2.2.1, hk.1.2.2.2⟩⟩⟩)⟩, ⟨by (try simp only [hl657002_132]); (with_reducible repeat (first | apply Kd.R_alloc | apply Kd.R_drewN | apply Kd.R_drew)); exact Kd.R_mono HO_672002.out (fun _ hk => ⟨hk.1.1, ⟨hk.1.2.1, ⟨hk.1.2.2.1, hk.1.2.2.2⟩⟩⟩)⟩, ⟨by (try simp only [hl657002_132]); (with_reducible repeat (first | refine blk_drewN ?_ _ | refine blk_drew ?_ | refine blk_alloc ?_ _)); exact BK629.out⟩, ⟨by (try simp only [hl657002_132]); (with_reducible repeat (first | refine blk_drewN ?_ _ | refine blk_drew ?_ | refine blk_alloc ?_ _)); exact BK635.out⟩, ⟨by (try simp only [hl657002_132]); (with_reducible repeat (first | refine blk_drewN ?_ _ | refine blk_drew ?_ | refine blk_alloc ?_ _)); exact BK645.out⟩, ⟨by (try simp only [hl657002_132]); (with_reducible repeat (first | refine blk_drewN ?_ _ | refine blk_drew ?_ | refine blk_alloc ?_ _)); exact BK656.out⟩, ⟨by (try simp only [hl657002_132]); (with_reducible repeat (first | refine blk_drewN ?_ _ | refine blk_drew ?_ | refine blk_alloc ?_ _)); exact BK671.out⟩, ⟨by repeat (first | (with_reducible first | exact HB.out | apply below_alloc | apply pw_below_drewN | apply below_drew1 | refine below_set ?_ GE629.out | refine below_set ?_ GE635.out | refine below_set ?_ GE645.out | refine below_set ?_ GE656.out | refine below_set ?_ GE671.out) | exact HB.out)⟩⟩
                                          · rw [if_neg c154] at H
                                            have c154b0 : (t660 == 0) = false := beq_eq_false_iff_ne.mpr c154
                                            have c154b1 : (t660 != 0) = true := bne_iff_ne.mpr c154
                                            (first | rw [c154b0] | (simp only [i64_w, i32_w]; rw [c154b0]) | skip)
                                            have H' := Aside0.mk H
                                            clear H
                                            go_wp2
                                            go_meet
                                            case rel => exact ⟨_, (true), (by first | rfl | (simp; done) | (simp [*]; done)), H', ⟨by have := HJ9.out; have := HJ36.out; have := HJ57.out; have := HJ91.out; have := HJ132.out; first | omega | exact Nat.le_refl _⟩, ⟨by (try simp only [hl657002_132]); (with_reducible repeat (first | apply Kd.R_alloc | apply Kd.R_drewN | apply Kd.R_drew)); exact HO_15.out⟩, ⟨by (try simp only [hl657002_132]); (with_reducible repeat (first | apply Kd.R_alloc | apply Kd.R_drewN | apply Kd.R_drew)); exact HO_636002.out⟩, ⟨by (try simp only [hl657002_132]); (with_reducible repeat (first | apply Kd.R_alloc | apply Kd.R_drewN | apply Kd.R_drew)); exact HO_646002.out⟩, ⟨by (try simp only [hl657002_132]); (with_reducible repeat (first | apply Kd.R_alloc | apply Kd.R_drewN | apply Kd.R_drew)); exact HO_657002.out⟩, ⟨by (try simp only [hl657002_132]); (with_reducible repeat (first | apply Kd.R_alloc | apply Kd.R_drewN | apply Kd.R_drew)); exact HO_672002.out⟩, ⟨by (try simp only [hl657002_132]); (with_reducible repeat (first | refine blk_drewN ?_ _ | refine blk_drew ?_ | refine blk_alloc ?_ _)); exact BK629.out⟩, ⟨by (try simp only [hl657002_132]); (with_reducible repeat (first | refine blk_drewN ?_ _ | refine blk_drew ?_ | refine blk_alloc ?_ _)); exact BK635.out⟩, ⟨by (try simp only [hl657002_132]); (with_reducible repeat (first | refine blk_drewN ?_ _ | refine blk_drew ?_ | refine blk_alloc ?_ _)); exact BK645.out⟩, ⟨by (try simp only [hl657002_132]); (with_reducible repeat (first | refine blk_drewN ?_ _ | refine blk_drew ?_ | refine blk_alloc ?_ _)); exact BK656.out⟩, ⟨by (try simp only [hl657002_132]); (with_reducible repeat (first | refine blk_drewN ?_ _ | refine blk_drew ?_ | refine blk_alloc ?_ _)); exact BK671.out⟩, ⟨by repeat (first | (with_reducible first | exact HB.out | apply below_alloc | apply pw_below_drewN | apply below_drew1 | refine below_set ?_ GE629.out | refine below_set ?_ GE635.out | refine below_set ?_ GE645.out | refine below_set ?_ GE656.out | refine below_set ?_ GE671.out) | exact HB.out)⟩⟩
                                        case rest =>
                                          clear HC153
                                          try clear c1
                                          try clear c2
                                          try clear p2
                                          try clear c3
                                          try clear c4
                                          try clear c5
                                          try clear c5b0
                                          try clear c5b1
                                          try clear c6
                                          try clear c7
                                          try clear c8
                                          try clear c9
                                          try clear c10
                                          try clear c11
                                          try clear c12
                                          try clear c13
                                          try clear c14
                                          try clear c15
                                          try clear c16
                                          try clear c21
                                          try clear c21b0
                                          try clear c21b1
                                          try clear c21b2
                                          try clear c22
                                          try clear c25
                                          try clear c26
                                          try clear c30
                                          try clear c35
                                          try clear c36
                                          try clear c37
                                          try clear c38
                                          try clear c39
                                          try clear c40
                                          try clear c41
                                          try clear c42
                                          try clear c43
                                          try clear c44
                                          try clear c45
                                          try clear c47
                                          try clear c48
                                          try clear c48b0
                                          try clear c49
                                          try clear c50
                                          try clear c52
                                          try clear c53
                                          try clear c55
                                          try clear c56
                                          try clear c59
                                          try clear c60
                                          try clear c60b0
                                          try clear c60b1
                                          try clear c62
                                          try clear c63
                                          try clear c64
                                          try clear c66
                                          try clear c69
                                          try clear c70
                                          try clear c72
                                          try clear c75
                                          try clear c75b0
                                          try clear c75b1
                                          try clear c77
                                          try clear c78
                                          try clear c79
                                          try clear c82
                                          try clear c83
                                          try clear c89
                                          try clear c90
                                          try clear c93
                                          try clear c94
                                          try clear c98
                                          try clear c99
                                          try clear c100
                                          try clear c106
                                          try clear c112
                                          try clear c113
                                          try clear c114
                                          try clear c115
                                          try clear c118
                                          try clear c118b0
                                          try clear c118b1
                                          try clear c119
                                          try clear c119b0
                                          try clear c119b1
                                          try clear c119b2
                                          try clear c121
                                          try clear c122
                                          try clear c123
                                          try clear c124
                                          try clear c126
                                          try clear c127
                                          try clear c128
                                          try clear c131
                                          try clear c134
                                          try clear c135
                                          try clear c136
                                          try clear c137
                                          try clear c140
                                          try clear c140b0
                                          try clear c141
                                          try clear c142
                                          try clear c143
                                          try clear c144
                                          try clear c146
                                          try clear c147
                                          try clear c147b0
                                          try clear c147b1
                                          try clear c148
                                          try clear c148b0
                                          try clear c148b1
                                          try clear c148b2
                                          try clear c154
                                          try clear c154b0
                                          try clear c154b1
                                          try clear c157
                                          try clear c158
                                          try clear c159
                                          try clear c160
                                          try clear hcz101_0
                                          try clear hcz101_1
                                          try clear hcz101_2
                                          try clear hcz103_0
                                          try clear hcz103_1
                                          try clear hcz103_2
                                          try clear hcz105_0
                                          try clear hcz105_1
                                          try clear hcz105_2
                                          try clear hcz107_0
                                          try clear hcz107_1
                                          try clear hcz107_2
                                          try clear hcz109_0
                                          try clear hcz109_1
                                          try clear hcz109_2
                                          try clear hcz116_0
                                          try clear hcz116_1
                                          try clear hcz116_2
                                          try clear hcz125_0
                                          try clear hcz125_1
                                          try clear hcz125_2
                                          try clear hcz129_0
                                          try clear hcz129_1
                                          try clear hcz129_2
                                          try clear hcz12_0
                                          try clear hcz12_1
                                          try clear hcz12_2
                                          try clear hcz138_0
                                          try clear hcz138_1
                                          try clear hcz138_2
                                          try clear hcz145_0
                                          try clear hcz145_1
                                          try clear hcz145_2
                                          try clear hcz161_0
                                          try clear hcz161_1
                                          try clear hcz161_2
                                          try clear hcz16_0
                                          try clear hcz16_1
                                          try clear hcz16_2
                                          try clear hcz18_0
                                          try clear hcz18_1
                                          try clear hcz18_2
                                          try clear hcz23_0
                                          try clear hcz23_1
                                          try clear hcz23_2
                                          try clear hcz27_0
                                          try clear hcz27_1
                                          try clear hcz27_2
                                          try clear hcz31_0
                                          try clear hcz31_1
                                          try clear hcz31_2
                                          try clear hcz33_0
                                          try clear hcz33_1
                                          try clear hcz33_2
                                          try clear hcz39_0
                                          try clear hcz39_1
                                          try clear hcz39_2
                                          try clear hcz44_0
                                          try clear hcz44_1
                                          try clear hcz44_2
                                          try clear hcz51_0
                                          try clear hcz51_1
                                          try clear hcz51_2
                                          try clear hcz54_0
                                          try clear hcz54_1
                                          try clear hcz54_2
                                          try clear hcz57_0
                                          try clear hcz57_1
                                          try clear hcz57_2
                                          try clear hcz65_0
                                          try clear hcz65_1
                                          try clear hcz65_2
                                          try clear hcz67_0
                                          try clear hcz67_1
                                          try clear hcz67_2
                                          try clear hcz71_0
                                          try clear hcz71_1
                                          try clear hcz71_2
                                          try clear hcz73_0
                                          try clear hcz73_1
                                          try clear hcz73_2
                                          try clear hcz7_0
                                          try clear hcz7_1
                                          try clear hcz7_2
                                          try clear hcz80_0
                                          try clear hcz80_1
                                          try clear hcz80_2
                                          try clear hcz84_0
                                          try clear hcz84_1
                                          try clear hcz84_2
                                          try clear hcz95_0
                                          try clear hcz95_1
                                          try clear hcz95_2
                                          try clear hfz101_0
                                          try clear hfz101_1
                                          try clear hfz101_2
                                          try clear hfz103_0
                                          try clear hfz103_1
                                          try clear hfz103_2
                                          try clear hfz105_0
                                          try clear hfz105_1
                                          try clear hfz105_2
                                          try clear hfz107_0
                                          try clear hfz107_1
                                          try clear hfz107_2
                                          try clear hfz109_0
                                          try clear hfz109_1
                                          try clear hfz109_2
                                          try clear hfz116_0
                                          try clear hfz116_1
                                          try clear hfz116_2
                                          try clear hfz125_0
                                          try clear hfz125_1
                                          try clear hfz125_2
                                          try clear hfz129_0
                                          try clear hfz129_1
                                          try clear hfz129_2
                                          try clear hfz12_0
                                          try clear hfz12_1
                                          try clear hfz12_2
                                          try clear hfz138_0
                                          try clear hfz138_1
                                          try clear hfz138_2
                                          try clear hfz145_0
                                          try clear hfz145_1
                                          try clear hfz145_2
                                          try clear hfz161_0
                                          try clear hfz161_1
                                          try clear hfz161_2
                                          try clear hfz16_0
                                          try clear hfz16_1
                                          try clear hfz16_2
                                          try clear hfz18_0
                                          try clear hfz18_1
                                          try clear hfz18_2
                                          try clear hfz23_0
                                          try clear hfz23_1
                                          try clear hfz23_2
                                          try clear hfz27_0
                                          try clear hfz27_1
                                          try clear hfz27_2
                                          try clear hfz31_0
                                          try clear hfz31_1
                                          try clear hfz31_2
                                          try clear hfz33_0
                                          try clear hfz33_1
                                          try clear hfz33_2
                                          try clear hfz39_0
                                          try clear hfz39_1
                                          try clear hfz39_2
                                          try clear hfz44_0
                                          try clear hfz44_1
                                          try clear hfz44_2
                                          try clear hfz51_0
                                          try clear hfz51_1
                                          try clear hfz51_2
                                          try clear hfz54_0
                                          try clear hfz54_1
                                          try clear hfz54_2
                                          try clear hfz57_0
                                          try clear hfz57_1
                                          try clear hfz57_2
                                          try clear hfz65_0
                                          try clear hfz65_1
                                          try clear hfz65_2
                                          try clear hfz67_0
                                          try clear hfz67_1
                                          try clear hfz67_2
                                          try clear hfz71_0
                                          try clear hfz71_1
                                          try clear hfz71_2
                                          try clear hfz73_0
                                          try clear hfz73_1
                                          try clear hfz73_2
                                          try clear hfz7_0
                                          try clear hfz7_1
                                          try clear hfz7_2
                                          try clear hfz80_0
                                          try clear hfz80_1
                                          try clear hfz80_2
                                          try clear hfz84_0
                                          try clear hfz84_1
                                          try clear hfz84_2
                                          try clear hfz95_0
                                          try clear hfz95_1
                                          try clear hfz95_2
                                          try clear p2
                                          obtain ⟨kq, x178_152, rfl, HA, HJ152, HO_15, HO_636002, HO_646002, HO_657002, HO_672002, BK629, BK635, BK645, BK656, BK671, HB⟩ := hcut
                                          as_aux_lemma =>
                                           cases kq with
                                           | zero => exact absurd HA.out (by simp [volutelaw09_PileExact.j5])
                                           | succ kj152 =>
                                             have H := HA.out
                                             clear HA
                                             simp only [volutelaw09_PileExact.j5] at H
                                             by_cases c165 : x178_152 = true
                                             · subst c165
                                               have H1 : (some false) = some true := by rw [if_pos rfl] at H; exact H
                                               clear H
                                               have H := H1
                                               clear H1
                                               exact absurd (Option.some.inj H) (by decide)
                                             · replace c165 := Bool.eq_false_iff.mpr c165
                                               subst c165
                                               have H1 : ((volutekeep_SpoilSyms.f kj152 t657).bind fun t679 => ((volutekeep_Pile.f kj152 t630 t631 t632 a0_0 a0_1 l0_2).bind fun t680 => (if t680 = true then ((volutelaw09_wakes.f kj152).bind fun t681 => (some t681)) else (some false)))) = some true := by rw [if_neg (show ¬ (false = true) by decide)] at H; exact H
                                               clear H
                                               have H := H1
                                               clear H1
                                               replace H := Option.bind_eq_some_iff.mp H
                                               obtain ⟨t679, A1660, H⟩ := H
                                               replace H : ((volutekeep_Pile.f kj152 t630 t631 t632 a0_0 a0_1 l0_2).bind fun t680 => (if t680 = true then ((volutelaw09_wakes.f kj152).bind fun t681 => (some t681)) else (some false))) = some true := H
                                               have A166 := Aside0.mk A1660
                                               clear A1660
                                               replace H := Option.bind_eq_some_iff.mp H
                                               obtain ⟨t680, A1670, H⟩ := H
                                               replace H : (if t680 = true then ((volutelaw09_wakes.f kj152).bind fun t681 => (some t681)) else (some false)) = some true := H
                                               have A167 := Aside0.mk A1670
                                               clear A1670
                                               by_cases c168 : t680 = true
                                               · subst c168
                                                 have H1 : ((volutelaw09_wakes.f kj152).bind fun t681 => (some t681)) = some true := by rw [if_pos rfl] at H; exact H
                                                 clear H
                                                 have H := H1
                                                 clear H1
                                                 replace H := Option.bind_eq_some_iff.mp H
                                                 obtain ⟨t681, A1690, H⟩ := H
                                                 replace H : (some t681) = some true := H
                                                 have A169 := Aside0.mk A1690
                                                 clear A1690
                                                 obtain rfl : t681 = true := Option.some.inj H
                                                 obtain ⟨Ao170, co170, eo170⟩ := Kd.R_slice HO_15.out
                                                 subst eo170
                                                 go_wp2_with (first | ((with_reducible refine gate_callee (f := 45) rfl ?_); refine goesL_ (some 180) rfl rfl Try.func45 (by kernel_rfl) rfl #[.slice Ao170 t657.length co170] rfl (by (try simp only [List.map_toArray, List.map_cons, List.map_nil]); first | done | rfl | (simp only [List.length_drop, List.length_take]; rfl)) ?_; (with_reducible refine (volutekeep_SpoilSyms.calls kj152 (fun k_ => some k_ = (.slice Ao170 t657.length co170 : Value).ownBlock) (.slice Ao170 t657.length co170) t657 t679 w _ ?side1 ?side2 A166.out).mono ?_); (case side1 => repeat (first | (with_reducible first | exact HB.out | apply below_alloc | apply pw_below_drewN | apply below_drew1 | refine below_set ?_ GE629.out | refine below_set ?_ GE635.out | refine below_set ?_ GE645.out | refine below_set ?_ GE656.out | refine below_set ?_ GE671.out) | exact HB.out)); (case side2 => exact Kd.R_tight rfl HO_15.out); rintro e w171 ⟨rfl, hy0, hb, hkp⟩; refine ⟨_, rfl, ?_⟩; replace HO_636002 := Aside0.mk (Kd.R_mono (ok' := fun k_ => some k_ ≠ (.slice Ao170 t657.length co170 : Value).ownBlock ∧ some k_ ≠ (.slice Ao45 t641.length co45 : Value).ownBlock ∧ some k_ ≠ (.slice Ao102 t673.length co102 : Value).ownBlock ∧ some k_ ≠ (.slice Ao117 t666.length co117 : Value).ownBlock) (Kd.R_keptB (HO_636002.out) hkp (fun k_ hk_ hs_ => (hk_.1) hs_)) (fun k_ hk_ => ⟨hk_.1.1, hk_.1.2.1, hk_.1.2.2.1, hk_.1.2.2.2⟩)); replace HO_646002 := Aside0.mk (Kd.R_mono (ok' := fun k_ => some k_ ≠ (.slice Ao170 t657.length co170 : Value).ownBlock ∧ some k_ ≠ (.slice Ao17 t632.length co17 : Value).ownBlock ∧ some k_ ≠ (.slice Ao102 t673.length co102 : Value).ownBlock ∧ some k_ ≠ (.slice Ao117 t666.length co117 : Value).ownBlock) (Kd.R_keptB (HO_646002.out) hkp (fun k_ hk_ hs_ => (hk_.1) hs_)) (fun k_ hk_ => ⟨hk_.1.1, hk_.1.2.1, hk_.1.2.2.1, hk_.1.2.2.2⟩)); replace HO_657002 := Aside0.mk (Kd.R_mono (ok' := fun k_ => some k_ ≠ (.slice Ao170 t657.length co170 : Value).ownBlock ∧ some k_ ≠ (.slice Ao17 t632.length co17 : Value).ownBlock ∧ some k_ ≠ (.slice Ao45 t641.length co45 : Value).ownBlock ∧ some k_ ≠ (.slice Ao117 t666.length co117 : Value).ownBlock) (Kd.R_keptB (HO_657002.out) hkp (fun k_ hk_ hs_ => (hk_.1) hs_)) (fun k_ hk_ => ⟨hk_.1.1, hk_.1.2.1, hk_.1.2.2.1, hk_.1.2.2.2⟩)); replace HO_672002 := Aside0.mk (Kd.R_mono (ok' := fun k_ => some k_ ≠ (.slice Ao170 t657.length co170 : Value).ownBlock ∧ some k_ ≠ (.slice Ao17 t632.length co17 : Value).ownBlock ∧ some k_ ≠ (.slice Ao45 t641.length co45 : Value).ownBlock ∧ some k_ ≠ (.slice Ao102 t673.length co102 : Value).ownBlock) (Kd.R_keptB (HO_672002.out) hkp (fun k_ hk_ hs_ => (hk_.1) hs_)) (fun k_ hk_ => ⟨hk_.1.1, hk_.1.2.1, hk_.1.2.2.1, hk_.1.2.2.2⟩)); replace BK629 := Aside0.mk (blk_kept (zk BK629) hkp (fun hs_ => (fun e_ => (Kd.R_ne HO_15.out BK629.out (by decide)) e_) hs_)); replace BK635 := Aside0.mk (blk_kept (zk BK635) hkp (fun hs_ => (fun e_ => (Kd.R_ne HO_15.out BK635.out (by decide)) e_) hs_)); replace BK645 := Aside0.mk (blk_kept (zk BK645) hkp (fun hs_ => (fun e_ => (Kd.R_ne HO_15.out BK645.out (by decide)) e_) hs_)); replace BK656 := Aside0.mk (blk_kept (zk BK656) hkp (fun hs_ => (fun e_ => (Kd.R_ne HO_15.out BK656.out (by decide)) e_) hs_)); replace BK671 := Aside0.mk (blk_kept (zk BK671) hkp (fun hs_ => (fun e_ => (Kd.R_ne HO_15.out BK671.out (by decide)) e_) hs_)); replace HO_15 := Aside0.mk (Kd.R_reok rfl hy0 (fun k_ e_ => HO_15.out.1 k_ e_)); replace HB := Aside0.mk (hb); (try clear hb); (try clear hkp); (try clear hy0); have hnb172 := NB635_629.out; have hnc172 := NB629_635.out; have hnb173 := NB635_645.out; have hnc173 := NB645_635.out; have hnb174 := NB635_656.out; have hnc174 := NB656_635.out; have hnb175 := NB635_671.out; have hnc175 := NB671_635.out; obtain ⟨hcz176_0, hcz176_1, hcz176_2⟩ := zC3 BK635; obtain ⟨hfz176_0, hfz176_1, hfz176_2⟩ := zF3 BK635; have hnb177 := NB629_645.out; have hnc177 := NB645_629.out; have hnb178 := NB629_656.out; have hnc178 := NB656_629.out; have hnb179 := NB629_671.out; have hnc179 := NB671_629.out; obtain ⟨hcz180_0, hcz180_1, hcz180_2⟩ := zC3 BK629; obtain ⟨hfz180_0, hfz180_1⟩ := zF2 BK629; have hfz180_2 := blk_frozen BK629.out 2) | ((with_reducible refine gate_callee (f := 37) rfl ?_); refine goesL_ (some 183) rfl rfl Try.func37 (by kernel_rfl) rfl #[.agg #[.int .i64 t630, .int .i64 t631, .slice Ao17 t632.length co17], .agg #[.int .i64 a0_0, .int .i64 a0_1, .slice A0_2 l0_2.length c0_2]] rfl (by (try simp only [List.map_toArray, List.map_cons, List.map_nil]); first | done | rfl | (simp only [List.length_drop, List.length_take]; rfl)) ?_; (with_reducible refine (volutekeep_Pile.calls kj152 t630 t631 _ _ t632 a0_0 a0_1 _ _ l0_2 true _ ?side1 ?side2 ?side3 ?side4 A167.out).mono ?_); (case side1 => repeat (first | exact (Kd.R_reads' HO_636002.out).2.2 | (with_reducible refine Kd.C_alloc ?_ _) | (with_reducible refine Kd.C_drewN ?_ _) | (with_reducible refine Kd.C_drew ?_))); (case side2 => exact (Kd.R_reads' HO_636002.out).2.1); (case side3 => repeat (first | exact (Kd.C_below HR0_2.out HB.out) | (with_reducible refine Kd.C_alloc ?_ _) | (with_reducible refine Kd.C_drewN ?_ _) | (with_reducible refine Kd.C_drew ?_))); (case side4 => exact HC0_2.out); rintro e w181 ⟨rfl, hb⟩; refine ⟨_, rfl, ?_⟩; replace HO_15 := zR HO_15 hb; replace HO_636002 := zR HO_636002 hb; replace HO_646002 := zR HO_646002 hb; replace HO_657002 := zR HO_657002 hb; replace HO_672002 := zR HO_672002 hb; replace BK629 := zb BK629 hb; replace BK635 := zb BK635 hb; replace BK645 := zb BK645 hb; replace BK656 := zb BK656 hb; replace BK671 := zb BK671 hb; replace HB := zs HB hb; (try clear hb); (try clear hb2); (try clear hk); (try clear hi)) | (go_at_call 38; (with_reducible refine (volutelaw09_wakes.calls kj152 _ A169.out).mono ?_); rintro e w182 ⟨rfl, hb⟩; replace HO_15 := zR HO_15 hb; replace HO_636002 := zR HO_636002 hb; replace HO_646002 := zR HO_646002 hb; replace HO_657002 := zR HO_657002 hb; replace HO_672002 := zR HO_672002 hb; replace BK629 := zb BK629 hb; replace BK635 := zb BK635 hb; replace BK645 := zb BK645 hb; replace BK656 := zb BK656 hb; replace BK671 := zb BK671 hb; replace HB := zs HB hb; (try clear hb); (try clear hb2); (try clear hk); (try clear hi)))
                                                 go_ret
                                                 exact ⟨by first | rfl | (simp [errW_none, errW_some] <;> rfl) | (simp [*, errW_none, errW_some] <;> rfl), by repeat (first | (with_reducible first | exact HB.out | apply below_alloc | apply pw_below_drewN | apply below_drew1 | refine below_set ?_ GE629.out | refine below_set ?_ GE635.out | refine below_set ?_ GE645.out | refine below_set ?_ GE656.out | refine below_set ?_ GE671.out) | exact HB.out)⟩
                                               · replace c168 := Bool.eq_false_iff.mpr c168
                                                 subst c168
                                                 have H1 : (some false) = some true := by rw [if_neg (show ¬ (false = true) by decide)] at H; exact H
                                                 clear H
                                                 have H := H1
                                                 clear H1
                                                 exact absurd (Option.some.inj H) (by decide)
                        · replace c90 := Bool.eq_false_iff.mpr c90
                          subst c90
                          have H1 : (if t655 = 1 then (if t660 = 1 then (if t654 = true then (some false) else (if (t657.length : Int) = 0 then ((volutekeep_Pile.f kj57 t649 t650 t651 0 0 ([] : List (S88))).bind fun t662 => (if t662 = true then ((volutelaw09_wakes.f kj57).bind fun t663 => (some t663)) else (some false))) else (some false))) else (some false)) else (some false)) = some true := by rw [if_neg (show ¬ (false = true) by decide)] at H; exact H
                          clear H
                          have H := H1
                          clear H1
                          by_cases c195 : t655 = 1
                          · rw [if_pos c195] at H
                            have c195b0 : (t655 == 1) = true := beq_iff_eq.mpr c195
                            have c195b1 : (t655 != 1) = false := bne_eq_false_iff_eq.mpr c195
                            clear c195
                            by_cases c196 : t660 = 1
                            · rw [if_pos c196] at H
                              have c196b0 : (t660 == 1) = true := beq_iff_eq.mpr c196
                              have c196b1 : (t660 != 1) = false := bne_eq_false_iff_eq.mpr c196
                              clear c196
                              by_cases c197 : t654 = true
                              · subst c197
                                have H1 : (some false) = some true := by rw [if_pos rfl] at H; exact H
                                clear H
                                have H := H1
                                clear H1
                                exact absurd (Option.some.inj H) (by decide)
                              · replace c197 := Bool.eq_false_iff.mpr c197
                                subst c197
                                have H1 : (if (t657.length : Int) = 0 then ((volutekeep_Pile.f kj57 t649 t650 t651 0 0 ([] : List (S88))).bind fun t662 => (if t662 = true then ((volutelaw09_wakes.f kj57).bind fun t663 => (some t663)) else (some false))) else (some false)) = some true := by rw [if_neg (show ¬ (false = true) by decide)] at H; exact H
                                clear H
                                have H := H1
                                clear H1
                                by_cases c214 : (t657.length : Int) = 0
                                · rw [if_pos c214] at H
                                  have c214b0 : ((t657.length : Int) == 0) = true := beq_iff_eq.mpr c214
                                  have c214b1 : ((t657.length : Int) != 0) = false := bne_eq_false_iff_eq.mpr c214
                                  clear c214
                                  replace H := Option.bind_eq_some_iff.mp H
                                  obtain ⟨t662, A2150, H⟩ := H
                                  replace H : (if t662 = true then ((volutelaw09_wakes.f kj57).bind fun t663 => (some t663)) else (some false)) = some true := H
                                  have A215 := Aside0.mk A2150
                                  clear A2150
                                  by_cases c216 : t662 = true
                                  · subst c216
                                    have H1 : ((volutelaw09_wakes.f kj57).bind fun t663 => (some t663)) = some true := by rw [if_pos rfl] at H; exact H
                                    clear H
                                    have H := H1
                                    clear H1
                                    replace H := Option.bind_eq_some_iff.mp H
                                    obtain ⟨t663, A2170, H⟩ := H
                                    replace H : (some t663) = some true := H
                                    have A217 := Aside0.mk A2170
                                    clear A2170
                                    obtain rfl : t663 = true := Option.some.inj H
                                    have hnb218 := NB635_629.out
                                    have hnc218 := NB629_635.out
                                    have hnb219 := NB635_645.out
                                    have hnc219 := NB645_635.out
                                    obtain ⟨hcz220_0, hcz220_1, hcz220_2⟩ := zC3 BK635
                                    obtain ⟨hfz220_0, hfz220_1, hfz220_2⟩ := zF3 BK635
                                    go_wp2_with (first | ((with_reducible refine gate_callee (f := 36) rfl ?_); refine goesL_ (some 87) rfl rfl Try.func36 (by kernel_rfl) rfl #[.agg #[.int .i64 t630, .int .i64 t631, .slice Ao17 t632.length co17], .int .i64 a1, .int .i64 a2] rfl (by (try simp only [List.map_toArray, List.map_cons, List.map_nil]); first | done | rfl | (simp only [List.length_drop, List.length_take]; rfl)) ?_; (with_reducible refine (pile_Put.calls kj57 t630 t631 _ _ t632 a1 a2 t649 t650 t651 false t655 _ ?side1 ?side2 A86.out).mono ?_); (case side1 => repeat (first | exact (Kd.R_reads' HO_636002.out).2.2 | (with_reducible refine Kd.C_alloc ?_ _) | (with_reducible refine Kd.C_drewN ?_ _) | (with_reducible refine Kd.C_drew ?_))); (case side2 => exact (Kd.R_reads' HO_636002.out).2.1); rintro e w221 ⟨v652, rfl, ho0, hb⟩; refine ⟨_, rfl, ?_⟩; have HO653 := Aside0.mk (Kd.R_lower (Kd.R_new' (Kd.R_new' ho0 (Kd.R_lt (zr_ HO_636002))) (Kd.R_lt (zr_ HO_646002))) (below_size (zB HB))); replace HO_636002 := Aside0.mk (Kd.R_elder' (zr_ HO_636002) (Kd.R_base ho0) hb); replace HO_646002 := Aside0.mk (Kd.R_elder' (zr_ HO_646002) (Kd.R_base ho0) hb); replace BK629 := zb BK629 hb; replace BK635 := zb BK635 hb; replace BK645 := zb BK645 hb; replace HB := zs HB hb; (try clear hb); (try clear hb2); (try clear hk); (try clear hi); (try clear ho0)) | ((with_reducible refine gate_dst (N := 13) rfl ?_); (try (refine gate_guard (by rfl) ?_; dsimp only)); refine box_event ?hg (N := 13) ?hd (cs := #[.int .i64 0, .int .i64 0, .slice none 0 0]) (t := 67) ?hr ?_; (case hd => rfl); (case hg => rfl); (case hr => first | (go_simp; done) | (go_simp; rfl)); intro gb656 hg w222 hbox hb; replace HO_636002 := zR HO_636002 hb; replace HO_646002 := zR HO_646002 hb; replace HO653 := zR HO653 hb; have BK656 := Aside0.mk (hbox); have GW656 := zg HB hg; have GE656 := zg HB hg; replace HB := zs HB hb; have NB629_656 := zl BK629 hg; have NB656_629 := zr BK629 hg; replace BK629 := zb BK629 hb; have NB635_656 := zl BK635 hg; have NB656_635 := zr BK635 hg; replace BK635 := zb BK635 hb; have NB645_656 := zl BK645 hg; have NB656_645 := zr BK645 hg; replace BK645 := zb BK645 hb; clear hb hbox hg; have hnb223 := NB656_629.out; have hnc223 := NB629_656.out; have hnb224 := NB656_635.out; have hnc224 := NB635_656.out; have hnb225 := NB656_645.out; have hnc225 := NB645_656.out; obtain ⟨hcz226_0, hcz226_1, hcz226_2⟩ := zC3 BK656; obtain ⟨hfz226_0, hfz226_1, hfz226_2⟩ := zF3 BK656; obtain ⟨Ao227, co227, eo227⟩ := Kd.R_slice HO653.out; subst eo227; obtain ⟨hcz228_0, hcz228_1, hcz228_2⟩ := zC3 BK635; obtain ⟨hfz228_0, hfz228_1⟩ := zF2 BK635; have hfz228_2 := blk_frozen BK635.out 2) | ((with_reducible refine gate_callee (f := 43) rfl ?_); refine goesL_ (some 94) rfl rfl Try.func43 (by kernel_rfl) rfl #[.agg #[.int .i64 t630, .int .i64 t631, .slice Ao17 t632.length co17], .int .i64 a3] rfl (by (try simp only [List.map_toArray, List.map_cons, List.map_nil]); first | done | rfl | (simp only [List.length_drop, List.length_take]; rfl)) ?_; (with_reducible refine (pile_Of.calls kj57 t630 t631 _ _ t632 a3 t657 t660 _ ?side1 ?side2 A87.out).mono ?_); (case side1 => refine (Kd.R_reads' (e := 88) (base := w.heap.size) (ok := fun k_ => (some k_ ≠ (.slice Ao45 t641.length co45 : Value).ownBlock ∧ some k_ ≠ (.slice Ao227 t651.length co227 : Value).ownBlock)) (n := t632.length) (c := co17) ?_).2.2; exact (by (with_reducible repeat (first | apply Kd.R_alloc | apply Kd.R_drewN | apply Kd.R_drew)); exact (Kd.R_mono (Kd.R_far (p := ⟨gb656, 2, none⟩) (Kd.R_far (p := ⟨gb656, 1, none⟩) (Kd.R_far (p := ⟨gb656, 0, none⟩) (Kd.R_types HO_636002.out BK656.out (by decide)) (fun _ hk => hk.2) (.int .i64 t649)) (fun _ hk => hk.2) (.int .i64 t650)) (fun _ hk => hk.2) (.slice Ao227 t651.length co227)) (fun _ h_ => h_.1)))); (case side2 => exact (Kd.R_reads' HO_636002.out).2.1); rintro e w229 ⟨v658, rfl, ho0, hb⟩; refine ⟨_, rfl, ?_⟩; have n0_ := Aside0.mk (Kd.R_elder' (by (with_reducible repeat (first | apply Kd.R_alloc | apply Kd.R_drewN | apply Kd.R_drew)); exact (Kd.R_mono (Kd.R_far (p := ⟨gb656, 2, none⟩) (Kd.R_far (p := ⟨gb656, 1, none⟩) (Kd.R_far (p := ⟨gb656, 0, none⟩) (Kd.R_types HO_636002.out BK656.out (by decide)) (fun _ hk => hk.2) (.int .i64 t649)) (fun _ hk => hk.2) (.int .i64 t650)) (fun _ hk => hk.2) (.slice Ao227 t651.length co227)) (fun _ h_ => h_.1))) (Kd.R_base ho0) hb); have n1_ := Aside0.mk (Kd.R_elder' (by (with_reducible repeat (first | apply Kd.R_alloc | apply Kd.R_drewN | apply Kd.R_drew)); exact (Kd.R_mono (Kd.R_far (p := ⟨gb656, 2, none⟩) (Kd.R_far (p := ⟨gb656, 1, none⟩) (Kd.R_far (p := ⟨gb656, 0, none⟩) (Kd.R_types HO_646002.out BK656.out (by decide)) (fun _ hk => hk.2) (.int .i64 t649)) (fun _ hk => hk.2) (.int .i64 t650)) (fun _ hk => hk.2) (.slice Ao227 t651.length co227)) (fun _ h_ => h_.1))) (Kd.R_base ho0) hb); have n2_ := Aside0.mk (Kd.R_elder' (by (with_reducible repeat (first | apply Kd.R_alloc | apply Kd.R_drewN | apply Kd.R_drew)); exact (Kd.R_mono (Kd.R_far (p := ⟨gb656, 2, none⟩) (Kd.R_far (p := ⟨gb656, 1, none⟩) (Kd.R_far (p := ⟨gb656, 0, none⟩) (Kd.R_types HO653.out BK656.out (by decide)) (fun _ hk => hk.2) (.int .i64 t649)) (fun _ hk => hk.2) (.int .i64 t650)) (fun _ hk => hk.2) (.slice Ao227 t651.length co227)) (fun _ h_ => h_.1))) (Kd.R_base ho0) hb); have n3_ := Aside0.mk (Kd.R_lower (Kd.R_new' (Kd.R_new' (Kd.R_new' ho0 (Kd.R_lt (by (with_reducible repeat (first | apply Kd.R_alloc | apply Kd.R_drewN | apply Kd.R_drew)); exact (Kd.R_mono (Kd.R_far (p := ⟨gb656, 2, none⟩) (Kd.R_far (p := ⟨gb656, 1, none⟩) (Kd.R_far (p := ⟨gb656, 0, none⟩) (Kd.R_types HO_636002.out BK656.out (by decide)) (fun _ hk => hk.2) (.int .i64 t649)) (fun _ hk => hk.2) (.int .i64 t650)) (fun _ hk => hk.2) (.slice Ao227 t651.length co227)) (fun _ h_ => h_.1))))) (Kd.R_lt (by (with_reducible repeat (first | apply Kd.R_alloc | apply Kd.R_drewN | apply Kd.R_drew)); exact (Kd.R_mono (Kd.R_far (p := ⟨gb656, 2, none⟩) (Kd.R_far (p := ⟨gb656, 1, none⟩) (Kd.R_far (p := ⟨gb656, 0, none⟩) (Kd.R_types HO_646002.out BK656.out (by decide)) (fun _ hk => hk.2) (.int .i64 t649)) (fun _ hk => hk.2) (.int .i64 t650)) (fun _ hk => hk.2) (.slice Ao227 t651.length co227)) (fun _ h_ => h_.1))))) (Kd.R_lt (by (with_reducible repeat (first | apply Kd.R_alloc | apply Kd.R_drewN | apply Kd.R_drew)); exact (Kd.R_mono (Kd.R_far (p := ⟨gb656, 2, none⟩) (Kd.R_far (p := ⟨gb656, 1, none⟩) (Kd.R_far (p := ⟨gb656, 0, none⟩) (Kd.R_types HO653.out BK656.out (by decide)) (fun _ hk => hk.2) (.int .i64 t649)) (fun _ hk => hk.2) (.int .i64 t650)) (fun _ hk => hk.2) (.slice Ao227 t651.length co227)) (fun _ h_ => h_.1))))) (below_size (zB HB))); have n4_ := zb BK629 hb; have n5_ := zb BK635 hb; have n6_ := zb BK645 hb; have n7_ := Aside0.mk (blk_below (g := gb656) (o := .cells #[.int .i64 t649, .int .i64 t650, .slice Ao227 t651.length co227] 67 (0, 0)) (by (with_reducible repeat (first | refine blk_drewN ?_ _ | refine blk_drew ?_ | refine blk_alloc ?_ _)); refine blk_put (cs := #[.int .i64 t649, .int .i64 t650, .slice none 0 0]) ?_ 2 _ rfl; (with_reducible repeat (first | refine blk_drewN ?_ _ | refine blk_drew ?_ | refine blk_alloc ?_ _)); refine blk_put (cs := #[.int .i64 t649, .int .i64 0, .slice none 0 0]) ?_ 1 _ rfl; (with_reducible repeat (first | refine blk_drewN ?_ _ | refine blk_drew ?_ | refine blk_alloc ?_ _)); refine blk_put (cs := #[.int .i64 0, .int .i64 0, .slice none 0 0]) ?_ 0 _ rfl; (with_reducible repeat (first | refine blk_drewN ?_ _ | refine blk_drew ?_ | refine blk_alloc ?_ _)); exact BK656.out) hb); have n8_ := zs HB hb; clear HO_636002; clear HO_646002; clear HO653; clear BK629; clear BK635; clear BK645; clear BK656; clear HB; have HO_636002 := n0_; have HO_646002 := n1_; have HO653 := n2_; have HO659 := n3_; have BK629 := n4_; have BK635 := n5_; have BK645 := n6_; have BK656 := n7_; have HB := n8_; clear n0_ n1_ n2_ n3_ n4_ n5_ n6_ n7_ n8_; (try clear hb); (try clear hb2); (try clear hk); (try clear hi); (try clear ho0); obtain ⟨hcz230_0, hcz230_1, hcz230_2⟩ := zC3 BK635; obtain ⟨hfz230_0, hfz230_1, hfz230_2⟩ := zF3 BK635; have hnb231 := NB629_645.out; have hnc231 := NB645_629.out; obtain ⟨hcz232_0, hcz232_1, hcz232_2⟩ := zC3 BK629; obtain ⟨hfz232_0, hfz232_1⟩ := zF2 BK629; have hfz232_2 := blk_frozen BK629.out 2) | ((with_reducible refine gate_callee (f := 37) rfl ?_); refine goesL_ (some 99) rfl rfl Try.func37 (by kernel_rfl) rfl #[.agg #[.int .i64 t630, .int .i64 t631, .slice Ao17 t632.length co17], .agg #[.int .i64 a0_0, .int .i64 a0_1, .slice A0_2 l0_2.length c0_2]] rfl (by (try simp only [List.map_toArray, List.map_cons, List.map_nil]); first | done | rfl | (simp only [List.length_drop, List.length_take]; rfl)) ?_; (with_reducible refine (volutekeep_Pile.calls kj57 t630 t631 _ _ t632 a0_0 a0_1 _ _ l0_2 true _ ?side1 ?side2 ?side3 ?side4 A88.out).mono ?_); (case side1 => repeat (first | exact (Kd.R_reads' HO_636002.out).2.2 | (with_reducible refine Kd.C_alloc ?_ _) | (with_reducible refine Kd.C_drewN ?_ _) | (with_reducible refine Kd.C_drew ?_))); (case side2 => exact (Kd.R_reads' HO_636002.out).2.1); (case side3 => repeat (first | exact (Kd.C_below HR0_2.out HB.out) | (with_reducible refine Kd.C_alloc ?_ _) | (with_reducible refine Kd.C_drewN ?_ _) | (with_reducible refine Kd.C_drew ?_))); (case side4 => exact HC0_2.out); rintro e w233 ⟨rfl, hb⟩; refine ⟨_, rfl, ?_⟩; replace HO_636002 := zR HO_636002 hb; replace HO_646002 := zR HO_646002 hb; replace HO653 := zR HO653 hb; replace HO659 := zR HO659 hb; replace BK629 := zb BK629 hb; replace BK635 := zb BK635 hb; replace BK645 := zb BK645 hb; replace BK656 := zb BK656 hb; replace HB := zs HB hb; (try clear hb); (try clear hb2); (try clear hk); (try clear hi); obtain ⟨Ao234, co234, eo234⟩ := Kd.R_slice HO659.out; subst eo234; obtain ⟨hcz235_0, hcz235_1, hcz235_2⟩ := zC3 BK656; obtain ⟨hfz235_0, hfz235_1⟩ := zF2 BK656; have hfz235_2 := blk_frozen BK656.out 2) | (go_at_call 37; (refine (volutekeep_Pile.calls kj57 t649 t650 _ _ t651 0 0 _ _ ([] : List (S88)) true _ ?side1 ?side2 ?side3 ?side4 A215.out).mono ?_); (case side1 => repeat (first | exact (Kd.R_reads' HO653.out).2.2 | (with_reducible refine Kd.C_alloc ?_ _) | (with_reducible refine Kd.C_drewN ?_ _) | (with_reducible refine Kd.C_drew ?_))); (case side2 => exact (Kd.R_reads' HO653.out).2.1); (case side3 => exact Kd.C_nil _ _); (case side4 => exact Nat.le_refl _); rintro e w236 ⟨rfl, hb⟩; replace HO_636002 := zR HO_636002 hb; replace HO_646002 := zR HO_646002 hb; replace HO653 := zR HO653 hb; replace HO659 := zR HO659 hb; replace BK629 := zb BK629 hb; replace BK635 := zb BK635 hb; replace BK645 := zb BK645 hb; replace BK656 := zb BK656 hb; replace HB := zs HB hb; (try clear hb); (try clear hb2); (try clear hk); (try clear hi)) | (go_at_call 38; (with_reducible refine (volutelaw09_wakes.calls kj57 _ A217.out).mono ?_); rintro e w237 ⟨rfl, hb⟩; replace HO_636002 := zR HO_636002 hb; replace HO_646002 := zR HO_646002 hb; replace HO653 := zR HO653 hb; replace HO659 := zR HO659 hb; replace BK629 := zb BK629 hb; replace BK635 := zb BK635 hb; replace BK645 := zb BK645 hb; replace BK656 := zb BK656 hb; replace HB := zs HB hb; (try clear hb); (try clear hb2); (try clear hk); (try clear hi)))
                                    go_ret
                                    exact ⟨by first | rfl | (simp [errW_none, errW_some] <;> rfl) | (simp [*, errW_none, errW_some] <;> rfl), by repeat (first | (with_reducible first | exact HB.out | apply below_alloc | apply pw_below_drewN | apply below_drew1 | refine below_set ?_ GE629.out | refine below_set ?_ GE635.out | refine below_set ?_ GE645.out | refine below_set ?_ GE656.out) | exact HB.out)⟩
                                  · replace c216 := Bool.eq_false_iff.mpr c216
                                    subst c216
                                    have H1 : (some false) = some true := by rw [if_neg (show ¬ (false = true) by decide)] at H; exact H
                                    clear H
                                    have H := H1
                                    clear H1
                                    exact absurd (Option.some.inj H) (by decide)
                                · rw [if_neg c214] at H
                                  have c214b0 : ((t657.length : Int) == 0) = false := beq_eq_false_iff_ne.mpr c214
                                  have c214b1 : ((t657.length : Int) != 0) = true := bne_iff_ne.mpr c214
                                  have c214b2 : ¬ (t657 = []) := fun h_ => c214 (by rw [h_]; rfl)
                                  exact absurd (Option.some.inj H) (by decide)
                            · rw [if_neg c196] at H
                              have c196b0 : (t660 == 1) = false := beq_eq_false_iff_ne.mpr c196
                              have c196b1 : (t660 != 1) = true := bne_iff_ne.mpr c196
                              exact absurd (Option.some.inj H) (by decide)
                          · rw [if_neg c195] at H
                            have c195b0 : (t655 == 1) = false := beq_eq_false_iff_ne.mpr c195
                            have c195b1 : (t655 != 1) = true := bne_iff_ne.mpr c195
                            exact absurd (Option.some.inj H) (by decide)
                      · replace c89 := Bool.eq_false_iff.mpr c89
                        subst c89
                        have H1 : (some false) = some true := by rw [if_neg (show ¬ (false = true) by decide)] at H; exact H
                        clear H
                        have H := H1
                        clear H1
                        exact absurd (Option.some.inj H) (by decide)
end Go.Proofs.Ytfhihhfckpolpaa.P
