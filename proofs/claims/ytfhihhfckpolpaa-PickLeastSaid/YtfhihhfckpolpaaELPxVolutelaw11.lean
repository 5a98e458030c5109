/- What the law's proof needs: PxVolutelaw11. -/
import Derived.Test.YtfhihhfckpolpaaELPx0
import Derived.Test.YtfhihhfckpolpaaELPxPick
import Derived.Test.YtfhihhfckpolpaaELShort
namespace Go.Proofs.Ytfhihhfckpolpaa.P
open Go.RowKit Go.Proofs.YtfhihhfckpolpaaW.PrintWords Go.Proofs.YtfhihhfckpolpaaW.PrintLast Go.Proofs.YtfhihhfckpolpaaW.PrintMore
attribute [local go_sem] max2_int min2_int max_two min_two max_three min_three max_four min_four   -- for this text's walks alone
set_option linter.unusedVariables false
set_option linter.unusedSimpArgs false
def volutelaw11_wakes.f (k : Nat)  : Option (Bool) := (pick_Pick.f k (([(⟨1, 0, 3, ([] : List Int)⟩ : S57), (⟨2, 0, 1, ([] : List Int)⟩ : S57), (⟨3, 0, 2, ([] : List Int)⟩ : S57), (⟨4, 0, 1, ([] : List Int)⟩ : S57)] : List (S57))) 2).bind fun bt278 => (if bt278.2.2 = 0 then (if bt278.2.1 = 2 then (if (bt278.1.length : Int) = 2 then (if 0 < (bt278.1.length : Int) then (if ((rd_T57 bt278.1 0).f0) = 2 then (if 1 < (bt278.1.length : Int) then (some (((rd_T57 bt278.1 1).f0) == 4)) else (none)) else (some false)) else (none)) else (some false)) else (some false)) else (some false))
theorem volutelaw11_wakes.mono : ∀ k, LeO (volutelaw11_wakes.f k ) (volutelaw11_wakes.f (k + 1) ) := by
  intro  k
  unfold volutelaw11_wakes.f
  repeat' first
      | (with_reducible exact pick_Pick.mono _ _ _)
      | (with_reducible exact LeO.refl _)
      | (with_reducible exact LeO.none _)
      | (with_reducible refine LeO.ite ?_ ?_)
      | (with_reducible refine LeO.bind ?_ (fun _ => ?_))
      | exact pick_Pick.mono _ _ _
      | exact LeO.none _
      | refine LeO.ite ?_ ?_
      | refine LeO.bind ?_ (fun _ => ?_)
set_option maxHeartbeats 8000000 in
set_option maxRecDepth 100000 in
theorem volutelaw11_wakes.calls (k : Nat)  (w : World) (h : volutelaw11_wakes.f k  = some true) :
    Calls Try.prog 32 #[] w fun e w' => e = .returned (.bool true) ∧ Below w.heap.size w w' := by
  have hu57 := Try.underlying57
  have HB := Aside0.mk (Below.refl w.heap.size w)
  have H : ((pick_Pick.f k (([(⟨1, 0, 3, ([] : List Int)⟩ : S57), (⟨2, 0, 1, ([] : List Int)⟩ : S57), (⟨3, 0, 2, ([] : List Int)⟩ : S57), (⟨4, 0, 1, ([] : List Int)⟩ : S57)] : List (S57))) 2).bind fun bt278 => (if bt278.2.2 = 0 then (if bt278.2.1 = 2 then (if (bt278.1.length : Int) = 2 then (if 0 < (bt278.1.length : Int) then (if ((rd_T57 bt278.1 0).f0) = 2 then (if 1 < (bt278.1.length : Int) then (some (((rd_T57 bt278.1 1).f0) == 4)) else (none)) else (some false)) else (none)) else (some false)) else (some false)) else (some false))) = some true := h
  clear h
  obtain ⟨y275, hy275⟩ : ∃ y_ : List (S57), y_ = (([(⟨1, 0, 3, ([] : List Int)⟩ : S57), (⟨2, 0, 1, ([] : List Int)⟩ : S57), (⟨3, 0, 2, ([] : List Int)⟩ : S57), (⟨4, 0, 1, ([] : List Int)⟩ : S57)] : List (S57))) := ⟨_, rfl⟩
  replace H : ((pick_Pick.f k y275 2).bind fun bt278 => (if bt278.2.2 = 0 then (if bt278.2.1 = 2 then (if (bt278.1.length : Int) = 2 then (if 0 < (bt278.1.length : Int) then (if ((rd_T57 bt278.1 0).f0) = 2 then (if 1 < (bt278.1.length : Int) then (some (((rd_T57 bt278.1 1).f0) == 4)) else (none)) else (some false)) else (none)) else (some false)) else (some false)) else (some false))) = some true := by first | (rw [hy275]; with_reducible exact H) | (have H2_ := (Option.bind_some _ _).symm.trans H; rw [hy275]; with_reducible exact H2_) | (have H2_ := (Option.bind_some _ _).symm.trans H; with_reducible exact H2_) | with_reducible exact H | (rw [hy275]; exact H) | exact H
  have Ny275 := Aside0.mk hy275
  clear hy275
  replace H := Option.bind_eq_some_iff.mp H
  obtain ⟨⟨t278, t279, t280⟩, A10, H⟩ := H
  replace H : (if t280 = 0 then (if t279 = 2 then (if (t278.length : Int) = 2 then (if 0 < (t278.length : Int) then (if ((rd_T57 t278 0).f0) = 2 then (if 1 < (t278.length : Int) then (some (((rd_T57 t278 1).f0) == 4)) else (none)) else (some false)) else (none)) else (some false)) else (some false)) else (some false)) = some true := H
  have A1 := Aside0.mk A10
  clear A10
  by_cases c2 : t280 = 0
  · rw [if_pos c2] at H
    have c2b0 : (t280 == 0) = true := beq_iff_eq.mpr c2
    have c2b1 : (t280 != 0) = false := bne_eq_false_iff_eq.mpr c2
    clear c2
    by_cases c3 : t279 = 2
    · rw [if_pos c3] at H
      have c3b0 : (t279 == 2) = true := beq_iff_eq.mpr c3
      have c3b1 : (t279 != 2) = false := bne_eq_false_iff_eq.mpr c3
      clear c3
      by_cases c4 : (t278.length : Int) = 2
      · rw [if_pos c4] at H
        have c4b0 : ((t278.length : Int) == 2) = true := beq_iff_eq.mpr c4
        have c4b1 : ((t278.length : Int) != 2) = false := bne_eq_false_iff_eq.mpr c4
        clear c4
        by_cases c5 : 0 < (t278.length : Int)
        · rw [if_pos c5] at H
          have c5b0 : decide (0 < (t278.length : Int)) = true := decide_eq_true c5
          have c5b1 : decide (0 < t278.length) = true := decide_eq_true (by omega)
          clear c5
          by_cases c6 : ((rd_T57 t278 0).f0) = 2
          · rw [if_pos c6] at H
            have c6b0 : (((rd_T57 t278 0).f0) == 2) = true := beq_iff_eq.mpr c6
            have c6b1 : (((rd_T57 t278 0).f0) != 2) = false := bne_eq_false_iff_eq.mpr c6
            clear c6
            by_cases c7 : 1 < (t278.length : Int)
            · rw [if_pos c7] at H
              have c7b0 : decide (1 < (t278.length : Int)) = true := decide_eq_true c7
              have c7b1 : decide (1 < t278.length) = true := decide_eq_true (by omega)
              clear c7
              have hE_ : (((rd_T57 t278 1).f0) == 4) = true := Option.some.inj H
              go_enter Try.func32, Try.ntmps32
              go_wp2_with (first | ((with_reducible refine gate_dst (N := 9) rfl ?_); (try (refine gate_guard (by rfl) ?_; dsimp only)); refine Kd.S_lit k57 _ 57 ?hg (N := 9) ?hd (xs := ([(⟨1, 0, 3, ([] : List Int)⟩ : S57), (⟨2, 0, 1, ([] : List Int)⟩ : S57), (⟨3, 0, 2, ([] : List Int)⟩ : S57), (⟨4, 0, 1, ([] : List Int)⟩ : S57)] : List (S57))) (inner := [.int .u32 1, .int .i64 0, .int .i64 3, .slice none 0 0, .int .u32 2, .int .i64 0, .int .i64 1, .slice none 0 0, .int .u32 3, .int .i64 0, .int .i64 2, .slice none 0 0, .int .u32 4, .int .i64 0, .int .i64 1, .slice none 0 0]) (ok := fun _ => True) (okp := fun _ => True) ?hr ?hp (fun _ hk => hk) trivial (Below.refl _ _) (Nat.le_refl _) (by simp) ?_; (case hd => rfl); (case hg => rfl); (case hr => first | (go_simp; done) | (go_simp; rfl)); (case hp => exact (Reps.c4 (show Kd.M k57 _ _ _ (⟨1, 0, 3, ([] : List Int)⟩ : S57) [.int .u32 1, .int .i64 0, .int .i64 3, .slice none 0 0] from (k57_mkM _ _ _ (⟨1, 0, 3, ([] : List Int)⟩ : S57) (Kd.R_nil _ _ _ _ _))) (Reps.c4 (show Kd.M k57 _ _ _ (⟨2, 0, 1, ([] : List Int)⟩ : S57) [.int .u32 2, .int .i64 0, .int .i64 1, .slice none 0 0] from (k57_mkM _ _ _ (⟨2, 0, 1, ([] : List Int)⟩ : S57) (Kd.R_nil _ _ _ _ _))) (Reps.c4 (show Kd.M k57 _ _ _ (⟨3, 0, 2, ([] : List Int)⟩ : S57) [.int .u32 3, .int .i64 0, .int .i64 2, .slice none 0 0] from (k57_mkM _ _ _ (⟨3, 0, 2, ([] : List Int)⟩ : S57) (Kd.R_nil _ _ _ _ _))) (Reps.c4 (show Kd.M k57 _ _ _ (⟨4, 0, 1, ([] : List Int)⟩ : S57) [.int .u32 4, .int .i64 0, .int .i64 1, .slice none 0 0] from (k57_mkM _ _ _ (⟨4, 0, 1, ([] : List Int)⟩ : S57) (Kd.R_nil _ _ _ _ _))) (Reps.none _ _)))))); intro v276 w8 ho9 hb hg_ hnew_; clear hg_ hnew_; (first | rw [← Ny275.out] at ho9 | (simp only [Int.reduceToNat] at ho9; rw [← Ny275.out] at ho9)); have HO277 := Aside0.mk (Kd.S_lower ho9 (below_size (zB HB))); replace HB := zs HB hb; clear hb ho9; obtain ⟨Ao10, co10, eo10⟩ := Kd.S_slice HO277.out; subst eo10) | ((with_reducible refine gate_callee (f := 30) rfl ?_); refine goesL_ (some 10) rfl rfl Try.func30 (by kernel_rfl) rfl #[.slice Ao10 y275.length co10, .int .i64 2] rfl (by (try simp only [List.map_toArray, List.map_cons, List.map_nil]); first | done | rfl | (simp only [List.length_drop, List.length_take]; rfl)) ?_; (with_reducible refine (pick_Pick.calls k _ _ y275 2 t278 t279 t280 _ ?side1 ?side2 A1.out).mono ?_); (case side1 => repeat (first | exact (Kd.S_reads' HO277.out).2.2 | (with_reducible refine Kd.C_alloc ?_ _) | (with_reducible refine Kd.C_drewN ?_ _) | (with_reducible refine Kd.C_drew ?_))); (case side2 => exact (Kd.S_reads' HO277.out).2.1); rintro e w11 ⟨v281, rfl, ho0, hb⟩; refine ⟨_, rfl, ?_⟩; have n0_ := Aside0.mk (Kd.S_elder' (by (with_reducible repeat (first | apply Kd.S_alloc | apply Kd.S_drewN | apply Kd.S_drew)); exact HO277.out) (Kd.S_base ho0) hb); have n1_ := Aside0.mk (Kd.S_lower (Kd.S_new' ho0 (Kd.S_lt (by (with_reducible repeat (first | apply Kd.S_alloc | apply Kd.S_drewN | apply Kd.S_drew)); exact HO277.out))) (below_size (zB HB))); have n2_ := zs HB hb; clear HO277; clear HB; have HO277 := n0_; have HO282 := n1_; have HB := n2_; clear n0_ n1_ n2_; (try clear hb); (try clear hb2); (try clear hk); (try clear hi); (try clear ho0); obtain ⟨Ao12, co12, eo12⟩ := Kd.S_slice HO282.out; subst eo12; have p283 : 0 ≤ (0 : Int) := (by omega); have q283 : 0 < (t278.length : Int) := of_decide_eq_true (by first | (with_reducible assumption) | assumption); obtain ⟨ad283, A283_3, c283_3, e283, hx283_0, hx283_1, hx283_2, hx283_3, hl283_3, hi283_3⟩ := at_T57 (Kd.S_reads' HO282.out).2.2 0 p283 q283; cases e283; obtain ⟨ce283, hce283, hMe283, hcc283⟩ := Kd.S_get HO282.out z57 0 p283 (by first | exact q283 | exact of_decide_eq_true (by first | (with_reducible assumption) | assumption) | (have e_ := (Kd.S_reads' HO282.out).1; omega)); obtain ⟨ve283_3, rfl, ge283_3⟩ := k57_openM hMe283; have hv283_3 := hcc283 3 _ rfl; rw [add_field _ _ 3 (by omega)] at hv283_3; replace hv283_3 := Option.some.inj (hv283_3.symm.trans hx283_3); rw [hv283_3] at ge283_3; have HL283_3 := Aside0.mk (show Kd.R (Kd.int .i64) 3 _ _ _ _ ((rd_T57 t278 0).f3) from ge283_3); clear hv283_3 ge283_3; clear hcc283 hce283; have qi283 : (0 < t278.length) = True := eq_true (by omega); (try rw [show ((0 : Int)).toNat = 0 from rfl] at hx283_0); (try rw [show 0 * 4 = 0 from rfl] at hx283_0); (try rw [Addr.add_zero'] at hx283_0); (try rw [show ((0 : Int)).toNat = 0 from rfl] at hx283_1); (try rw [show 0 * 4 = 0 from rfl] at hx283_1); (try rw [Addr.add_zero'] at hx283_1); (try rw [show ((0 : Int)).toNat = 0 from rfl] at hx283_2); (try rw [show 0 * 4 = 0 from rfl] at hx283_2); (try rw [Addr.add_zero'] at hx283_2); (try rw [show ((0 : Int)).toNat = 0 from rfl] at hx283_3); (try rw [show 0 * 4 = 0 from rfl] at hx283_3); (try rw [Addr.add_zero'] at hx283_3); have HR283_3 := Aside0.mk hi283_3; have HC283_3 := Aside0.mk hl283_3; clear hi283_3 hl283_3; replace p283 := eq_true p283; replace q283 := eq_true q283; have p284 : 0 ≤ (1 : Int) := (by omega); have q284 : 1 < (t278.length : Int) := of_decide_eq_true (by first | (with_reducible assumption) | assumption); obtain ⟨ad284, A284_3, c284_3, e284, hx284_0, hx284_1, hx284_2, hx284_3, hl284_3, hi284_3⟩ := at_T57 (Kd.S_reads' HO282.out).2.2 1 p284 q284; obtain rfl : ad283 = ad284 := (by injection e284); obtain ⟨ce284, hce284, hMe284, hcc284⟩ := Kd.S_get HO282.out z57 1 p284 (by first | exact q284 | exact of_decide_eq_true (by first | (with_reducible assumption) | assumption) | (have e_ := (Kd.S_reads' HO282.out).1; omega)); obtain ⟨ve284_3, rfl, ge284_3⟩ := k57_openM hMe284; have hv284_3 := hcc284 3 _ rfl; rw [add_field _ _ 3 (by omega)] at hv284_3; replace hv284_3 := Option.some.inj (hv284_3.symm.trans hx284_3); rw [hv284_3] at ge284_3; have HL284_3 := Aside0.mk (show Kd.R (Kd.int .i64) 3 _ _ _ _ ((rd_T57 t278 1).f3) from ge284_3); clear hv284_3 ge284_3; clear hcc284 hce284; (try simp only [show (1 : Int).toNat = 1 from rfl, Nat.reduceMul, Nat.reduceEqDiff, Go.Addr.add, ↓reduceIte] at hx284_0); (try simp only [show (1 : Int).toNat = 1 from rfl, Nat.reduceMul, Nat.reduceEqDiff, Go.Addr.add, ↓reduceIte] at hx284_1); (try simp only [show (1 : Int).toNat = 1 from rfl, Nat.reduceMul, Nat.reduceEqDiff, Go.Addr.add, ↓reduceIte] at hx284_2); (try simp only [show (1 : Int).toNat = 1 from rfl, Nat.reduceMul, Nat.reduceEqDiff, Go.Addr.add, ↓reduceIte] at hx284_3); have qi284 : (1 < t278.length) = True := eq_true (by omega); (try rw [show ((1 : Int)).toNat = 1 from rfl] at hx284_0); (try rw [show 1 * 4 = 4 from rfl] at hx284_0); (try rw [show ((1 : Int)).toNat = 1 from rfl] at hx284_1); (try rw [show 1 * 4 = 4 from rfl] at hx284_1); (try rw [show ((1 : Int)).toNat = 1 from rfl] at hx284_2); (try rw [show 1 * 4 = 4 from rfl] at hx284_2); (try rw [show ((1 : Int)).toNat = 1 from rfl] at hx284_3); (try rw [show 1 * 4 = 4 from rfl] at hx284_3); have HR284_3 := Aside0.mk hi284_3; have HC284_3 := Aside0.mk hl284_3; clear hi284_3 hl284_3; replace p284 := eq_true p284; replace q284 := eq_true q284))
              go_ret
              exact ⟨by first | rfl | (simp [errW_none, errW_some] <;> rfl) | (simp [*, errW_none, errW_some] <;> rfl), by repeat (first | (with_reducible first | exact HB.out | apply below_alloc | apply pw_below_drewN | apply below_drew1) | exact HB.out)⟩
            · rw [if_neg c7] at H
              exact absurd H (by simp)
          · rw [if_neg c6] at H
            have c6b0 : (((rd_T57 t278 0).f0) == 2) = false := beq_eq_false_iff_ne.mpr c6
            have c6b1 : (((rd_T57 t278 0).f0) != 2) = true := bne_iff_ne.mpr c6
            exact absurd (Option.some.inj H) (by decide)
        · rw [if_neg c5] at H
          exact absurd H (by simp)
      · rw [if_neg c4] at H
        have c4b0 : ((t278.length : Int) == 2) = false := beq_eq_false_iff_ne.mpr c4
        have c4b1 : ((t278.length : Int) != 2) = true := bne_iff_ne.mpr c4
        exact absurd (Option.some.inj H) (by decide)
    · rw [if_neg c3] at H
      have c3b0 : (t279 == 2) = false := beq_eq_false_iff_ne.mpr c3
      have c3b1 : (t279 != 2) = true := bne_iff_ne.mpr c3
      exact absurd (Option.some.inj H) (by decide)
  · rw [if_neg c2] at H
    have c2b0 : (t280 == 0) = false := beq_eq_false_iff_ne.mpr c2
    have c2b1 : (t280 != 0) = true := bne_iff_ne.mpr c2
    exact absurd (Option.some.inj H) (by decide)
end Go.Proofs.Ytfhihhfckpolpaa.P
