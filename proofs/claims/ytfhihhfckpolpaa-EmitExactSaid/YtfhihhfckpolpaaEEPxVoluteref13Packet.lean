/- What the law's proof needs: PxVoluteref13Packet. -/
import Derived.Test.YtfhihhfckpolpaaEEPx0
import Derived.Test.YtfhihhfckpolpaaEEPxVoluteref13
import Derived.Test.YtfhihhfckpolpaaEEPxVoluteref01
import Derived.Test.YtfhihhfckpolpaaEEShort
namespace Go.Proofs.Ytfhihhfckpolpaa.P
open Go.RowKit Go.Proofs.YtfhihhfckpolpaaW.PrintWords Go.Proofs.YtfhihhfckpolpaaW.PrintLast Go.Proofs.YtfhihhfckpolpaaW.PrintMore
attribute [local go_sem] max2_int min2_int max_two min_two max_three min_three max_four min_four   -- for this text's walks alone
set_option linter.unusedVariables false
set_option linter.unusedSimpArgs false
def voluteref13_Packet.f (k : Nat) (a0_0 : Int) (a0_1 : Int) (a0_2 : Int) (l0_3 : List Int) : Option (List Int) := (some (([68] : List Int) : List Int)).bind fun y717 => ((voluteref13_be.f k a0_0 4).bind fun t720 => (if y717.length + t720.length < 140737488355328 then ((some (y717 ++ t720 : List Int)).bind fun y723 => ((some (([(a0_1) % 256] : List Int) : List Int)).bind fun y726 => (if y723.length + y726.length < 140737488355328 then ((some (y723 ++ y726 : List Int)).bind fun y729 => ((voluteref13_be.f k a0_2 2).bind fun t732 => (if y729.length + t732.length < 140737488355328 then ((some (y729 ++ t732 : List Int)).bind fun y735 => ((some (([((l0_3.length : Int)) % 256] : List Int) : List Int)).bind fun y738 => (if y735.length + y738.length < 140737488355328 then ((some (y735 ++ y738 : List Int)).bind fun y741 => ((voluteref01_Sum16.f k y741).bind fun t744 => ((voluteref13_be.f k t744 2).bind fun t745 => (if y741.length + t745.length < 140737488355328 then ((some (y741 ++ t745 : List Int)).bind fun y748 => (if y748.length + l0_3.length < 140737488355328 then (some (y748 ++ l0_3)) else (none))) else (none))))) else (none)))) else (none)))) else (none)))) else (none)))
def voluteref13_Packet.T2 : Bool × List (List Nat × List Nat) := (true, [([], []), ([], []), ([1], [1]), ([2], [2]), ([3], [3]), ([0, 4], [0, 4]), ([], []), ([6], [6]), ([7, 5], [7]), ([5, 8, 8], [5, 8]), ([], []), ([10], [10]), ([11], [11]), ([12], [12]), ([13], [13]), ([9, 14, 9], [9, 14]), ([15, 15, 0, 1, 2, 3, 4, 5, 6, 7, 8, 9, 10, 11, 12, 13, 14, 15], [0, 15])])
def voluteref13_Packet.B2 : List Nat := [0, 0, 2, 6, 14, 31, 0, 64, 255, 511, 0, 1024, 3072, 7168, 15360, 32767, 65535]
theorem voluteref13_Packet.tab2 : rtab .any (opsOf Try.f91 2) = voluteref13_Packet.T2 := by kernel_rfl
theorem voluteref13_Packet.bits2 : waitsOk voluteref13_Packet.T2.2 voluteref13_Packet.B2 = true := by kernel_rfl
set_option maxHeartbeats 8000000 in
set_option maxRecDepth 100000 in
theorem voluteref13_Packet.calls (k : Nat) (a0_0 : Int) (a0_1 : Int) (a0_2 : Int) (A0_3 : Option Addr) (c0_3 : Nat) (l0_3 : List Int) (r : List Int) (w : World) (hr0_3 : Kd.C (Kd.int .u8) w A0_3 l0_3.length l0_3) (hc0_3 : l0_3.length ≤ c0_3) (h : voluteref13_Packet.f k a0_0 a0_1 a0_2 l0_3 = some r) :
    Calls Try.prog 91 #[.agg #[.int .i64 a0_0, .int .i64 a0_1, .int .i64 a0_2, .slice A0_3 l0_3.length c0_3]] w fun e w' => ∃ v0_ : Value, e = .returned (v0_) ∧ Kd.R (Kd.int .u8) 5 w' w.heap.size (fun _ => True) v0_ r ∧ Below w.heap.size w w' := by
  have hu108 := Try.underlying108
  have HR0_3 := Aside0.mk hr0_3
  have HC0_3 := Aside0.mk hc0_3
  clear hr0_3 hc0_3
  have HB := Aside0.mk (Below.refl w.heap.size w)
  have H : ((some (([68] : List Int) : List Int)).bind fun y717 => ((voluteref13_be.f k a0_0 4).bind fun t720 => (if y717.length + t720.length < 140737488355328 then ((some (y717 ++ t720 : List Int)).bind fun y723 => ((some (([(a0_1) % 256] : List Int) : List Int)).bind fun y726 => (if y723.length + y726.length < 140737488355328 then ((some (y723 ++ y726 : List Int)).bind fun y729 => ((voluteref13_be.f k a0_2 2).bind fun t732 => (if y729.length + t732.length < 140737488355328 then ((some (y729 ++ t732 : List Int)).bind fun y735 => ((some (([((l0_3.length : Int)) % 256] : List Int) : List Int)).bind fun y738 => (if y735.length + y738.length < 140737488355328 then ((some (y735 ++ y738 : List Int)).bind fun y741 => ((voluteref01_Sum16.f k y741).bind fun t744 => ((voluteref13_be.f k t744 2).bind fun t745 => (if y741.length + t745.length < 140737488355328 then ((some (y741 ++ t745 : List Int)).bind fun y748 => (if y748.length + l0_3.length < 140737488355328 then (some (y748 ++ l0_3)) else (none))) else (none))))) else (none)))) else (none)))) else (none)))) else (none)))) = some r := h
  clear h
  obtain ⟨y717, hy717⟩ : ∃ y_ : List Int, y_ = (([68] : List Int)) := ⟨_, rfl⟩
  replace H : ((voluteref13_be.f k a0_0 4).bind fun t720 => (if y717.length + t720.length < 140737488355328 then ((some (y717 ++ t720 : List Int)).bind fun y723 => ((some (([(a0_1) % 256] : List Int) : List Int)).bind fun y726 => (if y723.length + y726.length < 140737488355328 then ((some (y723 ++ y726 : List Int)).bind fun y729 => ((voluteref13_be.f k a0_2 2).bind fun t732 => (if y729.length + t732.length < 140737488355328 then ((some (y729 ++ t732 : List Int)).bind fun y735 => ((some (([((l0_3.length : Int)) % 256] : List Int) : List Int)).bind fun y738 => (if y735.length + y738.length < 140737488355328 then ((some (y735 ++ y738 : List Int)).bind fun y741 => ((voluteref01_Sum16.f k y741).bind fun t744 => ((voluteref13_be.f k t744 2).bind fun t745 => (if y741.length + t745.length < 140737488355328 then ((some (y741 ++ t745 : List Int)).bind fun y748 => (if y748.length + l0_3.length < 140737488355328 then (some (y748 ++ l0_3)) else (none))) else (none))))) else (none)))) else (none)))) else (none)))) else (none))) = some r := by first | (rw [hy717]; with_reducible exact H) | (have H2_ := (Option.bind_some _ _).symm.trans H; rw [hy717]; with_reducible exact H2_) | (have H2_ := (Option.bind_some _ _).symm.trans H; with_reducible exact H2_) | with_reducible exact H | (rw [hy717]; exact H) | exact H
  have Ny717 := Aside0.mk hy717
  clear hy717
  replace H := Option.bind_eq_some_iff.mp H
  obtain ⟨t720, A20, H⟩ := H
  replace H : (if y717.length + t720.length < 140737488355328 then ((some (y717 ++ t720 : List Int)).bind fun y723 => ((some (([(a0_1) % 256] : List Int) : List Int)).bind fun y726 => (if y723.length + y726.length < 140737488355328 then ((some (y723 ++ y726 : List Int)).bind fun y729 => ((voluteref13_be.f k a0_2 2).bind fun t732 => (if y729.length + t732.length < 140737488355328 then ((some (y729 ++ t732 : List Int)).bind fun y735 => ((some (([((l0_3.length : Int)) % 256] : List Int) : List Int)).bind fun y738 => (if y735.length + y738.length < 140737488355328 then ((some (y735 ++ y738 : List Int)).bind fun y741 => ((voluteref01_Sum16.f k y741).bind fun t744 => ((voluteref13_be.f k t744 2).bind fun t745 => (if y741.length + t745.length < 140737488355328 then ((some (y741 ++ t745 : List Int)).bind fun y748 => (if y748.length + l0_3.length < 140737488355328 then (some (y748 ++ l0_3)) else (none))) else (none))))) else (none)))) else (none)))) else (none)))) else (none)) = some r := H
  have A2 := Aside0.mk A20
  clear A20
  by_cases c3 : y717.length + t720.length < 140737488355328
  · rw [if_pos c3] at H
    have LMc3 := Aside0.mk c3
    clear c3
    obtain ⟨y723, hy723⟩ : ∃ y_ : List Int, y_ = (y717 ++ t720) := ⟨_, rfl⟩
    replace H : ((some (([(a0_1) % 256] : List Int) : List Int)).bind fun y726 => (if y723.length + y726.length < 140737488355328 then ((some (y723 ++ y726 : List Int)).bind fun y729 => ((voluteref13_be.f k a0_2 2).bind fun t732 => (if y729.length + t732.length < 140737488355328 then ((some (y729 ++ t732 : List Int)).bind fun y735 => ((some (([((l0_3.length : Int)) % 256] : List Int) : List Int)).bind fun y738 => (if y735.length + y738.length < 140737488355328 then ((some (y735 ++ y738 : List Int)).bind fun y741 => ((voluteref01_Sum16.f k y741).bind fun t744 => ((voluteref13_be.f k t744 2).bind fun t745 => (if y741.length + t745.length < 140737488355328 then ((some (y741 ++ t745 : List Int)).bind fun y748 => (if y748.length + l0_3.length < 140737488355328 then (some (y748 ++ l0_3)) else (none))) else (none))))) else (none)))) else (none)))) else (none))) = some r := by first | (rw [hy723]; with_reducible exact H) | (have H2_ := (Option.bind_some _ _).symm.trans H; rw [hy723]; with_reducible exact H2_) | (have H2_ := (Option.bind_some _ _).symm.trans H; with_reducible exact H2_) | with_reducible exact H | (rw [hy723]; exact H) | exact H
    have Ny723 := Aside0.mk hy723
    clear hy723
    obtain ⟨y726, hy726⟩ : ∃ y_ : List Int, y_ = (([(a0_1) % 256] : List Int)) := ⟨_, rfl⟩
    replace H : (if y723.length + y726.length < 140737488355328 then ((some (y723 ++ y726 : List Int)).bind fun y729 => ((voluteref13_be.f k a0_2 2).bind fun t732 => (if y729.length + t732.length < 140737488355328 then ((some (y729 ++ t732 : List Int)).bind fun y735 => ((some (([((l0_3.length : Int)) % 256] : List Int) : List Int)).bind fun y738 => (if y735.length + y738.length < 140737488355328 then ((some (y735 ++ y738 : List Int)).bind fun y741 => ((voluteref01_Sum16.f k y741).bind fun t744 => ((voluteref13_be.f k t744 2).bind fun t745 => (if y741.length + t745.length < 140737488355328 then ((some (y741 ++ t745 : List Int)).bind fun y748 => (if y748.length + l0_3.length < 140737488355328 then (some (y748 ++ l0_3)) else (none))) else (none))))) else (none)))) else (none)))) else (none)) = some r := by first | (rw [hy726]; with_reducible exact H) | (have H2_ := (Option.bind_some _ _).symm.trans H; rw [hy726]; with_reducible exact H2_) | (have H2_ := (Option.bind_some _ _).symm.trans H; with_reducible exact H2_) | with_reducible exact H | (rw [hy726]; exact H) | exact H
    have Ny726 := Aside0.mk hy726
    clear hy726
    by_cases c4 : y723.length + y726.length < 140737488355328
    · rw [if_pos c4] at H
      have LMc4 := Aside0.mk c4
      clear c4
      obtain ⟨y729, hy729⟩ : ∃ y_ : List Int, y_ = (y723 ++ y726) := ⟨_, rfl⟩
      replace H : ((voluteref13_be.f k a0_2 2).bind fun t732 => (if y729.length + t732.length < 140737488355328 then ((some (y729 ++ t732 : List Int)).bind fun y735 => ((some (([((l0_3.length : Int)) % 256] : List Int) : List Int)).bind fun y738 => (if y735.length + y738.length < 140737488355328 then ((some (y735 ++ y738 : List Int)).bind fun y741 => ((voluteref01_Sum16.f k y741).bind fun t744 => ((voluteref13_be.f k t744 2).bind fun t745 => (if y741.length + t745.length < 140737488355328 then ((some (y741 ++ t745 : List Int)).bind fun y748 => (if y748.length + l0_3.length < 140737488355328 then (some (y748 ++ l0_3)) else (none))) else (none))))) else (none)))) else (none))) = some r := by first | (rw [hy729]; with_reducible exact H) | (have H2_ := (Option.bind_some _ _).symm.trans H; rw [hy729]; with_reducible exact H2_) | (have H2_ := (Option.bind_some _ _).symm.trans H; with_reducible exact H2_) | with_reducible exact H | (rw [hy729]; exact H) | exact H
      have Ny729 := Aside0.mk hy729
      clear hy729
      replace H := Option.bind_eq_some_iff.mp H
      obtain ⟨t732, A50, H⟩ := H
      replace H : (if y729.length + t732.length < 140737488355328 then ((some (y729 ++ t732 : List Int)).bind fun y735 => ((some (([((l0_3.length : Int)) % 256] : List Int) : List Int)).bind fun y738 => (if y735.length + y738.length < 140737488355328 then ((some (y735 ++ y738 : List Int)).bind fun y741 => ((voluteref01_Sum16.f k y741).bind fun t744 => ((voluteref13_be.f k t744 2).bind fun t745 => (if y741.length + t745.length < 140737488355328 then ((some (y741 ++ t745 : List Int)).bind fun y748 => (if y748.length + l0_3.length < 140737488355328 then (some (y748 ++ l0_3)) else (none))) else (none))))) else (none)))) else (none)) = some r := H
      have A5 := Aside0.mk A50
      clear A50
      by_cases c6 : y729.length + t732.length < 140737488355328
      · rw [if_pos c6] at H
        have LMc6 := Aside0.mk c6
        clear c6
        obtain ⟨y735, hy735⟩ : ∃ y_ : List Int, y_ = (y729 ++ t732) := ⟨_, rfl⟩
        replace H : ((some (([((l0_3.length : Int)) % 256] : List Int) : List Int)).bind fun y738 => (if y735.length + y738.length < 140737488355328 then ((some (y735 ++ y738 : List Int)).bind fun y741 => ((voluteref01_Sum16.f k y741).bind fun t744 => ((voluteref13_be.f k t744 2).bind fun t745 => (if y741.length + t745.length < 140737488355328 then ((some (y741 ++ t745 : List Int)).bind fun y748 => (if y748.length + l0_3.length < 140737488355328 then (some (y748 ++ l0_3)) else (none))) else (none))))) else (none))) = some r := by first | (rw [hy735]; with_reducible exact H) | (have H2_ := (Option.bind_some _ _).symm.trans H; rw [hy735]; with_reducible exact H2_) | (have H2_ := (Option.bind_some _ _).symm.trans H; with_reducible exact H2_) | with_reducible exact H | (rw [hy735]; exact H) | exact H
        have Ny735 := Aside0.mk hy735
        clear hy735
        obtain ⟨y738, hy738⟩ : ∃ y_ : List Int, y_ = (([((l0_3.length : Int)) % 256] : List Int)) := ⟨_, rfl⟩
        replace H : (if y735.length + y738.length < 140737488355328 then ((some (y735 ++ y738 : List Int)).bind fun y741 => ((voluteref01_Sum16.f k y741).bind fun t744 => ((voluteref13_be.f k t744 2).bind fun t745 => (if y741.length + t745.length < 140737488355328 then ((some (y741 ++ t745 : List Int)).bind fun y748 => (if y748.length + l0_3.length < 140737488355328 then (some (y748 ++ l0_3)) else (none))) else (none))))) else (none)) = some r := by first | (rw [hy738]; with_reducible exact H) | (have H2_ := (Option.bind_some _ _).symm.trans H; rw [hy738]; with_reducible exact H2_) | (have H2_ := (Option.bind_some _ _).symm.trans H; with_reducible exact H2_) | with_reducible exact H | (rw [hy738]; exact H) | exact H
        have Ny738 := Aside0.mk hy738
        clear hy738
        by_cases c7 : y735.length + y738.length < 140737488355328
        · rw [if_pos c7] at H
          have LMc7 := Aside0.mk c7
          clear c7
          obtain ⟨y741, hy741⟩ : ∃ y_ : List Int, y_ = (y735 ++ y738) := ⟨_, rfl⟩
          replace H : ((voluteref01_Sum16.f k y741).bind fun t744 => ((voluteref13_be.f k t744 2).bind fun t745 => (if y741.length + t745.length < 140737488355328 then ((some (y741 ++ t745 : List Int)).bind fun y748 => (if y748.length + l0_3.length < 140737488355328 then (some (y748 ++ l0_3)) else (none))) else (none)))) = some r := by first | (rw [hy741]; with_reducible exact H) | (have H2_ := (Option.bind_some _ _).symm.trans H; rw [hy741]; with_reducible exact H2_) | (have H2_ := (Option.bind_some _ _).symm.trans H; with_reducible exact H2_) | with_reducible exact H | (rw [hy741]; exact H) | exact H
          have Ny741 := Aside0.mk hy741
          clear hy741
          replace H := Option.bind_eq_some_iff.mp H
          obtain ⟨t744, A80, H⟩ := H
          replace H : ((voluteref13_be.f k t744 2).bind fun t745 => (if y741.length + t745.length < 140737488355328 then ((some (y741 ++ t745 : List Int)).bind fun y748 => (if y748.length + l0_3.length < 140737488355328 then (some (y748 ++ l0_3)) else (none))) else (none))) = some r := H
          have A8 := Aside0.mk A80
          clear A80
          replace H := Option.bind_eq_some_iff.mp H
          obtain ⟨t745, A90, H⟩ := H
          replace H : (if y741.length + t745.length < 140737488355328 then ((some (y741 ++ t745 : List Int)).bind fun y748 => (if y748.length + l0_3.length < 140737488355328 then (some (y748 ++ l0_3)) else (none))) else (none)) = some r := H
          have A9 := Aside0.mk A90
          clear A90
          by_cases c10 : y741.length + t745.length < 140737488355328
          · rw [if_pos c10] at H
            have LMc10 := Aside0.mk c10
            clear c10
            obtain ⟨y748, hy748⟩ : ∃ y_ : List Int, y_ = (y741 ++ t745) := ⟨_, rfl⟩
            replace H : (if y748.length + l0_3.length < 140737488355328 then (some (y748 ++ l0_3)) else (none)) = some r := by first | (rw [hy748]; with_reducible exact H) | (have H2_ := (Option.bind_some _ _).symm.trans H; rw [hy748]; with_reducible exact H2_) | (have H2_ := (Option.bind_some _ _).symm.trans H; with_reducible exact H2_) | with_reducible exact H | (rw [hy748]; exact H) | exact H
            have Ny748 := Aside0.mk hy748
            clear hy748
            by_cases c11 : y748.length + l0_3.length < 140737488355328
            · rw [if_pos c11] at H
              have LMc11 := Aside0.mk c11
              clear c11
              obtain ⟨y751, hy751⟩ : ∃ y_ : List Int, y_ = (y748 ++ l0_3) := ⟨_, rfl⟩
              replace H : (some y751) = some r := by first | (rw [hy751]; with_reducible exact H) | (have H2_ := (Option.bind_some _ _).symm.trans H; rw [hy751]; with_reducible exact H2_) | (have H2_ := (Option.bind_some _ _).symm.trans H; with_reducible exact H2_) | with_reducible exact H | (rw [hy751]; exact H) | exact H
              have Ny751 := Aside0.mk hy751
              clear hy751
              obtain rfl := Option.some.inj H
              go_enter Try.func91, Try.ntmps91
              try go_wp2_with (first | ((with_reducible refine gate_dst (N := 1) rfl ?_); refine box_event ?hg (N := 1) ?hd (cs := #[.int .i64 a0_0, .int .i64 a0_1, .int .i64 a0_2, .slice A0_3 l0_3.length c0_3]) (t := 108) ?hr ?_; (case hd => rfl); (case hg => rfl); (case hr => first | (go_simp; done) | (go_simp; rfl)); intro gb716 hg w12 hbox hb; have BK716 := Aside0.mk (hbox); have GW716 := zg HB hg; have GE716 := zg HB hg; replace HB := zs HB hb; clear hb hbox hg) | ((with_reducible refine gate_dst (N := 4) rfl ?_); refine Kd.R_lit (Kd.int .u8) _ 5 ?hg (N := 4) ?hd (xs := ([68] : List Int)) (inner := [.int .u8 68]) (ok := fun _ => True) (okp := fun _ => True) ?hr ?hp (fun _ hk => hk) trivial (Below.refl _ _) (Nat.le_refl _) (by simp) ?_; (case hd => rfl); (case hg => rfl); (case hr => first | (go_simp; done) | (go_simp; rfl)); (case hp => exact (Reps.one (show Kd.M (Kd.int .u8) _ _ _ 68 [.int .u8 68] from rfl) (Reps.none _ _))); intro v718 w13 ho14 hb hg_ hnew_; clear hg_ hnew_; (first | rw [← Ny717.out] at ho14 | (simp only [Int.reduceToNat] at ho14; rw [← Ny717.out] at ho14)); have HO719 := Aside0.mk (Kd.R_lower ho14 (below_size (zB HB))); replace BK716 := zb BK716 hb; replace HB := zs HB hb; clear hb ho14; obtain ⟨hcz15_0, hcz15_1, hcz15_2, hcz15_3⟩ := zC4 BK716; obtain ⟨hfz15_0, hfz15_1, hfz15_2⟩ := zF3 BK716; have hfz15_3 := blk_frozen BK716.out 3) | ((with_reducible refine gate_callee (f := 112) rfl ?_); refine goesL_ (some 7) rfl rfl Try.func112 (by kernel_rfl) rfl #[.int .i64 a0_0, .int .i64 4] rfl (by (try simp only [List.map_toArray, List.map_cons, List.map_nil]); first | done | rfl | (simp only [List.length_drop, List.length_take]; rfl)) ?_; (with_reducible refine (voluteref13_be.calls k a0_0 4 t720 _ A2.out).mono ?_); rintro e w16 ⟨v721, rfl, ho0, hb⟩; refine ⟨_, rfl, ?_⟩; have HO722 := Aside0.mk (Kd.R_lower (Kd.R_new' ho0 (Kd.R_lt (zr_ HO719))) (below_size (zB HB))); replace HO719 := Aside0.mk (Kd.R_elder' (zr_ HO719) (Kd.R_base ho0) hb); replace BK716 := zb BK716 hb; replace HB := zs HB hb; (try clear hb); (try clear hb2); (try clear hk); (try clear hi); (try clear ho0); obtain ⟨Ao18, co18, eo18⟩ := Kd.R_slice HO722.out; subst eo18) | ((with_reducible refine gate_builtin (b := .append) (xs := #[.tmp 4, .tmp 7]) rfl ?_); at_builtin; refine Kd.R_append_rows (Kd.int .u8) (w0 := w) w.heap.size rfl (.tmp 4) (.tmp 7) 22 5 (.int .u8 0) 1 rfl Try.underlying22 info5 rfl (by decide) (by omega) v718 y717 t720 _ _ _ (fun k_ => some k_ ≠ (.slice Ao18 t720.length co18 : Value).ownBlock) (fun _ => False) rfl rfl ?aO ?aR (fun _ _ h => h) (fun _ h => h.elim) ?aF ?aB ?aS ?aL ?_; (case aR => repeat (first | exact (Kd.R_reads' HO722.out).2.2 | (with_reducible refine Kd.C_alloc ?_ _) | (with_reducible refine Kd.C_drewN ?_ _) | (with_reducible refine Kd.C_drew ?_))); (case aB => exact (zB HB)); (case aF => exact (fun k_ hk => Kd.fresh' (Kd.R_lt (zr_ HO722)) k_ hk)); (case aO => exact (by (with_reducible repeat (first | apply Kd.R_alloc | apply Kd.R_drewN | apply Kd.R_drew)); exact Kd.R_mono HO719.out (fun _ hk => hk.2))); (case aS => exact (below_size (zB HB))); (case aL => have := LMc3.out; omega); intro v724 w17 ho hb hg hat; rw [← Ny723.out] at ho; have n0_ := Aside0.mk (blk_grown (g := gb716) (o := .cells #[.int .i64 a0_0, .int .i64 a0_1, .int .i64 a0_2, .slice A0_3 l0_3.length c0_3] 108 (0, 0)) (zk BK716) hg (Kd.R_ne HO719.out BK716.out (by decide))); have n1_ := Aside0.mk (Kd.R_after (ok := (fun _ => True)) (zr_ HO722) hg hat); have n2_ := Aside0.mk (hb); have n3_ := Aside0.mk (ho); clear BK716; clear HO722; clear HB; clear HO719; have BK716 := n0_; have HO722 := n1_; have HB := n2_; have HO725 := n3_; clear n0_ n1_ n2_ n3_; clear ho hb hg hat; obtain ⟨Ao19, co19, eo19⟩ := Kd.R_slice HO725.out; subst eo19))
              replace HO722 := Aside0.mk (Kd.R_drew HO722.out)
              replace HO725 := Aside0.mk (Kd.R_drew HO725.out)
              replace BK716 := Aside0.mk (blk_drew BK716.out)
              replace HB := Aside0.mk (below_drew1 HB.out)
              refine start_ (n := 17) (S := fun w' => w'.cell? ⟨gb716, 0, none⟩ = some (.int .i64 a0_0) ∧ w'.cell? ⟨gb716, 1, none⟩ = some (.int .i64 a0_1) ∧ w'.cell? ⟨gb716, 2, none⟩ = some (.int .i64 a0_2) ∧ w'.cell? ⟨gb716, 3, none⟩ = some (.slice A0_3 l0_3.length c0_3)) (ds := []) #[false, false, false, false, false, false, false, false, false, false, false, false, false, false, false, false, false] (by kernel_rfl) rfl rfl ⟨(blk_cell BK716.out 0).trans rfl, (blk_cell BK716.out 1).trans rfl, (blk_cell BK716.out 2).trans rfl, (blk_cell BK716.out 3).trans rfl⟩ (fun hHeld => ?_); refine with_tabW voluteref13_Packet.tab2 voluteref13_Packet.bits2 (fun HT_ HW_ => ?_)
              generalize w17.drew = w20 at HO722 HO725 BK716 HB hHeld ⊢
              refine pu 0 9 (lb 17 1) rfl rfl (any_of HT_.out (by kernel_rfl)) ?_
              refine pu 1 10 (lb 17 3) rfl rfl (any_of HT_.out (by kernel_rfl)) ?_
              refine pu 6 15 (lb 17 67) rfl rfl (any_of HT_.out (by kernel_rfl)) ?_
              refine pu 10 19 (lb 17 1091) rfl rfl (any_of HT_.out (by kernel_rfl)) ?_
              refine take_ (i := 2) (N := some 11) (v := ?_) (a' := ?_) (lb 17 1095) rfl rfl (take_ofW HT_.out HW_.out (by kernel_rfl)) (fun _ _ _ h => h) (Or.inl ⟨by rfl, ?_⟩) hHeld ?_ ?_
              rotate_left
              · rintro w' ⟨s0, s1, s2, s3⟩
                go_simp
                with_reducible rfl
              rotate_left
              · simp only [Act.put, List.setIfInBounds_toArray, List.set_cons_zero, List.set_cons_succ, i64_w, i32_w]
                rfl
              refine pu 3 12 (lb 17 1103) rfl rfl (any_of HT_.out (by kernel_rfl)) ?_
              refine take_ (i := 7) (N := some 16) (v := ?_) (a' := ?_) (lb 17 1231) rfl rfl (take_ofW HT_.out HW_.out (by kernel_rfl)) (fun _ _ _ h => h) (Or.inl ⟨by rfl, ?_⟩) hHeld ?_ ?_
              rotate_left
              · rintro w' ⟨s0, s1, s2, s3⟩
                go_simp
                with_reducible rfl
              rotate_left
              · simp only [Act.put, List.setIfInBounds_toArray, List.set_cons_zero, List.set_cons_succ, i64_w, i32_w]
                rfl
              refine take_ (i := 11) (N := some 20) (v := ?_) (a' := ?_) (lb 17 3279) rfl rfl (take_ofW HT_.out HW_.out (by kernel_rfl)) (fun _ _ _ h => h) (Or.inl ⟨by rfl, ?_⟩) hHeld ?_ ?_
              rotate_left
              · rintro w' ⟨s0, s1, s2, s3⟩
                go_simp
                with_reducible rfl
              rotate_left
              · simp only [Act.put, List.setIfInBounds_toArray, List.set_cons_zero, List.set_cons_succ, i64_w, i32_w]
                rfl
              refine pu 12 21 (lb 17 7375) rfl rfl (any_of HT_.out (by kernel_rfl)) ?_
              refine pu 13 22 (lb 17 15567) rfl rfl (any_of HT_.out (by kernel_rfl)) ?_
              refine join_ (σ := Value × Value × Value × Value × Value) 2 #[true, true, true, true, true, true, true, true, true, true, true, true, true, true, true, false, false] (fun s_ => [(13, s_.1), (14, s_.2.1), (17, s_.2.2.1), (18, s_.2.2.2.1), (23, s_.2.2.2.2)]) (fun s_ w' => (w'.cell? ⟨gb716, 0, none⟩ = some (.int .i64 a0_0) ∧ w'.cell? ⟨gb716, 1, none⟩ = some (.int .i64 a0_1) ∧ w'.cell? ⟨gb716, 2, none⟩ = some (.int .i64 a0_2) ∧ w'.cell? ⟨gb716, 3, none⟩ = some (.slice A0_3 l0_3.length c0_3)) ∧ (Kd.R (Kd.int .u8) 5 w' w.heap.size (fun k_ => some k_ ≠ (s_.1 : Value).ownBlock ∧ some k_ ≠ (s_.2.2.1 : Value).ownBlock ∧ some k_ ≠ (s_.2.2.2.1 : Value).ownBlock ∧ some k_ ≠ (s_.2.2.2.2 : Value).ownBlock) (.slice Ao18 t720.length co18) t720) ∧ (Kd.R (Kd.int .u8) 5 w' w.heap.size (fun k_ => some k_ ≠ (.slice Ao18 t720.length co18 : Value).ownBlock ∧ some k_ ≠ (s_.2.2.1 : Value).ownBlock ∧ some k_ ≠ (s_.2.2.2.1 : Value).ownBlock ∧ some k_ ≠ (s_.2.2.2.2 : Value).ownBlock) s_.1 y726) ∧ (Kd.R (Kd.int .u8) 5 w' w.heap.size (fun k_ => some k_ ≠ (.slice Ao18 t720.length co18 : Value).ownBlock ∧ some k_ ≠ (s_.1 : Value).ownBlock ∧ some k_ ≠ (s_.2.2.2.1 : Value).ownBlock ∧ some k_ ≠ (s_.2.2.2.2 : Value).ownBlock) s_.2.2.1 t732) ∧ (Kd.R (Kd.int .u8) 5 w' w.heap.size (fun k_ => some k_ ≠ (.slice Ao18 t720.length co18 : Value).ownBlock ∧ some k_ ≠ (s_.1 : Value).ownBlock ∧ some k_ ≠ (s_.2.2.1 : Value).ownBlock ∧ some k_ ≠ (s_.2.2.2.2 : Value).ownBlock) s_.2.2.2.1 y735) ∧ (Kd.R (Kd.int .u8) 5 w' w.heap.size (fun k_ => some k_ ≠ (.slice Ao18 t720.length co18 : Value).ownBlock ∧ some k_ ≠ (s_.1 : Value).ownBlock ∧ some k_ ≠ (s_.2.2.1 : Value).ownBlock ∧ some k_ ≠ (s_.2.2.2.1 : Value).ownBlock) s_.2.2.2.2 y738) ∧ (w'.heap[gb716]? = some (.cells #[.int .i64 a0_0, .int .i64 a0_1, .int .i64 a0_2, .slice A0_3 l0_3.length c0_3] 108 (0, 0))) ∧ (Below w.heap.size w w')) ?_ ?_
              rotate_left
              · intro hJ4_5_8_9_14
                refine join_ (σ := Value × Value × Value × Value) 3 #[true, true, true, true, true, true, true, true, true, true, true, true, true, true, false, false, false] (fun s_ => [(13, s_.1), (14, s_.2.1), (17, s_.2.2.1), (18, s_.2.2.2)]) (fun s_ w' => (w'.cell? ⟨gb716, 0, none⟩ = some (.int .i64 a0_0) ∧ w'.cell? ⟨gb716, 1, none⟩ = some (.int .i64 a0_1) ∧ w'.cell? ⟨gb716, 2, none⟩ = some (.int .i64 a0_2) ∧ w'.cell? ⟨gb716, 3, none⟩ = some (.slice A0_3 l0_3.length c0_3)) ∧ (Kd.R (Kd.int .u8) 5 w' w.heap.size (fun k_ => some k_ ≠ (s_.1 : Value).ownBlock ∧ some k_ ≠ (s_.2.2.1 : Value).ownBlock ∧ some k_ ≠ (s_.2.2.2 : Value).ownBlock) (.slice Ao18 t720.length co18) t720) ∧ (Kd.R (Kd.int .u8) 5 w' w.heap.size (fun k_ => some k_ ≠ (.slice Ao18 t720.length co18 : Value).ownBlock ∧ some k_ ≠ (s_.2.2.1 : Value).ownBlock ∧ some k_ ≠ (s_.2.2.2 : Value).ownBlock) s_.1 y726) ∧ (Kd.R (Kd.int .u8) 5 w' w.heap.size (fun k_ => some k_ ≠ (.slice Ao18 t720.length co18 : Value).ownBlock ∧ some k_ ≠ (s_.1 : Value).ownBlock ∧ some k_ ≠ (s_.2.2.2 : Value).ownBlock) s_.2.2.1 t732) ∧ (Kd.R (Kd.int .u8) 5 w' w.heap.size (fun k_ => some k_ ≠ (.slice Ao18 t720.length co18 : Value).ownBlock ∧ some k_ ≠ (s_.1 : Value).ownBlock ∧ some k_ ≠ (s_.2.2.1 : Value).ownBlock) s_.2.2.2 y735) ∧ (w'.heap[gb716]? = some (.cells #[.int .i64 a0_0, .int .i64 a0_1, .int .i64 a0_2, .slice A0_3 l0_3.length c0_3] 108 (0, 0))) ∧ (Below w.heap.size w w')) ?_ ?_
                rotate_left
                · intro hJ4_5_8_9
                  refine join_ (σ := Value × Value × Value × Value) 3 #[true, true, true, true, true, true, true, true, true, false, true, true, true, true, true, false, false] (fun s_ => [(13, s_.1), (14, s_.2.1), (17, s_.2.2.1), (23, s_.2.2.2)]) (fun s_ w' => (w'.cell? ⟨gb716, 0, none⟩ = some (.int .i64 a0_0) ∧ w'.cell? ⟨gb716, 1, none⟩ = some (.int .i64 a0_1) ∧ w'.cell? ⟨gb716, 2, none⟩ = some (.int .i64 a0_2) ∧ w'.cell? ⟨gb716, 3, none⟩ = some (.slice A0_3 l0_3.length c0_3)) ∧ (Kd.R (Kd.int .u8) 5 w' w.heap.size (fun k_ => some k_ ≠ (s_.1 : Value).ownBlock ∧ some k_ ≠ (s_.2.1 : Value).ownBlock ∧ some k_ ≠ (s_.2.2.1 : Value).ownBlock ∧ some k_ ≠ (s_.2.2.2 : Value).ownBlock) (.slice Ao18 t720.length co18) t720) ∧ (Kd.R (Kd.int .u8) 5 w' w.heap.size (fun k_ => some k_ ≠ (.slice Ao18 t720.length co18 : Value).ownBlock ∧ some k_ ≠ (s_.2.1 : Value).ownBlock ∧ some k_ ≠ (s_.2.2.1 : Value).ownBlock ∧ some k_ ≠ (s_.2.2.2 : Value).ownBlock) s_.1 y726) ∧ (Kd.R (Kd.int .u8) 5 w' w.heap.size (fun k_ => some k_ ≠ (.slice Ao18 t720.length co18 : Value).ownBlock ∧ some k_ ≠ (s_.1 : Value).ownBlock ∧ some k_ ≠ (s_.2.2.1 : Value).ownBlock ∧ some k_ ≠ (s_.2.2.2 : Value).ownBlock) s_.2.1 y729) ∧ (Kd.R (Kd.int .u8) 5 w' w.heap.size (fun k_ => some k_ ≠ (.slice Ao18 t720.length co18 : Value).ownBlock ∧ some k_ ≠ (s_.1 : Value).ownBlock ∧ some k_ ≠ (s_.2.1 : Value).ownBlock ∧ some k_ ≠ (s_.2.2.2 : Value).ownBlock) s_.2.2.1 t732) ∧ (Kd.R (Kd.int .u8) 5 w' w.heap.size (fun k_ => some k_ ≠ (.slice Ao18 t720.length co18 : Value).ownBlock ∧ some k_ ≠ (s_.1 : Value).ownBlock ∧ some k_ ≠ (s_.2.1 : Value).ownBlock ∧ some k_ ≠ (s_.2.2.1 : Value).ownBlock) s_.2.2.2 y738) ∧ (w'.heap[gb716]? = some (.cells #[.int .i64 a0_0, .int .i64 a0_1, .int .i64 a0_2, .slice A0_3 l0_3.length c0_3] 108 (0, 0))) ∧ (Below w.heap.size w w')) ?_ ?_
                  rotate_left
                  · intro hJ4_5_8_14
                    refine join_ (σ := Value × Value × Value) 4 #[true, true, true, true, true, true, true, true, true, false, true, true, true, true, false, false, false] (fun s_ => [(13, s_.1), (14, s_.2.1), (17, s_.2.2)]) (fun s_ w' => (w'.cell? ⟨gb716, 0, none⟩ = some (.int .i64 a0_0) ∧ w'.cell? ⟨gb716, 1, none⟩ = some (.int .i64 a0_1) ∧ w'.cell? ⟨gb716, 2, none⟩ = some (.int .i64 a0_2) ∧ w'.cell? ⟨gb716, 3, none⟩ = some (.slice A0_3 l0_3.length c0_3)) ∧ (Kd.R (Kd.int .u8) 5 w' w.heap.size (fun k_ => some k_ ≠ (s_.1 : Value).ownBlock ∧ some k_ ≠ (s_.2.1 : Value).ownBlock ∧ some k_ ≠ (s_.2.2 : Value).ownBlock) (.slice Ao18 t720.length co18) t720) ∧ (Kd.R (Kd.int .u8) 5 w' w.heap.size (fun k_ => some k_ ≠ (.slice Ao18 t720.length co18 : Value).ownBlock ∧ some k_ ≠ (s_.2.1 : Value).ownBlock ∧ some k_ ≠ (s_.2.2 : Value).ownBlock) s_.1 y726) ∧ (Kd.R (Kd.int .u8) 5 w' w.heap.size (fun k_ => some k_ ≠ (.slice Ao18 t720.length co18 : Value).ownBlock ∧ some k_ ≠ (s_.1 : Value).ownBlock ∧ some k_ ≠ (s_.2.2 : Value).ownBlock) s_.2.1 y729) ∧ (Kd.R (Kd.int .u8) 5 w' w.heap.size (fun k_ => some k_ ≠ (.slice Ao18 t720.length co18 : Value).ownBlock ∧ some k_ ≠ (s_.1 : Value).ownBlock ∧ some k_ ≠ (s_.2.1 : Value).ownBlock) s_.2.2 t732) ∧ (w'.heap[gb716]? = some (.cells #[.int .i64 a0_0, .int .i64 a0_1, .int .i64 a0_2, .slice A0_3 l0_3.length c0_3] 108 (0, 0))) ∧ (Below w.heap.size w w')) ?_ ?_
                    rotate_left
                    · intro hJ4_5_8
                      refine join_ (σ := Value × Value × Value) 4 #[true, true, true, true, true, true, true, true, false, false, true, true, true, true, true, false, false] (fun s_ => [(13, s_.1), (14, s_.2.1), (23, s_.2.2)]) (fun s_ w' => (w'.cell? ⟨gb716, 0, none⟩ = some (.int .i64 a0_0) ∧ w'.cell? ⟨gb716, 1, none⟩ = some (.int .i64 a0_1) ∧ w'.cell? ⟨gb716, 2, none⟩ = some (.int .i64 a0_2) ∧ w'.cell? ⟨gb716, 3, none⟩ = some (.slice A0_3 l0_3.length c0_3)) ∧ (Kd.R (Kd.int .u8) 5 w' w.heap.size (fun k_ => some k_ ≠ (s_.1 : Value).ownBlock ∧ some k_ ≠ (s_.2.1 : Value).ownBlock ∧ some k_ ≠ (s_.2.2 : Value).ownBlock) (.slice Ao18 t720.length co18) t720) ∧ (Kd.R (Kd.int .u8) 5 w' w.heap.size (fun k_ => some k_ ≠ (.slice Ao18 t720.length co18 : Value).ownBlock ∧ some k_ ≠ (s_.2.1 : Value).ownBlock ∧ some k_ ≠ (s_.2.2 : Value).ownBlock) s_.1 y726) ∧ (Kd.R (Kd.int .u8) 5 w' w.heap.size (fun k_ => some k_ ≠ (.slice Ao18 t720.length co18 : Value).ownBlock ∧ some k_ ≠ (s_.1 : Value).ownBlock ∧ some k_ ≠ (s_.2.2 : Value).ownBlock) s_.2.1 y729) ∧ (Kd.R (Kd.int .u8) 5 w' w.heap.size (fun k_ => some k_ ≠ (.slice Ao18 t720.length co18 : Value).ownBlock ∧ some k_ ≠ (s_.1 : Value).ownBlock ∧ some k_ ≠ (s_.2.1 : Value).ownBlock) s_.2.2 y738) ∧ (w'.heap[gb716]? = some (.cells #[.int .i64 a0_0, .int .i64 a0_1, .int .i64 a0_2, .slice A0_3 l0_3.length c0_3] 108 (0, 0))) ∧ (Below w.heap.size w w')) ?_ ?_
                      rotate_left
                      · intro hJ4_5_14
                        refine join_ (σ := Value × Value) 5 #[true, true, true, true, true, true, true, true, false, false, true, true, true, true, false, false, false] (fun s_ => [(13, s_.1), (14, s_.2)]) (fun s_ w' => (w'.cell? ⟨gb716, 0, none⟩ = some (.int .i64 a0_0) ∧ w'.cell? ⟨gb716, 1, none⟩ = some (.int .i64 a0_1) ∧ w'.cell? ⟨gb716, 2, none⟩ = some (.int .i64 a0_2) ∧ w'.cell? ⟨gb716, 3, none⟩ = some (.slice A0_3 l0_3.length c0_3)) ∧ (Kd.R (Kd.int .u8) 5 w' w.heap.size (fun k_ => some k_ ≠ (s_.1 : Value).ownBlock ∧ some k_ ≠ (s_.2 : Value).ownBlock) (.slice Ao18 t720.length co18) t720) ∧ (Kd.R (Kd.int .u8) 5 w' w.heap.size (fun k_ => some k_ ≠ (.slice Ao18 t720.length co18 : Value).ownBlock ∧ some k_ ≠ (s_.2 : Value).ownBlock) s_.1 y726) ∧ (Kd.R (Kd.int .u8) 5 w' w.heap.size (fun k_ => some k_ ≠ (.slice Ao18 t720.length co18 : Value).ownBlock ∧ some k_ ≠ (s_.1 : Value).ownBlock) s_.2 y729) ∧ (w'.heap[gb716]? = some (.cells #[.int .i64 a0_0, .int .i64 a0_1, .int .i64 a0_2, .slice A0_3 l0_3.length c0_3] 108 (0, 0))) ∧ (Below w.heap.size w w')) ?_ ?_
                        rotate_left
                        · intro hJ4_5
                          refine join_ (σ := Value × Value) 5 #[true, true, true, true, true, false, true, true, false, false, true, true, true, true, true, false, false] (fun s_ => [(13, s_.1), (23, s_.2)]) (fun s_ w' => (w'.cell? ⟨gb716, 0, none⟩ = some (.int .i64 a0_0) ∧ w'.cell? ⟨gb716, 1, none⟩ = some (.int .i64 a0_1) ∧ w'.cell? ⟨gb716, 2, none⟩ = some (.int .i64 a0_2) ∧ w'.cell? ⟨gb716, 3, none⟩ = some (.slice A0_3 l0_3.length c0_3)) ∧ (Kd.R (Kd.int .u8) 5 w' w.heap.size (fun k_ => some k_ ≠ (.slice Ao19 y723.length co19 : Value).ownBlock ∧ some k_ ≠ (s_.1 : Value).ownBlock ∧ some k_ ≠ (s_.2 : Value).ownBlock) (.slice Ao18 t720.length co18) t720) ∧ (Kd.R (Kd.int .u8) 5 w' w.heap.size (fun k_ => some k_ ≠ (.slice Ao18 t720.length co18 : Value).ownBlock ∧ some k_ ≠ (s_.1 : Value).ownBlock ∧ some k_ ≠ (s_.2 : Value).ownBlock) (.slice Ao19 y723.length co19) y723) ∧ (Kd.R (Kd.int .u8) 5 w' w.heap.size (fun k_ => some k_ ≠ (.slice Ao18 t720.length co18 : Value).ownBlock ∧ some k_ ≠ (.slice Ao19 y723.length co19 : Value).ownBlock ∧ some k_ ≠ (s_.2 : Value).ownBlock) s_.1 y726) ∧ (Kd.R (Kd.int .u8) 5 w' w.heap.size (fun k_ => some k_ ≠ (.slice Ao18 t720.length co18 : Value).ownBlock ∧ some k_ ≠ (.slice Ao19 y723.length co19 : Value).ownBlock ∧ some k_ ≠ (s_.1 : Value).ownBlock) s_.2 y738) ∧ (w'.heap[gb716]? = some (.cells #[.int .i64 a0_0, .int .i64 a0_1, .int .i64 a0_2, .slice A0_3 l0_3.length c0_3] 108 (0, 0))) ∧ (Below w.heap.size w w')) ?_ ?_
                          rotate_left
                          · intro hJ4_14
                            refine join_ (σ := Value) 6 #[true, true, true, true, true, false, true, true, false, false, true, true, true, true, false, false, false] (fun s_ => [(13, s_)]) (fun s_ w' => (w'.cell? ⟨gb716, 0, none⟩ = some (.int .i64 a0_0) ∧ w'.cell? ⟨gb716, 1, none⟩ = some (.int .i64 a0_1) ∧ w'.cell? ⟨gb716, 2, none⟩ = some (.int .i64 a0_2) ∧ w'.cell? ⟨gb716, 3, none⟩ = some (.slice A0_3 l0_3.length c0_3)) ∧ (Kd.R (Kd.int .u8) 5 w' w.heap.size (fun k_ => some k_ ≠ (.slice Ao19 y723.length co19 : Value).ownBlock ∧ some k_ ≠ (s_ : Value).ownBlock) (.slice Ao18 t720.length co18) t720) ∧ (Kd.R (Kd.int .u8) 5 w' w.heap.size (fun k_ => some k_ ≠ (.slice Ao18 t720.length co18 : Value).ownBlock ∧ some k_ ≠ (s_ : Value).ownBlock) (.slice Ao19 y723.length co19) y723) ∧ (Kd.R (Kd.int .u8) 5 w' w.heap.size (fun k_ => some k_ ≠ (.slice Ao18 t720.length co18 : Value).ownBlock ∧ some k_ ≠ (.slice Ao19 y723.length co19 : Value).ownBlock) s_ y726) ∧ (w'.heap[gb716]? = some (.cells #[.int .i64 a0_0, .int .i64 a0_1, .int .i64 a0_2, .slice A0_3 l0_3.length c0_3] 108 (0, 0))) ∧ (Below w.heap.size w w')) ?_ ?_
                            rotate_left
                            · intro hJ4
                              refine join_ (σ := Value) 6 #[true, true, true, true, false, false, true, true, false, false, true, true, true, true, true, false, false] (fun s_ => [(23, s_)]) (fun s_ w' => (w'.cell? ⟨gb716, 0, none⟩ = some (.int .i64 a0_0) ∧ w'.cell? ⟨gb716, 1, none⟩ = some (.int .i64 a0_1) ∧ w'.cell? ⟨gb716, 2, none⟩ = some (.int .i64 a0_2) ∧ w'.cell? ⟨gb716, 3, none⟩ = some (.slice A0_3 l0_3.length c0_3)) ∧ (Kd.R (Kd.int .u8) 5 w' w.heap.size (fun k_ => some k_ ≠ (.slice Ao19 y723.length co19 : Value).ownBlock ∧ some k_ ≠ (s_ : Value).ownBlock) (.slice Ao18 t720.length co18) t720) ∧ (Kd.R (Kd.int .u8) 5 w' w.heap.size (fun k_ => some k_ ≠ (.slice Ao18 t720.length co18 : Value).ownBlock ∧ some k_ ≠ (s_ : Value).ownBlock) (.slice Ao19 y723.length co19) y723) ∧ (Kd.R (Kd.int .u8) 5 w' w.heap.size (fun k_ => some k_ ≠ (.slice Ao18 t720.length co18 : Value).ownBlock ∧ some k_ ≠ (.slice Ao19 y723.length co19 : Value).ownBlock) s_ y738) ∧ (w'.heap[gb716]? = some (.cells #[.int .i64 a0_0, .int .i64 a0_1, .int .i64 a0_2, .slice A0_3 l0_3.length c0_3] 108 (0, 0))) ∧ (Below w.heap.size w w')) ?_ ?_
                              rotate_left
                              · intro hJ14
                                refine two_ (i := 4) (j := 14) (Ni := some 13) (Nj := some 23) (lb 17 15583) (lb 17 31951) rfl rfl rfl rfl (two_of HT_.out (by kernel_rfl)) (by decide) (by decide) (fun K hK => ?_) (fun K hK => ?_)
                                · skip
                                  refine Kd.R_lit_step (Kd.int .u8) _ 5 ?hg (N := 13) ?hd (xs := ([(a0_1) % 256] : List Int)) (inner := [.int .u8 ((a0_1) % 256)]) (ok := fun _ => True) (okp := fun _ => True) ?hr ?hp (fun _ hk => hk) trivial (Below.refl _ _) (Nat.le_refl _) (by simp) ?_; (case hd => rfl); (case hg => rfl); (case hr => first | (go_simp; done) | (go_simp; rfl)); (case hp => exact (Reps.one (show Kd.M (Kd.int .u8) _ _ _ ((a0_1) % 256) [.int .u8 ((a0_1) % 256)] from rfl) (Reps.none _ _)))
                                  intro v727 w21 ho22 hb hg_ hnew_
                                  clear hg_ hnew_
                                  (first | rw [← Ny726.out] at ho22 | (simp only [Int.reduceToNat] at ho22; rw [← Ny726.out] at ho22))
                                  have HO728 := Aside0.mk (Kd.R_lower (Kd.R_new' (Kd.R_new' ho22 (Kd.R_lt (zr_ HO722))) (Kd.R_lt (zr_ HO725))) (below_size (zB HB)))
                                  replace HO722 := Aside0.mk (Kd.R_elder' (zr_ HO722) (Kd.R_base ho22) hb)
                                  replace HO725 := Aside0.mk (Kd.R_elder' (zr_ HO725) (Kd.R_base ho22) hb)
                                  replace BK716 := zb BK716 hb
                                  replace HB := zs HB hb
                                  clear hb ho22
                                  refine hK.out _ _ ⟨(blk_cell BK716.out 0).trans rfl, (blk_cell BK716.out 1).trans rfl, (blk_cell BK716.out 2).trans rfl, (blk_cell BK716.out 3).trans rfl⟩ (fun hHeld => ?_)
                                  clear hK K
                                  refine norm_ (a' := ?_) ?_ ?_
                                  rotate_left
                                  · show Act.put _ (some 13) _ = _
                                    simp only [Act.put, List.setIfInBounds_toArray, List.set_cons_zero, List.set_cons_succ, i64_w, i32_w]
                                    rfl
                                  exact norm_ (by first | (simp only [putAll, Act.put, List.setIfInBounds_toArray, List.set_cons_zero, List.set_cons_succ]; done) | (simp only [putAll, Act.put, List.setIfInBounds_toArray, List.set_cons_zero, List.set_cons_succ]; rfl)) (hJ4 (v727) _ ⟨hHeld, (by (with_reducible repeat (first | apply Kd.R_alloc | apply Kd.R_drewN | apply Kd.R_drew)); exact Kd.R_mono HO722.out (fun _ hk => ⟨hk.1.2, hk.2⟩)), (zr_ HO725), (by (with_reducible repeat (first | apply Kd.R_alloc | apply Kd.R_drewN | apply Kd.R_drew)); exact Kd.R_mono HO728.out (fun _ hk => ⟨hk.1.2, hk.2⟩)), (zk BK716), (zB HB)⟩)
                                · skip
                                  refine Kd.R_lit_step (Kd.int .u8) _ 5 ?hg (N := 23) ?hd (xs := ([((l0_3.length : Int)) % 256] : List Int)) (inner := [.int .u8 (((l0_3.length : Int)) % 256)]) (ok := fun _ => True) (okp := fun _ => True) ?hr ?hp (fun _ hk => hk) trivial (Below.refl _ _) (Nat.le_refl _) (by simp) ?_; (case hd => rfl); (case hg => rfl); (case hr => first | (go_simp; done) | (go_simp; rfl)); (case hp => exact (Reps.one (show Kd.M (Kd.int .u8) _ _ _ (((l0_3.length : Int)) % 256) [.int .u8 (((l0_3.length : Int)) % 256)] from rfl) (Reps.none _ _)))
                                  intro v739 w21 ho22 hb hg_ hnew_
                                  clear hg_ hnew_
                                  (first | rw [← Ny738.out] at ho22 | (simp only [Int.reduceToNat] at ho22; rw [← Ny738.out] at ho22))
                                  have HO740 := Aside0.mk (Kd.R_lower (Kd.R_new' (Kd.R_new' ho22 (Kd.R_lt (zr_ HO722))) (Kd.R_lt (zr_ HO725))) (below_size (zB HB)))
                                  replace HO722 := Aside0.mk (Kd.R_elder' (zr_ HO722) (Kd.R_base ho22) hb)
                                  replace HO725 := Aside0.mk (Kd.R_elder' (zr_ HO725) (Kd.R_base ho22) hb)
                                  replace BK716 := zb BK716 hb
                                  replace HB := zs HB hb
                                  clear hb ho22
                                  refine hK.out _ _ ⟨(blk_cell BK716.out 0).trans rfl, (blk_cell BK716.out 1).trans rfl, (blk_cell BK716.out 2).trans rfl, (blk_cell BK716.out 3).trans rfl⟩ (fun hHeld => ?_)
                                  clear hK K
                                  refine norm_ (a' := ?_) ?_ ?_
                                  rotate_left
                                  · show Act.put _ (some 23) _ = _
                                    simp only [Act.put, List.setIfInBounds_toArray, List.set_cons_zero, List.set_cons_succ, i64_w, i32_w]
                                    rfl
                                  exact norm_ (by first | (simp only [putAll, Act.put, List.setIfInBounds_toArray, List.set_cons_zero, List.set_cons_succ]; done) | (simp only [putAll, Act.put, List.setIfInBounds_toArray, List.set_cons_zero, List.set_cons_succ]; rfl)) (hJ14 (v739) _ ⟨hHeld, (by (with_reducible repeat (first | apply Kd.R_alloc | apply Kd.R_drewN | apply Kd.R_drew)); exact Kd.R_mono HO722.out (fun _ hk => ⟨hk.1.2, hk.2⟩)), (zr_ HO725), (by (with_reducible repeat (first | apply Kd.R_alloc | apply Kd.R_drewN | apply Kd.R_drew)); exact Kd.R_mono HO740.out (fun _ hk => ⟨hk.1.2, hk.2⟩)), (zk BK716), (zB HB)⟩)
                              · skip
                                rintro v739 w23 ⟨hS_, h0_, h1_, h2_, h3_, h4_⟩
                                have n0_ : Aside0 (Kd.R (Kd.int .u8) 5 w23 w.heap.size (fun k_ => some k_ ≠ (.slice Ao19 y723.length co19 : Value).ownBlock ∧ some k_ ≠ (v739 : Value).ownBlock) (.slice Ao18 t720.length co18) t720) := ⟨h0_⟩
                                have n1_ : Aside0 (Kd.R (Kd.int .u8) 5 w23 w.heap.size (fun k_ => some k_ ≠ (.slice Ao18 t720.length co18 : Value).ownBlock ∧ some k_ ≠ (v739 : Value).ownBlock) (.slice Ao19 y723.length co19) y723) := ⟨h1_⟩
                                have n2_ : Aside0 (Kd.R (Kd.int .u8) 5 w23 w.heap.size (fun k_ => some k_ ≠ (.slice Ao18 t720.length co18 : Value).ownBlock ∧ some k_ ≠ (.slice Ao19 y723.length co19 : Value).ownBlock) v739 y738) := ⟨h2_⟩
                                have n3_ : Aside0 (w23.heap[gb716]? = some (.cells #[.int .i64 a0_0, .int .i64 a0_1, .int .i64 a0_2, .slice A0_3 l0_3.length c0_3] 108 (0, 0))) := ⟨h3_⟩
                                have n4_ : Aside0 (Below w.heap.size w w23) := ⟨h4_⟩
                                clear HO722
                                clear HO725
                                clear BK716
                                clear HB
                                clear h0_ h1_ h2_ h3_ h4_
                                have HO722 := n0_
                                have HO725 := n1_
                                have HO740 := n2_
                                have BK716 := n3_
                                have HB := n4_
                                clear n0_ n1_ n2_ n3_ n4_
                                have hHeld : w23.cell? ⟨gb716, 0, none⟩ = some (.int .i64 a0_0) ∧ w23.cell? ⟨gb716, 1, none⟩ = some (.int .i64 a0_1) ∧ w23.cell? ⟨gb716, 2, none⟩ = some (.int .i64 a0_2) ∧ w23.cell? ⟨gb716, 3, none⟩ = some (.slice A0_3 l0_3.length c0_3) := hS_
                                refine norm_ (a' := ?_) ?_ ?_
                                rotate_left
                                · simp only [putAll, Act.put, List.setIfInBounds_toArray, List.set_cons_zero, List.set_cons_succ]
                                  rfl
                                refine one_ (i := 4) (N := some 13) (lb 17 31967) rfl rfl (one_of HT_.out (by kernel_rfl)) (by decide) (fun K hK => ?_)
                                refine Kd.R_lit_step (Kd.int .u8) _ 5 ?hg (N := 13) ?hd (xs := ([(a0_1) % 256] : List Int)) (inner := [.int .u8 ((a0_1) % 256)]) (ok := fun _ => True) (okp := fun _ => True) ?hr ?hp (fun _ hk => hk) trivial (Below.refl _ _) (Nat.le_refl _) (by simp) ?_; (case hd => rfl); (case hg => rfl); (case hr => first | (go_simp; done) | (go_simp; rfl)); (case hp => exact (Reps.one (show Kd.M (Kd.int .u8) _ _ _ ((a0_1) % 256) [.int .u8 ((a0_1) % 256)] from rfl) (Reps.none _ _)))
                                intro v727 w24 ho25 hb hg_ hnew_
                                clear hg_ hnew_
                                (first | rw [← Ny726.out] at ho25 | (simp only [Int.reduceToNat] at ho25; rw [← Ny726.out] at ho25))
                                have HO728 := Aside0.mk (Kd.R_lower (Kd.R_new' (Kd.R_new' (Kd.R_new' ho25 (Kd.R_lt (zr_ HO722))) (Kd.R_lt (zr_ HO725))) (Kd.R_lt (zr_ HO740))) (below_size (zB HB)))
                                replace HO722 := Aside0.mk (Kd.R_elder' (zr_ HO722) (Kd.R_base ho25) hb)
                                replace HO725 := Aside0.mk (Kd.R_elder' (zr_ HO725) (Kd.R_base ho25) hb)
                                replace HO740 := Aside0.mk (Kd.R_elder' (zr_ HO740) (Kd.R_base ho25) hb)
                                replace BK716 := zb BK716 hb
                                replace HB := zs HB hb
                                clear hb ho25
                                refine hK.out _ _ ⟨(blk_cell BK716.out 0).trans rfl, (blk_cell BK716.out 1).trans rfl, (blk_cell BK716.out 2).trans rfl, (blk_cell BK716.out 3).trans rfl⟩ (fun hHeld => ?_)
                                clear hK K
                                refine norm_ (a' := ?_) ?_ ?_
                                rotate_left
                                · show Act.put _ (some 13) _ = _
                                  simp only [Act.put, List.setIfInBounds_toArray, List.set_cons_zero, List.set_cons_succ, i64_w, i32_w]
                                  rfl
                                exact norm_ (by first | (simp only [putAll, Act.put, List.setIfInBounds_toArray, List.set_cons_zero, List.set_cons_succ]; done) | (simp only [putAll, Act.put, List.setIfInBounds_toArray, List.set_cons_zero, List.set_cons_succ]; rfl)) (hJ4_14 (v727, v739) _ ⟨hHeld, (by (with_reducible repeat (first | apply Kd.R_alloc | apply Kd.R_drewN | apply Kd.R_drew)); exact Kd.R_mono HO722.out (fun _ hk => ⟨hk.1.1, ⟨hk.2, hk.1.2⟩⟩)), (by (with_reducible repeat (first | apply Kd.R_alloc | apply Kd.R_drewN | apply Kd.R_drew)); exact Kd.R_mono HO725.out (fun _ hk => ⟨hk.1.1, ⟨hk.2, hk.1.2⟩⟩)), (by (with_reducible repeat (first | apply Kd.R_alloc | apply Kd.R_drewN | apply Kd.R_drew)); exact Kd.R_mono HO728.out (fun _ hk => ⟨hk.1.1.2, ⟨hk.1.2, hk.2⟩⟩)), (by (with_reducible repeat (first | apply Kd.R_alloc | apply Kd.R_drewN | apply Kd.R_drew)); exact Kd.R_mono HO740.out (fun _ hk => ⟨hk.1.1, ⟨hk.1.2, hk.2⟩⟩)), (zk BK716), (zB HB)⟩)
                            · skip
                              rintro v727 w23 ⟨hS_, h0_, h1_, h2_, h3_, h4_⟩
                              have n0_ : Aside0 (Kd.R (Kd.int .u8) 5 w23 w.heap.size (fun k_ => some k_ ≠ (.slice Ao19 y723.length co19 : Value).ownBlock ∧ some k_ ≠ (v727 : Value).ownBlock) (.slice Ao18 t720.length co18) t720) := ⟨h0_⟩
                              have n1_ : Aside0 (Kd.R (Kd.int .u8) 5 w23 w.heap.size (fun k_ => some k_ ≠ (.slice Ao18 t720.length co18 : Value).ownBlock ∧ some k_ ≠ (v727 : Value).ownBlock) (.slice Ao19 y723.length co19) y723) := ⟨h1_⟩
                              have n2_ : Aside0 (Kd.R (Kd.int .u8) 5 w23 w.heap.size (fun k_ => some k_ ≠ (.slice Ao18 t720.length co18 : Value).ownBlock ∧ some k_ ≠ (.slice Ao19 y723.length co19 : Value).ownBlock) v727 y726) := ⟨h2_⟩
                              have n3_ : Aside0 (w23.heap[gb716]? = some (.cells #[.int .i64 a0_0, .int .i64 a0_1, .int .i64 a0_2, .slice A0_3 l0_3.length c0_3] 108 (0, 0))) := ⟨h3_⟩
                              have n4_ : Aside0 (Below w.heap.size w w23) := ⟨h4_⟩
                              clear HO722
                              clear HO725
                              clear BK716
                              clear HB
                              clear h0_ h1_ h2_ h3_ h4_
                              have HO722 := n0_
                              have HO725 := n1_
                              have HO728 := n2_
                              have BK716 := n3_
                              have HB := n4_
                              clear n0_ n1_ n2_ n3_ n4_
                              have hHeld : w23.cell? ⟨gb716, 0, none⟩ = some (.int .i64 a0_0) ∧ w23.cell? ⟨gb716, 1, none⟩ = some (.int .i64 a0_1) ∧ w23.cell? ⟨gb716, 2, none⟩ = some (.int .i64 a0_2) ∧ w23.cell? ⟨gb716, 3, none⟩ = some (.slice A0_3 l0_3.length c0_3) := hS_
                              obtain ⟨Ao25, co25, eo25⟩ := Kd.R_slice HO728.out
                              (first | subst eo25 | (injection eo25 with f1_ f2_ f3_; have f4_ := f1_.symm; have f5_ := f3_.symm; clear f1_ f2_ f3_; subst f4_; subst f5_))
                              refine norm_ (a' := ?_) ?_ ?_
                              rotate_left
                              · simp only [putAll, Act.put, List.setIfInBounds_toArray, List.set_cons_zero, List.set_cons_succ]
                                rfl
                              refine two_ (i := 5) (j := 14) (Ni := some 14) (Nj := some 23) (lb 17 15615) (lb 17 31967) rfl rfl rfl rfl (two_of HT_.out (by kernel_rfl)) (by decide) (by decide) (fun K hK => ?_) (fun K hK => ?_)
                              · skip
                                refine Kd.R_append_rows_step (Kd.int .u8) (w0 := w) w.heap.size (by rfl) (.tmp 9) (.tmp 13) 22 5 (.int .u8 0) 1 rfl Try.underlying22 info5 rfl (by decide) (by omega) (.slice Ao19 y723.length co19) y723 y726 _ _ _ (fun k_ => some k_ ≠ (.slice Ao18 t720.length co18 : Value).ownBlock ∧ some k_ ≠ (.slice Ao25 y726.length co25 : Value).ownBlock) (fun _ => False) rfl rfl ?aO ?aR (fun _ _ h => h) (fun _ h => h.elim) ?aF ?aB ?aS ?aL ?_
                                (case aR => repeat (first | exact (Kd.R_reads' HO728.out).2.2 | (with_reducible refine Kd.C_alloc ?_ _) | (with_reducible refine Kd.C_drewN ?_ _) | (with_reducible refine Kd.C_drew ?_)))
                                (case aB => exact (zB HB))
                                (case aF => exact (fun k_ hk => ⟨Kd.fresh' (Kd.R_lt (zr_ HO722)) k_ hk, Kd.fresh' (Kd.R_lt (zr_ HO728)) k_ hk⟩))
                                (case aO => exact (zr_ HO725))
                                (case aS => exact (below_size (zB HB)))
                                (case aL => have := LMc4.out; omega)
                                intro v730 w24 ho hb hg hat
                                rw [← Ny729.out] at ho
                                have n0_ := Aside0.mk (blk_grown (g := gb716) (o := .cells #[.int .i64 a0_0, .int .i64 a0_1, .int .i64 a0_2, .slice A0_3 l0_3.length c0_3] 108 (0, 0)) (zk BK716) hg (Kd.R_ne HO725.out BK716.out (by decide)))
                                have n1_ := Aside0.mk (Kd.R_after (ok := (fun k_ => some k_ ≠ (.slice Ao25 y726.length co25 : Value).ownBlock)) (by (with_reducible repeat (first | apply Kd.R_alloc | apply Kd.R_drewN | apply Kd.R_drew)); exact Kd.R_mono HO722.out (fun _ hk => ⟨hk.2, hk.1⟩)) hg hat)
                                have n2_ := Aside0.mk (Kd.R_after (ok := (fun k_ => some k_ ≠ (.slice Ao18 t720.length co18 : Value).ownBlock)) (zr_ HO728) hg hat)
                                have n3_ := Aside0.mk (hb)
                                have n4_ := Aside0.mk (ho)
                                clear BK716
                                clear HO722
                                clear HO728
                                clear HB
                                clear HO725
                                have BK716 := n0_
                                have HO722 := n1_
                                have HO728 := n2_
                                have HB := n3_
                                have HO731 := n4_
                                clear n0_ n1_ n2_ n3_ n4_
                                clear ho hb hg hat
                                refine hK.out _ _ ⟨(blk_cell BK716.out 0).trans rfl, (blk_cell BK716.out 1).trans rfl, (blk_cell BK716.out 2).trans rfl, (blk_cell BK716.out 3).trans rfl⟩ (fun hHeld => ?_)
                                clear hK K
                                refine norm_ (a' := ?_) ?_ ?_
                                rotate_left
                                · show Act.put _ (some 14) _ = _
                                  simp only [Act.put, List.setIfInBounds_toArray, List.set_cons_zero, List.set_cons_succ, i64_w, i32_w]
                                  rfl
                                exact norm_ (by first | (simp only [putAll, Act.put, List.setIfInBounds_toArray, List.set_cons_zero, List.set_cons_succ]; done) | (simp only [putAll, Act.put, List.setIfInBounds_toArray, List.set_cons_zero, List.set_cons_succ]; rfl)) (hJ4_5 (.slice Ao25 y726.length co25, v730) _ ⟨hHeld, (zr_ HO722), (zr_ HO728), (zr_ HO731), (zk BK716), (zB HB)⟩)
                              · skip
                                refine Kd.R_lit_step (Kd.int .u8) _ 5 ?hg (N := 23) ?hd (xs := ([((l0_3.length : Int)) % 256] : List Int)) (inner := [.int .u8 (((l0_3.length : Int)) % 256)]) (ok := fun _ => True) (okp := fun _ => True) ?hr ?hp (fun _ hk => hk) trivial (Below.refl _ _) (Nat.le_refl _) (by simp) ?_; (case hd => rfl); (case hg => rfl); (case hr => first | (go_simp; done) | (go_simp; rfl)); (case hp => exact (Reps.one (show Kd.M (Kd.int .u8) _ _ _ (((l0_3.length : Int)) % 256) [.int .u8 (((l0_3.length : Int)) % 256)] from rfl) (Reps.none _ _)))
                                intro v739 w24 ho25 hb hg_ hnew_
                                clear hg_ hnew_
                                (first | rw [← Ny738.out] at ho25 | (simp only [Int.reduceToNat] at ho25; rw [← Ny738.out] at ho25))
                                have HO740 := Aside0.mk (Kd.R_lower (Kd.R_new' (Kd.R_new' (Kd.R_new' ho25 (Kd.R_lt (zr_ HO722))) (Kd.R_lt (zr_ HO725))) (Kd.R_lt (zr_ HO728))) (below_size (zB HB)))
                                replace HO722 := Aside0.mk (Kd.R_elder' (zr_ HO722) (Kd.R_base ho25) hb)
                                replace HO725 := Aside0.mk (Kd.R_elder' (zr_ HO725) (Kd.R_base ho25) hb)
                                replace HO728 := Aside0.mk (Kd.R_elder' (zr_ HO728) (Kd.R_base ho25) hb)
                                replace BK716 := zb BK716 hb
                                replace HB := zs HB hb
                                clear hb ho25
                                refine hK.out _ _ ⟨(blk_cell BK716.out 0).trans rfl, (blk_cell BK716.out 1).trans rfl, (blk_cell BK716.out 2).trans rfl, (blk_cell BK716.out 3).trans rfl⟩ (fun hHeld => ?_)
                                clear hK K
                                refine norm_ (a' := ?_) ?_ ?_
                                rotate_left
                                · show Act.put _ (some 23) _ = _
                                  simp only [Act.put, List.setIfInBounds_toArray, List.set_cons_zero, List.set_cons_succ, i64_w, i32_w]
                                  rfl
                                exact norm_ (by first | (simp only [putAll, Act.put, List.setIfInBounds_toArray, List.set_cons_zero, List.set_cons_succ]; done) | (simp only [putAll, Act.put, List.setIfInBounds_toArray, List.set_cons_zero, List.set_cons_succ]; rfl)) (hJ4_14 (.slice Ao25 y726.length co25, v739) _ ⟨hHeld, (by (with_reducible repeat (first | apply Kd.R_alloc | apply Kd.R_drewN | apply Kd.R_drew)); exact Kd.R_mono HO722.out (fun _ hk => ⟨hk.1.1, ⟨hk.1.2, hk.2⟩⟩)), (by (with_reducible repeat (first | apply Kd.R_alloc | apply Kd.R_drewN | apply Kd.R_drew)); exact Kd.R_mono HO725.out (fun _ hk => ⟨hk.1.1, ⟨hk.1.2, hk.2⟩⟩)), (by (with_reducible repeat (first | apply Kd.R_alloc | apply Kd.R_drewN | apply Kd.R_drew)); exact Kd.R_mono HO728.out (fun _ hk => ⟨hk.1.1, ⟨hk.1.2, hk.2⟩⟩)), (by (with_reducible repeat (first | apply Kd.R_alloc | apply Kd.R_drewN | apply Kd.R_drew)); exact Kd.R_mono HO740.out (fun _ hk => ⟨hk.1.1.2, ⟨hk.1.2, hk.2⟩⟩)), (zk BK716), (zB HB)⟩)
                          · skip
                            rintro ⟨v727, v739⟩ w25 ⟨hS_, h0_, h1_, h2_, h3_, h4_, h5_⟩
                            have n0_ : Aside0 (Kd.R (Kd.int .u8) 5 w25 w.heap.size (fun k_ => some k_ ≠ (.slice Ao19 y723.length co19 : Value).ownBlock ∧ some k_ ≠ (v727 : Value).ownBlock ∧ some k_ ≠ (v739 : Value).ownBlock) (.slice Ao18 t720.length co18) t720) := ⟨h0_⟩
                            have n1_ : Aside0 (Kd.R (Kd.int .u8) 5 w25 w.heap.size (fun k_ => some k_ ≠ (.slice Ao18 t720.length co18 : Value).ownBlock ∧ some k_ ≠ (v727 : Value).ownBlock ∧ some k_ ≠ (v739 : Value).ownBlock) (.slice Ao19 y723.length co19) y723) := ⟨h1_⟩
                            have n2_ : Aside0 (Kd.R (Kd.int .u8) 5 w25 w.heap.size (fun k_ => some k_ ≠ (.slice Ao18 t720.length co18 : Value).ownBlock ∧ some k_ ≠ (.slice Ao19 y723.length co19 : Value).ownBlock ∧ some k_ ≠ (v739 : Value).ownBlock) v727 y726) := ⟨h2_⟩
                            have n3_ : Aside0 (Kd.R (Kd.int .u8) 5 w25 w.heap.size (fun k_ => some k_ ≠ (.slice Ao18 t720.length co18 : Value).ownBlock ∧ some k_ ≠ (.slice Ao19 y723.length co19 : Value).ownBlock ∧ some k_ ≠ (v727 : Value).ownBlock) v739 y738) := ⟨h3_⟩
                            have n4_ : Aside0 (w25.heap[gb716]? = some (.cells #[.int .i64 a0_0, .int .i64 a0_1, .int .i64 a0_2, .slice A0_3 l0_3.length c0_3] 108 (0, 0))) := ⟨h4_⟩
                            have n5_ : Aside0 (Below w.heap.size w w25) := ⟨h5_⟩
                            clear HO722
                            clear HO725
                            clear BK716
                            clear HB
                            clear h0_ h1_ h2_ h3_ h4_ h5_
                            have HO722 := n0_
                            have HO725 := n1_
                            have HO728 := n2_
                            have HO740 := n3_
                            have BK716 := n4_
                            have HB := n5_
                            clear n0_ n1_ n2_ n3_ n4_ n5_
                            have hHeld : w25.cell? ⟨gb716, 0, none⟩ = some (.int .i64 a0_0) ∧ w25.cell? ⟨gb716, 1, none⟩ = some (.int .i64 a0_1) ∧ w25.cell? ⟨gb716, 2, none⟩ = some (.int .i64 a0_2) ∧ w25.cell? ⟨gb716, 3, none⟩ = some (.slice A0_3 l0_3.length c0_3) := hS_
                            obtain ⟨Ao27, co27, eo27⟩ := Kd.R_slice HO728.out
                            (first | subst eo27 | (injection eo27 with f1_ f2_ f3_; have f4_ := f1_.symm; have f5_ := f3_.symm; clear f1_ f2_ f3_; subst f4_; subst f5_))
                            refine norm_ (a' := ?_) ?_ ?_
                            rotate_left
                            · simp only [putAll, Act.put, List.setIfInBounds_toArray, List.set_cons_zero, List.set_cons_succ]
                              rfl
                            refine one_ (i := 5) (N := some 14) (lb 17 31999) rfl rfl (one_of HT_.out (by kernel_rfl)) (by decide) (fun K hK => ?_)
                            refine Kd.R_append_rows_step (Kd.int .u8) (w0 := w) w.heap.size (by rfl) (.tmp 9) (.tmp 13) 22 5 (.int .u8 0) 1 rfl Try.underlying22 info5 rfl (by decide) (by omega) (.slice Ao19 y723.length co19) y723 y726 _ _ _ (fun k_ => some k_ ≠ (.slice Ao18 t720.length co18 : Value).ownBlock ∧ some k_ ≠ (.slice Ao27 y726.length co27 : Value).ownBlock ∧ some k_ ≠ (v739 : Value).ownBlock) (fun _ => False) rfl rfl ?aO ?aR (fun _ _ h => h) (fun _ h => h.elim) ?aF ?aB ?aS ?aL ?_
                            (case aR => repeat (first | exact (Kd.R_reads' HO728.out).2.2 | (with_reducible refine Kd.C_alloc ?_ _) | (with_reducible refine Kd.C_drewN ?_ _) | (with_reducible refine Kd.C_drew ?_)))
                            (case aB => exact (zB HB))
                            (case aF => exact (fun k_ hk => ⟨Kd.fresh' (Kd.R_lt (zr_ HO722)) k_ hk, Kd.fresh' (Kd.R_lt (zr_ HO728)) k_ hk, Kd.fresh' (Kd.R_lt (zr_ HO740)) k_ hk⟩))
                            (case aO => exact (zr_ HO725))
                            (case aS => exact (below_size (zB HB)))
                            (case aL => have := LMc4.out; omega)
                            intro v730 w26 ho hb hg hat
                            rw [← Ny729.out] at ho
                            have n0_ := Aside0.mk (blk_grown (g := gb716) (o := .cells #[.int .i64 a0_0, .int .i64 a0_1, .int .i64 a0_2, .slice A0_3 l0_3.length c0_3] 108 (0, 0)) (zk BK716) hg (Kd.R_ne HO725.out BK716.out (by decide)))
                            have n1_ := Aside0.mk (Kd.R_after (ok := (fun k_ => some k_ ≠ (.slice Ao27 y726.length co27 : Value).ownBlock ∧ some k_ ≠ (v739 : Value).ownBlock)) (by (with_reducible repeat (first | apply Kd.R_alloc | apply Kd.R_drewN | apply Kd.R_drew)); exact Kd.R_mono HO722.out (fun _ hk => ⟨⟨hk.2.1, hk.2.2⟩, hk.1⟩)) hg hat)
                            have n2_ := Aside0.mk (Kd.R_after (ok := (fun k_ => some k_ ≠ (.slice Ao18 t720.length co18 : Value).ownBlock ∧ some k_ ≠ (v739 : Value).ownBlock)) (by (with_reducible repeat (first | apply Kd.R_alloc | apply Kd.R_drewN | apply Kd.R_drew)); exact Kd.R_mono HO728.out (fun _ hk => ⟨⟨hk.1, hk.2.2⟩, hk.2.1⟩)) hg hat)
                            have n3_ := Aside0.mk (Kd.R_after (ok := (fun k_ => some k_ ≠ (.slice Ao18 t720.length co18 : Value).ownBlock ∧ some k_ ≠ (.slice Ao27 y726.length co27 : Value).ownBlock)) (by (with_reducible repeat (first | apply Kd.R_alloc | apply Kd.R_drewN | apply Kd.R_drew)); exact Kd.R_mono HO740.out (fun _ hk => ⟨⟨hk.1, hk.2.2⟩, hk.2.1⟩)) hg hat)
                            have n4_ := Aside0.mk (hb)
                            have n5_ := Aside0.mk (ho)
                            clear BK716
                            clear HO722
                            clear HO728
                            clear HO740
                            clear HB
                            clear HO725
                            have BK716 := n0_
                            have HO722 := n1_
                            have HO728 := n2_
                            have HO740 := n3_
                            have HB := n4_
                            have HO731 := n5_
                            clear n0_ n1_ n2_ n3_ n4_ n5_
                            clear ho hb hg hat
                            refine hK.out _ _ ⟨(blk_cell BK716.out 0).trans rfl, (blk_cell BK716.out 1).trans rfl, (blk_cell BK716.out 2).trans rfl, (blk_cell BK716.out 3).trans rfl⟩ (fun hHeld => ?_)
                            clear hK K
                            refine norm_ (a' := ?_) ?_ ?_
                            rotate_left
                            · show Act.put _ (some 14) _ = _
                              simp only [Act.put, List.setIfInBounds_toArray, List.set_cons_zero, List.set_cons_succ, i64_w, i32_w]
                              rfl
                            exact norm_ (by first | (simp only [putAll, Act.put, List.setIfInBounds_toArray, List.set_cons_zero, List.set_cons_succ]; done) | (simp only [putAll, Act.put, List.setIfInBounds_toArray, List.set_cons_zero, List.set_cons_succ]; rfl)) (hJ4_5_14 (.slice Ao27 y726.length co27, v730, v739) _ ⟨hHeld, (by (with_reducible repeat (first | apply Kd.R_alloc | apply Kd.R_drewN | apply Kd.R_drew)); exact Kd.R_mono HO722.out (fun _ hk => ⟨hk.1.1, ⟨hk.2, hk.1.2⟩⟩)), (by (with_reducible repeat (first | apply Kd.R_alloc | apply Kd.R_drewN | apply Kd.R_drew)); exact Kd.R_mono HO728.out (fun _ hk => ⟨hk.1.1, ⟨hk.2, hk.1.2⟩⟩)), (zr_ HO731), (by (with_reducible repeat (first | apply Kd.R_alloc | apply Kd.R_drewN | apply Kd.R_drew)); exact Kd.R_mono HO740.out (fun _ hk => ⟨hk.1.1, ⟨hk.1.2, hk.2⟩⟩)), (zk BK716), (zB HB)⟩)
                        · skip
                          rintro ⟨v727, v730⟩ w25 ⟨hS_, h0_, h1_, h2_, h3_, h4_⟩
                          have n0_ : Aside0 (Kd.R (Kd.int .u8) 5 w25 w.heap.size (fun k_ => some k_ ≠ (v727 : Value).ownBlock ∧ some k_ ≠ (v730 : Value).ownBlock) (.slice Ao18 t720.length co18) t720) := ⟨h0_⟩
                          have n1_ : Aside0 (Kd.R (Kd.int .u8) 5 w25 w.heap.size (fun k_ => some k_ ≠ (.slice Ao18 t720.length co18 : Value).ownBlock ∧ some k_ ≠ (v730 : Value).ownBlock) v727 y726) := ⟨h1_⟩
                          have n2_ : Aside0 (Kd.R (Kd.int .u8) 5 w25 w.heap.size (fun k_ => some k_ ≠ (.slice Ao18 t720.length co18 : Value).ownBlock ∧ some k_ ≠ (v727 : Value).ownBlock) v730 y729) := ⟨h2_⟩
                          have n3_ : Aside0 (w25.heap[gb716]? = some (.cells #[.int .i64 a0_0, .int .i64 a0_1, .int .i64 a0_2, .slice A0_3 l0_3.length c0_3] 108 (0, 0))) := ⟨h3_⟩
                          have n4_ : Aside0 (Below w.heap.size w w25) := ⟨h4_⟩
                          clear HO722
                          clear HO725
                          clear BK716
                          clear HB
                          clear h0_ h1_ h2_ h3_ h4_
                          have HO722 := n0_
                          have HO728 := n1_
                          have HO731 := n2_
                          have BK716 := n3_
                          have HB := n4_
                          clear n0_ n1_ n2_ n3_ n4_
                          have hHeld : w25.cell? ⟨gb716, 0, none⟩ = some (.int .i64 a0_0) ∧ w25.cell? ⟨gb716, 1, none⟩ = some (.int .i64 a0_1) ∧ w25.cell? ⟨gb716, 2, none⟩ = some (.int .i64 a0_2) ∧ w25.cell? ⟨gb716, 3, none⟩ = some (.slice A0_3 l0_3.length c0_3) := hS_
                          refine norm_ (a' := ?_) ?_ ?_
                          rotate_left
                          · simp only [putAll, Act.put, List.setIfInBounds_toArray, List.set_cons_zero, List.set_cons_succ]
                            rfl
                          refine two_ (i := 8) (j := 14) (Ni := some 17) (Nj := some 23) (lb 17 15871) (lb 17 31999) rfl rfl rfl rfl (two_of HT_.out (by kernel_rfl)) (by decide) (by decide) (fun K hK => ?_) (fun K hK => ?_)
                          · skip
                            refine goes_ Try.func112 (by kernel_rfl) rfl #[.int .i64 a0_2, .int .i64 2] (by rfl) rfl rfl (by (try simp only [List.map_toArray, List.map_cons, List.map_nil]); first | done | rfl | (simp only [List.length_drop, List.length_take]; rfl)) ?_
                            with_reducible refine (voluteref13_be.calls k a0_2 2 t732 _ A5.out).mono ?_
                            rintro e w26 ⟨v733, rfl, ho0, hb⟩
                            refine ⟨_, rfl, ?_⟩
                            have HO734 := Aside0.mk (Kd.R_lower (Kd.R_new' (Kd.R_new' (Kd.R_new' ho0 (Kd.R_lt (zr_ HO722))) (Kd.R_lt (zr_ HO728))) (Kd.R_lt (zr_ HO731))) (below_size (zB HB)))
                            replace HO722 := Aside0.mk (Kd.R_elder' (zr_ HO722) (Kd.R_base ho0) hb)
                            replace HO728 := Aside0.mk (Kd.R_elder' (zr_ HO728) (Kd.R_base ho0) hb)
                            replace HO731 := Aside0.mk (Kd.R_elder' (zr_ HO731) (Kd.R_base ho0) hb)
                            replace BK716 := zb BK716 hb
                            replace HB := zs HB hb
                            (try clear hb)
                            (try clear hb2)
                            (try clear hk)
                            (try clear hi)
                            (try clear ho0)
                            refine hK.out _ _ ⟨(blk_cell BK716.out 0).trans rfl, (blk_cell BK716.out 1).trans rfl, (blk_cell BK716.out 2).trans rfl, (blk_cell BK716.out 3).trans rfl⟩ (fun hHeld => ?_)
                            clear hK K
                            refine norm_ (a' := ?_) ?_ ?_
                            rotate_left
                            · show Act.put _ (some 17) _ = _
                              simp only [Act.put, List.setIfInBounds_toArray, List.set_cons_zero, List.set_cons_succ, i64_w, i32_w]
                              rfl
                            exact norm_ (by first | (simp only [putAll, Act.put, List.setIfInBounds_toArray, List.set_cons_zero, List.set_cons_succ]; done) | (simp only [putAll, Act.put, List.setIfInBounds_toArray, List.set_cons_zero, List.set_cons_succ]; rfl)) (hJ4_5_8 (v727, v730, v733) _ ⟨hHeld, (by (with_reducible repeat (first | apply Kd.R_alloc | apply Kd.R_drewN | apply Kd.R_drew)); exact Kd.R_mono HO722.out (fun _ hk => ⟨hk.1.1, ⟨hk.1.2, hk.2⟩⟩)), (by (with_reducible repeat (first | apply Kd.R_alloc | apply Kd.R_drewN | apply Kd.R_drew)); exact Kd.R_mono HO728.out (fun _ hk => ⟨hk.1.1, ⟨hk.1.2, hk.2⟩⟩)), (by (with_reducible repeat (first | apply Kd.R_alloc | apply Kd.R_drewN | apply Kd.R_drew)); exact Kd.R_mono HO731.out (fun _ hk => ⟨hk.1.1, ⟨hk.1.2, hk.2⟩⟩)), (by (with_reducible repeat (first | apply Kd.R_alloc | apply Kd.R_drewN | apply Kd.R_drew)); exact Kd.R_mono HO734.out (fun _ hk => ⟨hk.1.1.2, ⟨hk.1.2, hk.2⟩⟩)), (zk BK716), (zB HB)⟩)
                          · skip
                            refine Kd.R_lit_step (Kd.int .u8) _ 5 ?hg (N := 23) ?hd (xs := ([((l0_3.length : Int)) % 256] : List Int)) (inner := [.int .u8 (((l0_3.length : Int)) % 256)]) (ok := fun _ => True) (okp := fun _ => True) ?hr ?hp (fun _ hk => hk) trivial (Below.refl _ _) (Nat.le_refl _) (by simp) ?_; (case hd => rfl); (case hg => rfl); (case hr => first | (go_simp; done) | (go_simp; rfl)); (case hp => exact (Reps.one (show Kd.M (Kd.int .u8) _ _ _ (((l0_3.length : Int)) % 256) [.int .u8 (((l0_3.length : Int)) % 256)] from rfl) (Reps.none _ _)))
                            intro v739 w26 ho27 hb hg_ hnew_
                            clear hg_ hnew_
                            (first | rw [← Ny738.out] at ho27 | (simp only [Int.reduceToNat] at ho27; rw [← Ny738.out] at ho27))
                            have HO740 := Aside0.mk (Kd.R_lower (Kd.R_new' (Kd.R_new' (Kd.R_new' ho27 (Kd.R_lt (zr_ HO722))) (Kd.R_lt (zr_ HO728))) (Kd.R_lt (zr_ HO731))) (below_size (zB HB)))
                            replace HO722 := Aside0.mk (Kd.R_elder' (zr_ HO722) (Kd.R_base ho27) hb)
                            replace HO728 := Aside0.mk (Kd.R_elder' (zr_ HO728) (Kd.R_base ho27) hb)
                            replace HO731 := Aside0.mk (Kd.R_elder' (zr_ HO731) (Kd.R_base ho27) hb)
                            replace BK716 := zb BK716 hb
                            replace HB := zs HB hb
                            clear hb ho27
                            refine hK.out _ _ ⟨(blk_cell BK716.out 0).trans rfl, (blk_cell BK716.out 1).trans rfl, (blk_cell BK716.out 2).trans rfl, (blk_cell BK716.out 3).trans rfl⟩ (fun hHeld => ?_)
                            clear hK K
                            refine norm_ (a' := ?_) ?_ ?_
                            rotate_left
                            · show Act.put _ (some 23) _ = _
                              simp only [Act.put, List.setIfInBounds_toArray, List.set_cons_zero, List.set_cons_succ, i64_w, i32_w]
                              rfl
                            exact norm_ (by first | (simp only [putAll, Act.put, List.setIfInBounds_toArray, List.set_cons_zero, List.set_cons_succ]; done) | (simp only [putAll, Act.put, List.setIfInBounds_toArray, List.set_cons_zero, List.set_cons_succ]; rfl)) (hJ4_5_14 (v727, v730, v739) _ ⟨hHeld, (by (with_reducible repeat (first | apply Kd.R_alloc | apply Kd.R_drewN | apply Kd.R_drew)); exact Kd.R_mono HO722.out (fun _ hk => ⟨hk.1.1, ⟨hk.1.2, hk.2⟩⟩)), (by (with_reducible repeat (first | apply Kd.R_alloc | apply Kd.R_drewN | apply Kd.R_drew)); exact Kd.R_mono HO728.out (fun _ hk => ⟨hk.1.1, ⟨hk.1.2, hk.2⟩⟩)), (by (with_reducible repeat (first | apply Kd.R_alloc | apply Kd.R_drewN | apply Kd.R_drew)); exact Kd.R_mono HO731.out (fun _ hk => ⟨hk.1.1, ⟨hk.1.2, hk.2⟩⟩)), (by (with_reducible repeat (first | apply Kd.R_alloc | apply Kd.R_drewN | apply Kd.R_drew)); exact Kd.R_mono HO740.out (fun _ hk => ⟨hk.1.1.2, ⟨hk.1.2, hk.2⟩⟩)), (zk BK716), (zB HB)⟩)
                      · skip
                        rintro ⟨v727, v730, v739⟩ w27 ⟨hS_, h0_, h1_, h2_, h3_, h4_, h5_⟩
                        have n0_ : Aside0 (Kd.R (Kd.int .u8) 5 w27 w.heap.size (fun k_ => some k_ ≠ (v727 : Value).ownBlock ∧ some k_ ≠ (v730 : Value).ownBlock ∧ some k_ ≠ (v739 : Value).ownBlock) (.slice Ao18 t720.length co18) t720) := ⟨h0_⟩
                        have n1_ : Aside0 (Kd.R (Kd.int .u8) 5 w27 w.heap.size (fun k_ => some k_ ≠ (.slice Ao18 t720.length co18 : Value).ownBlock ∧ some k_ ≠ (v730 : Value).ownBlock ∧ some k_ ≠ (v739 : Value).ownBlock) v727 y726) := ⟨h1_⟩
                        have n2_ : Aside0 (Kd.R (Kd.int .u8) 5 w27 w.heap.size (fun k_ => some k_ ≠ (.slice Ao18 t720.length co18 : Value).ownBlock ∧ some k_ ≠ (v727 : Value).ownBlock ∧ some k_ ≠ (v739 : Value).ownBlock) v730 y729) := ⟨h2_⟩
                        have n3_ : Aside0 (Kd.R (Kd.int .u8) 5 w27 w.heap.size (fun k_ => some k_ ≠ (.slice Ao18 t720.length co18 : Value).ownBlock ∧ some k_ ≠ (v727 : Value).ownBlock ∧ some k_ ≠ (v730 : Value).ownBlock) v739 y738) := ⟨h3_⟩
                        have n4_ : Aside0 (w27.heap[gb716]? = some (.cells #[.int .i64 a0_0, .int .i64 a0_1, .int .i64 a0_2, .slice A0_3 l0_3.length c0_3] 108 (0, 0))) := ⟨h4_⟩
                        have n5_ : Aside0 (Below w.heap.size w w27) := ⟨h5_⟩
                        clear HO722
                        clear HO725
                        clear BK716
                        clear HB
                        clear h0_ h1_ h2_ h3_ h4_ h5_
                        have HO722 := n0_
                        have HO728 := n1_
                        have HO731 := n2_
                        have HO740 := n3_
                        have BK716 := n4_
                        have HB := n5_
                        clear n0_ n1_ n2_ n3_ n4_ n5_
                        have hHeld : w27.cell? ⟨gb716, 0, none⟩ = some (.int .i64 a0_0) ∧ w27.cell? ⟨gb716, 1, none⟩ = some (.int .i64 a0_1) ∧ w27.cell? ⟨gb716, 2, none⟩ = some (.int .i64 a0_2) ∧ w27.cell? ⟨gb716, 3, none⟩ = some (.slice A0_3 l0_3.length c0_3) := hS_
                        refine norm_ (a' := ?_) ?_ ?_
                        rotate_left
                        · simp only [putAll, Act.put, List.setIfInBounds_toArray, List.set_cons_zero, List.set_cons_succ]
                          rfl
                        refine one_ (i := 8) (N := some 17) (lb 17 32255) rfl rfl (one_of HT_.out (by kernel_rfl)) (by decide) (fun K hK => ?_)
                        refine goes_ Try.func112 (by kernel_rfl) rfl #[.int .i64 a0_2, .int .i64 2] (by rfl) rfl rfl (by (try simp only [List.map_toArray, List.map_cons, List.map_nil]); first | done | rfl | (simp only [List.length_drop, List.length_take]; rfl)) ?_
                        with_reducible refine (voluteref13_be.calls k a0_2 2 t732 _ A5.out).mono ?_
                        rintro e w28 ⟨v733, rfl, ho0, hb⟩
                        refine ⟨_, rfl, ?_⟩
                        have HO734 := Aside0.mk (Kd.R_lower (Kd.R_new' (Kd.R_new' (Kd.R_new' (Kd.R_new' ho0 (Kd.R_lt (zr_ HO722))) (Kd.R_lt (zr_ HO728))) (Kd.R_lt (zr_ HO731))) (Kd.R_lt (zr_ HO740))) (below_size (zB HB)))
                        replace HO722 := Aside0.mk (Kd.R_elder' (zr_ HO722) (Kd.R_base ho0) hb)
                        replace HO728 := Aside0.mk (Kd.R_elder' (zr_ HO728) (Kd.R_base ho0) hb)
                        replace HO731 := Aside0.mk (Kd.R_elder' (zr_ HO731) (Kd.R_base ho0) hb)
                        replace HO740 := Aside0.mk (Kd.R_elder' (zr_ HO740) (Kd.R_base ho0) hb)
                        replace BK716 := zb BK716 hb
                        replace HB := zs HB hb
                        (try clear hb)
                        (try clear hb2)
                        (try clear hk)
                        (try clear hi)
                        (try clear ho0)
                        refine hK.out _ _ ⟨(blk_cell BK716.out 0).trans rfl, (blk_cell BK716.out 1).trans rfl, (blk_cell BK716.out 2).trans rfl, (blk_cell BK716.out 3).trans rfl⟩ (fun hHeld => ?_)
                        clear hK K
                        refine norm_ (a' := ?_) ?_ ?_
                        rotate_left
                        · show Act.put _ (some 17) _ = _
                          simp only [Act.put, List.setIfInBounds_toArray, List.set_cons_zero, List.set_cons_succ, i64_w, i32_w]
                          rfl
                        exact norm_ (by first | (simp only [putAll, Act.put, List.setIfInBounds_toArray, List.set_cons_zero, List.set_cons_succ]; done) | (simp only [putAll, Act.put, List.setIfInBounds_toArray, List.set_cons_zero, List.set_cons_succ]; rfl)) (hJ4_5_8_14 (v727, v730, v733, v739) _ ⟨hHeld, (by (with_reducible repeat (first | apply Kd.R_alloc | apply Kd.R_drewN | apply Kd.R_drew)); exact Kd.R_mono HO722.out (fun _ hk => ⟨hk.1.1, ⟨hk.1.2.1, ⟨hk.2, hk.1.2.2⟩⟩⟩)), (by (with_reducible repeat (first | apply Kd.R_alloc | apply Kd.R_drewN | apply Kd.R_drew)); exact Kd.R_mono HO728.out (fun _ hk => ⟨hk.1.1, ⟨hk.1.2.1, ⟨hk.2, hk.1.2.2⟩⟩⟩)), (by (with_reducible repeat (first | apply Kd.R_alloc | apply Kd.R_drewN | apply Kd.R_drew)); exact Kd.R_mono HO731.out (fun _ hk => ⟨hk.1.1, ⟨hk.1.2.1, ⟨hk.2, hk.1.2.2⟩⟩⟩)), (by (with_reducible repeat (first | apply Kd.R_alloc | apply Kd.R_drewN | apply Kd.R_drew)); exact Kd.R_mono HO734.out (fun _ hk => ⟨hk.1.1.1.2, ⟨hk.1.1.2, ⟨hk.1.2, hk.2⟩⟩⟩)), (by (with_reducible repeat (first | apply Kd.R_alloc | apply Kd.R_drewN | apply Kd.R_drew)); exact Kd.R_mono HO740.out (fun _ hk => ⟨hk.1.1, ⟨hk.1.2.1, ⟨hk.1.2.2, hk.2⟩⟩⟩)), (zk BK716), (zB HB)⟩)
                    · skip
                      rintro ⟨v727, v730, v733⟩ w26 ⟨hS_, h0_, h1_, h2_, h3_, h4_, h5_⟩
                      have n0_ : Aside0 (Kd.R (Kd.int .u8) 5 w26 w.heap.size (fun k_ => some k_ ≠ (v727 : Value).ownBlock ∧ some k_ ≠ (v730 : Value).ownBlock ∧ some k_ ≠ (v733 : Value).ownBlock) (.slice Ao18 t720.length co18) t720) := ⟨h0_⟩
                      have n1_ : Aside0 (Kd.R (Kd.int .u8) 5 w26 w.heap.size (fun k_ => some k_ ≠ (.slice Ao18 t720.length co18 : Value).ownBlock ∧ some k_ ≠ (v730 : Value).ownBlock ∧ some k_ ≠ (v733 : Value).ownBlock) v727 y726) := ⟨h1_⟩
                      have n2_ : Aside0 (Kd.R (Kd.int .u8) 5 w26 w.heap.size (fun k_ => some k_ ≠ (.slice Ao18 t720.length co18 : Value).ownBlock ∧ some k_ ≠ (v727 : Value).ownBlock ∧ some k_ ≠ (v733 : Value).ownBlock) v730 y729) := ⟨h2_⟩
                      have n3_ : Aside0 (Kd.R (Kd.int .u8) 5 w26 w.heap.size (fun k_ => some k_ ≠ (.slice Ao18 t720.length co18 : Value).ownBlock ∧ some k_ ≠ (v727 : Value).ownBlock ∧ some k_ ≠ (v730 : Value).ownBlock) v733 t732) := ⟨h3_⟩
                      have n4_ : Aside0 (w26.heap[gb716]? = some (.cells #[.int .i64 a0_0, .int .i64 a0_1, .int .i64 a0_2, .slice A0_3 l0_3.length c0_3] 108 (0, 0))) := ⟨h4_⟩
                      have n5_ : Aside0 (Below w.heap.size w w26) := ⟨h5_⟩
                      clear HO722
                      clear HO725
                      clear BK716
                      clear HB
                      clear h0_ h1_ h2_ h3_ h4_ h5_
                      have HO722 := n0_
                      have HO728 := n1_
                      have HO731 := n2_
                      have HO734 := n3_
                      have BK716 := n4_
                      have HB := n5_
                      clear n0_ n1_ n2_ n3_ n4_ n5_
                      have hHeld : w26.cell? ⟨gb716, 0, none⟩ = some (.int .i64 a0_0) ∧ w26.cell? ⟨gb716, 1, none⟩ = some (.int .i64 a0_1) ∧ w26.cell? ⟨gb716, 2, none⟩ = some (.int .i64 a0_2) ∧ w26.cell? ⟨gb716, 3, none⟩ = some (.slice A0_3 l0_3.length c0_3) := hS_
                      obtain ⟨Ao28, co28, eo28⟩ := Kd.R_slice HO734.out
                      (first | subst eo28 | (injection eo28 with f1_ f2_ f3_; have f4_ := f1_.symm; have f5_ := f3_.symm; clear f1_ f2_ f3_; subst f4_; subst f5_))
                      refine norm_ (a' := ?_) ?_ ?_
                      rotate_left
                      · simp only [putAll, Act.put, List.setIfInBounds_toArray, List.set_cons_zero, List.set_cons_succ]
                        rfl
                      refine two_ (i := 9) (j := 14) (Ni := some 18) (Nj := some 23) (lb 17 16383) (lb 17 32255) rfl rfl rfl rfl (two_of HT_.out (by kernel_rfl)) (by decide) (by decide) (fun K hK => ?_) (fun K hK => ?_)
                      · skip
                        refine Kd.R_append_rows_step (Kd.int .u8) (w0 := w) w.heap.size (by rfl) (.tmp 14) (.tmp 17) 22 5 (.int .u8 0) 1 rfl Try.underlying22 info5 rfl (by decide) (by omega) v730 y729 t732 _ _ _ (fun k_ => some k_ ≠ (.slice Ao18 t720.length co18 : Value).ownBlock ∧ some k_ ≠ (v727 : Value).ownBlock ∧ some k_ ≠ (.slice Ao28 t732.length co28 : Value).ownBlock) (fun _ => False) rfl rfl ?aO ?aR (fun _ _ h => h) (fun _ h => h.elim) ?aF ?aB ?aS ?aL ?_
                        (case aR => repeat (first | exact (Kd.R_reads' HO734.out).2.2 | (with_reducible refine Kd.C_alloc ?_ _) | (with_reducible refine Kd.C_drewN ?_ _) | (with_reducible refine Kd.C_drew ?_)))
                        (case aB => exact (zB HB))
                        (case aF => exact (fun k_ hk => ⟨Kd.fresh' (Kd.R_lt (zr_ HO722)) k_ hk, Kd.fresh' (Kd.R_lt (zr_ HO728)) k_ hk, Kd.fresh' (Kd.R_lt (zr_ HO734)) k_ hk⟩))
                        (case aO => exact (zr_ HO731))
                        (case aS => exact (below_size (zB HB)))
                        (case aL => have := LMc6.out; omega)
                        intro v736 w27 ho hb hg hat
                        rw [← Ny735.out] at ho
                        have n0_ := Aside0.mk (blk_grown (g := gb716) (o := .cells #[.int .i64 a0_0, .int .i64 a0_1, .int .i64 a0_2, .slice A0_3 l0_3.length c0_3] 108 (0, 0)) (zk BK716) hg (Kd.R_ne HO731.out BK716.out (by decide)))
                        have n1_ := Aside0.mk (Kd.R_after (ok := (fun k_ => some k_ ≠ (v727 : Value).ownBlock ∧ some k_ ≠ (.slice Ao28 t732.length co28 : Value).ownBlock)) (by (with_reducible repeat (first | apply Kd.R_alloc | apply Kd.R_drewN | apply Kd.R_drew)); exact Kd.R_mono HO722.out (fun _ hk => ⟨⟨hk.1, hk.2.2⟩, hk.2.1⟩)) hg hat)
                        have n2_ := Aside0.mk (Kd.R_after (ok := (fun k_ => some k_ ≠ (.slice Ao18 t720.length co18 : Value).ownBlock ∧ some k_ ≠ (.slice Ao28 t732.length co28 : Value).ownBlock)) (by (with_reducible repeat (first | apply Kd.R_alloc | apply Kd.R_drewN | apply Kd.R_drew)); exact Kd.R_mono HO728.out (fun _ hk => ⟨⟨hk.1, hk.2.2⟩, hk.2.1⟩)) hg hat)
                        have n3_ := Aside0.mk (Kd.R_after (ok := (fun k_ => some k_ ≠ (.slice Ao18 t720.length co18 : Value).ownBlock ∧ some k_ ≠ (v727 : Value).ownBlock)) (by (with_reducible repeat (first | apply Kd.R_alloc | apply Kd.R_drewN | apply Kd.R_drew)); exact Kd.R_mono HO734.out (fun _ hk => ⟨⟨hk.1, hk.2.1⟩, hk.2.2⟩)) hg hat)
                        have n4_ := Aside0.mk (hb)
                        have n5_ := Aside0.mk (ho)
                        clear BK716
                        clear HO722
                        clear HO728
                        clear HO734
                        clear HB
                        clear HO731
                        have BK716 := n0_
                        have HO722 := n1_
                        have HO728 := n2_
                        have HO734 := n3_
                        have HB := n4_
                        have HO737 := n5_
                        clear n0_ n1_ n2_ n3_ n4_ n5_
                        clear ho hb hg hat
                        refine hK.out _ _ ⟨(blk_cell BK716.out 0).trans rfl, (blk_cell BK716.out 1).trans rfl, (blk_cell BK716.out 2).trans rfl, (blk_cell BK716.out 3).trans rfl⟩ (fun hHeld => ?_)
                        clear hK K
                        refine norm_ (a' := ?_) ?_ ?_
                        rotate_left
                        · show Act.put _ (some 18) _ = _
                          simp only [Act.put, List.setIfInBounds_toArray, List.set_cons_zero, List.set_cons_succ, i64_w, i32_w]
                          rfl
                        exact norm_ (by first | (simp only [putAll, Act.put, List.setIfInBounds_toArray, List.set_cons_zero, List.set_cons_succ]; done) | (simp only [putAll, Act.put, List.setIfInBounds_toArray, List.set_cons_zero, List.set_cons_succ]; rfl)) (hJ4_5_8_9 (v727, v730, .slice Ao28 t732.length co28, v736) _ ⟨hHeld, (by (with_reducible repeat (first | apply Kd.R_alloc | apply Kd.R_drewN | apply Kd.R_drew)); exact Kd.R_mono HO722.out (fun _ hk => ⟨hk.1.1, ⟨hk.1.2, hk.2⟩⟩)), (by (with_reducible repeat (first | apply Kd.R_alloc | apply Kd.R_drewN | apply Kd.R_drew)); exact Kd.R_mono HO728.out (fun _ hk => ⟨hk.1.1, ⟨hk.1.2, hk.2⟩⟩)), (by (with_reducible repeat (first | apply Kd.R_alloc | apply Kd.R_drewN | apply Kd.R_drew)); exact Kd.R_mono HO734.out (fun _ hk => ⟨hk.1.1, ⟨hk.1.2, hk.2⟩⟩)), (zr_ HO737), (zk BK716), (zB HB)⟩)
                      · skip
                        refine Kd.R_lit_step (Kd.int .u8) _ 5 ?hg (N := 23) ?hd (xs := ([((l0_3.length : Int)) % 256] : List Int)) (inner := [.int .u8 (((l0_3.length : Int)) % 256)]) (ok := fun _ => True) (okp := fun _ => True) ?hr ?hp (fun _ hk => hk) trivial (Below.refl _ _) (Nat.le_refl _) (by simp) ?_; (case hd => rfl); (case hg => rfl); (case hr => first | (go_simp; done) | (go_simp; rfl)); (case hp => exact (Reps.one (show Kd.M (Kd.int .u8) _ _ _ (((l0_3.length : Int)) % 256) [.int .u8 (((l0_3.length : Int)) % 256)] from rfl) (Reps.none _ _)))
                        intro v739 w27 ho28 hb hg_ hnew_
                        clear hg_ hnew_
                        (first | rw [← Ny738.out] at ho28 | (simp only [Int.reduceToNat] at ho28; rw [← Ny738.out] at ho28))
                        have HO740 := Aside0.mk (Kd.R_lower (Kd.R_new' (Kd.R_new' (Kd.R_new' (Kd.R_new' ho28 (Kd.R_lt (zr_ HO722))) (Kd.R_lt (zr_ HO728))) (Kd.R_lt (zr_ HO731))) (Kd.R_lt (zr_ HO734))) (below_size (zB HB)))
                        replace HO722 := Aside0.mk (Kd.R_elder' (zr_ HO722) (Kd.R_base ho28) hb)
                        replace HO728 := Aside0.mk (Kd.R_elder' (zr_ HO728) (Kd.R_base ho28) hb)
                        replace HO731 := Aside0.mk (Kd.R_elder' (zr_ HO731) (Kd.R_base ho28) hb)
                        replace HO734 := Aside0.mk (Kd.R_elder' (zr_ HO734) (Kd.R_base ho28) hb)
                        replace BK716 := zb BK716 hb
                        replace HB := zs HB hb
                        clear hb ho28
                        refine hK.out _ _ ⟨(blk_cell BK716.out 0).trans rfl, (blk_cell BK716.out 1).trans rfl, (blk_cell BK716.out 2).trans rfl, (blk_cell BK716.out 3).trans rfl⟩ (fun hHeld => ?_)
                        clear hK K
                        refine norm_ (a' := ?_) ?_ ?_
                        rotate_left
                        · show Act.put _ (some 23) _ = _
                          simp only [Act.put, List.setIfInBounds_toArray, List.set_cons_zero, List.set_cons_succ, i64_w, i32_w]
                          rfl
                        exact norm_ (by first | (simp only [putAll, Act.put, List.setIfInBounds_toArray, List.set_cons_zero, List.set_cons_succ]; done) | (simp only [putAll, Act.put, List.setIfInBounds_toArray, List.set_cons_zero, List.set_cons_succ]; rfl)) (hJ4_5_8_14 (v727, v730, .slice Ao28 t732.length co28, v739) _ ⟨hHeld, (by (with_reducible repeat (first | apply Kd.R_alloc | apply Kd.R_drewN | apply Kd.R_drew)); exact Kd.R_mono HO722.out (fun _ hk => ⟨hk.1.1, ⟨hk.1.2.1, ⟨hk.1.2.2, hk.2⟩⟩⟩)), (by (with_reducible repeat (first | apply Kd.R_alloc | apply Kd.R_drewN | apply Kd.R_drew)); exact Kd.R_mono HO728.out (fun _ hk => ⟨hk.1.1, ⟨hk.1.2.1, ⟨hk.1.2.2, hk.2⟩⟩⟩)), (by (with_reducible repeat (first | apply Kd.R_alloc | apply Kd.R_drewN | apply Kd.R_drew)); exact Kd.R_mono HO731.out (fun _ hk => ⟨hk.1.1, ⟨hk.1.2.1, ⟨hk.1.2.2, hk.2⟩⟩⟩)), (by (with_reducible repeat (first | apply Kd.R_alloc | apply Kd.R_drewN | apply Kd.R_drew)); exact Kd.R_mono HO734.out (fun _ hk => ⟨hk.1.1, ⟨hk.1.2.1, ⟨hk.1.2.2, hk.2⟩⟩⟩)), (by (with_reducible repeat (first | apply Kd.R_alloc | apply Kd.R_drewN | apply Kd.R_drew)); exact Kd.R_mono HO740.out (fun _ hk => ⟨hk.1.1.1.2, ⟨hk.1.1.2, ⟨hk.1.2, hk.2⟩⟩⟩)), (zk BK716), (zB HB)⟩)
                  · skip
                    rintro ⟨v727, v730, v733, v739⟩ w28 ⟨hS_, h0_, h1_, h2_, h3_, h4_, h5_, h6_⟩
                    have n0_ : Aside0 (Kd.R (Kd.int .u8) 5 w28 w.heap.size (fun k_ => some k_ ≠ (v727 : Value).ownBlock ∧ some k_ ≠ (v730 : Value).ownBlock ∧ some k_ ≠ (v733 : Value).ownBlock ∧ some k_ ≠ (v739 : Value).ownBlock) (.slice Ao18 t720.length co18) t720) := ⟨h0_⟩
                    have n1_ : Aside0 (Kd.R (Kd.int .u8) 5 w28 w.heap.size (fun k_ => some k_ ≠ (.slice Ao18 t720.length co18 : Value).ownBlock ∧ some k_ ≠ (v730 : Value).ownBlock ∧ some k_ ≠ (v733 : Value).ownBlock ∧ some k_ ≠ (v739 : Value).ownBlock) v727 y726) := ⟨h1_⟩
                    have n2_ : Aside0 (Kd.R (Kd.int .u8) 5 w28 w.heap.size (fun k_ => some k_ ≠ (.slice Ao18 t720.length co18 : Value).ownBlock ∧ some k_ ≠ (v727 : Value).ownBlock ∧ some k_ ≠ (v733 : Value).ownBlock ∧ some k_ ≠ (v739 : Value).ownBlock) v730 y729) := ⟨h2_⟩
                    have n3_ : Aside0 (Kd.R (Kd.int .u8) 5 w28 w.heap.size (fun k_ => some k_ ≠ (.slice Ao18 t720.length co18 : Value).ownBlock ∧ some k_ ≠ (v727 : Value).ownBlock ∧ some k_ ≠ (v730 : Value).ownBlock ∧ some k_ ≠ (v739 : Value).ownBlock) v733 t732) := ⟨h3_⟩
                    have n4_ : Aside0 (Kd.R (Kd.int .u8) 5 w28 w.heap.size (fun k_ => some k_ ≠ (.slice Ao18 t720.length co18 : Value).ownBlock ∧ some k_ ≠ (v727 : Value).ownBlock ∧ some k_ ≠ (v730 : Value).ownBlock ∧ some k_ ≠ (v733 : Value).ownBlock) v739 y738) := ⟨h4_⟩
                    have n5_ : Aside0 (w28.heap[gb716]? = some (.cells #[.int .i64 a0_0, .int .i64 a0_1, .int .i64 a0_2, .slice A0_3 l0_3.length c0_3] 108 (0, 0))) := ⟨h5_⟩
                    have n6_ : Aside0 (Below w.heap.size w w28) := ⟨h6_⟩
                    clear HO722
                    clear HO725
                    clear BK716
                    clear HB
                    clear h0_ h1_ h2_ h3_ h4_ h5_ h6_
                    have HO722 := n0_
                    have HO728 := n1_
                    have HO731 := n2_
                    have HO734 := n3_
                    have HO740 := n4_
                    have BK716 := n5_
                    have HB := n6_
                    clear n0_ n1_ n2_ n3_ n4_ n5_ n6_
                    have hHeld : w28.cell? ⟨gb716, 0, none⟩ = some (.int .i64 a0_0) ∧ w28.cell? ⟨gb716, 1, none⟩ = some (.int .i64 a0_1) ∧ w28.cell? ⟨gb716, 2, none⟩ = some (.int .i64 a0_2) ∧ w28.cell? ⟨gb716, 3, none⟩ = some (.slice A0_3 l0_3.length c0_3) := hS_
                    obtain ⟨Ao30, co30, eo30⟩ := Kd.R_slice HO734.out
                    (first | subst eo30 | (injection eo30 with f1_ f2_ f3_; have f4_ := f1_.symm; have f5_ := f3_.symm; clear f1_ f2_ f3_; subst f4_; subst f5_))
                    refine norm_ (a' := ?_) ?_ ?_
                    rotate_left
                    · simp only [putAll, Act.put, List.setIfInBounds_toArray, List.set_cons_zero, List.set_cons_succ]
                      rfl
                    refine one_ (i := 9) (N := some 18) (lb 17 32767) rfl rfl (one_of HT_.out (by kernel_rfl)) (by decide) (fun K hK => ?_)
                    refine Kd.R_append_rows_step (Kd.int .u8) (w0 := w) w.heap.size (by rfl) (.tmp 14) (.tmp 17) 22 5 (.int .u8 0) 1 rfl Try.underlying22 info5 rfl (by decide) (by omega) v730 y729 t732 _ _ _ (fun k_ => some k_ ≠ (.slice Ao18 t720.length co18 : Value).ownBlock ∧ some k_ ≠ (v727 : Value).ownBlock ∧ some k_ ≠ (.slice Ao30 t732.length co30 : Value).ownBlock ∧ some k_ ≠ (v739 : Value).ownBlock) (fun _ => False) rfl rfl ?aO ?aR (fun _ _ h => h) (fun _ h => h.elim) ?aF ?aB ?aS ?aL ?_
                    (case aR => repeat (first | exact (Kd.R_reads' HO734.out).2.2 | (with_reducible refine Kd.C_alloc ?_ _) | (with_reducible refine Kd.C_drewN ?_ _) | (with_reducible refine Kd.C_drew ?_)))
                    (case aB => exact (zB HB))
                    (case aF => exact (fun k_ hk => ⟨Kd.fresh' (Kd.R_lt (zr_ HO722)) k_ hk, Kd.fresh' (Kd.R_lt (zr_ HO728)) k_ hk, Kd.fresh' (Kd.R_lt (zr_ HO734)) k_ hk, Kd.fresh' (Kd.R_lt (zr_ HO740)) k_ hk⟩))
                    (case aO => exact (zr_ HO731))
                    (case aS => exact (below_size (zB HB)))
                    (case aL => have := LMc6.out; omega)
                    intro v736 w29 ho hb hg hat
                    rw [← Ny735.out] at ho
                    have n0_ := Aside0.mk (blk_grown (g := gb716) (o := .cells #[.int .i64 a0_0, .int .i64 a0_1, .int .i64 a0_2, .slice A0_3 l0_3.length c0_3] 108 (0, 0)) (zk BK716) hg (Kd.R_ne HO731.out BK716.out (by decide)))
                    have n1_ := Aside0.mk (Kd.R_after (ok := (fun k_ => some k_ ≠ (v727 : Value).ownBlock ∧ some k_ ≠ (.slice Ao30 t732.length co30 : Value).ownBlock ∧ some k_ ≠ (v739 : Value).ownBlock)) (by (with_reducible repeat (first | apply Kd.R_alloc | apply Kd.R_drewN | apply Kd.R_drew)); exact Kd.R_mono HO722.out (fun _ hk => ⟨⟨hk.1, ⟨hk.2.2.1, hk.2.2.2⟩⟩, hk.2.1⟩)) hg hat)
                    have n2_ := Aside0.mk (Kd.R_after (ok := (fun k_ => some k_ ≠ (.slice Ao18 t720.length co18 : Value).ownBlock ∧ some k_ ≠ (.slice Ao30 t732.length co30 : Value).ownBlock ∧ some k_ ≠ (v739 : Value).ownBlock)) (by (with_reducible repeat (first | apply Kd.R_alloc | apply Kd.R_drewN | apply Kd.R_drew)); exact Kd.R_mono HO728.out (fun _ hk => ⟨⟨hk.1, ⟨hk.2.2.1, hk.2.2.2⟩⟩, hk.2.1⟩)) hg hat)
                    have n3_ := Aside0.mk (Kd.R_after (ok := (fun k_ => some k_ ≠ (.slice Ao18 t720.length co18 : Value).ownBlock ∧ some k_ ≠ (v727 : Value).ownBlock ∧ some k_ ≠ (v739 : Value).ownBlock)) (by (with_reducible repeat (first | apply Kd.R_alloc | apply Kd.R_drewN | apply Kd.R_drew)); exact Kd.R_mono HO734.out (fun _ hk => ⟨⟨hk.1, ⟨hk.2.1, hk.2.2.2⟩⟩, hk.2.2.1⟩)) hg hat)
                    have n4_ := Aside0.mk (Kd.R_after (ok := (fun k_ => some k_ ≠ (.slice Ao18 t720.length co18 : Value).ownBlock ∧ some k_ ≠ (v727 : Value).ownBlock ∧ some k_ ≠ (.slice Ao30 t732.length co30 : Value).ownBlock)) (by (with_reducible repeat (first | apply Kd.R_alloc | apply Kd.R_drewN | apply Kd.R_drew)); exact Kd.R_mono HO740.out (fun _ hk => ⟨⟨hk.1, ⟨hk.2.1, hk.2.2.2⟩⟩, hk.2.2.1⟩)) hg hat)
                    have n5_ := Aside0.mk (hb)
                    have n6_ := Aside0.mk (ho)
                    clear BK716
                    clear HO722
                    clear HO728
                    clear HO734
                    clear HO740
                    clear HB
                    clear HO731
                    have BK716 := n0_
                    have HO722 := n1_
                    have HO728 := n2_
                    have HO734 := n3_
                    have HO740 := n4_
                    have HB := n5_
                    have HO737 := n6_
                    clear n0_ n1_ n2_ n3_ n4_ n5_ n6_
                    clear ho hb hg hat
                    refine hK.out _ _ ⟨(blk_cell BK716.out 0).trans rfl, (blk_cell BK716.out 1).trans rfl, (blk_cell BK716.out 2).trans rfl, (blk_cell BK716.out 3).trans rfl⟩ (fun hHeld => ?_)
                    clear hK K
                    refine norm_ (a' := ?_) ?_ ?_
                    rotate_left
                    · show Act.put _ (some 18) _ = _
                      simp only [Act.put, List.setIfInBounds_toArray, List.set_cons_zero, List.set_cons_succ, i64_w, i32_w]
                      rfl
                    exact norm_ (by first | (simp only [putAll, Act.put, List.setIfInBounds_toArray, List.set_cons_zero, List.set_cons_succ]; done) | (simp only [putAll, Act.put, List.setIfInBounds_toArray, List.set_cons_zero, List.set_cons_succ]; rfl)) (hJ4_5_8_9_14 (v727, v730, .slice Ao30 t732.length co30, v736, v739) _ ⟨hHeld, (by (with_reducible repeat (first | apply Kd.R_alloc | apply Kd.R_drewN | apply Kd.R_drew)); exact Kd.R_mono HO722.out (fun _ hk => ⟨hk.1.1, ⟨hk.1.2.1, ⟨hk.2, hk.1.2.2⟩⟩⟩)), (by (with_reducible repeat (first | apply Kd.R_alloc | apply Kd.R_drewN | apply Kd.R_drew)); exact Kd.R_mono HO728.out (fun _ hk => ⟨hk.1.1, ⟨hk.1.2.1, ⟨hk.2, hk.1.2.2⟩⟩⟩)), (by (with_reducible repeat (first | apply Kd.R_alloc | apply Kd.R_drewN | apply Kd.R_drew)); exact Kd.R_mono HO734.out (fun _ hk => ⟨hk.1.1, ⟨hk.1.2.1, ⟨hk.2, hk.1.2.2⟩⟩⟩)), (zr_ HO737), (by (with_reducible repeat (first | apply Kd.R_alloc | apply Kd.R_drewN | apply Kd.R_drew)); exact Kd.R_mono HO740.out (fun _ hk => ⟨hk.1.1, ⟨hk.1.2.1, ⟨hk.1.2.2, hk.2⟩⟩⟩)), (zk BK716), (zB HB)⟩)
                · skip
                  rintro ⟨v727, v730, v733, v736⟩ w28 ⟨hS_, h0_, h1_, h2_, h3_, h4_, h5_⟩
                  have n0_ : Aside0 (Kd.R (Kd.int .u8) 5 w28 w.heap.size (fun k_ => some k_ ≠ (v727 : Value).ownBlock ∧ some k_ ≠ (v733 : Value).ownBlock ∧ some k_ ≠ (v736 : Value).ownBlock) (.slice Ao18 t720.length co18) t720) := ⟨h0_⟩
                  have n1_ : Aside0 (Kd.R (Kd.int .u8) 5 w28 w.heap.size (fun k_ => some k_ ≠ (.slice Ao18 t720.length co18 : Value).ownBlock ∧ some k_ ≠ (v733 : Value).ownBlock ∧ some k_ ≠ (v736 : Value).ownBlock) v727 y726) := ⟨h1_⟩
                  have n2_ : Aside0 (Kd.R (Kd.int .u8) 5 w28 w.heap.size (fun k_ => some k_ ≠ (.slice Ao18 t720.length co18 : Value).ownBlock ∧ some k_ ≠ (v727 : Value).ownBlock ∧ some k_ ≠ (v736 : Value).ownBlock) v733 t732) := ⟨h2_⟩
                  have n3_ : Aside0 (Kd.R (Kd.int .u8) 5 w28 w.heap.size (fun k_ => some k_ ≠ (.slice Ao18 t720.length co18 : Value).ownBlock ∧ some k_ ≠ (v727 : Value).ownBlock ∧ some k_ ≠ (v733 : Value).ownBlock) v736 y735) := ⟨h3_⟩
                  have n4_ : Aside0 (w28.heap[gb716]? = some (.cells #[.int .i64 a0_0, .int .i64 a0_1, .int .i64 a0_2, .slice A0_3 l0_3.length c0_3] 108 (0, 0))) := ⟨h4_⟩
                  have n5_ : Aside0 (Below w.heap.size w w28) := ⟨h5_⟩
                  clear HO722
                  clear HO725
                  clear BK716
                  clear HB
                  clear h0_ h1_ h2_ h3_ h4_ h5_
                  have HO722 := n0_
                  have HO728 := n1_
                  have HO734 := n2_
                  have HO737 := n3_
                  have BK716 := n4_
                  have HB := n5_
                  clear n0_ n1_ n2_ n3_ n4_ n5_
                  have hHeld : w28.cell? ⟨gb716, 0, none⟩ = some (.int .i64 a0_0) ∧ w28.cell? ⟨gb716, 1, none⟩ = some (.int .i64 a0_1) ∧ w28.cell? ⟨gb716, 2, none⟩ = some (.int .i64 a0_2) ∧ w28.cell? ⟨gb716, 3, none⟩ = some (.slice A0_3 l0_3.length c0_3) := hS_
                  refine norm_ (a' := ?_) ?_ ?_
                  rotate_left
                  · simp only [putAll, Act.put, List.setIfInBounds_toArray, List.set_cons_zero, List.set_cons_succ]
                    rfl
                  refine one_ (i := 14) (N := some 23) (lb 17 32767) rfl rfl (one_of HT_.out (by kernel_rfl)) (by decide) (fun K hK => ?_)
                  refine Kd.R_lit_step (Kd.int .u8) _ 5 ?hg (N := 23) ?hd (xs := ([((l0_3.length : Int)) % 256] : List Int)) (inner := [.int .u8 (((l0_3.length : Int)) % 256)]) (ok := fun _ => True) (okp := fun _ => True) ?hr ?hp (fun _ hk => hk) trivial (Below.refl _ _) (Nat.le_refl _) (by simp) ?_; (case hd => rfl); (case hg => rfl); (case hr => first | (go_simp; done) | (go_simp; rfl)); (case hp => exact (Reps.one (show Kd.M (Kd.int .u8) _ _ _ (((l0_3.length : Int)) % 256) [.int .u8 (((l0_3.length : Int)) % 256)] from rfl) (Reps.none _ _)))
                  intro v739 w29 ho30 hb hg_ hnew_
                  clear hg_ hnew_
                  (first | rw [← Ny738.out] at ho30 | (simp only [Int.reduceToNat] at ho30; rw [← Ny738.out] at ho30))
                  have HO740 := Aside0.mk (Kd.R_lower (Kd.R_new' (Kd.R_new' (Kd.R_new' (Kd.R_new' ho30 (Kd.R_lt (zr_ HO722))) (Kd.R_lt (zr_ HO728))) (Kd.R_lt (zr_ HO734))) (Kd.R_lt (zr_ HO737))) (below_size (zB HB)))
                  replace HO722 := Aside0.mk (Kd.R_elder' (zr_ HO722) (Kd.R_base ho30) hb)
                  replace HO728 := Aside0.mk (Kd.R_elder' (zr_ HO728) (Kd.R_base ho30) hb)
                  replace HO734 := Aside0.mk (Kd.R_elder' (zr_ HO734) (Kd.R_base ho30) hb)
                  replace HO737 := Aside0.mk (Kd.R_elder' (zr_ HO737) (Kd.R_base ho30) hb)
                  replace BK716 := zb BK716 hb
                  replace HB := zs HB hb
                  clear hb ho30
                  refine hK.out _ _ ⟨(blk_cell BK716.out 0).trans rfl, (blk_cell BK716.out 1).trans rfl, (blk_cell BK716.out 2).trans rfl, (blk_cell BK716.out 3).trans rfl⟩ (fun hHeld => ?_)
                  clear hK K
                  refine norm_ (a' := ?_) ?_ ?_
                  rotate_left
                  · show Act.put _ (some 23) _ = _
                    simp only [Act.put, List.setIfInBounds_toArray, List.set_cons_zero, List.set_cons_succ, i64_w, i32_w]
                    rfl
                  exact norm_ (by first | (simp only [putAll, Act.put, List.setIfInBounds_toArray, List.set_cons_zero, List.set_cons_succ]; done) | (simp only [putAll, Act.put, List.setIfInBounds_toArray, List.set_cons_zero, List.set_cons_succ]; rfl)) (hJ4_5_8_9_14 (v727, v730, v733, v736, v739) _ ⟨hHeld, (by (with_reducible repeat (first | apply Kd.R_alloc | apply Kd.R_drewN | apply Kd.R_drew)); exact Kd.R_mono HO722.out (fun _ hk => ⟨hk.1.1, ⟨hk.1.2.1, ⟨hk.1.2.2, hk.2⟩⟩⟩)), (by (with_reducible repeat (first | apply Kd.R_alloc | apply Kd.R_drewN | apply Kd.R_drew)); exact Kd.R_mono HO728.out (fun _ hk => ⟨hk.1.1, ⟨hk.1.2.1, ⟨hk.1.2.2, hk.2⟩⟩⟩)), (by (with_reducible repeat (first | apply Kd.R_alloc | apply Kd.R_drewN | apply Kd.R_drew)); exact Kd.R_mono HO734.out (fun _ hk => ⟨hk.1.1, ⟨hk.1.2.1, ⟨hk.1.2.2, hk.2⟩⟩⟩)), (by (with_reducible repeat (first | apply Kd.R_alloc | apply Kd.R_drewN | apply Kd.R_drew)); exact Kd.R_mono HO737.out (fun _ hk => ⟨hk.1.1, ⟨hk.1.2.1, ⟨hk.1.2.2, hk.2⟩⟩⟩)), (by (with_reducible repeat (first | apply Kd.R_alloc | apply Kd.R_drewN | apply Kd.R_drew)); exact Kd.R_mono HO740.out (fun _ hk => ⟨hk.1.1.1.2, ⟨hk.1.1.2, ⟨hk.1.2, hk.2⟩⟩⟩)), (zk BK716), (zB HB)⟩)
              rintro ⟨v727, v730, v733, v736, v739⟩ w30 ⟨hS_, h0_, h1_, h2_, h3_, h4_, h5_, h6_⟩
              have n0_ : Aside0 (Kd.R (Kd.int .u8) 5 w30 w.heap.size (fun k_ => some k_ ≠ (v727 : Value).ownBlock ∧ some k_ ≠ (v733 : Value).ownBlock ∧ some k_ ≠ (v736 : Value).ownBlock ∧ some k_ ≠ (v739 : Value).ownBlock) (.slice Ao18 t720.length co18) t720) := ⟨h0_⟩
              have n1_ : Aside0 (Kd.R (Kd.int .u8) 5 w30 w.heap.size (fun k_ => some k_ ≠ (.slice Ao18 t720.length co18 : Value).ownBlock ∧ some k_ ≠ (v733 : Value).ownBlock ∧ some k_ ≠ (v736 : Value).ownBlock ∧ some k_ ≠ (v739 : Value).ownBlock) v727 y726) := ⟨h1_⟩
              have n2_ : Aside0 (Kd.R (Kd.int .u8) 5 w30 w.heap.size (fun k_ => some k_ ≠ (.slice Ao18 t720.length co18 : Value).ownBlock ∧ some k_ ≠ (v727 : Value).ownBlock ∧ some k_ ≠ (v736 : Value).ownBlock ∧ some k_ ≠ (v739 : Value).ownBlock) v733 t732) := ⟨h2_⟩
              have n3_ : Aside0 (Kd.R (Kd.int .u8) 5 w30 w.heap.size (fun k_ => some k_ ≠ (.slice Ao18 t720.length co18 : Value).ownBlock ∧ some k_ ≠ (v727 : Value).ownBlock ∧ some k_ ≠ (v733 : Value).ownBlock ∧ some k_ ≠ (v739 : Value).ownBlock) v736 y735) := ⟨h3_⟩
              have n4_ : Aside0 (Kd.R (Kd.int .u8) 5 w30 w.heap.size (fun k_ => some k_ ≠ (.slice Ao18 t720.length co18 : Value).ownBlock ∧ some k_ ≠ (v727 : Value).ownBlock ∧ some k_ ≠ (v733 : Value).ownBlock ∧ some k_ ≠ (v736 : Value).ownBlock) v739 y738) := ⟨h4_⟩
              have n5_ : Aside0 (w30.heap[gb716]? = some (.cells #[.int .i64 a0_0, .int .i64 a0_1, .int .i64 a0_2, .slice A0_3 l0_3.length c0_3] 108 (0, 0))) := ⟨h5_⟩
              have n6_ : Aside0 (Below w.heap.size w w30) := ⟨h6_⟩
              clear HO722
              clear HO725
              clear BK716
              clear HB
              clear h0_ h1_ h2_ h3_ h4_ h5_ h6_
              have HO722 := n0_
              have HO728 := n1_
              have HO734 := n2_
              have HO737 := n3_
              have HO740 := n4_
              have BK716 := n5_
              have HB := n6_
              clear n0_ n1_ n2_ n3_ n4_ n5_ n6_
              have hHeld : w30.cell? ⟨gb716, 0, none⟩ = some (.int .i64 a0_0) ∧ w30.cell? ⟨gb716, 1, none⟩ = some (.int .i64 a0_1) ∧ w30.cell? ⟨gb716, 2, none⟩ = some (.int .i64 a0_2) ∧ w30.cell? ⟨gb716, 3, none⟩ = some (.slice A0_3 l0_3.length c0_3) := hS_
              obtain ⟨Ao32, co32, eo32⟩ := Kd.R_slice HO740.out
              (first | subst eo32 | (injection eo32 with f1_ f2_ f3_; have f4_ := f1_.symm; have f5_ := f3_.symm; clear f1_ f2_ f3_; subst f4_; subst f5_))
              refine norm_ (a' := ?_) ?_ ?_
              rotate_left
              · simp only [putAll, Act.put, List.setIfInBounds_toArray, List.set_cons_zero, List.set_cons_succ]
                rfl
              refine one_ (i := 15) (N := some 24) (lb 17 65535) rfl rfl (one_of HT_.out (by kernel_rfl)) (by decide) (fun K hK => ?_)
              refine Kd.R_append_rows_step (Kd.int .u8) (w0 := w) w.heap.size (by rfl) (.tmp 18) (.tmp 23) 22 5 (.int .u8 0) 1 rfl Try.underlying22 info5 rfl (by decide) (by omega) v736 y735 y738 _ _ _ (fun k_ => some k_ ≠ (.slice Ao18 t720.length co18 : Value).ownBlock ∧ some k_ ≠ (v727 : Value).ownBlock ∧ some k_ ≠ (v733 : Value).ownBlock ∧ some k_ ≠ (.slice Ao32 y738.length co32 : Value).ownBlock) (fun _ => False) rfl rfl ?aO ?aR (fun _ _ h => h) (fun _ h => h.elim) ?aF ?aB ?aS ?aL ?_
              (case aR => repeat (first | exact (Kd.R_reads' HO740.out).2.2 | (with_reducible refine Kd.C_alloc ?_ _) | (with_reducible refine Kd.C_drewN ?_ _) | (with_reducible refine Kd.C_drew ?_)))
              (case aB => exact (zB HB))
              (case aF => exact (fun k_ hk => ⟨Kd.fresh' (Kd.R_lt (zr_ HO722)) k_ hk, Kd.fresh' (Kd.R_lt (zr_ HO728)) k_ hk, Kd.fresh' (Kd.R_lt (zr_ HO734)) k_ hk, Kd.fresh' (Kd.R_lt (zr_ HO740)) k_ hk⟩))
              (case aO => exact (zr_ HO737))
              (case aS => exact (below_size (zB HB)))
              (case aL => have := LMc7.out; omega)
              intro v742 w31 ho hb hg hat
              rw [← Ny741.out] at ho
              have n0_ := Aside0.mk (blk_grown (g := gb716) (o := .cells #[.int .i64 a0_0, .int .i64 a0_1, .int .i64 a0_2, .slice A0_3 l0_3.length c0_3] 108 (0, 0)) (zk BK716) hg (Kd.R_ne HO737.out BK716.out (by decide)))
              have n1_ := Aside0.mk (Kd.R_after (ok := (fun k_ => some k_ ≠ (v727 : Value).ownBlock ∧ some k_ ≠ (v733 : Value).ownBlock ∧ some k_ ≠ (.slice Ao32 y738.length co32 : Value).ownBlock)) (by (with_reducible repeat (first | apply Kd.R_alloc | apply Kd.R_drewN | apply Kd.R_drew)); exact Kd.R_mono HO722.out (fun _ hk => ⟨⟨hk.1, ⟨hk.2.1, hk.2.2.2⟩⟩, hk.2.2.1⟩)) hg hat)
              have n2_ := Aside0.mk (Kd.R_after (ok := (fun k_ => some k_ ≠ (.slice Ao18 t720.length co18 : Value).ownBlock ∧ some k_ ≠ (v733 : Value).ownBlock ∧ some k_ ≠ (.slice Ao32 y738.length co32 : Value).ownBlock)) (by (with_reducible repeat (first | apply Kd.R_alloc | apply Kd.R_drewN | apply Kd.R_drew)); exact Kd.R_mono HO728.out (fun _ hk => ⟨⟨hk.1, ⟨hk.2.1, hk.2.2.2⟩⟩, hk.2.2.1⟩)) hg hat)
              have n3_ := Aside0.mk (Kd.R_after (ok := (fun k_ => some k_ ≠ (.slice Ao18 t720.length co18 : Value).ownBlock ∧ some k_ ≠ (v727 : Value).ownBlock ∧ some k_ ≠ (.slice Ao32 y738.length co32 : Value).ownBlock)) (by (with_reducible repeat (first | apply Kd.R_alloc | apply Kd.R_drewN | apply Kd.R_drew)); exact Kd.R_mono HO734.out (fun _ hk => ⟨⟨hk.1, ⟨hk.2.1, hk.2.2.2⟩⟩, hk.2.2.1⟩)) hg hat)
              have n4_ := Aside0.mk (Kd.R_after (ok := (fun k_ => some k_ ≠ (.slice Ao18 t720.length co18 : Value).ownBlock ∧ some k_ ≠ (v727 : Value).ownBlock ∧ some k_ ≠ (v733 : Value).ownBlock)) (by (with_reducible repeat (first | apply Kd.R_alloc | apply Kd.R_drewN | apply Kd.R_drew)); exact Kd.R_mono HO740.out (fun _ hk => ⟨⟨hk.1, ⟨hk.2.1, hk.2.2.1⟩⟩, hk.2.2.2⟩)) hg hat)
              have n5_ := Aside0.mk (hb)
              have n6_ := Aside0.mk (ho)
              clear BK716
              clear HO722
              clear HO728
              clear HO734
              clear HO740
              clear HB
              clear HO737
              have BK716 := n0_
              have HO722 := n1_
              have HO728 := n2_
              have HO734 := n3_
              have HO740 := n4_
              have HB := n5_
              have HO743 := n6_
              clear n0_ n1_ n2_ n3_ n4_ n5_ n6_
              clear ho hb hg hat
              refine hK.out _ _ ⟨(blk_cell BK716.out 0).trans rfl, (blk_cell BK716.out 1).trans rfl, (blk_cell BK716.out 2).trans rfl, (blk_cell BK716.out 3).trans rfl⟩ (fun hHeld => ?_)
              clear hK K
              refine norm_ (a' := ?_) ?_ ?_
              rotate_left
              · show Act.put _ (some 24) _ = _
                simp only [Act.put, List.setIfInBounds_toArray, List.set_cons_zero, List.set_cons_succ, i64_w, i32_w]
                rfl
              refine pu 16 3 (lb 17 131071) rfl rfl (any_of HT_.out (by kernel_rfl)) ?_
              refine done_ (done_of HT_.out (by kernel_rfl)) ?_
              obtain ⟨Ao33, co33, eo33⟩ := Kd.R_slice HO743.out
              subst eo33
              try go_wp2_with (first | ((with_reducible refine gate_callee (f := 113) rfl ?_); refine goesL_ (some 27) rfl rfl Try.func113 (by kernel_rfl) rfl #[.slice Ao33 y741.length co33] rfl (by (try simp only [List.map_toArray, List.map_cons, List.map_nil]); first | done | rfl | (simp only [List.length_drop, List.length_take]; rfl)) ?_; (with_reducible refine (voluteref01_Sum16.calls k _ _ y741 t744 _ ?side1 ?side2 A8.out).mono ?_); (case side1 => repeat (first | exact (Kd.R_reads' HO743.out).2.2 | (with_reducible refine Kd.C_alloc ?_ _) | (with_reducible refine Kd.C_drewN ?_ _) | (with_reducible refine Kd.C_drew ?_))); (case side2 => exact (Kd.R_reads' HO743.out).2.1); rintro e w34 ⟨rfl, hb⟩; refine ⟨_, rfl, ?_⟩; replace HO722 := zR HO722 hb; replace HO728 := zR HO728 hb; replace HO734 := zR HO734 hb; replace HO740 := zR HO740 hb; replace HO743 := zR HO743 hb; replace BK716 := zb BK716 hb; replace HB := zs HB hb; (try clear hb); (try clear hb2); (try clear hk); (try clear hi)) | ((with_reducible refine gate_callee (f := 112) rfl ?_); refine goesL_ (some 28) rfl rfl Try.func112 (by kernel_rfl) rfl #[.int .i64 t744, .int .i64 2] rfl (by (try simp only [List.map_toArray, List.map_cons, List.map_nil]); first | done | rfl | (simp only [List.length_drop, List.length_take]; rfl)) ?_; (with_reducible refine (voluteref13_be.calls k t744 2 t745 _ A9.out).mono ?_); rintro e w35 ⟨v746, rfl, ho0, hb⟩; refine ⟨_, rfl, ?_⟩; have HO747 := Aside0.mk (Kd.R_lower (Kd.R_new' (Kd.R_new' (Kd.R_new' (Kd.R_new' (Kd.R_new' ho0 (Kd.R_lt (zr_ HO722))) (Kd.R_lt (zr_ HO728))) (Kd.R_lt (zr_ HO734))) (Kd.R_lt (zr_ HO740))) (Kd.R_lt (zr_ HO743))) (below_size (zB HB))); replace HO722 := Aside0.mk (Kd.R_elder' (zr_ HO722) (Kd.R_base ho0) hb); replace HO728 := Aside0.mk (Kd.R_elder' (zr_ HO728) (Kd.R_base ho0) hb); replace HO734 := Aside0.mk (Kd.R_elder' (zr_ HO734) (Kd.R_base ho0) hb); replace HO740 := Aside0.mk (Kd.R_elder' (zr_ HO740) (Kd.R_base ho0) hb); replace HO743 := Aside0.mk (Kd.R_elder' (zr_ HO743) (Kd.R_base ho0) hb); replace BK716 := zb BK716 hb; replace HB := zs HB hb; (try clear hb); (try clear hb2); (try clear hk); (try clear hi); (try clear ho0); obtain ⟨Ao37, co37, eo37⟩ := Kd.R_slice HO747.out; subst eo37) | ((with_reducible refine gate_builtin (b := .append) (xs := #[.tmp 25, .tmp 28]) rfl ?_); at_builtin; refine Kd.R_append_rows (Kd.int .u8) (w0 := w) w.heap.size rfl (.tmp 25) (.tmp 28) 22 5 (.int .u8 0) 1 rfl Try.underlying22 info5 rfl (by decide) (by omega) (.slice Ao33 y741.length co33) y741 t745 _ _ _ (fun k_ => some k_ ≠ (.slice Ao18 t720.length co18 : Value).ownBlock ∧ some k_ ≠ (v727 : Value).ownBlock ∧ some k_ ≠ (v733 : Value).ownBlock ∧ some k_ ≠ (.slice Ao32 y738.length co32 : Value).ownBlock ∧ some k_ ≠ (.slice Ao37 t745.length co37 : Value).ownBlock) (fun _ => False) rfl rfl ?aO ?aR (fun _ _ h => h) (fun _ h => h.elim) ?aF ?aB ?aS ?aL ?_; (case aR => repeat (first | exact (Kd.R_reads' HO747.out).2.2 | (with_reducible refine Kd.C_alloc ?_ _) | (with_reducible refine Kd.C_drewN ?_ _) | (with_reducible refine Kd.C_drew ?_))); (case aB => exact (zB HB)); (case aF => exact (fun k_ hk => ⟨Kd.fresh' (Kd.R_lt (zr_ HO722)) k_ hk, Kd.fresh' (Kd.R_lt (zr_ HO728)) k_ hk, Kd.fresh' (Kd.R_lt (zr_ HO734)) k_ hk, Kd.fresh' (Kd.R_lt (zr_ HO740)) k_ hk, Kd.fresh' (Kd.R_lt (zr_ HO747)) k_ hk⟩)); (case aO => exact (by (with_reducible repeat (first | apply Kd.R_alloc | apply Kd.R_drewN | apply Kd.R_drew)); exact Kd.R_mono HO743.out (fun _ hk => ⟨hk.1.1, ⟨hk.1.2.1, ⟨hk.1.2.2.1, ⟨hk.1.2.2.2, hk.2⟩⟩⟩⟩))); (case aS => exact (below_size (zB HB))); (case aL => have := LMc10.out; omega); intro v749 w36 ho hb hg hat; rw [← Ny748.out] at ho; have n0_ := Aside0.mk (blk_grown (g := gb716) (o := .cells #[.int .i64 a0_0, .int .i64 a0_1, .int .i64 a0_2, .slice A0_3 l0_3.length c0_3] 108 (0, 0)) (zk BK716) hg (Kd.R_ne HO743.out BK716.out (by decide))); have n1_ := Aside0.mk (Kd.R_after (ok := (fun k_ => some k_ ≠ (v727 : Value).ownBlock ∧ some k_ ≠ (v733 : Value).ownBlock ∧ some k_ ≠ (.slice Ao32 y738.length co32 : Value).ownBlock ∧ some k_ ≠ (.slice Ao37 t745.length co37 : Value).ownBlock)) (by (with_reducible repeat (first | apply Kd.R_alloc | apply Kd.R_drewN | apply Kd.R_drew)); exact Kd.R_mono HO722.out (fun _ hk => ⟨⟨hk.1.1.1, ⟨hk.1.1.2.1, ⟨hk.1.1.2.2, hk.2⟩⟩⟩, hk.1.2⟩)) hg hat); have n2_ := Aside0.mk (Kd.R_after (ok := (fun k_ => some k_ ≠ (.slice Ao18 t720.length co18 : Value).ownBlock ∧ some k_ ≠ (v733 : Value).ownBlock ∧ some k_ ≠ (.slice Ao32 y738.length co32 : Value).ownBlock ∧ some k_ ≠ (.slice Ao37 t745.length co37 : Value).ownBlock)) (by (with_reducible repeat (first | apply Kd.R_alloc | apply Kd.R_drewN | apply Kd.R_drew)); exact Kd.R_mono HO728.out (fun _ hk => ⟨⟨hk.1.1.1, ⟨hk.1.1.2.1, ⟨hk.1.1.2.2, hk.2⟩⟩⟩, hk.1.2⟩)) hg hat); have n3_ := Aside0.mk (Kd.R_after (ok := (fun k_ => some k_ ≠ (.slice Ao18 t720.length co18 : Value).ownBlock ∧ some k_ ≠ (v727 : Value).ownBlock ∧ some k_ ≠ (.slice Ao32 y738.length co32 : Value).ownBlock ∧ some k_ ≠ (.slice Ao37 t745.length co37 : Value).ownBlock)) (by (with_reducible repeat (first | apply Kd.R_alloc | apply Kd.R_drewN | apply Kd.R_drew)); exact Kd.R_mono HO734.out (fun _ hk => ⟨⟨hk.1.1.1, ⟨hk.1.1.2.1, ⟨hk.1.1.2.2, hk.2⟩⟩⟩, hk.1.2⟩)) hg hat); have n4_ := Aside0.mk (Kd.R_after (ok := (fun k_ => some k_ ≠ (.slice Ao18 t720.length co18 : Value).ownBlock ∧ some k_ ≠ (v727 : Value).ownBlock ∧ some k_ ≠ (v733 : Value).ownBlock ∧ some k_ ≠ (.slice Ao37 t745.length co37 : Value).ownBlock)) (by (with_reducible repeat (first | apply Kd.R_alloc | apply Kd.R_drewN | apply Kd.R_drew)); exact Kd.R_mono HO740.out (fun _ hk => ⟨⟨hk.1.1.1, ⟨hk.1.1.2.1, ⟨hk.1.1.2.2, hk.2⟩⟩⟩, hk.1.2⟩)) hg hat); have n5_ := Aside0.mk (Kd.R_after (ok := (fun k_ => some k_ ≠ (.slice Ao18 t720.length co18 : Value).ownBlock ∧ some k_ ≠ (v727 : Value).ownBlock ∧ some k_ ≠ (v733 : Value).ownBlock ∧ some k_ ≠ (.slice Ao32 y738.length co32 : Value).ownBlock)) (by (with_reducible repeat (first | apply Kd.R_alloc | apply Kd.R_drewN | apply Kd.R_drew)); exact Kd.R_mono HO747.out (fun _ hk => ⟨⟨hk.1.1.1.1.2, ⟨hk.1.1.1.2, ⟨hk.1.1.2, hk.1.2⟩⟩⟩, hk.2⟩)) hg hat); have n6_ := Aside0.mk (hb); have n7_ := Aside0.mk (ho); clear BK716; clear HO722; clear HO728; clear HO734; clear HO740; clear HO747; clear HB; clear HO743; have BK716 := n0_; have HO722 := n1_; have HO728 := n2_; have HO734 := n3_; have HO740 := n4_; have HO747 := n5_; have HB := n6_; have HO750 := n7_; clear n0_ n1_ n2_ n3_ n4_ n5_ n6_ n7_; clear ho hb hg hat; obtain ⟨hcz38_0, hcz38_1, hcz38_2, hcz38_3⟩ := zC4 BK716; obtain ⟨hfz38_0, hfz38_1, hfz38_2⟩ := zF3 BK716; have hfz38_3 := blk_frozen BK716.out 3) | ((with_reducible refine gate_builtin (b := .append) (xs := #[.tmp 30, .tmp 32]) rfl ?_); at_builtin; refine Kd.R_append_rows (Kd.int .u8) (w0 := w) w.heap.size rfl (.tmp 30) (.tmp 32) 22 5 (.int .u8 0) 1 rfl Try.underlying22 info5 rfl (by decide) (by omega) v749 y748 l0_3 _ _ _ (fun k_ => some k_ ≠ (.slice Ao18 t720.length co18 : Value).ownBlock ∧ some k_ ≠ (v727 : Value).ownBlock ∧ some k_ ≠ (v733 : Value).ownBlock ∧ some k_ ≠ (.slice Ao32 y738.length co32 : Value).ownBlock ∧ some k_ ≠ (.slice Ao37 t745.length co37 : Value).ownBlock) (fun _ => False) rfl rfl ?aO ?aR (fun _ _ h => h) (fun _ h => h.elim) ?aF ?aB ?aS ?aL ?_; (case aR => repeat (first | exact (Kd.C_below HR0_3.out HB.out) | (with_reducible refine Kd.C_alloc ?_ _) | (with_reducible refine Kd.C_drewN ?_ _) | (with_reducible refine Kd.C_drew ?_))); (case aB => exact (zB HB)); (case aF => exact (fun k_ hk => ⟨Kd.fresh' (Kd.R_lt (zr_ HO722)) k_ hk, Kd.fresh' (Kd.R_lt (zr_ HO728)) k_ hk, Kd.fresh' (Kd.R_lt (zr_ HO734)) k_ hk, Kd.fresh' (Kd.R_lt (zr_ HO740)) k_ hk, Kd.fresh' (Kd.R_lt (zr_ HO747)) k_ hk⟩)); (case aO => exact (zr_ HO750)); (case aS => exact (below_size (zB HB))); (case aL => have := LMc11.out; omega); intro v752 w39 ho hb hg hat; rw [← Ny751.out] at ho; have n0_ := Aside0.mk (blk_grown (g := gb716) (o := .cells #[.int .i64 a0_0, .int .i64 a0_1, .int .i64 a0_2, .slice A0_3 l0_3.length c0_3] 108 (0, 0)) (zk BK716) hg (Kd.R_ne HO750.out BK716.out (by decide))); have n1_ := Aside0.mk (Kd.R_after (ok := (fun k_ => some k_ ≠ (v727 : Value).ownBlock ∧ some k_ ≠ (v733 : Value).ownBlock ∧ some k_ ≠ (.slice Ao32 y738.length co32 : Value).ownBlock ∧ some k_ ≠ (.slice Ao37 t745.length co37 : Value).ownBlock)) (zr_ HO722) hg hat); have n2_ := Aside0.mk (Kd.R_after (ok := (fun k_ => some k_ ≠ (.slice Ao18 t720.length co18 : Value).ownBlock ∧ some k_ ≠ (v733 : Value).ownBlock ∧ some k_ ≠ (.slice Ao32 y738.length co32 : Value).ownBlock ∧ some k_ ≠ (.slice Ao37 t745.length co37 : Value).ownBlock)) (zr_ HO728) hg hat); have n3_ := Aside0.mk (Kd.R_after (ok := (fun k_ => some k_ ≠ (.slice Ao18 t720.length co18 : Value).ownBlock ∧ some k_ ≠ (v727 : Value).ownBlock ∧ some k_ ≠ (.slice Ao32 y738.length co32 : Value).ownBlock ∧ some k_ ≠ (.slice Ao37 t745.length co37 : Value).ownBlock)) (zr_ HO734) hg hat); have n4_ := Aside0.mk (Kd.R_after (ok := (fun k_ => some k_ ≠ (.slice Ao18 t720.length co18 : Value).ownBlock ∧ some k_ ≠ (v727 : Value).ownBlock ∧ some k_ ≠ (v733 : Value).ownBlock ∧ some k_ ≠ (.slice Ao37 t745.length co37 : Value).ownBlock)) (zr_ HO740) hg hat); have n5_ := Aside0.mk (Kd.R_after (ok := (fun k_ => some k_ ≠ (.slice Ao18 t720.length co18 : Value).ownBlock ∧ some k_ ≠ (v727 : Value).ownBlock ∧ some k_ ≠ (v733 : Value).ownBlock ∧ some k_ ≠ (.slice Ao32 y738.length co32 : Value).ownBlock)) (zr_ HO747) hg hat); have n6_ := Aside0.mk (hb); have n7_ := Aside0.mk (ho); clear BK716; clear HO722; clear HO728; clear HO734; clear HO740; clear HO747; clear HB; clear HO750; have BK716 := n0_; have HO722 := n1_; have HO728 := n2_; have HO734 := n3_; have HO740 := n4_; have HO747 := n5_; have HB := n6_; have HO753 := n7_; clear n0_ n1_ n2_ n3_ n4_ n5_ n6_ n7_; clear ho hb hg hat))
              go_ret
              exact ⟨_, by first | rfl | (simp [errW_none, errW_some] <;> rfl) | (simp [*, errW_none, errW_some] <;> rfl), by (with_reducible repeat (first | apply Kd.R_alloc | apply Kd.R_drewN | apply Kd.R_drew)); exact Kd.R_mono HO753.out (fun _ hk => trivial), by repeat (first | (with_reducible first | exact HB.out | apply below_alloc | apply pw_below_drewN | apply below_drew1 | refine below_set ?_ GE716.out) | exact HB.out)⟩
            · rw [if_neg c11] at H
              exact absurd H (by simp)
          · rw [if_neg c10] at H
            exact absurd H (by simp)
        · rw [if_neg c7] at H
          exact absurd H (by simp)
      · rw [if_neg c6] at H
        exact absurd H (by simp)
    · rw [if_neg c4] at H
      exact absurd H (by simp)
  · rw [if_neg c3] at H
    exact absurd H (by simp)
end Go.Proofs.Ytfhihhfckpolpaa.P
