/- What the law's proof needs: PxPick. -/
import Derived.Test.YtlolfijadcflaaaBkPx0
import Derived.Test.YtlolfijadcflaaaBkPxCost
import Derived.Test.YtlolfijadcflaaaBkCollectNodes
import Derived.Test.YtlolfijadcflaaaBkInsertints
namespace Go.Proofs.Ytlolfijadcflaaa.P
open Go.RowKit Go.Proofs.YtlolfijadcflaaaW.PrintWords Go.Proofs.YtlolfijadcflaaaW.PrintLast Go.Proofs.YtlolfijadcflaaaW.PrintMore
attribute [local go_sem] max2_int min2_int max_two min_two max_three min_three max_four min_four   -- for this text's walks alone
set_option linter.unusedVariables false
set_option linter.unusedSimpArgs false
mutual
def pick_Pick.j0 : Nat → List (S66) → Int → List (S66) → Bool → Option ((List (S66)) × Int × Int)
  | 0, _, _, _, _ => none
  | k + 1, x0, x1, x4, x15 => if x15 = true then (some (([] : List (S66)), 0, 1)) else ((ContainsFunc_nodes.f x0).bind fun t363 => (if t363 = true then (some (([] : List (S66)), 0, 1)) else (if (x0.length : Int) > 256 then (some (([] : List (S66)), 0, 2)) else (pick_Pick.l0 k x0 x1 x4 (-1) ([] : List Int) x0 (x0.length : Int) 0))))
def pick_Pick.l0 : Nat → List (S66) → Int → List (S66) → Int → List Int → List (S66) → Int → Int → Option ((List (S66)) × Int × Int)
  | 0, _, _, _, _, _, _, _, _ => none
  | k + 1, x0, x1, x4, x5, x7, x29, x30, x31 => if x31 < x30 then (if 0 ≤ x31 then (if x31 < (x29.length : Int) then (pick_Pick.l1 k x0 x1 x4 x5 x7 x31 (x7.length : Int) x29 x30 x31 ((rd_T66 x29 x31).f0) ((rd_T66 x29 x31).f1) ((rd_T66 x29 x31).f2) ((rd_T66 x29 x31).f3)) else (none)) else (none)) else (pick_Pick.l2 k x0 x4 x5 x7 (x7.length : Int) 0)
def pick_Pick.j3 : Nat → List (S66) → Int → List (S66) → Int → List Int → Int → Int → List (S66) → Int → Int → Option ((List (S66)) × Int × Int)
  | 0, _, _, _, _, _, _, _, _, _, _ => none
  | k + 1, x0, x1, x4, x5, x7, x8, x10, x29, x30, x31 => (Insert_ints.f x7 x10 (([x8] : List Int))).bind fun t371 => (if (t371.length : Int) ≤ x1 then (pick_Pick.l0 k x0 x1 x4 x5 t371 x29 x30 (wrap64 (x31 + 1))) else (if 0 ≤ x1 then (if x1 < (t371.length : Int) then (if 0 ≤ (rd t371 x1) then (if (rd t371 x1) < (x0.length : Int) then (if x1 ≤ (t371.length : Int) then ((some (t371.take (x1 : Int).toNat : List Int)).bind fun y376 => (if x5 < 0 then (pick_Pick.l0 k x0 x1 x4 ((rd_T66 x0 (rd t371 x1)).f2) y376 x29 x30 (wrap64 (x31 + 1))) else (if ((rd_T66 x0 (rd t371 x1)).f2) < x5 then (pick_Pick.l0 k x0 x1 x4 ((rd_T66 x0 (rd t371 x1)).f2) y376 x29 x30 (wrap64 (x31 + 1))) else (pick_Pick.l0 k x0 x1 x4 x5 y376 x29 x30 (wrap64 (x31 + 1)))))) else (none)) else (none)) else (none)) else (none)) else (none)))
def pick_Pick.l1 : Nat → List (S66) → Int → List (S66) → Int → List Int → Int → Int → List (S66) → Int → Int → Int → Int → Int → List Int → Option ((List (S66)) × Int × Int)
  | 0, _, _, _, _, _, _, _, _, _, _, _, _, _, _ => none
  | k + 1, x0, x1, x4, x5, x7, x8, x10, x29, x30, x31, x366000, x366001, x366002, x366003 => if x10 > 0 then (if 0 ≤ (wrap64 (x10 - 1)) then (if (wrap64 (x10 - 1)) < (x7.length : Int) then (if 0 ≤ (rd x7 (wrap64 (x10 - 1))) then (if (rd x7 (wrap64 (x10 - 1))) < (x0.length : Int) then (if ((rd_T66 x0 (rd x7 (wrap64 (x10 - 1)))).f2) > x366002 then (pick_Pick.l1 k x0 x1 x4 x5 x7 x8 (wrap64 (x10 - 1)) x29 x30 x31 x366000 x366001 x366002 x366003) else (pick_Pick.j3 k x0 x1 x4 x5 x7 x8 x10 x29 x30 x31)) else (none)) else (none)) else (none)) else (none)) else (pick_Pick.j3 k x0 x1 x4 x5 x7 x8 x10 x29 x30 x31)
def pick_Pick.l2 : Nat → List (S66) → List (S66) → Int → List Int → Int → Int → Option ((List (S66)) × Int × Int)
  | 0, _, _, _, _, _, _ => none
  | k + 1, x0, x4, x5, x85, x86, x87 => if x87 < x86 then (if 0 ≤ x87 then (if x87 < (x85.length : Int) then (if 0 ≤ (rd x85 x87) then (if (rd x85 x87) < (x0.length : Int) then ((Clone_ints.f ((rd_T66 x0 (rd x85 x87)).f3)).bind fun t382 => (if x4.length < 2932031007402 then (pick_Pick.l2 k x0 (x4 ++ [(⟨(rd_T66 x0 (rd x85 x87)).f0, (rd_T66 x0 (rd x85 x87)).f1, (rd_T66 x0 (rd x85 x87)).f2, t382⟩ : S66)]) x5 x85 x86 (wrap64 (x87 + 1))) else (none))) else (none)) else (none)) else (none)) else (none)) else (some (x4, x5, 0))
end
def pick_Pick.f (k : Nat) (l0 : List (S66)) (a1 : Int) : Option ((List (S66)) × Int × Int) := if a1 < 1 then (pick_Pick.j0 k l0 a1 ([] : List (S66)) true) else (pick_Pick.j0 k l0 a1 ([] : List (S66)) (decide (a1 > 16)))
theorem pick_Pick.mono_l : ∀ k, (∀ y0 y1 y2 y3, LeO (pick_Pick.j0 k y0 y1 y2 y3) (pick_Pick.j0 (k + 1) y0 y1 y2 y3)) ∧ (∀ y0 y1 y2 y3 y4 y5 y6 y7, LeO (pick_Pick.l0 k y0 y1 y2 y3 y4 y5 y6 y7) (pick_Pick.l0 (k + 1) y0 y1 y2 y3 y4 y5 y6 y7)) ∧ (∀ y0 y1 y2 y3 y4 y5 y6 y7 y8 y9, LeO (pick_Pick.j3 k y0 y1 y2 y3 y4 y5 y6 y7 y8 y9) (pick_Pick.j3 (k + 1) y0 y1 y2 y3 y4 y5 y6 y7 y8 y9)) ∧ (∀ y0 y1 y2 y3 y4 y5 y6 y7 y8 y9 y10 y11 y12 y13, LeO (pick_Pick.l1 k y0 y1 y2 y3 y4 y5 y6 y7 y8 y9 y10 y11 y12 y13) (pick_Pick.l1 (k + 1) y0 y1 y2 y3 y4 y5 y6 y7 y8 y9 y10 y11 y12 y13)) ∧ (∀ y0 y1 y2 y3 y4 y5, LeO (pick_Pick.l2 k y0 y1 y2 y3 y4 y5) (pick_Pick.l2 (k + 1) y0 y1 y2 y3 y4 y5))
  | 0 => ⟨fun _ _ _ _ r h => by simp [pick_Pick.j0] at h, fun _ _ _ _ _ _ _ _ r h => by simp [pick_Pick.l0] at h, fun _ _ _ _ _ _ _ _ _ _ r h => by simp [pick_Pick.j3] at h, fun _ _ _ _ _ _ _ _ _ _ _ _ _ _ r h => by simp [pick_Pick.l1] at h, fun _ _ _ _ _ _ r h => by simp [pick_Pick.l2] at h⟩
  | k + 1 => by
    obtain ⟨ih0, ih1, ih2, ih3, ih4⟩ := pick_Pick.mono_l k
    refine ⟨?_, ?_, ?_, ?_, ?_⟩
    · intro y0 y1 y2 y3
      unfold pick_Pick.j0
      repeat' first
      | (with_reducible exact ih0 _ _ _ _)
      | (with_reducible exact ih1 _ _ _ _ _ _ _ _)
      | (with_reducible exact ih2 _ _ _ _ _ _ _ _ _ _)
      | (with_reducible exact ih3 _ _ _ _ _ _ _ _ _ _ _ _ _ _)
      | (with_reducible exact ih4 _ _ _ _ _ _)
      | (with_reducible exact LeO.refl _)
      | (with_reducible exact LeO.none _)
      | (with_reducible refine LeO.ite ?_ ?_)
      | (with_reducible refine LeO.bind ?_ (fun _ => ?_))
      | exact ih0 _ _ _ _
      | exact ih1 _ _ _ _ _ _ _ _
      | exact ih2 _ _ _ _ _ _ _ _ _ _
      | exact ih3 _ _ _ _ _ _ _ _ _ _ _ _ _ _
      | exact ih4 _ _ _ _ _ _
      | exact LeO.none _
      | refine LeO.ite ?_ ?_
      | refine LeO.bind ?_ (fun _ => ?_)
    · intro y0 y1 y2 y3 y4 y5 y6 y7
      unfold pick_Pick.l0
      repeat' first
      | (with_reducible exact ih0 _ _ _ _)
      | (with_reducible exact ih1 _ _ _ _ _ _ _ _)
      | (with_reducible exact ih2 _ _ _ _ _ _ _ _ _ _)
      | (with_reducible exact ih3 _ _ _ _ _ _ _ _ _ _ _ _ _ _)
      | (with_reducible exact ih4 _ _ _ _ _ _)
      | (with_reducible exact LeO.refl _)
      | (with_reducible exact LeO.none _)
      | (with_reducible refine LeO.ite ?_ ?_)
      | (with_reducible refine LeO.bind ?_ (fun _ => ?_))
      | exact ih0 _ _ _ _
      | exact ih1 _ _ _ _ _ _ _ _
      | exact ih2 _ _ _ _ _ _ _ _ _ _
      | exact ih3 _ _ _ _ _ _ _ _ _ _ _ _ _ _
      | exact ih4 _ _ _ _ _ _
      | exact LeO.none _
      | refine LeO.ite ?_ ?_
      | refine LeO.bind ?_ (fun _ => ?_)
    · intro y0 y1 y2 y3 y4 y5 y6 y7 y8 y9
      unfold pick_Pick.j3
      repeat' first
      | (with_reducible exact ih0 _ _ _ _)
      | (with_reducible exact ih1 _ _ _ _ _ _ _ _)
      | (with_reducible exact ih2 _ _ _ _ _ _ _ _ _ _)
      | (with_reducible exact ih3 _ _ _ _ _ _ _ _ _ _ _ _ _ _)
      | (with_reducible exact ih4 _ _ _ _ _ _)
      | (with_reducible exact LeO.refl _)
      | (with_reducible exact LeO.none _)
      | (with_reducible refine LeO.ite ?_ ?_)
      | (with_reducible refine LeO.bind ?_ (fun _ => ?_))
      | exact ih0 _ _ _ _
      | exact ih1 _ _ _ _ _ _ _ _
      | exact ih2 _ _ _ _ _ _ _ _ _ _
      | exact ih3 _ _ _ _ _ _ _ _ _ _ _ _ _ _
      | exact ih4 _ _ _ _ _ _
      | exact LeO.none _
      | refine LeO.ite ?_ ?_
      | refine LeO.bind ?_ (fun _ => ?_)
    · intro y0 y1 y2 y3 y4 y5 y6 y7 y8 y9 y10 y11 y12 y13
      unfold pick_Pick.l1
      repeat' first
      | (with_reducible exact ih0 _ _ _ _)
      | (with_reducible exact ih1 _ _ _ _ _ _ _ _)
      | (with_reducible exact ih2 _ _ _ _ _ _ _ _ _ _)
      | (with_reducible exact ih3 _ _ _ _ _ _ _ _ _ _ _ _ _ _)
      | (with_reducible exact ih4 _ _ _ _ _ _)
      | (with_reducible exact LeO.refl _)
      | (with_reducible exact LeO.none _)
      | (with_reducible refine LeO.ite ?_ ?_)
      | (with_reducible refine LeO.bind ?_ (fun _ => ?_))
      | exact ih0 _ _ _ _
      | exact ih1 _ _ _ _ _ _ _ _
      | exact ih2 _ _ _ _ _ _ _ _ _ _
      | exact ih3 _ _ _ _ _ _ _ _ _ _ _ _ _ _
      | exact ih4 _ _ _ _ _ _
      | exact LeO.none _
      | refine LeO.ite ?_ ?_
      | refine LeO.bind ?_ (fun _ => ?_)
    · intro y0 y1 y2 y3 y4 y5
      unfold pick_Pick.l2
      repeat' first
      | (with_reducible exact ih0 _ _ _ _)
      | (with_reducible exact ih1 _ _ _ _ _ _ _ _)
      | (with_reducible exact ih2 _ _ _ _ _ _ _ _ _ _)
      | (with_reducible exact ih3 _ _ _ _ _ _ _ _ _ _ _ _ _ _)
      | (with_reducible exact ih4 _ _ _ _ _ _)
      | (with_reducible exact LeO.refl _)
      | (with_reducible exact LeO.none _)
      | (with_reducible refine LeO.ite ?_ ?_)
      | (with_reducible refine LeO.bind ?_ (fun _ => ?_))
      | exact ih0 _ _ _ _
      | exact ih1 _ _ _ _ _ _ _ _
      | exact ih2 _ _ _ _ _ _ _ _ _ _
      | exact ih3 _ _ _ _ _ _ _ _ _ _ _ _ _ _
      | exact ih4 _ _ _ _ _ _
      | exact LeO.none _
      | refine LeO.ite ?_ ?_
      | refine LeO.bind ?_ (fun _ => ?_)
theorem pick_Pick.mono : ∀ a0 a1 k, LeO (pick_Pick.f k a0 a1) (pick_Pick.f (k + 1) a0 a1) := by
 intro a0 a1 k
 obtain ⟨ih0, ih1, ih2, ih3, ih4⟩ := pick_Pick.mono_l k
 unfold pick_Pick.f
 repeat' first
     | (with_reducible exact ih0 _ _ _ _)
     | (with_reducible exact ih1 _ _ _ _ _ _ _ _)
     | (with_reducible exact ih2 _ _ _ _ _ _ _ _ _ _)
     | (with_reducible exact ih3 _ _ _ _ _ _ _ _ _ _ _ _ _ _)
     | (with_reducible exact ih4 _ _ _ _ _ _)
     | (with_reducible exact LeO.refl _)
     | (with_reducible exact LeO.none _)
     | (with_reducible refine LeO.ite ?_ ?_)
     | (with_reducible refine LeO.bind ?_ (fun _ => ?_))
     | exact ih0 _ _ _ _
     | exact ih1 _ _ _ _ _ _ _ _
     | exact ih2 _ _ _ _ _ _ _ _ _ _
     | exact ih3 _ _ _ _ _ _ _ _ _ _ _ _ _ _
     | exact ih4 _ _ _ _ _ _
     | exact LeO.none _
     | refine LeO.ite ?_ ?_
     | refine LeO.bind ?_ (fun _ => ?_)
set_option maxRecDepth 100000 in
theorem pick_Pick.calls.z1 {P : Prop} (h : P := by
  go_wp2
  repeat (go_quiet (fail); try go_wp2)
  go_meet
  first
    | case rel => exact ⟨_, (true), (by first | rfl | (simp; done) | (simp [*]; done)), H', ⟨by first | omega | exact Nat.le_refl _⟩, ⟨by first | exact Kd.S_nil _ _ _ _ _ | exact Kd.N_nil _ _ _ _ _ | exact Kd.V_nil _ _ _ _ _ | exact Kd.Q_nil _ _ _ _ _ | exact Kd.R_nil _ _ _ _ _⟩, ⟨by repeat (first | (with_reducible first | exact HB.out | apply below_alloc | apply pw_below_drewN | apply below_drew1) | exact HB.out)⟩⟩
    | case rel => exact ⟨_, (decide (a1 > 16)), (by first | rfl | (simp; done) | (simp [*]; done)), H', ⟨by first | omega | exact Nat.le_refl _⟩, ⟨by first | exact Kd.S_nil _ _ _ _ _ | exact Kd.N_nil _ _ _ _ _ | exact Kd.V_nil _ _ _ _ _ | exact Kd.Q_nil _ _ _ _ _ | exact Kd.R_nil _ _ _ _ _⟩, ⟨by repeat (first | (with_reducible first | exact HB.out | apply below_alloc | apply pw_below_drewN | apply below_drew1) | exact HB.out)⟩⟩
    | case rel => exact ⟨_, (x10_3), (by first | rfl | (simp; done) | (simp [*]; done)), H', ⟨by have := HJ2.out; have := HK2.out; have := HK3.out; first | omega | exact Nat.le_refl _⟩, ⟨by (with_reducible repeat (first | apply Kd.S_alloc | apply Kd.S_drewN | apply Kd.S_drew)); exact HO_4.out⟩, ⟨by (with_reducible repeat (first | apply Kd.R_alloc | apply Kd.R_drewN | apply Kd.R_drew)); exact HO_7.out⟩, ⟨by (with_reducible repeat (first | refine blk_drewN ?_ _ | refine blk_drew ?_ | refine blk_alloc ?_ _)); exact BK365.out⟩, ⟨by repeat (first | (with_reducible first | exact HB.out | apply below_alloc | apply pw_below_drewN | apply below_drew1 | refine below_set ?_ GE365.out) | exact HB.out)⟩⟩) : P := h
set_option maxRecDepth 100000 in
theorem pick_Pick.calls.z2 {P : Prop} (h : P := by
  go_wp2
  repeat (go_quiet (fail); try go_wp2)
  (try simp only [Exit.noGoto_ret, Exit.then, Exit.inBlock])
  go_ret3
  first
    | exact ⟨_, by first | rfl | (simp [errW_none, errW_some] <;> rfl) | (simp [*, errW_none, errW_some] <;> rfl), by first | exact Kd.S_nil _ _ _ _ _ | exact Kd.N_nil _ _ _ _ _ | exact Kd.V_nil _ _ _ _ _ | exact Kd.Q_nil _ _ _ _ _ | exact Kd.R_nil _ _ _ _ _, by repeat (first | (with_reducible first | exact HB.out | apply below_alloc | apply pw_below_drewN | apply below_drew1) | exact HB.out)⟩
    | exact ⟨_, by first | rfl | (simp [errW_none, errW_some] <;> rfl) | (simp [*, errW_none, errW_some] <;> rfl), by (with_reducible repeat (first | apply Kd.S_alloc | apply Kd.S_drewN | apply Kd.S_drew)); exact Kd.S_mono HO_4.out (fun _ hk => trivial), by repeat (first | (with_reducible first | exact HB.out | apply below_alloc | apply pw_below_drewN | apply below_drew1) | exact HB.out)⟩) : P := h
set_option maxRecDepth 100000 in
theorem pick_Pick.calls.z3 {P : Prop} (h : P := by
  go_wp2_with (first | ((with_reducible refine gate_dst (N := 59) rfl ?_); refine Kd.R_lit (Kd.int .i64) _ 3 ?hg (N := 59) ?hd (xs := ([x31_2] : List Int)) (inner := [.int .i64 x31_2]) (ok := fun _ => True) (okp := fun _ => True) ?hr ?hp (fun _ hk => hk) trivial (Below.refl _ _) (Nat.le_refl _) (by simp) ?_; (case hd => rfl); (case hg => rfl); (case hr => first | (go_simp; done) | (go_simp; rfl)); (case hp => exact (Reps.one (show Kd.M (Kd.int .i64) _ _ _ x31_2 [.int .i64 x31_2] from rfl) (Reps.none _ _))); intro vq0 wq1 hoq2 hb hg_ hnew_; clear hg_ hnew_; (first | rw [← Ny368.out] at hoq2 | (simp only [Int.reduceToNat] at hoq2; rw [← Ny368.out] at hoq2)); have n0_ := Aside0.mk (Kd.S_elder' (by (with_reducible repeat (first | apply Kd.S_alloc | apply Kd.S_drewN | apply Kd.S_drew)); exact HO_4.out) (Kd.R_base hoq2) hb); have n1_ := Aside0.mk (Kd.R_elder' (zr_ HO_7) (Kd.R_base hoq2) hb); have n2_ := Aside0.mk (Kd.R_lower (Kd.R_new' hoq2 (Kd.R_lt (zr_ HO_7))) (below_size (zB HB))); have n3_ := zb BK365 hb; have n4_ := zs HB hb; clear HO_4; clear HO_7; clear BK365; clear HB; have HO_4 := n0_; have HO_7 := n1_; have HOq3 := n2_; have BK365 := n3_; have HB := n4_; clear n0_ n1_ n2_ n3_ n4_; clear hb hoq2; obtain ⟨Aoq4, coq5, eoq6⟩ := Kd.R_slice HOq3.out; subst eoq6) | (go_at_call 126; (with_reducible refine (Insert_ints.calls (fun k_ => some k_ = (.slice Ao18 x7_2.length co18 : Value).ownBlock) (.slice Ao18 x7_2.length co18) x7_2 x10_14 (fun k_ => some k_ = (.slice Aoq4 y368.length coq5 : Value).ownBlock) (.slice Aoq4 y368.length coq5) y368 t371 w _ ?side1 ?side2 ?side3 ?side4 ?side5 A28.out).mono ?_); (case side1 => repeat (first | (with_reducible first | exact HB.out | apply below_alloc | apply pw_below_drewN | apply below_drew1 | refine below_set ?_ GE365.out) | exact HB.out)); (case side2 => exact Kd.R_tight rfl HO_7.out); (case side3 => exact fun k_ e_ => (HO_7.out.1 k_ e_.symm).2); (case side4 => exact Kd.R_tight rfl HOq3.out); (case side5 => exact fun k_ e_ => (HOq3.out.1 k_ e_.symm).2); rintro e wq7 ⟨vq8, rfl, hoq9, hb, hkp⟩; have n0_ := Aside0.mk (Kd.S_mono (ok' := fun k_ => k_ ≠ gb365 ∧ some k_ ≠ (vq8 : Value).ownBlock) (Kd.S_keptB (HO_4.out) hkp (fun k_ hk_ hs_ => Or.elim hs_ (fun e_ => (hk_.1.1) e_) (fun e_ => (hk_.2) e_))) (fun k_ hk_ => ⟨hk_.1.1.2, fun e_ => Or.elim (hoq9.1 k_ e_.symm) (fun hs_ => hk_.2.1 hs_) (fun hn_ => Nat.not_le.2 hk_.2.2 hn_)⟩)); have n1_ := Aside0.mk (blk_kept (zk BK365) hkp (fun hs_ => Or.elim hs_ (fun e_ => (fun e_ => (Kd.R_ne HO_7.out BK365.out (by decide)) e_) e_) (fun e_ => (fun e_ => (Kd.R_ne HOq3.out BK365.out (by decide)) e_) e_))); have n2_ := Aside0.mk (Kd.R_mono (ok' := fun k_ => True) hoq9 (fun k_ hk_ => trivial)); have n3_ := Aside0.mk (hb); clear HO_4; clear BK365; clear HB; clear HOq3; clear HO_7; have HO_4 := n0_; have BK365 := n1_; have HOq10 := n2_; have HB := n3_; clear n0_ n1_ n2_ n3_; (try clear hb); (try clear hkp); (try clear hoq9); obtain ⟨Aoq11, coq12, eoq13⟩ := Kd.R_slice HOq10.out; subst eoq13; have pq14 : 0 ≤ (a1 : Int) := of_decide_eq_true (by first | (with_reducible assumption) | assumption); have qq15 : a1 < (t371.length : Int) := of_decide_eq_true (by first | (with_reducible assumption) | assumption); obtain ⟨adq16, eq17, hxq18⟩ := Kd.at_int (Kd.R_reads' HOq10.out).2.2 a1 pq14 qq15; cases eq17; replace pq14 := eq_true pq14; replace qq15 := eq_true qq15; have pq19 : 0 ≤ ((rd t371 a1) : Int) := of_decide_eq_true (by first | (with_reducible assumption) | assumption); have qq20 : (rd t371 a1) < (l0.length : Int) := of_decide_eq_true (by first | (with_reducible assumption) | assumption); obtain ⟨adq21, Aq22, cq23, eq24, hxq25, hxq26, hxq27, hxq28, hlq29, hiq30⟩ := at_T66 HR0.out (rd t371 a1) pq19 qq20; obtain rfl : ad364 = adq21 := (by injection eq24); replace hxq25 := (HB.out.cell (World.block_lt_of_cell? w _ hxq25)).trans hxq25; replace hxq26 := (HB.out.cell (World.block_lt_of_cell? w _ hxq26)).trans hxq26; replace hxq27 := (HB.out.cell (World.block_lt_of_cell? w _ hxq27)).trans hxq27; replace hxq28 := (HB.out.cell (World.block_lt_of_cell? w _ hxq28)).trans hxq28; have HRq31 := Aside0.mk hiq30; have HCq32 := Aside0.mk hlq29; clear hiq30 hlq29; replace pq19 := eq_true pq19; replace qq20 := eq_true qq20; have qq33 : (a1 : Int) ≤ ((t371.length : Int) : Int) := of_decide_eq_true (by first | (with_reducible assumption) | assumption); obtain ⟨iq34, hiq35, _, hszq36, _⟩ := info_parts info3; have hcutq37 := cut_to (P := Try.prog) 52 3 .i64 Try.underlying52 hiq35 (some adq16) t371.length coq12 a1 (of_decide_eq_true (by first | (with_reducible assumption) | assumption)) qq33 (Kd.R_reads' HOq10.out).2.1; have hrq38 := Kd.R_take (m := (a1 : Int).toNat) HOq10.out (by omega); have hyq39 : y376.length = (a1 : Int).toNat := (by rw [Ny376.out, List.length_take]; omega); rw [← Ny376.out] at hrq38; rw [← hyq39] at hrq38 hcutq37; clear hyq39 hiq35 hszq36 HOq10; have HOq40 := Aside0.mk hrq38; clear hrq38; replace qq33 := eq_true qq33))
  repeat (go_quiet (first | ((with_reducible refine gate_dst (N := 59) rfl ?_); refine Kd.R_lit (Kd.int .i64) _ 3 ?hg (N := 59) ?hd (xs := ([x31_2] : List Int)) (inner := [.int .i64 x31_2]) (ok := fun _ => True) (okp := fun _ => True) ?hr ?hp (fun _ hk => hk) trivial (Below.refl _ _) (Nat.le_refl _) (by simp) ?_; (case hd => rfl); (case hg => rfl); (case hr => first | (go_simp; done) | (go_simp; rfl)); (case hp => exact (Reps.one (show Kd.M (Kd.int .i64) _ _ _ x31_2 [.int .i64 x31_2] from rfl) (Reps.none _ _))); intro vq0 wq1 hoq2 hb hg_ hnew_; clear hg_ hnew_; (first | rw [← Ny368.out] at hoq2 | (simp only [Int.reduceToNat] at hoq2; rw [← Ny368.out] at hoq2)); have n0_ := Aside0.mk (Kd.S_elder' (by (with_reducible repeat (first | apply Kd.S_alloc | apply Kd.S_drewN | apply Kd.S_drew)); exact HO_4.out) (Kd.R_base hoq2) hb); have n1_ := Aside0.mk (Kd.R_elder' (zr_ HO_7) (Kd.R_base hoq2) hb); have n2_ := Aside0.mk (Kd.R_lower (Kd.R_new' hoq2 (Kd.R_lt (zr_ HO_7))) (below_size (zB HB))); have n3_ := zb BK365 hb; have n4_ := zs HB hb; clear HO_4; clear HO_7; clear BK365; clear HB; have HO_4 := n0_; have HO_7 := n1_; have HOq3 := n2_; have BK365 := n3_; have HB := n4_; clear n0_ n1_ n2_ n3_ n4_; clear hb hoq2; obtain ⟨Aoq4, coq5, eoq6⟩ := Kd.R_slice HOq3.out; subst eoq6) | (go_at_call 126; (with_reducible refine (Insert_ints.calls (fun k_ => some k_ = (.slice Ao18 x7_2.length co18 : Value).ownBlock) (.slice Ao18 x7_2.length co18) x7_2 x10_14 (fun k_ => some k_ = (.slice Aoq4 y368.length coq5 : Value).ownBlock) (.slice Aoq4 y368.length coq5) y368 t371 w _ ?side1 ?side2 ?side3 ?side4 ?side5 A28.out).mono ?_); (case side1 => repeat (first | (with_reducible first | exact HB.out | apply below_alloc | apply pw_below_drewN | apply below_drew1 | refine below_set ?_ GE365.out) | exact HB.out)); (case side2 => exact Kd.R_tight rfl HO_7.out); (case side3 => exact fun k_ e_ => (HO_7.out.1 k_ e_.symm).2); (case side4 => exact Kd.R_tight rfl HOq3.out); (case side5 => exact fun k_ e_ => (HOq3.out.1 k_ e_.symm).2); rintro e wq7 ⟨vq8, rfl, hoq9, hb, hkp⟩; have n0_ := Aside0.mk (Kd.S_mono (ok' := fun k_ => k_ ≠ gb365 ∧ some k_ ≠ (vq8 : Value).ownBlock) (Kd.S_keptB (HO_4.out) hkp (fun k_ hk_ hs_ => Or.elim hs_ (fun e_ => (hk_.1.1) e_) (fun e_ => (hk_.2) e_))) (fun k_ hk_ => ⟨hk_.1.1.2, fun e_ => Or.elim (hoq9.1 k_ e_.symm) (fun hs_ => hk_.2.1 hs_) (fun hn_ => Nat.not_le.2 hk_.2.2 hn_)⟩)); have n1_ := Aside0.mk (blk_kept (zk BK365) hkp (fun hs_ => Or.elim hs_ (fun e_ => (fun e_ => (Kd.R_ne HO_7.out BK365.out (by decide)) e_) e_) (fun e_ => (fun e_ => (Kd.R_ne HOq3.out BK365.out (by decide)) e_) e_))); have n2_ := Aside0.mk (Kd.R_mono (ok' := fun k_ => True) hoq9 (fun k_ hk_ => trivial)); have n3_ := Aside0.mk (hb); clear HO_4; clear BK365; clear HB; clear HOq3; clear HO_7; have HO_4 := n0_; have BK365 := n1_; have HOq10 := n2_; have HB := n3_; clear n0_ n1_ n2_ n3_; (try clear hb); (try clear hkp); (try clear hoq9); obtain ⟨Aoq11, coq12, eoq13⟩ := Kd.R_slice HOq10.out; subst eoq13; have pq14 : 0 ≤ (a1 : Int) := of_decide_eq_true (by first | (with_reducible assumption) | assumption); have qq15 : a1 < (t371.length : Int) := of_decide_eq_true (by first | (with_reducible assumption) | assumption); obtain ⟨adq16, eq17, hxq18⟩ := Kd.at_int (Kd.R_reads' HOq10.out).2.2 a1 pq14 qq15; cases eq17; replace pq14 := eq_true pq14; replace qq15 := eq_true qq15; have pq19 : 0 ≤ ((rd t371 a1) : Int) := of_decide_eq_true (by first | (with_reducible assumption) | assumption); have qq20 : (rd t371 a1) < (l0.length : Int) := of_decide_eq_true (by first | (with_reducible assumption) | assumption); obtain ⟨adq21, Aq22, cq23, eq24, hxq25, hxq26, hxq27, hxq28, hlq29, hiq30⟩ := at_T66 HR0.out (rd t371 a1) pq19 qq20; obtain rfl : ad364 = adq21 := (by injection eq24); replace hxq25 := (HB.out.cell (World.block_lt_of_cell? w _ hxq25)).trans hxq25; replace hxq26 := (HB.out.cell (World.block_lt_of_cell? w _ hxq26)).trans hxq26; replace hxq27 := (HB.out.cell (World.block_lt_of_cell? w _ hxq27)).trans hxq27; replace hxq28 := (HB.out.cell (World.block_lt_of_cell? w _ hxq28)).trans hxq28; have HRq31 := Aside0.mk hiq30; have HCq32 := Aside0.mk hlq29; clear hiq30 hlq29; replace pq19 := eq_true pq19; replace qq20 := eq_true qq20; have qq33 : (a1 : Int) ≤ ((t371.length : Int) : Int) := of_decide_eq_true (by first | (with_reducible assumption) | assumption); obtain ⟨iq34, hiq35, _, hszq36, _⟩ := info_parts info3; have hcutq37 := cut_to (P := Try.prog) 52 3 .i64 Try.underlying52 hiq35 (some adq16) t371.length coq12 a1 (of_decide_eq_true (by first | (with_reducible assumption) | assumption)) qq33 (Kd.R_reads' HOq10.out).2.1; have hrq38 := Kd.R_take (m := (a1 : Int).toNat) HOq10.out (by omega); have hyq39 : y376.length = (a1 : Int).toNat := (by rw [Ny376.out, List.length_take]; omega); rw [← Ny376.out] at hrq38; rw [← hyq39] at hrq38 hcutq37; clear hyq39 hiq35 hszq36 HOq10; have HOq40 := Aside0.mk hrq38; clear hrq38; replace qq33 := eq_true qq33)); try go_wp2_with (first | ((with_reducible refine gate_dst (N := 59) rfl ?_); refine Kd.R_lit (Kd.int .i64) _ 3 ?hg (N := 59) ?hd (xs := ([x31_2] : List Int)) (inner := [.int .i64 x31_2]) (ok := fun _ => True) (okp := fun _ => True) ?hr ?hp (fun _ hk => hk) trivial (Below.refl _ _) (Nat.le_refl _) (by simp) ?_; (case hd => rfl); (case hg => rfl); (case hr => first | (go_simp; done) | (go_simp; rfl)); (case hp => exact (Reps.one (show Kd.M (Kd.int .i64) _ _ _ x31_2 [.int .i64 x31_2] from rfl) (Reps.none _ _))); intro vq0 wq1 hoq2 hb hg_ hnew_; clear hg_ hnew_; (first | rw [← Ny368.out] at hoq2 | (simp only [Int.reduceToNat] at hoq2; rw [← Ny368.out] at hoq2)); have n0_ := Aside0.mk (Kd.S_elder' (by (with_reducible repeat (first | apply Kd.S_alloc | apply Kd.S_drewN | apply Kd.S_drew)); exact HO_4.out) (Kd.R_base hoq2) hb); have n1_ := Aside0.mk (Kd.R_elder' (zr_ HO_7) (Kd.R_base hoq2) hb); have n2_ := Aside0.mk (Kd.R_lower (Kd.R_new' hoq2 (Kd.R_lt (zr_ HO_7))) (below_size (zB HB))); have n3_ := zb BK365 hb; have n4_ := zs HB hb; clear HO_4; clear HO_7; clear BK365; clear HB; have HO_4 := n0_; have HO_7 := n1_; have HOq3 := n2_; have BK365 := n3_; have HB := n4_; clear n0_ n1_ n2_ n3_ n4_; clear hb hoq2; obtain ⟨Aoq4, coq5, eoq6⟩ := Kd.R_slice HOq3.out; subst eoq6) | (go_at_call 126; (with_reducible refine (Insert_ints.calls (fun k_ => some k_ = (.slice Ao18 x7_2.length co18 : Value).ownBlock) (.slice Ao18 x7_2.length co18) x7_2 x10_14 (fun k_ => some k_ = (.slice Aoq4 y368.length coq5 : Value).ownBlock) (.slice Aoq4 y368.length coq5) y368 t371 w _ ?side1 ?side2 ?side3 ?side4 ?side5 A28.out).mono ?_); (case side1 => repeat (first | (with_reducible first | exact HB.out | apply below_alloc | apply pw_below_drewN | apply below_drew1 | refine below_set ?_ GE365.out) | exact HB.out)); (case side2 => exact Kd.R_tight rfl HO_7.out); (case side3 => exact fun k_ e_ => (HO_7.out.1 k_ e_.symm).2); (case side4 => exact Kd.R_tight rfl HOq3.out); (case side5 => exact fun k_ e_ => (HOq3.out.1 k_ e_.symm).2); rintro e wq7 ⟨vq8, rfl, hoq9, hb, hkp⟩; have n0_ := Aside0.mk (Kd.S_mono (ok' := fun k_ => k_ ≠ gb365 ∧ some k_ ≠ (vq8 : Value).ownBlock) (Kd.S_keptB (HO_4.out) hkp (fun k_ hk_ hs_ => Or.elim hs_ (fun e_ => (hk_.1.1) e_) (fun e_ => (hk_.2) e_))) (fun k_ hk_ => ⟨hk_.1.1.2, fun e_ => Or.elim (hoq9.1 k_ e_.symm) (fun hs_ => hk_.2.1 hs_) (fun hn_ => Nat.not_le.2 hk_.2.2 hn_)⟩)); have n1_ := Aside0.mk (blk_kept (zk BK365) hkp (fun hs_ => Or.elim hs_ (fun e_ => (fun e_ => (Kd.R_ne HO_7.out BK365.out (by decide)) e_) e_) (fun e_ => (fun e_ => (Kd.R_ne HOq3.out BK365.out (by decide)) e_) e_))); have n2_ := Aside0.mk (Kd.R_mono (ok' := fun k_ => True) hoq9 (fun k_ hk_ => trivial)); have n3_ := Aside0.mk (hb); clear HO_4; clear BK365; clear HB; clear HOq3; clear HO_7; have HO_4 := n0_; have BK365 := n1_; have HOq10 := n2_; have HB := n3_; clear n0_ n1_ n2_ n3_; (try clear hb); (try clear hkp); (try clear hoq9); obtain ⟨Aoq11, coq12, eoq13⟩ := Kd.R_slice HOq10.out; subst eoq13; have pq14 : 0 ≤ (a1 : Int) := of_decide_eq_true (by first | (with_reducible assumption) | assumption); have qq15 : a1 < (t371.length : Int) := of_decide_eq_true (by first | (with_reducible assumption) | assumption); obtain ⟨adq16, eq17, hxq18⟩ := Kd.at_int (Kd.R_reads' HOq10.out).2.2 a1 pq14 qq15; cases eq17; replace pq14 := eq_true pq14; replace qq15 := eq_true qq15; have pq19 : 0 ≤ ((rd t371 a1) : Int) := of_decide_eq_true (by first | (with_reducible assumption) | assumption); have qq20 : (rd t371 a1) < (l0.length : Int) := of_decide_eq_true (by first | (with_reducible assumption) | assumption); obtain ⟨adq21, Aq22, cq23, eq24, hxq25, hxq26, hxq27, hxq28, hlq29, hiq30⟩ := at_T66 HR0.out (rd t371 a1) pq19 qq20; obtain rfl : ad364 = adq21 := (by injection eq24); replace hxq25 := (HB.out.cell (World.block_lt_of_cell? w _ hxq25)).trans hxq25; replace hxq26 := (HB.out.cell (World.block_lt_of_cell? w _ hxq26)).trans hxq26; replace hxq27 := (HB.out.cell (World.block_lt_of_cell? w _ hxq27)).trans hxq27; replace hxq28 := (HB.out.cell (World.block_lt_of_cell? w _ hxq28)).trans hxq28; have HRq31 := Aside0.mk hiq30; have HCq32 := Aside0.mk hlq29; clear hiq30 hlq29; replace pq19 := eq_true pq19; replace qq20 := eq_true qq20; have qq33 : (a1 : Int) ≤ ((t371.length : Int) : Int) := of_decide_eq_true (by first | (with_reducible assumption) | assumption); obtain ⟨iq34, hiq35, _, hszq36, _⟩ := info_parts info3; have hcutq37 := cut_to (P := Try.prog) 52 3 .i64 Try.underlying52 hiq35 (some adq16) t371.length coq12 a1 (of_decide_eq_true (by first | (with_reducible assumption) | assumption)) qq33 (Kd.R_reads' HOq10.out).2.1; have hrq38 := Kd.R_take (m := (a1 : Int).toNat) HOq10.out (by omega); have hyq39 : y376.length = (a1 : Int).toNat := (by rw [Ny376.out, List.length_take]; omega); rw [← Ny376.out] at hrq38; rw [← hyq39] at hrq38 hcutq37; clear hyq39 hiq35 hszq36 HOq10; have HOq40 := Aside0.mk hrq38; clear hrq38; replace qq33 := eq_true qq33)))
  go_roundg kj14
  case measure => have := HJ2.out; have := HK2.out; have := HJ14.out; omega
  first
    | case rel => exact ⟨((rd_T66 l0 (rd t371 a1)).f2), (y376), (wrap64 (x31_2 + 1)), (by first | rfl | (simp; done) | (simp [*]; done)), (by first | rfl | (simp; done) | (simp [*]; done)), H', ⟨by have := HJ2.out; have := HK2.out; have := HJ14.out; omega⟩, ⟨by (with_reducible repeat (first | apply Kd.S_alloc | apply Kd.S_drewN | apply Kd.S_drew)); exact Kd.S_mono HO_4.out (fun _ hk => hk.2)⟩, ⟨by (with_reducible repeat (first | apply Kd.R_alloc | apply Kd.R_drewN | apply Kd.R_drew)); exact HOq40.out⟩, ⟨by repeat (first | (with_reducible first | exact HB.out | apply below_alloc | apply pw_below_drewN | apply below_drew1 | refine below_set ?_ GE365.out) | exact HB.out)⟩⟩
    | case rel => exact ⟨(x5_2), (y376), (wrap64 (x31_2 + 1)), (by first | rfl | (simp; done) | (simp [*]; done)), (by first | rfl | (simp; done) | (simp [*]; done)), H', ⟨by have := HJ2.out; have := HK2.out; have := HJ14.out; omega⟩, ⟨by (with_reducible repeat (first | apply Kd.S_alloc | apply Kd.S_drewN | apply Kd.S_drew)); exact Kd.S_mono HO_4.out (fun _ hk => hk.2)⟩, ⟨by (with_reducible repeat (first | apply Kd.R_alloc | apply Kd.R_drewN | apply Kd.R_drew)); exact HOq40.out⟩, ⟨by repeat (first | (with_reducible first | exact HB.out | apply below_alloc | apply pw_below_drewN | apply below_drew1 | refine below_set ?_ GE365.out) | exact HB.out)⟩⟩) : P := h
set_option maxHeartbeats 8000000 in
set_option maxRecDepth 100000 in
theorem pick_Pick.calls (k : Nat) (A0 : Option Addr) (c0 : Nat) (l0 : List (S66)) (a1 : Int) (r1 : List (S66)) (r2 : Int) (r3 : Int) (w : World) (hr0 : Kd.C k66 w A0 l0.length l0) (hc0 : l0.length ≤ c0) (h : pick_Pick.f k l0 a1 = some (r1, r2, r3)) :
    Calls Try.prog 81 #[.slice A0 l0.length c0, .int .i64 a1] w fun e w' => ∃ v0_ : Value, e = .returned (.tuple #[v0_, .int .i64 r2, .int .i64 r3]) ∧ Kd.S k66 66 w' w.heap.size (fun _ => True) v0_ r1 ∧ Below w.heap.size w w' := by
 have hu66 := Try.underlying66
 have HR0 := Aside0.mk hr0
 have HC0 := Aside0.mk hc0
 clear hr0 hc0
 have HB := Aside0.mk (Below.refl w.heap.size w)
 have H : (if a1 < 1 then (pick_Pick.j0 k l0 a1 ([] : List (S66)) true) else (pick_Pick.j0 k l0 a1 ([] : List (S66)) (decide (a1 > 16)))) = some (r1, r2, r3) := h
 clear h
 have HC3 := Aside0.mk H
 clear H
 go_enter Try.func81, Try.ntmps81
 (try go_upto_region 1 with (fail))
 (try apply wp_scope_straight)
 go_upto_region 1 with (fail)
 repeat (go_quiet (fail); go_upto_region 1 with (fail))
 go_cut [15] (fun v15 wc => ∃ (kq : Nat) (x15_2 : Bool), v15 = .bool x15_2 ∧ Aside0 (pick_Pick.j0 kq l0 a1 ([] : List (S66)) x15_2 = some (r1, r2, r3)) ∧ Aside0 (kq ≤ k) ∧ Aside0 (Kd.S k66 66 wc w.heap.size (fun _ => True) (.slice none 0 0) ([] : List (S66))) ∧ Aside0 (Below w.heap.size w wc))
 case first =>
  have H := HC3.out
  clear HC3
  by_cases c4 : a1 < 1
  · rw [if_pos c4] at H
    have c4b0 : decide (a1 < 1) = true := decide_eq_true c4
    clear c4
    (first | rw [c4b0] | (simp only [i64_w, i32_w]; rw [c4b0]) | skip)
    have H' := Aside0.mk H
    clear H
    exact pick_Pick.calls.z1
  rw [if_neg c4] at H
  have c4b0 : decide (a1 < 1) = false := decide_eq_false c4
  clear c4
  (first | rw [c4b0] | (simp only [i64_w, i32_w]; rw [c4b0]) | skip)
  have H' := Aside0.mk H
  clear H
  exact pick_Pick.calls.z1
 clear HC3
 try clear p2
 try clear c4
 try clear c4b0
 obtain ⟨kq, x15_2, rfl, HA, HJ2, HO_4, HB⟩ := hcut
 cases kq with
 | zero => exact absurd HA.out (by simp [pick_Pick.j0])
 | succ kj2 => ?_
 have H := HA.out
 clear HA
 simp only [pick_Pick.j0] at H
 by_cases c5 : x15_2 = true
 · subst c5
   have H1 : (some (([] : List (S66)), 0, 1)) = some (r1, r2, r3) := by first | (rw [if_pos rfl] at H; exact H) | exact (if_pos rfl).symm.trans H
   clear H
   have H := H1
   clear H1
   simp only [Option.some.injEq, Prod.mk.injEq] at H
   obtain ⟨rfl, rfl, rfl⟩ := H
   exact pick_Pick.calls.z2
 replace c5 := Bool.eq_false_iff.mpr c5
 subst c5
 have H1 : ((ContainsFunc_nodes.f l0).bind fun t363 => (if t363 = true then (some (([] : List (S66)), 0, 1)) else (if (l0.length : Int) > 256 then (some (([] : List (S66)), 0, 2)) else (pick_Pick.l0 kj2 l0 a1 ([] : List (S66)) (-1) ([] : List Int) l0 (l0.length : Int) 0)))) = some (r1, r2, r3) := by rw [if_neg (show ¬ (false = true) by decide)] at H; exact H
 clear H
 have H := H1
 clear H1
 replace H := Option.bind_eq_some_iff.mp H
 obtain ⟨t363, A60, H⟩ := H
 replace H : (if t363 = true then (some (([] : List (S66)), 0, 1)) else (if (l0.length : Int) > 256 then (some (([] : List (S66)), 0, 2)) else (pick_Pick.l0 kj2 l0 a1 ([] : List (S66)) (-1) ([] : List Int) l0 (l0.length : Int) 0))) = some (r1, r2, r3) := H
 have A6 := Aside0.mk A60
 clear A60
 by_cases c7 : t363 = true
 · subst c7
   have H1 : (some (([] : List (S66)), 0, 1)) = some (r1, r2, r3) := by first | (rw [if_pos rfl] at H; exact H) | exact (if_pos rfl).symm.trans H
   clear H
   have H := H1
   clear H1
   simp only [Option.some.injEq, Prod.mk.injEq] at H
   obtain ⟨rfl, rfl, rfl⟩ := H
   go_wp2_with (first | (go_at_call 124; (with_reducible refine (ContainsFunc_nodes.calls _ _ l0  true _ ?side1 ?side2 A6.out).mono ?_); (case side1 => repeat (first | exact (Kd.C_below HR0.out HB.out) | (with_reducible refine Kd.C_alloc ?_ _) | (with_reducible refine Kd.C_drewN ?_ _) | (with_reducible refine Kd.C_drew ?_))); (case side2 => exact HC0.out); rintro e w8 ⟨rfl, hb⟩; have n0_ := Aside0.mk (Kd.S_below (by (with_reducible repeat (first | apply Kd.S_alloc | apply Kd.S_drewN | apply Kd.S_drew)); exact HO_4.out) hb); have n1_ := zs HB hb; clear HO_4; clear HB; have HO_4 := n0_; have HB := n1_; clear n0_ n1_; (try clear hb); (try clear hb2); (try clear hk); (try clear hi)))
   repeat (go_quiet (first | (go_at_call 124; (with_reducible refine (ContainsFunc_nodes.calls _ _ l0  true _ ?side1 ?side2 A6.out).mono ?_); (case side1 => repeat (first | exact (Kd.C_below HR0.out HB.out) | (with_reducible refine Kd.C_alloc ?_ _) | (with_reducible refine Kd.C_drewN ?_ _) | (with_reducible refine Kd.C_drew ?_))); (case side2 => exact HC0.out); rintro e w8 ⟨rfl, hb⟩; have n0_ := Aside0.mk (Kd.S_below (by (with_reducible repeat (first | apply Kd.S_alloc | apply Kd.S_drewN | apply Kd.S_drew)); exact HO_4.out) hb); have n1_ := zs HB hb; clear HO_4; clear HB; have HO_4 := n0_; have HB := n1_; clear n0_ n1_; (try clear hb); (try clear hb2); (try clear hk); (try clear hi))); try go_wp2_with (first | (go_at_call 124; (with_reducible refine (ContainsFunc_nodes.calls _ _ l0  true _ ?side1 ?side2 A6.out).mono ?_); (case side1 => repeat (first | exact (Kd.C_below HR0.out HB.out) | (with_reducible refine Kd.C_alloc ?_ _) | (with_reducible refine Kd.C_drewN ?_ _) | (with_reducible refine Kd.C_drew ?_))); (case side2 => exact HC0.out); rintro e w8 ⟨rfl, hb⟩; have n0_ := Aside0.mk (Kd.S_below (by (with_reducible repeat (first | apply Kd.S_alloc | apply Kd.S_drewN | apply Kd.S_drew)); exact HO_4.out) hb); have n1_ := zs HB hb; clear HO_4; clear HB; have HO_4 := n0_; have HB := n1_; clear n0_ n1_; (try clear hb); (try clear hb2); (try clear hk); (try clear hi))))
   (try simp only [Exit.noGoto_ret, Exit.then, Exit.inBlock])
   go_ret3
   exact ⟨_, by first | rfl | (simp [errW_none, errW_some] <;> rfl) | (simp [*, errW_none, errW_some] <;> rfl), by first | exact Kd.S_nil _ _ _ _ _ | exact Kd.N_nil _ _ _ _ _ | exact Kd.V_nil _ _ _ _ _ | exact Kd.Q_nil _ _ _ _ _ | exact Kd.R_nil _ _ _ _ _, by repeat (first | (with_reducible first | exact HB.out | apply below_alloc | apply pw_below_drewN | apply below_drew1) | exact HB.out)⟩
 replace c7 := Bool.eq_false_iff.mpr c7
 subst c7
 have H1 : (if (l0.length : Int) > 256 then (some (([] : List (S66)), 0, 2)) else (pick_Pick.l0 kj2 l0 a1 ([] : List (S66)) (-1) ([] : List Int) l0 (l0.length : Int) 0)) = some (r1, r2, r3) := by rw [if_neg (show ¬ (false = true) by decide)] at H; exact H
 clear H
 have H := H1
 clear H1
 by_cases c9 : (l0.length : Int) > 256
 · rw [if_pos c9] at H
   have c9b0 : decide (256 < (l0.length : Int)) = true := decide_eq_true c9
   have c9b1 : decide (256 < l0.length) = true := decide_eq_true (by omega)
   clear c9
   simp only [Option.some.injEq, Prod.mk.injEq] at H
   obtain ⟨rfl, rfl, rfl⟩ := H
   go_wp2_with (first | (go_at_call 124; (with_reducible refine (ContainsFunc_nodes.calls _ _ l0  false _ ?side1 ?side2 A6.out).mono ?_); (case side1 => repeat (first | exact (Kd.C_below HR0.out HB.out) | (with_reducible refine Kd.C_alloc ?_ _) | (with_reducible refine Kd.C_drewN ?_ _) | (with_reducible refine Kd.C_drew ?_))); (case side2 => exact HC0.out); rintro e w10 ⟨rfl, hb⟩; have n0_ := Aside0.mk (Kd.S_below (by (with_reducible repeat (first | apply Kd.S_alloc | apply Kd.S_drewN | apply Kd.S_drew)); exact HO_4.out) hb); have n1_ := zs HB hb; clear HO_4; clear HB; have HO_4 := n0_; have HB := n1_; clear n0_ n1_; (try clear hb); (try clear hb2); (try clear hk); (try clear hi)))
   repeat (go_quiet (first | (go_at_call 124; (with_reducible refine (ContainsFunc_nodes.calls _ _ l0  false _ ?side1 ?side2 A6.out).mono ?_); (case side1 => repeat (first | exact (Kd.C_below HR0.out HB.out) | (with_reducible refine Kd.C_alloc ?_ _) | (with_reducible refine Kd.C_drewN ?_ _) | (with_reducible refine Kd.C_drew ?_))); (case side2 => exact HC0.out); rintro e w10 ⟨rfl, hb⟩; have n0_ := Aside0.mk (Kd.S_below (by (with_reducible repeat (first | apply Kd.S_alloc | apply Kd.S_drewN | apply Kd.S_drew)); exact HO_4.out) hb); have n1_ := zs HB hb; clear HO_4; clear HB; have HO_4 := n0_; have HB := n1_; clear n0_ n1_; (try clear hb); (try clear hb2); (try clear hk); (try clear hi))); try go_wp2_with (first | (go_at_call 124; (with_reducible refine (ContainsFunc_nodes.calls _ _ l0  false _ ?side1 ?side2 A6.out).mono ?_); (case side1 => repeat (first | exact (Kd.C_below HR0.out HB.out) | (with_reducible refine Kd.C_alloc ?_ _) | (with_reducible refine Kd.C_drewN ?_ _) | (with_reducible refine Kd.C_drew ?_))); (case side2 => exact HC0.out); rintro e w10 ⟨rfl, hb⟩; have n0_ := Aside0.mk (Kd.S_below (by (with_reducible repeat (first | apply Kd.S_alloc | apply Kd.S_drewN | apply Kd.S_drew)); exact HO_4.out) hb); have n1_ := zs HB hb; clear HO_4; clear HB; have HO_4 := n0_; have HB := n1_; clear n0_ n1_; (try clear hb); (try clear hb2); (try clear hk); (try clear hi))))
   (try simp only [Exit.noGoto_ret, Exit.then, Exit.inBlock])
   go_ret3
   exact ⟨_, by first | rfl | (simp [errW_none, errW_some] <;> rfl) | (simp [*, errW_none, errW_some] <;> rfl), by first | exact Kd.S_nil _ _ _ _ _ | exact Kd.N_nil _ _ _ _ _ | exact Kd.V_nil _ _ _ _ _ | exact Kd.Q_nil _ _ _ _ _ | exact Kd.R_nil _ _ _ _ _, by repeat (first | (with_reducible first | exact HB.out | apply below_alloc | apply pw_below_drewN | apply below_drew1) | exact HB.out)⟩
 rw [if_neg c9] at H
 have c9b0 : decide (256 < (l0.length : Int)) = false := decide_eq_false c9
 have c9b1 : decide (256 < l0.length) = false := decide_eq_false (by omega)
 clear c9
 have H' := Aside0.mk H
 clear H
 go_wp2_with (first | (go_at_call 124; (with_reducible refine (ContainsFunc_nodes.calls _ _ l0  false _ ?side1 ?side2 A6.out).mono ?_); (case side1 => repeat (first | exact (Kd.C_below HR0.out HB.out) | (with_reducible refine Kd.C_alloc ?_ _) | (with_reducible refine Kd.C_drewN ?_ _) | (with_reducible refine Kd.C_drew ?_))); (case side2 => exact HC0.out); rintro e w11 ⟨rfl, hb⟩; have n0_ := Aside0.mk (Kd.S_below (by (with_reducible repeat (first | apply Kd.S_alloc | apply Kd.S_drewN | apply Kd.S_drew)); exact HO_4.out) hb); have n1_ := zs HB hb; clear HO_4; clear HB; have HO_4 := n0_; have HB := n1_; clear n0_ n1_; (try clear hb); (try clear hb2); (try clear hk); (try clear hi)))
 repeat (go_quiet (first | (go_at_call 124; (with_reducible refine (ContainsFunc_nodes.calls _ _ l0  false _ ?side1 ?side2 A6.out).mono ?_); (case side1 => repeat (first | exact (Kd.C_below HR0.out HB.out) | (with_reducible refine Kd.C_alloc ?_ _) | (with_reducible refine Kd.C_drewN ?_ _) | (with_reducible refine Kd.C_drew ?_))); (case side2 => exact HC0.out); rintro e w11 ⟨rfl, hb⟩; have n0_ := Aside0.mk (Kd.S_below (by (with_reducible repeat (first | apply Kd.S_alloc | apply Kd.S_drewN | apply Kd.S_drew)); exact HO_4.out) hb); have n1_ := zs HB hb; clear HO_4; clear HB; have HO_4 := n0_; have HB := n1_; clear n0_ n1_; (try clear hb); (try clear hb2); (try clear hk); (try clear hi))); try go_wp2_with (first | (go_at_call 124; (with_reducible refine (ContainsFunc_nodes.calls _ _ l0  false _ ?side1 ?side2 A6.out).mono ?_); (case side1 => repeat (first | exact (Kd.C_below HR0.out HB.out) | (with_reducible refine Kd.C_alloc ?_ _) | (with_reducible refine Kd.C_drewN ?_ _) | (with_reducible refine Kd.C_drew ?_))); (case side2 => exact HC0.out); rintro e w11 ⟨rfl, hb⟩; have n0_ := Aside0.mk (Kd.S_below (by (with_reducible repeat (first | apply Kd.S_alloc | apply Kd.S_drewN | apply Kd.S_drew)); exact HO_4.out) hb); have n1_ := zs HB hb; clear HO_4; clear HB; have HO_4 := n0_; have HB := n1_; clear n0_ n1_; (try clear hb); (try clear hb2); (try clear hk); (try clear hi))))
 (try apply wp_label)
 (try go_wp2)
 go_loopg [5, 7, 31] kj2 (fun kq v5 v7 v31 w' => ∃ (x5_2 : Int) (x7_2 : List Int) (x31_2 : Int), v5 = .int .i64 x5_2 ∧ v31 = .int .i64 x31_2 ∧ Aside0 (pick_Pick.l0 kq l0 a1 ([] : List (S66)) x5_2 x7_2 l0 (l0.length : Int) x31_2 = some (r1, r2, r3)) ∧ Aside0 (kq ≤ kj2) ∧ Aside0 (Kd.S k66 66 w' w.heap.size (fun k_ => some k_ ≠ (v7 : Value).ownBlock) (.slice none 0 0) ([] : List (S66))) ∧ Aside0 (Kd.R (Kd.int .i64) 3 w' w.heap.size (fun _ => True) v7 x7_2) ∧ Aside0 (Below w.heap.size w w'))
 case atStart => exact ⟨((-1)), (([] : List Int)), (0), (by first | rfl | (simp; done) | (simp [*]; done)), (by first | rfl | (simp; done) | (simp [*]; done)), H', ⟨Nat.le_refl _⟩, ⟨by (with_reducible repeat (first | apply Kd.S_alloc | apply Kd.S_drewN | apply Kd.S_drew)); exact Kd.S_mono HO_4.out (fun _ hk => (by simp [Value.ownBlock]))⟩, ⟨by first | exact Kd.R_nil _ _ _ _ _ | exact Kd.N_nil _ _ _ _ _ | exact Kd.V_nil _ _ _ _ _ | exact Kd.Q_nil _ _ _ _ _ | exact Kd.S_nil _ _ _ _ _⟩, ⟨by repeat (first | (with_reducible first | exact HB.out | apply below_alloc | apply pw_below_drewN | apply below_drew1) | exact HB.out)⟩⟩
 case round =>
  clear H'
  try clear p2
  try clear c4
  try clear c4b0
  try clear c5
  try clear c7
  try clear c8
  try clear c9
  try clear c9b0
  try clear c9b1
  try clear p2
  obtain ⟨x5_2, x7_2, x31_2, rfl, rfl, HA, HK2, HO_4, HO_7, HB⟩ := hrel
  cases gk with
  | zero => exact absurd HA.out (by simp [pick_Pick.l0])
  | succ k2 => ?_
  have H := HA.out
  clear HA
  simp only [pick_Pick.l0] at H
  by_cases c12 : x31_2 < (l0.length : Int)
  rotate_left
  · rw [if_neg c12] at H
    have c12b0 : decide (x31_2 < (l0.length : Int)) = false := decide_eq_false c12
    clear c12
    have H' := Aside0.mk H
    clear H
    obtain ⟨Ao60, co60, eo60⟩ := Kd.R_slice HO_7.out
    subst eo60
    go_wp2
    repeat (go_quiet (fail); try go_wp2)
    go_loopg [4, 87] k2 (fun kq v4 v87 w' => ∃ (x4_3 : List (S66)) (x87_3 : Int), v87 = .int .i64 x87_3 ∧ Aside0 (pick_Pick.l2 kq l0 x4_3 x5_2 x7_2 (x7_2.length : Int) x87_3 = some (r1, r2, r3)) ∧ Aside0 (kq ≤ k2) ∧ Aside0 (Kd.S k66 66 w' w.heap.size (fun k_ => some k_ ≠ ((.slice Ao60 x7_2.length co60) : Value).ownBlock) v4 x4_3) ∧ Aside0 (Kd.R (Kd.int .i64) 3 w' w.heap.size (fun _ => True) (.slice Ao60 x7_2.length co60) x7_2) ∧ Aside0 (Below w.heap.size w w'))
    case atStart => exact ⟨(([] : List (S66))), (0), (by first | rfl | (simp; done) | (simp [*]; done)), H', ⟨Nat.le_refl _⟩, ⟨by (with_reducible repeat (first | apply Kd.S_alloc | apply Kd.S_drewN | apply Kd.S_drew)); exact HO_4.out⟩, ⟨by (with_reducible repeat (first | apply Kd.R_alloc | apply Kd.R_drewN | apply Kd.R_drew)); exact HO_7.out⟩, ⟨by repeat (first | (with_reducible first | exact HB.out | apply below_alloc | apply pw_below_drewN | apply below_drew1) | exact HB.out)⟩⟩
    case round =>
     clear H'
     try clear c1
     try clear c2
     try clear p2
     try clear c3
     try clear p3
     try clear q3
     try clear hx3
     try clear c4
     try clear c4b0
     try clear q4
     try clear c5
     try clear q5
     try clear p6
     try clear c7
     try clear c8
     try clear c9
     try clear c9b0
     try clear c9b1
     try clear c12
     try clear c12b0
     try clear c13
     try clear c13b0
     try clear c14
     try clear c14b0
     try clear c19
     try clear c19b0
     try clear c21
     try clear c21b0
     try clear c22
     try clear c22b0
     try clear c23
     try clear c23b0
     try clear c24
     try clear c24b0
     try clear c25
     try clear c25b0
     try clear c29
     try clear c29b0
     try clear c35
     try clear c35b0
     try clear c36
     try clear c36b0
     try clear p36
     try clear q36
     try clear hx36
     try clear c37
     try clear c37b0
     try clear p37
     try clear q37
     try clear hx37
     try clear c38
     try clear c38b0
     try clear c39
     try clear c39b0
     try clear c39b1
     try clear c40
     try clear c40b0
     try clear q46
     try clear c47
     try clear c47b0
     try clear q53
     try clear q59
     try clear hcz17_0
     try clear hcz17_1
     try clear hcz17_2
     try clear hcz17_3
     try clear hcz26_0
     try clear hcz26_1
     try clear hcz26_2
     try clear hcz26_3
     try clear hcz27_0
     try clear hcz27_1
     try clear hcz27_2
     try clear hcz27_3
     try clear hfz17_0
     try clear hfz17_1
     try clear hfz17_2
     try clear hfz17_3
     try clear hfz26_0
     try clear hfz26_1
     try clear hfz26_2
     try clear hfz26_3
     try clear hfz27_0
     try clear hfz27_1
     try clear hfz27_2
     try clear hfz27_3
     try clear hx364_0
     try clear hx364_1
     try clear hx364_2
     try clear hx364_3
     try clear hx366_0
     try clear hx367_0
     try clear hx367_1
     try clear hx367_2
     try clear hx367_3
     try clear hx374_0
     try clear hx375_0
     try clear hx375_1
     try clear hx375_2
     try clear hx375_3
     try clear p2
     try clear p3
     try clear p364
     try clear p366
     try clear p367
     try clear p374
     try clear p375
     try clear p6
     try clear q3
     try clear q364
     try clear q366
     try clear q367
     try clear q374
     try clear q375
     try clear q46
     try clear q53
     try clear q59
     obtain ⟨x4_3, x87_3, rfl, HA, HK3, HO_4, HO_85, HB⟩ := hrel
     cases gk with
     | zero => exact absurd HA.out (by simp [pick_Pick.l2])
     | succ k3 => ?_
     have H := HA.out
     clear HA
     simp only [pick_Pick.l2] at H
     by_cases c61 : x87_3 < (x7_2.length : Int)
     rotate_left
     · rw [if_neg c61] at H
       have c61b0 : decide (x87_3 < (x7_2.length : Int)) = false := decide_eq_false c61
       clear c61
       simp only [Option.some.injEq, Prod.mk.injEq] at H
       obtain ⟨rfl, rfl, rfl⟩ := H
       exact pick_Pick.calls.z2
     rw [if_pos c61] at H
     have c61b0 : decide (x87_3 < (x7_2.length : Int)) = true := decide_eq_true c61
     clear c61
     by_cases c62 : 0 ≤ x87_3
     rotate_left
     · rw [if_neg c62] at H
       exact absurd H (by simp)
     rw [if_pos c62] at H
     have c62b0 : decide (0 ≤ x87_3) = true := decide_eq_true c62
     clear c62
     by_cases c63 : x87_3 < (x7_2.length : Int)
     rotate_left
     · rw [if_neg c63] at H
       exact absurd H (by simp)
     rw [if_pos c63] at H
     have c63b0 : decide (x87_3 < (x7_2.length : Int)) = true := decide_eq_true c63
     clear c63
     by_cases c64 : 0 ≤ (rd x7_2 x87_3)
     rotate_left
     · rw [if_neg c64] at H
       exact absurd H (by simp)
     rw [if_pos c64] at H
     have c64b0 : decide (0 ≤ (rd x7_2 x87_3)) = true := decide_eq_true c64
     clear c64
     by_cases c65 : (rd x7_2 x87_3) < (l0.length : Int)
     rotate_left
     · rw [if_neg c65] at H
       exact absurd H (by simp)
     rw [if_pos c65] at H
     have c65b0 : decide ((rd x7_2 x87_3) < (l0.length : Int)) = true := decide_eq_true c65
     clear c65
     replace H := Option.bind_eq_some_iff.mp H
     obtain ⟨t382, A660, H⟩ := H
     replace H : (if x4_3.length < 2932031007402 then (pick_Pick.l2 k3 l0 (x4_3 ++ [(⟨(rd_T66 l0 (rd x7_2 x87_3)).f0, (rd_T66 l0 (rd x7_2 x87_3)).f1, (rd_T66 l0 (rd x7_2 x87_3)).f2, t382⟩ : S66)]) x5_2 x7_2 (x7_2.length : Int) (wrap64 (x87_3 + 1))) else (none)) = some (r1, r2, r3) := H
     have A66 := Aside0.mk A660
     clear A660
     by_cases c67 : x4_3.length < 2932031007402
     rotate_left
     · rw [if_neg c67] at H
       exact absurd H (by simp)
     rw [if_pos c67] at H
     have LMc67 := Aside0.mk c67
     clear c67
     obtain ⟨y385, hy385⟩ : ∃ y_ : List (S66), y_ = (x4_3 ++ [(⟨(rd_T66 l0 (rd x7_2 x87_3)).f0, (rd_T66 l0 (rd x7_2 x87_3)).f1, (rd_T66 l0 (rd x7_2 x87_3)).f2, t382⟩ : S66)]) := ⟨_, rfl⟩
     replace H : (pick_Pick.l2 k3 l0 y385 x5_2 x7_2 (x7_2.length : Int) (wrap64 (x87_3 + 1))) = some (r1, r2, r3) := by first | (rw [hy385]; with_reducible exact H) | (have H2_ := (Option.bind_some _ _).symm.trans H; rw [hy385]; with_reducible exact H2_) | (have H2_ := (Option.bind_some _ _).symm.trans H; with_reducible exact H2_) | with_reducible exact H | (rw [hy385]; exact H) | exact H
     have Ny385 := Aside0.mk hy385
     clear hy385
     have H' := Aside0.mk H
     clear H
     have p379 : 0 ≤ (x87_3 : Int) := of_decide_eq_true (by first | (with_reducible assumption) | assumption)
     have q379 : x87_3 < (x7_2.length : Int) := of_decide_eq_true (by first | (with_reducible assumption) | assumption)
     obtain ⟨ad379, e379, hx379_0⟩ := Kd.at_int (Kd.R_reads' HO_85.out).2.2 x87_3 p379 q379
     cases e379
     replace p379 := eq_true p379
     replace q379 := eq_true q379
     have p380 : 0 ≤ ((rd x7_2 x87_3) : Int) := of_decide_eq_true (by first | (with_reducible assumption) | assumption)
     have q380 : (rd x7_2 x87_3) < (l0.length : Int) := of_decide_eq_true (by first | (with_reducible assumption) | assumption)
     obtain ⟨ad380, A380_3, c380_3, e380, hx380_0, hx380_1, hx380_2, hx380_3, hl380_3, hi380_3⟩ := at_T66 HR0.out (rd x7_2 x87_3) p380 q380
     cases e380
     replace hx380_0 := (HB.out.cell (World.block_lt_of_cell? w _ hx380_0)).trans hx380_0
     replace hx380_1 := (HB.out.cell (World.block_lt_of_cell? w _ hx380_1)).trans hx380_1
     replace hx380_2 := (HB.out.cell (World.block_lt_of_cell? w _ hx380_2)).trans hx380_2
     replace hx380_3 := (HB.out.cell (World.block_lt_of_cell? w _ hx380_3)).trans hx380_3
     have HR380_3 := Aside0.mk hi380_3
     have HC380_3 := Aside0.mk hl380_3
     clear hi380_3 hl380_3
     replace p380 := eq_true p380
     replace q380 := eq_true q380
     go_wp2_with (first | ((with_reducible refine gate_dst (N := 14) rfl ?_); refine box_event ?hg (N := 14) ?hd (cs := #[.int .u32 0, .int .i64 0, .int .i64 0, .slice none 0 0]) (t := 66) ?hr ?_; (case hd => rfl); (case hg => rfl); (case hr => first | (go_simp; done) | (go_simp; rfl)); intro gb381 hg w68 hbox hb; have n0_ := Aside0.mk (Kd.S_below (Kd.S_elderB (by (with_reducible repeat (first | apply Kd.S_alloc | apply Kd.S_drewN | apply Kd.S_drew)); exact HO_4.out) gb381 (Nat.le_of_eq hg.symm)) hb); have n1_ := zR HO_85 hb; have n2_ := zs HB hb; have n3_ := Aside0.mk (hbox); have n4_ := zg HB hg; have n5_ := zg HB hg; clear HO_4; clear HO_85; clear HB; have HO_4 := n0_; have HO_85 := n1_; have HB := n2_; have BK381 := n3_; have GW381 := n4_; have GE381 := n5_; clear n0_ n1_ n2_ n3_ n4_ n5_; clear hb hbox hg; obtain ⟨hcz69_0, hcz69_1, hcz69_2, hcz69_3⟩ := zC4 BK381; obtain ⟨hfz69_0, hfz69_1, hfz69_2⟩ := zF3 BK381; have hfz69_3 := blk_frozen BK381.out 3) | (go_at_call 127; (with_reducible refine (Clone_ints.calls _ _ ((rd_T66 l0 (rd x7_2 x87_3)).f3) t382 _ ?side1 ?side2 A66.out).mono ?_); (case side1 => exact Kd.C_below HR380_3.out (zB HB)); (case side2 => exact HC380_3.out); rintro e w70 ⟨v383, rfl, ho0, hb⟩; have n0_ := Aside0.mk (Kd.S_elder' (by (with_reducible repeat (first | apply Kd.S_alloc | apply Kd.S_drewN | apply Kd.S_drew)); exact (Kd.S_mono (Kd.S_far (p := ⟨gb381, 3, none⟩) (Kd.S_far (p := ⟨gb381, 2, none⟩) (Kd.S_far (p := ⟨gb381, 1, none⟩) (Kd.S_far (p := ⟨gb381, 0, none⟩) (Kd.S_mono HO_4.out (fun k_ hk => (⟨hk, hk.2⟩ : _ ∧ k_ ≠ gb381))) (fun _ hk => hk.2) (.int .u32 ((rd_T66 l0 (rd x7_2 x87_3)).f0))) (fun _ hk => hk.2) (.int .i64 ((rd_T66 l0 (rd x7_2 x87_3)).f1))) (fun _ hk => hk.2) (.int .i64 ((rd_T66 l0 (rd x7_2 x87_3)).f2))) (fun _ hk => hk.2) (.slice A380_3 ((rd_T66 l0 (rd x7_2 x87_3)).f3).length c380_3)) (fun _ h_ => h_.1))) (Kd.R_base ho0) hb); have n1_ := Aside0.mk (Kd.R_elder' (by (with_reducible repeat (first | apply Kd.R_alloc | apply Kd.R_drewN | apply Kd.R_drew)); exact (Kd.R_mono (Kd.R_far (p := ⟨gb381, 3, none⟩) (Kd.R_far (p := ⟨gb381, 2, none⟩) (Kd.R_far (p := ⟨gb381, 1, none⟩) (Kd.R_far (p := ⟨gb381, 0, none⟩) (Kd.R_types HO_85.out BK381.out (by decide)) (fun _ hk => hk.2) (.int .u32 ((rd_T66 l0 (rd x7_2 x87_3)).f0))) (fun _ hk => hk.2) (.int .i64 ((rd_T66 l0 (rd x7_2 x87_3)).f1))) (fun _ hk => hk.2) (.int .i64 ((rd_T66 l0 (rd x7_2 x87_3)).f2))) (fun _ hk => hk.2) (.slice A380_3 ((rd_T66 l0 (rd x7_2 x87_3)).f3).length c380_3)) (fun _ h_ => h_.1))) (Kd.R_base ho0) hb); have n2_ := Aside0.mk (Kd.R_lower (Kd.R_new' ho0 (Kd.R_lt (by (with_reducible repeat (first | apply Kd.R_alloc | apply Kd.R_drewN | apply Kd.R_drew)); exact (Kd.R_mono (Kd.R_far (p := ⟨gb381, 3, none⟩) (Kd.R_far (p := ⟨gb381, 2, none⟩) (Kd.R_far (p := ⟨gb381, 1, none⟩) (Kd.R_far (p := ⟨gb381, 0, none⟩) (Kd.R_types HO_85.out BK381.out (by decide)) (fun _ hk => hk.2) (.int .u32 ((rd_T66 l0 (rd x7_2 x87_3)).f0))) (fun _ hk => hk.2) (.int .i64 ((rd_T66 l0 (rd x7_2 x87_3)).f1))) (fun _ hk => hk.2) (.int .i64 ((rd_T66 l0 (rd x7_2 x87_3)).f2))) (fun _ hk => hk.2) (.slice A380_3 ((rd_T66 l0 (rd x7_2 x87_3)).f3).length c380_3)) (fun _ h_ => h_.1))))) (below_size (zB HB))); have n3_ := Aside0.mk (blk_below (g := gb381) (o := .cells #[.int .u32 ((rd_T66 l0 (rd x7_2 x87_3)).f0), .int .i64 ((rd_T66 l0 (rd x7_2 x87_3)).f1), .int .i64 ((rd_T66 l0 (rd x7_2 x87_3)).f2), .slice A380_3 ((rd_T66 l0 (rd x7_2 x87_3)).f3).length c380_3] 66 (0, 0)) (by (with_reducible repeat (first | refine blk_drewN ?_ _ | refine blk_drew ?_ | refine blk_alloc ?_ _)); refine blk_put (cs := #[.int .u32 ((rd_T66 l0 (rd x7_2 x87_3)).f0), .int .i64 ((rd_T66 l0 (rd x7_2 x87_3)).f1), .int .i64 ((rd_T66 l0 (rd x7_2 x87_3)).f2), .slice none 0 0]) ?_ 3 _ rfl; (with_reducible repeat (first | refine blk_drewN ?_ _ | refine blk_drew ?_ | refine blk_alloc ?_ _)); refine blk_put (cs := #[.int .u32 ((rd_T66 l0 (rd x7_2 x87_3)).f0), .int .i64 ((rd_T66 l0 (rd x7_2 x87_3)).f1), .int .i64 0, .slice none 0 0]) ?_ 2 _ rfl; (with_reducible repeat (first | refine blk_drewN ?_ _ | refine blk_drew ?_ | refine blk_alloc ?_ _)); refine blk_put (cs := #[.int .u32 ((rd_T66 l0 (rd x7_2 x87_3)).f0), .int .i64 0, .int .i64 0, .slice none 0 0]) ?_ 1 _ rfl; (with_reducible repeat (first | refine blk_drewN ?_ _ | refine blk_drew ?_ | refine blk_alloc ?_ _)); refine blk_put (cs := #[.int .u32 0, .int .i64 0, .int .i64 0, .slice none 0 0]) ?_ 0 _ rfl; (with_reducible repeat (first | refine blk_drewN ?_ _ | refine blk_drew ?_ | refine blk_alloc ?_ _)); exact BK381.out) hb); have n4_ := zs HB hb; clear HO_4; clear HO_85; clear BK381; clear HB; have HO_4 := n0_; have HO_85 := n1_; have HO384 := n2_; have BK381 := n3_; have HB := n4_; clear n0_ n1_ n2_ n3_ n4_; (try clear hb); (try clear hb2); (try clear hk); (try clear hi); (try clear ho0); obtain ⟨Ao71, co71, eo71⟩ := Kd.R_slice HO384.out; subst eo71; obtain ⟨hcz72_0, hcz72_1, hcz72_2, hcz72_3⟩ := zC4 BK381; obtain ⟨hfz72_0, hfz72_1, hfz72_2⟩ := zF3 BK381; have hfz72_3 := blk_frozen BK381.out 3) | ((with_reducible refine gate_store (t := 52) (p := 98) rfl ?_); (try (rw [drewN_self w70]; generalize hq_ : World.drewN w70 _ = w70; have n0_ := Aside0.mk (Kd.S_at hq_ HO_4.out); have n1_ := Aside0.mk (Kd.R_at hq_ HO_85.out); have n2_ := Aside0.mk (Kd.R_at hq_ HO384.out); have n3_ := Aside0.mk (blk_at hq_ BK381.out); have n4_ := Aside0.mk (below_at hq_ HB.out); clear hq_ HO_4 HO_85 HO384 BK381 HB; have HO_4 := n0_; have HO_85 := n1_; have HO384 := n2_; have BK381 := n3_; have HB := n4_; clear n0_ n1_ n2_ n3_ n4_)); refine store_event (t := 52) (p := 98) (v := ?vo_w73) (w1 := (w70.setCell ⟨gb381, 3, none⟩ (.slice Ao71 t382.length co71))) ?hg ?ho ?hn ?hr ?_; (case ho => rfl); (case hg => rfl); (case hn => rfl); (case hr => first | (go_simp; done) | (go_simp; rfl)); intro w73 hw; have n0_ : Aside0 (Kd.S k66 66 w73 w.heap.size (fun k_ => some k_ ≠ (.slice (some ad379) x7_2.length co60 : Value).ownBlock ∧ some k_ ≠ (.slice Ao71 t382.length co71 : Value).ownBlock ∧ k_ ≠ gb381) u4 x4_3) := ⟨(by rw [hw]; exact (by (with_reducible repeat (first | apply Kd.S_alloc | apply Kd.S_drewN | apply Kd.S_drew)); exact Kd.S_mono (Kd.S_far (p := ⟨gb381, 3, none⟩) (Kd.S_mono HO_4.out (fun k_ hk => (⟨hk, hk.1.2⟩ : _ ∧ k_ ≠ gb381))) (fun _ hk => hk.2) (.slice Ao71 t382.length co71)) (fun _ hk => ⟨hk.1.1.1, ⟨hk.1.2, hk.1.1.2⟩⟩)))⟩; have n1_ : Aside0 (Kd.R (Kd.int .i64) 3 w73 w.heap.size (fun k_ => some k_ ≠ (.slice Ao71 t382.length co71 : Value).ownBlock) (.slice (some ad379) x7_2.length co60) x7_2) := ⟨(by rw [hw]; exact (by (with_reducible repeat (first | apply Kd.R_alloc | apply Kd.R_drewN | apply Kd.R_drew)); exact Kd.R_mono (Kd.R_far (p := ⟨gb381, 3, none⟩) (Kd.R_types HO_85.out BK381.out (by decide)) (fun _ hk => hk.2) (.slice Ao71 t382.length co71)) (fun _ hk => hk.1.2)))⟩; have n2_ : Aside0 (Kd.R (Kd.int .i64) 3 w73 w.heap.size (fun k_ => some k_ ≠ (.slice (some ad379) x7_2.length co60 : Value).ownBlock) (.slice Ao71 t382.length co71) t382) := ⟨(by rw [hw]; exact (by (with_reducible repeat (first | apply Kd.R_alloc | apply Kd.R_drewN | apply Kd.R_drew)); exact Kd.R_mono (Kd.R_far (p := ⟨gb381, 3, none⟩) (Kd.R_types HO384.out BK381.out (by decide)) (fun _ hk => hk.2) (.slice Ao71 t382.length co71)) (fun _ hk => hk.1.2)))⟩; have n3_ : Aside0 (w73.heap[gb381]? = some (.cells #[.int .u32 ((rd_T66 l0 (rd x7_2 x87_3)).f0), .int .i64 ((rd_T66 l0 (rd x7_2 x87_3)).f1), .int .i64 ((rd_T66 l0 (rd x7_2 x87_3)).f2), .slice Ao71 t382.length co71] 66 (0, 0))) := ⟨(by rw [hw]; exact (by (with_reducible repeat (first | refine blk_drewN ?_ _ | refine blk_drew ?_ | refine blk_alloc ?_ _)); refine blk_put (cs := #[.int .u32 ((rd_T66 l0 (rd x7_2 x87_3)).f0), .int .i64 ((rd_T66 l0 (rd x7_2 x87_3)).f1), .int .i64 ((rd_T66 l0 (rd x7_2 x87_3)).f2), .slice A380_3 ((rd_T66 l0 (rd x7_2 x87_3)).f3).length c380_3]) ?_ 3 _ rfl; (with_reducible repeat (first | refine blk_drewN ?_ _ | refine blk_drew ?_ | refine blk_alloc ?_ _)); exact BK381.out))⟩; have n4_ : Aside0 (Below w.heap.size w w73) := ⟨(by rw [hw]; exact (zB HB))⟩; clear hw; clear HO_4; clear HO_85; clear HO384; clear BK381; clear HB; have HO_4 := n0_; have HO_85 := n1_; have HO384 := n2_; have BK381 := n3_; have HB := n4_; clear n0_ n1_ n2_ n3_ n4_; obtain ⟨hcz74_0, hcz74_1, hcz74_2, hcz74_3⟩ := zC4 BK381; obtain ⟨hfz74_0, hfz74_1, hfz74_2⟩ := zF3 BK381; have hfz74_3 := blk_frozen BK381.out 3) | ((with_reducible refine gate_builtin (b := .append) (xs := #[.tmp 99, .tmp 101]) rfl ?_); at_builtin; refine Kd.S_append k66 (w0 := w) w.heap.size rfl (.tmp 99) (.tmp 101) 61 66 (.agg #[(.int .u32 0), (.int .i64 0), (.int .i64 0), (.slice none 0 0)]) 48 rfl Try.underlying61 info66 rfl (by decide) (by omega) u4 x4_3 (⟨(rd_T66 l0 (rd x7_2 x87_3)).f0, (rd_T66 l0 (rd x7_2 x87_3)).f1, (rd_T66 l0 (rd x7_2 x87_3)).f2, t382⟩ : S66) [.int .u32 ((rd_T66 l0 (rd x7_2 x87_3)).f0), .int .i64 ((rd_T66 l0 (rd x7_2 x87_3)).f1), .int .i64 ((rd_T66 l0 (rd x7_2 x87_3)).f2), .slice Ao71 t382.length co71] (fun k_ => some k_ ≠ (.slice (some ad379) x7_2.length co60 : Value).ownBlock ∧ k_ ≠ gb381) (fun k_ => some k_ = (.slice Ao71 t382.length co71 : Value).ownBlock) rfl rfl ?aP (fun k_ hk_ => ((Kd.R_mono (ok' := fun k_ => ((fun k_ => some k_ ≠ (.slice (some ad379) x7_2.length co60 : Value).ownBlock ∧ k_ ≠ gb381)) k_ ∧ some k_ ≠ (u4 : Value).ownBlock) (Kd.R_types (Kd.R_apart' (HO384.out) (Kd.S_typed HO_4.out) (by decide)) BK381.out (by decide)) (fun k_ hk => ⟨⟨hk.1.1, hk.2⟩, hk.1.2⟩))).1 k_ hk_.symm) ?aF ?aO ?aB ?aS ?aL ?_; (case aP => exact k66_mkM _ _ _ (⟨(rd_T66 l0 (rd x7_2 x87_3)).f0, (rd_T66 l0 (rd x7_2 x87_3)).f1, (rd_T66 l0 (rd x7_2 x87_3)).f2, t382⟩ : S66) (Kd.R_mono (Kd.R_tight rfl (Kd.R_mono (ok' := fun k_ => ((fun k_ => some k_ ≠ (.slice (some ad379) x7_2.length co60 : Value).ownBlock ∧ k_ ≠ gb381)) k_ ∧ some k_ ≠ (u4 : Value).ownBlock) (Kd.R_types (Kd.R_apart' (HO384.out) (Kd.S_typed HO_4.out) (by decide)) BK381.out (by decide)) (fun k_ hk => ⟨⟨hk.1.1, hk.2⟩, hk.1.2⟩))) (fun _ h_ => h_))); (case aB => exact (zB HB)); (case aF => exact (fun k_ hk => ⟨Kd.fresh' (Kd.R_lt (zr_ HO_85)) k_ hk, Kd.freshB (g := gb381) (o := .cells #[.int .u32 ((rd_T66 l0 (rd x7_2 x87_3)).f0), .int .i64 ((rd_T66 l0 (rd x7_2 x87_3)).f1), .int .i64 ((rd_T66 l0 (rd x7_2 x87_3)).f2), .slice Ao71 t382.length co71] 66 (0, 0)) (zk BK381) k_ hk⟩)); (case aO => exact (by (with_reducible repeat (first | apply Kd.S_alloc | apply Kd.S_drewN | apply Kd.S_drew)); exact Kd.S_mono HO_4.out (fun k_ hk => ⟨⟨hk.1, hk.2.2⟩, fun e_ => hk.2.1 e_⟩))); (case aS => exact (below_size (zB HB))); (case aL => have := LMc67.out; omega); intro v386 w75 ho hb hg hat; rw [← Ny385.out] at ho; have n0_ := Aside0.mk (Kd.R_over' (zr_ HO_85) (Kd.S_typed (by (with_reducible repeat (first | apply Kd.S_alloc | apply Kd.S_drewN | apply Kd.S_drew)); exact HO_4.out)) (by decide) hg); have n1_ := Aside0.mk (blk_grown (g := gb381) (o := .cells #[.int .u32 ((rd_T66 l0 (rd x7_2 x87_3)).f0), .int .i64 ((rd_T66 l0 (rd x7_2 x87_3)).f1), .int .i64 ((rd_T66 l0 (rd x7_2 x87_3)).f2), .slice Ao71 t382.length co71] 66 (0, 0)) (zk BK381) hg (Kd.S_away HO_4.out (fun _ hk => hk.2.2))); have n2_ := Aside0.mk (hb); have n3_ := Aside0.mk (ho); clear HO_85; clear BK381; clear HB; clear HO_4; clear HO384; have HO_85 := n0_; have BK381 := n1_; have HB := n2_; have HO387 := n3_; clear n0_ n1_ n2_ n3_; clear ho hb hg hat))
     repeat (go_quiet (first | ((with_reducible refine gate_dst (N := 14) rfl ?_); refine box_event ?hg (N := 14) ?hd (cs := #[.int .u32 0, .int .i64 0, .int .i64 0, .slice none 0 0]) (t := 66) ?hr ?_; (case hd => rfl); (case hg => rfl); (case hr => first | (go_simp; done) | (go_simp; rfl)); intro gb381 hg w68 hbox hb; have n0_ := Aside0.mk (Kd.S_below (Kd.S_elderB (by (with_reducible repeat (first | apply Kd.S_alloc | apply Kd.S_drewN | apply Kd.S_drew)); exact HO_4.out) gb381 (Nat.le_of_eq hg.symm)) hb); have n1_ := zR HO_85 hb; have n2_ := zs HB hb; have n3_ := Aside0.mk (hbox); have n4_ := zg HB hg; have n5_ := zg HB hg; clear HO_4; clear HO_85; clear HB; have HO_4 := n0_; have HO_85 := n1_; have HB := n2_; have BK381 := n3_; have GW381 := n4_; have GE381 := n5_; clear n0_ n1_ n2_ n3_ n4_ n5_; clear hb hbox hg; obtain ⟨hcz69_0, hcz69_1, hcz69_2, hcz69_3⟩ := zC4 BK381; obtain ⟨hfz69_0, hfz69_1, hfz69_2⟩ := zF3 BK381; have hfz69_3 := blk_frozen BK381.out 3) | (go_at_call 127; (with_reducible refine (Clone_ints.calls _ _ ((rd_T66 l0 (rd x7_2 x87_3)).f3) t382 _ ?side1 ?side2 A66.out).mono ?_); (case side1 => exact Kd.C_below HR380_3.out (zB HB)); (case side2 => exact HC380_3.out); rintro e w70 ⟨v383, rfl, ho0, hb⟩; have n0_ := Aside0.mk (Kd.S_elder' (by (with_reducible repeat (first | apply Kd.S_alloc | apply Kd.S_drewN | apply Kd.S_drew)); exact (Kd.S_mono (Kd.S_far (p := ⟨gb381, 3, none⟩) (Kd.S_far (p := ⟨gb381, 2, none⟩) (Kd.S_far (p := ⟨gb381, 1, none⟩) (Kd.S_far (p := ⟨gb381, 0, none⟩) (Kd.S_mono HO_4.out (fun k_ hk => (⟨hk, hk.2⟩ : _ ∧ k_ ≠ gb381))) (fun _ hk => hk.2) (.int .u32 ((rd_T66 l0 (rd x7_2 x87_3)).f0))) (fun _ hk => hk.2) (.int .i64 ((rd_T66 l0 (rd x7_2 x87_3)).f1))) (fun _ hk => hk.2) (.int .i64 ((rd_T66 l0 (rd x7_2 x87_3)).f2))) (fun _ hk => hk.2) (.slice A380_3 ((rd_T66 l0 (rd x7_2 x87_3)).f3).length c380_3)) (fun _ h_ => h_.1))) (Kd.R_base ho0) hb); have n1_ := Aside0.mk (Kd.R_elder' (by (with_reducible repeat (first | apply Kd.R_alloc | apply Kd.R_drewN | apply Kd.R_drew)); exact (Kd.R_mono (Kd.R_far (p := ⟨gb381, 3, none⟩) (Kd.R_far (p := ⟨gb381, 2, none⟩) (Kd.R_far (p := ⟨gb381, 1, none⟩) (Kd.R_far (p := ⟨gb381, 0, none⟩) (Kd.R_types HO_85.out BK381.out (by decide)) (fun _ hk => hk.2) (.int .u32 ((rd_T66 l0 (rd x7_2 x87_3)).f0))) (fun _ hk => hk.2) (.int .i64 ((rd_T66 l0 (rd x7_2 x87_3)).f1))) (fun _ hk => hk.2) (.int .i64 ((rd_T66 l0 (rd x7_2 x87_3)).f2))) (fun _ hk => hk.2) (.slice A380_3 ((rd_T66 l0 (rd x7_2 x87_3)).f3).length c380_3)) (fun _ h_ => h_.1))) (Kd.R_base ho0) hb); have n2_ := Aside0.mk (Kd.R_lower (Kd.R_new' ho0 (Kd.R_lt (by (with_reducible repeat (first | apply Kd.R_alloc | apply Kd.R_drewN | apply Kd.R_drew)); exact (Kd.R_mono (Kd.R_far (p := ⟨gb381, 3, none⟩) (Kd.R_far (p := ⟨gb381, 2, none⟩) (Kd.R_far (p := ⟨gb381, 1, none⟩) (Kd.R_far (p := ⟨gb381, 0, none⟩) (Kd.R_types HO_85.out BK381.out (by decide)) (fun _ hk => hk.2) (.int .u32 ((rd_T66 l0 (rd x7_2 x87_3)).f0))) (fun _ hk => hk.2) (.int .i64 ((rd_T66 l0 (rd x7_2 x87_3)).f1))) (fun _ hk => hk.2) (.int .i64 ((rd_T66 l0 (rd x7_2 x87_3)).f2))) (fun _ hk => hk.2) (.slice A380_3 ((rd_T66 l0 (rd x7_2 x87_3)).f3).length c380_3)) (fun _ h_ => h_.1))))) (below_size (zB HB))); have n3_ := Aside0.mk (blk_below (g := gb381) (o := .cells #[.int .u32 ((rd_T66 l0 (rd x7_2 x87_3)).f0), .int .i64 ((rd_T66 l0 (rd x7_2 x87_3)).f1), .int .i64 ((rd_T66 l0 (rd x7_2 x87_3)).f2), .slice A380_3 ((rd_T66 l0 (rd x7_2 x87_3)).f3).length c380_3] 66 (0, 0)) (by (with_reducible repeat (first | refine blk_drewN ?_ _ | refine blk_drew ?_ | refine blk_alloc ?_ _)); refine blk_put (cs := #[.int .u32 ((rd_T66 l0 (rd x7_2 x87_3)).f0), .int .i64 ((rd_T66 l0 (rd x7_2 x87_3)).f1), .int .i64 ((rd_T66 l0 (rd x7_2 x87_3)).f2), .slice none 0 0]) ?_ 3 _ rfl; (with_reducible repeat (first | refine blk_drewN ?_ _ | refine blk_drew ?_ | refine blk_alloc ?_ _)); refine blk_put (cs := #[.int .u32 ((rd_T66 l0 (rd x7_2 x87_3)).f0), .int .i64 ((rd_T66 l0 (rd x7_2 x87_3)).f1), .int .i64 0, .slice none 0 0]) ?_ 2 _ rfl; (with_reducible repeat (first | refine blk_drewN ?_ _ | refine blk_drew ?_ | refine blk_alloc ?_ _)); refine blk_put (cs := #[.int .u32 ((rd_T66 l0 (rd x7_2 x87_3)).f0), .int .i64 0, .int .i64 0, .slice none 0 0]) ?_ 1 _ rfl; (with_reducible repeat (first | refine blk_drewN ?_ _ | refine blk_drew ?_ | refine blk_alloc ?_ _)); refine blk_put (cs := #[.int .u32 0, .int .i64 0, .int .i64 0, .slice none 0 0]) ?_ 0 _ rfl; (with_reducible repeat (first | refine blk_drewN ?_ _ | refine blk_drew ?_ | refine blk_alloc ?_ _)); exact BK381.out) hb); have n4_ := zs HB hb; clear HO_4; clear HO_85; clear BK381; clear HB; have HO_4 := n0_; have HO_85 := n1_; have HO384 := n2_; have BK381 := n3_; have HB := n4_; clear n0_ n1_ n2_ n3_ n4_; (try clear hb); (try clear hb2); (try clear hk); (try clear hi); (try clear ho0); obtain ⟨Ao71, co71, eo71⟩ := Kd.R_slice HO384.out; subst eo71; obtain ⟨hcz72_0, hcz72_1, hcz72_2, hcz72_3⟩ := zC4 BK381; obtain ⟨hfz72_0, hfz72_1, hfz72_2⟩ := zF3 BK381; have hfz72_3 := blk_frozen BK381.out 3) | ((with_reducible refine gate_store (t := 52) (p := 98) rfl ?_); (try (rw [drewN_self w70]; generalize hq_ : World.drewN w70 _ = w70; have n0_ := Aside0.mk (Kd.S_at hq_ HO_4.out); have n1_ := Aside0.mk (Kd.R_at hq_ HO_85.out); have n2_ := Aside0.mk (Kd.R_at hq_ HO384.out); have n3_ := Aside0.mk (blk_at hq_ BK381.out); have n4_ := Aside0.mk (below_at hq_ HB.out); clear hq_ HO_4 HO_85 HO384 BK381 HB; have HO_4 := n0_; have HO_85 := n1_; have HO384 := n2_; have BK381 := n3_; have HB := n4_; clear n0_ n1_ n2_ n3_ n4_)); refine store_event (t := 52) (p := 98) (v := ?vo_w73) (w1 := (w70.setCell ⟨gb381, 3, none⟩ (.slice Ao71 t382.length co71))) ?hg ?ho ?hn ?hr ?_; (case ho => rfl); (case hg => rfl); (case hn => rfl); (case hr => first | (go_simp; done) | (go_simp; rfl)); intro w73 hw; have n0_ : Aside0 (Kd.S k66 66 w73 w.heap.size (fun k_ => some k_ ≠ (.slice (some ad379) x7_2.length co60 : Value).ownBlock ∧ some k_ ≠ (.slice Ao71 t382.length co71 : Value).ownBlock ∧ k_ ≠ gb381) u4 x4_3) := ⟨(by rw [hw]; exact (by (with_reducible repeat (first | apply Kd.S_alloc | apply Kd.S_drewN | apply Kd.S_drew)); exact Kd.S_mono (Kd.S_far (p := ⟨gb381, 3, none⟩) (Kd.S_mono HO_4.out (fun k_ hk => (⟨hk, hk.1.2⟩ : _ ∧ k_ ≠ gb381))) (fun _ hk => hk.2) (.slice Ao71 t382.length co71)) (fun _ hk => ⟨hk.1.1.1, ⟨hk.1.2, hk.1.1.2⟩⟩)))⟩; have n1_ : Aside0 (Kd.R (Kd.int .i64) 3 w73 w.heap.size (fun k_ => some k_ ≠ (.slice Ao71 t382.length co71 : Value).ownBlock) (.slice (some ad379) x7_2.length co60) x7_2) := ⟨(by rw [hw]; exact (by (with_reducible repeat (first | apply Kd.R_alloc | apply Kd.R_drewN | apply Kd.R_drew)); exact Kd.R_mono (Kd.R_far (p := ⟨gb381, 3, none⟩) (Kd.R_types HO_85.out BK381.out (by decide)) (fun _ hk => hk.2) (.slice Ao71 t382.length co71)) (fun _ hk => hk.1.2)))⟩; have n2_ : Aside0 (Kd.R (Kd.int .i64) 3 w73 w.heap.size (fun k_ => some k_ ≠ (.slice (some ad379) x7_2.length co60 : Value).ownBlock) (.slice Ao71 t382.length co71) t382) := ⟨(by rw [hw]; exact (by (with_reducible repeat (first | apply Kd.R_alloc | apply Kd.R_drewN | apply Kd.R_drew)); exact Kd.R_mono (Kd.R_far (p := ⟨gb381, 3, none⟩) (Kd.R_types HO384.out BK381.out (by decide)) (fun _ hk => hk.2) (.slice Ao71 t382.length co71)) (fun _ hk => hk.1.2)))⟩; have n3_ : Aside0 (w73.heap[gb381]? = some (.cells #[.int .u32 ((rd_T66 l0 (rd x7_2 x87_3)).f0), .int .i64 ((rd_T66 l0 (rd x7_2 x87_3)).f1), .int .i64 ((rd_T66 l0 (rd x7_2 x87_3)).f2), .slice Ao71 t382.length co71] 66 (0, 0))) := ⟨(by rw [hw]; exact (by (with_reducible repeat (first | refine blk_drewN ?_ _ | refine blk_drew ?_ | refine blk_alloc ?_ _)); refine blk_put (cs := #[.int .u32 ((rd_T66 l0 (rd x7_2 x87_3)).f0), .int .i64 ((rd_T66 l0 (rd x7_2 x87_3)).f1), .int .i64 ((rd_T66 l0 (rd x7_2 x87_3)).f2), .slice A380_3 ((rd_T66 l0 (rd x7_2 x87_3)).f3).length c380_3]) ?_ 3 _ rfl; (with_reducible repeat (first | refine blk_drewN ?_ _ | refine blk_drew ?_ | refine blk_alloc ?_ _)); exact BK381.out))⟩; have n4_ : Aside0 (Below w.heap.size w w73) := ⟨(by rw [hw]; exact (zB HB))⟩; clear hw; clear HO_4; clear HO_85; clear HO384; clear BK381; clear HB; have HO_4 := n0_; have HO_85 := n1_; have HO384 := n2_; have BK381 := n3_; have HB := n4_; clear n0_ n1_ n2_ n3_ n4_; obtain ⟨hcz74_0, hcz74_1, hcz74_2, hcz74_3⟩ := zC4 BK381; obtain ⟨hfz74_0, hfz74_1, hfz74_2⟩ := zF3 BK381; have hfz74_3 := blk_frozen BK381.out 3) | ((with_reducible refine gate_builtin (b := .append) (xs := #[.tmp 99, .tmp 101]) rfl ?_); at_builtin; refine Kd.S_append k66 (w0 := w) w.heap.size rfl (.tmp 99) (.tmp 101) 61 66 (.agg #[(.int .u32 0), (.int .i64 0), (.int .i64 0), (.slice none 0 0)]) 48 rfl Try.underlying61 info66 rfl (by decide) (by omega) u4 x4_3 (⟨(rd_T66 l0 (rd x7_2 x87_3)).f0, (rd_T66 l0 (rd x7_2 x87_3)).f1, (rd_T66 l0 (rd x7_2 x87_3)).f2, t382⟩ : S66) [.int .u32 ((rd_T66 l0 (rd x7_2 x87_3)).f0), .int .i64 ((rd_T66 l0 (rd x7_2 x87_3)).f1), .int .i64 ((rd_T66 l0 (rd x7_2 x87_3)).f2), .slice Ao71 t382.length co71] (fun k_ => some k_ ≠ (.slice (some ad379) x7_2.length co60 : Value).ownBlock ∧ k_ ≠ gb381) (fun k_ => some k_ = (.slice Ao71 t382.length co71 : Value).ownBlock) rfl rfl ?aP (fun k_ hk_ => ((Kd.R_mono (ok' := fun k_ => ((fun k_ => some k_ ≠ (.slice (some ad379) x7_2.length co60 : Value).ownBlock ∧ k_ ≠ gb381)) k_ ∧ some k_ ≠ (u4 : Value).ownBlock) (Kd.R_types (Kd.R_apart' (HO384.out) (Kd.S_typed HO_4.out) (by decide)) BK381.out (by decide)) (fun k_ hk => ⟨⟨hk.1.1, hk.2⟩, hk.1.2⟩))).1 k_ hk_.symm) ?aF ?aO ?aB ?aS ?aL ?_; (case aP => exact k66_mkM _ _ _ (⟨(rd_T66 l0 (rd x7_2 x87_3)).f0, (rd_T66 l0 (rd x7_2 x87_3)).f1, (rd_T66 l0 (rd x7_2 x87_3)).f2, t382⟩ : S66) (Kd.R_mono (Kd.R_tight rfl (Kd.R_mono (ok' := fun k_ => ((fun k_ => some k_ ≠ (.slice (some ad379) x7_2.length co60 : Value).ownBlock ∧ k_ ≠ gb381)) k_ ∧ some k_ ≠ (u4 : Value).ownBlock) (Kd.R_types (Kd.R_apart' (HO384.out) (Kd.S_typed HO_4.out) (by decide)) BK381.out (by decide)) (fun k_ hk => ⟨⟨hk.1.1, hk.2⟩, hk.1.2⟩))) (fun _ h_ => h_))); (case aB => exact (zB HB)); (case aF => exact (fun k_ hk => ⟨Kd.fresh' (Kd.R_lt (zr_ HO_85)) k_ hk, Kd.freshB (g := gb381) (o := .cells #[.int .u32 ((rd_T66 l0 (rd x7_2 x87_3)).f0), .int .i64 ((rd_T66 l0 (rd x7_2 x87_3)).f1), .int .i64 ((rd_T66 l0 (rd x7_2 x87_3)).f2), .slice Ao71 t382.length co71] 66 (0, 0)) (zk BK381) k_ hk⟩)); (case aO => exact (by (with_reducible repeat (first | apply Kd.S_alloc | apply Kd.S_drewN | apply Kd.S_drew)); exact Kd.S_mono HO_4.out (fun k_ hk => ⟨⟨hk.1, hk.2.2⟩, fun e_ => hk.2.1 e_⟩))); (case aS => exact (below_size (zB HB))); (case aL => have := LMc67.out; omega); intro v386 w75 ho hb hg hat; rw [← Ny385.out] at ho; have n0_ := Aside0.mk (Kd.R_over' (zr_ HO_85) (Kd.S_typed (by (with_reducible repeat (first | apply Kd.S_alloc | apply Kd.S_drewN | apply Kd.S_drew)); exact HO_4.out)) (by decide) hg); have n1_ := Aside0.mk (blk_grown (g := gb381) (o := .cells #[.int .u32 ((rd_T66 l0 (rd x7_2 x87_3)).f0), .int .i64 ((rd_T66 l0 (rd x7_2 x87_3)).f1), .int .i64 ((rd_T66 l0 (rd x7_2 x87_3)).f2), .slice Ao71 t382.length co71] 66 (0, 0)) (zk BK381) hg (Kd.S_away HO_4.out (fun _ hk => hk.2.2))); have n2_ := Aside0.mk (hb); have n3_ := Aside0.mk (ho); clear HO_85; clear BK381; clear HB; clear HO_4; clear HO384; have HO_85 := n0_; have BK381 := n1_; have HB := n2_; have HO387 := n3_; clear n0_ n1_ n2_ n3_; clear ho hb hg hat)); try go_wp2_with (first | ((with_reducible refine gate_dst (N := 14) rfl ?_); refine box_event ?hg (N := 14) ?hd (cs := #[.int .u32 0, .int .i64 0, .int .i64 0, .slice none 0 0]) (t := 66) ?hr ?_; (case hd => rfl); (case hg => rfl); (case hr => first | (go_simp; done) | (go_simp; rfl)); intro gb381 hg w68 hbox hb; have n0_ := Aside0.mk (Kd.S_below (Kd.S_elderB (by (with_reducible repeat (first | apply Kd.S_alloc | apply Kd.S_drewN | apply Kd.S_drew)); exact HO_4.out) gb381 (Nat.le_of_eq hg.symm)) hb); have n1_ := zR HO_85 hb; have n2_ := zs HB hb; have n3_ := Aside0.mk (hbox); have n4_ := zg HB hg; have n5_ := zg HB hg; clear HO_4; clear HO_85; clear HB; have HO_4 := n0_; have HO_85 := n1_; have HB := n2_; have BK381 := n3_; have GW381 := n4_; have GE381 := n5_; clear n0_ n1_ n2_ n3_ n4_ n5_; clear hb hbox hg; obtain ⟨hcz69_0, hcz69_1, hcz69_2, hcz69_3⟩ := zC4 BK381; obtain ⟨hfz69_0, hfz69_1, hfz69_2⟩ := zF3 BK381; have hfz69_3 := blk_frozen BK381.out 3) | (go_at_call 127; (with_reducible refine (Clone_ints.calls _ _ ((rd_T66 l0 (rd x7_2 x87_3)).f3) t382 _ ?side1 ?side2 A66.out).mono ?_); (case side1 => exact Kd.C_below HR380_3.out (zB HB)); (case side2 => exact HC380_3.out); rintro e w70 ⟨v383, rfl, ho0, hb⟩; have n0_ := Aside0.mk (Kd.S_elder' (by (with_reducible repeat (first | apply Kd.S_alloc | apply Kd.S_drewN | apply Kd.S_drew)); exact (Kd.S_mono (Kd.S_far (p := ⟨gb381, 3, none⟩) (Kd.S_far (p := ⟨gb381, 2, none⟩) (Kd.S_far (p := ⟨gb381, 1, none⟩) (Kd.S_far (p := ⟨gb381, 0, none⟩) (Kd.S_mono HO_4.out (fun k_ hk => (⟨hk, hk.2⟩ : _ ∧ k_ ≠ gb381))) (fun _ hk => hk.2) (.int .u32 ((rd_T66 l0 (rd x7_2 x87_3)).f0))) (fun _ hk => hk.2) (.int .i64 ((rd_T66 l0 (rd x7_2 x87_3)).f1))) (fun _ hk => hk.2) (.int .i64 ((rd_T66 l0 (rd x7_2 x87_3)).f2))) (fun _ hk => hk.2) (.slice A380_3 ((rd_T66 l0 (rd x7_2 x87_3)).f3).length c380_3)) (fun _ h_ => h_.1))) (Kd.R_base ho0) hb); have n1_ := Aside0.mk (Kd.R_elder' (by (with_reducible repeat (first | apply Kd.R_alloc | apply Kd.R_drewN | apply Kd.R_drew)); exact (Kd.R_mono (Kd.R_far (p := ⟨gb381, 3, none⟩) (Kd.R_far (p := ⟨gb381, 2, none⟩) (Kd.R_far (p := ⟨gb381, 1, none⟩) (Kd.R_far (p := ⟨gb381, 0, none⟩) (Kd.R_types HO_85.out BK381.out (by decide)) (fun _ hk => hk.2) (.int .u32 ((rd_T66 l0 (rd x7_2 x87_3)).f0))) (fun _ hk => hk.2) (.int .i64 ((rd_T66 l0 (rd x7_2 x87_3)).f1))) (fun _ hk => hk.2) (.int .i64 ((rd_T66 l0 (rd x7_2 x87_3)).f2))) (fun _ hk => hk.2) (.slice A380_3 ((rd_T66 l0 (rd x7_2 x87_3)).f3).length c380_3)) (fun _ h_ => h_.1))) (Kd.R_base ho0) hb); have n2_ := Aside0.mk (Kd.R_lower (Kd.R_new' ho0 (Kd.R_lt (by (with_reducible repeat (first | apply Kd.R_alloc | apply Kd.R_drewN | apply Kd.R_drew)); exact (Kd.R_mono (Kd.R_far (p := ⟨gb381, 3, none⟩) (Kd.R_far (p := ⟨gb381, 2, none⟩) (Kd.R_far (p := ⟨gb381, 1, none⟩) (Kd.R_far (p := ⟨gb381, 0, none⟩) (Kd.R_types HO_85.out BK381.out (by decide)) (fun _ hk => hk.2) (.int .u32 ((rd_T66 l0 (rd x7_2 x87_3)).f0))) (fun _ hk => hk.2) (.int .i64 ((rd_T66 l0 (rd x7_2 x87_3)).f1))) (fun _ hk => hk.2) (.int .i64 ((rd_T66 l0 (rd x7_2 x87_3)).f2))) (fun _ hk => hk.2) (.slice A380_3 ((rd_T66 l0 (rd x7_2 x87_3)).f3).length c380_3)) (fun _ h_ => h_.1))))) (below_size (zB HB))); have n3_ := Aside0.mk (blk_below (g := gb381) (o := .cells #[.int .u32 ((rd_T66 l0 (rd x7_2 x87_3)).f0), .int .i64 ((rd_T66 l0 (rd x7_2 x87_3)).f1), .int .i64 ((rd_T66 l0 (rd x7_2 x87_3)).f2), .slice A380_3 ((rd_T66 l0 (rd x7_2 x87_3)).f3).length c380_3] 66 (0, 0)) (by (with_reducible repeat (first | refine blk_drewN ?_ _ | refine blk_drew ?_ | refine blk_alloc ?_ _)); refine blk_put (cs := #[.int .u32 ((rd_T66 l0 (rd x7_2 x87_3)).f0), .int .i64 ((rd_T66 l0 (rd x7_2 x87_3)).f1), .int .i64 ((rd_T66 l0 (rd x7_2 x87_3)).f2), .slice none 0 0]) ?_ 3 _ rfl; (with_reducible repeat (first | refine blk_drewN ?_ _ | refine blk_drew ?_ | refine blk_alloc ?_ _)); refine blk_put (cs := #[.int .u32 ((rd_T66 l0 (rd x7_2 x87_3)).f0), .int .i64 ((rd_T66 l0 (rd x7_2 x87_3)).f1), .int .i64 0, .slice none 0 0]) ?_ 2 _ rfl; (with_reducible repeat (first | refine blk_drewN ?_ _ | refine blk_drew ?_ | refine blk_alloc ?_ _)); refine blk_put (cs := #[.int .u32 ((rd_T66 l0 (rd x7_2 x87_3)).f0), .int .i64 0, .int .i64 0, .slice none 0 0]) ?_ 1 _ rfl; (with_reducible repeat (first | refine blk_drewN ?_ _ | refine blk_drew ?_ | refine blk_alloc ?_ _)); refine blk_put (cs := #[.int .u32 0, .int .i64 0, .int .i64 0, .slice none 0 0]) ?_ 0 _ rfl; (with_reducible repeat (first | refine blk_drewN ?_ _ | refine blk_drew ?_ | refine blk_alloc ?_ _)); exact BK381.out) hb); have n4_ := zs HB hb; clear HO_4; clear HO_85; clear BK381; clear HB; have HO_4 := n0_; have HO_85 := n1_; have HO384 := n2_; have BK381 := n3_; have HB := n4_; clear n0_ n1_ n2_ n3_ n4_; (try clear hb); (try clear hb2); (try clear hk); (try clear hi); (try clear ho0); obtain ⟨Ao71, co71, eo71⟩ := Kd.R_slice HO384.out; subst eo71; obtain ⟨hcz72_0, hcz72_1, hcz72_2, hcz72_3⟩ := zC4 BK381; obtain ⟨hfz72_0, hfz72_1, hfz72_2⟩ := zF3 BK381; have hfz72_3 := blk_frozen BK381.out 3) | ((with_reducible refine gate_store (t := 52) (p := 98) rfl ?_); (try (rw [drewN_self w70]; generalize hq_ : World.drewN w70 _ = w70; have n0_ := Aside0.mk (Kd.S_at hq_ HO_4.out); have n1_ := Aside0.mk (Kd.R_at hq_ HO_85.out); have n2_ := Aside0.mk (Kd.R_at hq_ HO384.out); have n3_ := Aside0.mk (blk_at hq_ BK381.out); have n4_ := Aside0.mk (below_at hq_ HB.out); clear hq_ HO_4 HO_85 HO384 BK381 HB; have HO_4 := n0_; have HO_85 := n1_; have HO384 := n2_; have BK381 := n3_; have HB := n4_; clear n0_ n1_ n2_ n3_ n4_)); refine store_event (t := 52) (p := 98) (v := ?vo_w73) (w1 := (w70.setCell ⟨gb381, 3, none⟩ (.slice Ao71 t382.length co71))) ?hg ?ho ?hn ?hr ?_; (case ho => rfl); (case hg => rfl); (case hn => rfl); (case hr => first | (go_simp; done) | (go_simp; rfl)); intro w73 hw; have n0_ : Aside0 (Kd.S k66 66 w73 w.heap.size (fun k_ => some k_ ≠ (.slice (some ad379) x7_2.length co60 : Value).ownBlock ∧ some k_ ≠ (.slice Ao71 t382.length co71 : Value).ownBlock ∧ k_ ≠ gb381) u4 x4_3) := ⟨(by rw [hw]; exact (by (with_reducible repeat (first | apply Kd.S_alloc | apply Kd.S_drewN | apply Kd.S_drew)); exact Kd.S_mono (Kd.S_far (p := ⟨gb381, 3, none⟩) (Kd.S_mono HO_4.out (fun k_ hk => (⟨hk, hk.1.2⟩ : _ ∧ k_ ≠ gb381))) (fun _ hk => hk.2) (.slice Ao71 t382.length co71)) (fun _ hk => ⟨hk.1.1.1, ⟨hk.1.2, hk.1.1.2⟩⟩)))⟩; have n1_ : Aside0 (Kd.R (Kd.int .i64) 3 w73 w.heap.size (fun k_ => some k_ ≠ (.slice Ao71 t382.length co71 : Value).ownBlock) (.slice (some ad379) x7_2.length co60) x7_2) := ⟨(by rw [hw]; exact (by (with_reducible repeat (first | apply Kd.R_alloc | apply Kd.R_drewN | apply Kd.R_drew)); exact Kd.R_mono (Kd.R_far (p := ⟨gb381, 3, none⟩) (Kd.R_types HO_85.out BK381.out (by decide)) (fun _ hk => hk.2) (.slice Ao71 t382.length co71)) (fun _ hk => hk.1.2)))⟩; have n2_ : Aside0 (Kd.R (Kd.int .i64) 3 w73 w.heap.size (fun k_ => some k_ ≠ (.slice (some ad379) x7_2.length co60 : Value).ownBlock) (.slice Ao71 t382.length co71) t382) := ⟨(by rw [hw]; exact (by (with_reducible repeat (first | apply Kd.R_alloc | apply Kd.R_drewN | apply Kd.R_drew)); exact Kd.R_mono (Kd.R_far (p := ⟨gb381, 3, none⟩) (Kd.R_types HO384.out BK381.out (by decide)) (fun _ hk => hk.2) (.slice Ao71 t382.length co71)) (fun _ hk => hk.1.2)))⟩; have n3_ : Aside0 (w73.heap[gb381]? = some (.cells #[.int .u32 ((rd_T66 l0 (rd x7_2 x87_3)).f0), .int .i64 ((rd_T66 l0 (rd x7_2 x87_3)).f1), .int .i64 ((rd_T66 l0 (rd x7_2 x87_3)).f2), .slice Ao71 t382.length co71] 66 (0, 0))) := ⟨(by rw [hw]; exact (by (with_reducible repeat (first | refine blk_drewN ?_ _ | refine blk_drew ?_ | refine blk_alloc ?_ _)); refine blk_put (cs := #[.int .u32 ((rd_T66 l0 (rd x7_2 x87_3)).f0), .int .i64 ((rd_T66 l0 (rd x7_2 x87_3)).f1), .int .i64 ((rd_T66 l0 (rd x7_2 x87_3)).f2), .slice A380_3 ((rd_T66 l0 (rd x7_2 x87_3)).f3).length c380_3]) ?_ 3 _ rfl; (with_reducible repeat (first | refine blk_drewN ?_ _ | refine blk_drew ?_ | refine blk_alloc ?_ _)); exact BK381.out))⟩; have n4_ : Aside0 (Below w.heap.size w w73) := ⟨(by rw [hw]; exact (zB HB))⟩; clear hw; clear HO_4; clear HO_85; clear HO384; clear BK381; clear HB; have HO_4 := n0_; have HO_85 := n1_; have HO384 := n2_; have BK381 := n3_; have HB := n4_; clear n0_ n1_ n2_ n3_ n4_; obtain ⟨hcz74_0, hcz74_1, hcz74_2, hcz74_3⟩ := zC4 BK381; obtain ⟨hfz74_0, hfz74_1, hfz74_2⟩ := zF3 BK381; have hfz74_3 := blk_frozen BK381.out 3) | ((with_reducible refine gate_builtin (b := .append) (xs := #[.tmp 99, .tmp 101]) rfl ?_); at_builtin; refine Kd.S_append k66 (w0 := w) w.heap.size rfl (.tmp 99) (.tmp 101) 61 66 (.agg #[(.int .u32 0), (.int .i64 0), (.int .i64 0), (.slice none 0 0)]) 48 rfl Try.underlying61 info66 rfl (by decide) (by omega) u4 x4_3 (⟨(rd_T66 l0 (rd x7_2 x87_3)).f0, (rd_T66 l0 (rd x7_2 x87_3)).f1, (rd_T66 l0 (rd x7_2 x87_3)).f2, t382⟩ : S66) [.int .u32 ((rd_T66 l0 (rd x7_2 x87_3)).f0), .int .i64 ((rd_T66 l0 (rd x7_2 x87_3)).f1), .int .i64 ((rd_T66 l0 (rd x7_2 x87_3)).f2), .slice Ao71 t382.length co71] (fun k_ => some k_ ≠ (.slice (some ad379) x7_2.length co60 : Value).ownBlock ∧ k_ ≠ gb381) (fun k_ => some k_ = (.slice Ao71 t382.length co71 : Value).ownBlock) rfl rfl ?aP (fun k_ hk_ => ((Kd.R_mono (ok' := fun k_ => ((fun k_ => some k_ ≠ (.slice (some ad379) x7_2.length co60 : Value).ownBlock ∧ k_ ≠ gb381)) k_ ∧ some k_ ≠ (u4 : Value).ownBlock) (Kd.R_types (Kd.R_apart' (HO384.out) (Kd.S_typed HO_4.out) (by decide)) BK381.out (by decide)) (fun k_ hk => ⟨⟨hk.1.1, hk.2⟩, hk.1.2⟩))).1 k_ hk_.symm) ?aF ?aO ?aB ?aS ?aL ?_; (case aP => exact k66_mkM _ _ _ (⟨(rd_T66 l0 (rd x7_2 x87_3)).f0, (rd_T66 l0 (rd x7_2 x87_3)).f1, (rd_T66 l0 (rd x7_2 x87_3)).f2, t382⟩ : S66) (Kd.R_mono (Kd.R_tight rfl (Kd.R_mono (ok' := fun k_ => ((fun k_ => some k_ ≠ (.slice (some ad379) x7_2.length co60 : Value).ownBlock ∧ k_ ≠ gb381)) k_ ∧ some k_ ≠ (u4 : Value).ownBlock) (Kd.R_types (Kd.R_apart' (HO384.out) (Kd.S_typed HO_4.out) (by decide)) BK381.out (by decide)) (fun k_ hk => ⟨⟨hk.1.1, hk.2⟩, hk.1.2⟩))) (fun _ h_ => h_))); (case aB => exact (zB HB)); (case aF => exact (fun k_ hk => ⟨Kd.fresh' (Kd.R_lt (zr_ HO_85)) k_ hk, Kd.freshB (g := gb381) (o := .cells #[.int .u32 ((rd_T66 l0 (rd x7_2 x87_3)).f0), .int .i64 ((rd_T66 l0 (rd x7_2 x87_3)).f1), .int .i64 ((rd_T66 l0 (rd x7_2 x87_3)).f2), .slice Ao71 t382.length co71] 66 (0, 0)) (zk BK381) k_ hk⟩)); (case aO => exact (by (with_reducible repeat (first | apply Kd.S_alloc | apply Kd.S_drewN | apply Kd.S_drew)); exact Kd.S_mono HO_4.out (fun k_ hk => ⟨⟨hk.1, hk.2.2⟩, fun e_ => hk.2.1 e_⟩))); (case aS => exact (below_size (zB HB))); (case aL => have := LMc67.out; omega); intro v386 w75 ho hb hg hat; rw [← Ny385.out] at ho; have n0_ := Aside0.mk (Kd.R_over' (zr_ HO_85) (Kd.S_typed (by (with_reducible repeat (first | apply Kd.S_alloc | apply Kd.S_drewN | apply Kd.S_drew)); exact HO_4.out)) (by decide) hg); have n1_ := Aside0.mk (blk_grown (g := gb381) (o := .cells #[.int .u32 ((rd_T66 l0 (rd x7_2 x87_3)).f0), .int .i64 ((rd_T66 l0 (rd x7_2 x87_3)).f1), .int .i64 ((rd_T66 l0 (rd x7_2 x87_3)).f2), .slice Ao71 t382.length co71] 66 (0, 0)) (zk BK381) hg (Kd.S_away HO_4.out (fun _ hk => hk.2.2))); have n2_ := Aside0.mk (hb); have n3_ := Aside0.mk (ho); clear HO_85; clear BK381; clear HB; clear HO_4; clear HO384; have HO_85 := n0_; have BK381 := n1_; have HB := n2_; have HO387 := n3_; clear n0_ n1_ n2_ n3_; clear ho hb hg hat)))
     go_roundg k3
     case measure => have := HJ2.out; have := HK2.out; have := HK3.out; omega
     case rel => exact ⟨(y385), (wrap64 (x87_3 + 1)), (by first | rfl | (simp; done) | (simp [*]; done)), H', ⟨by have := HJ2.out; have := HK2.out; have := HK3.out; omega⟩, ⟨by (with_reducible repeat (first | apply Kd.S_alloc | apply Kd.S_drewN | apply Kd.S_drew)); exact Kd.S_mono HO387.out (fun _ hk => hk.1)⟩, ⟨by (with_reducible repeat (first | apply Kd.R_alloc | apply Kd.R_drewN | apply Kd.R_drew)); exact Kd.R_mono HO_85.out (fun _ hk => trivial)⟩, ⟨by repeat (first | (with_reducible first | exact HB.out | apply below_alloc | apply pw_below_drewN | apply below_drew1 | refine below_set ?_ GE381.out) | exact HB.out)⟩⟩
  rw [if_pos c12] at H
  have c12b0 : decide (x31_2 < (l0.length : Int)) = true := decide_eq_true c12
  clear c12
  by_cases c13 : 0 ≤ x31_2
  rotate_left
  · rw [if_neg c13] at H
    exact absurd H (by simp)
  rw [if_pos c13] at H
  have c13b0 : decide (0 ≤ x31_2) = true := decide_eq_true c13
  clear c13
  by_cases c14 : x31_2 < (l0.length : Int)
  rotate_left
  · rw [if_neg c14] at H
    exact absurd H (by simp)
  rw [if_pos c14] at H
  have c14b0 : decide (x31_2 < (l0.length : Int)) = true := decide_eq_true c14
  clear c14
  have HC15 := Aside0.mk H
  clear H
  have p364 : 0 ≤ (x31_2 : Int) := of_decide_eq_true (by first | (with_reducible assumption) | assumption)
  have q364 : x31_2 < (l0.length : Int) := of_decide_eq_true (by first | (with_reducible assumption) | assumption)
  obtain ⟨ad364, A364_3, c364_3, e364, hx364_0, hx364_1, hx364_2, hx364_3, hl364_3, hi364_3⟩ := at_T66 HR0.out x31_2 p364 q364
  cases e364
  replace hx364_0 := (HB.out.cell (World.block_lt_of_cell? w _ hx364_0)).trans hx364_0
  replace hx364_1 := (HB.out.cell (World.block_lt_of_cell? w _ hx364_1)).trans hx364_1
  replace hx364_2 := (HB.out.cell (World.block_lt_of_cell? w _ hx364_2)).trans hx364_2
  replace hx364_3 := (HB.out.cell (World.block_lt_of_cell? w _ hx364_3)).trans hx364_3
  have HR364_3 := Aside0.mk hi364_3
  have HC364_3 := Aside0.mk hl364_3
  clear hi364_3 hl364_3
  replace p364 := eq_true p364
  replace q364 := eq_true q364
  go_upto_block 3 with (first | ((with_reducible refine gate_dst (N := 9) rfl ?_); refine box_event ?hg (N := 9) ?hd (cs := #[.int .u32 0, .int .i64 0, .int .i64 0, .slice none 0 0]) (t := 66) ?hr ?_; (case hd => rfl); (case hg => rfl); (case hr => first | (go_simp; done) | (go_simp; rfl)); intro gb365 hg w16 hbox hb; have n0_ := Aside0.mk (Kd.S_below (Kd.S_elderB (by (with_reducible repeat (first | apply Kd.S_alloc | apply Kd.S_drewN | apply Kd.S_drew)); exact HO_4.out) gb365 (Nat.le_of_eq hg.symm)) hb); have n1_ := zR HO_7 hb; have n2_ := zs HB hb; have n3_ := Aside0.mk (hbox); have n4_ := zg HB hg; have n5_ := zg HB hg; clear HO_4; clear HO_7; clear HB; have HO_4 := n0_; have HO_7 := n1_; have HB := n2_; have BK365 := n3_; have GW365 := n4_; have GE365 := n5_; clear n0_ n1_ n2_ n3_ n4_ n5_; clear hb hbox hg; obtain ⟨hcz17_0, hcz17_1, hcz17_2, hcz17_3⟩ := zC4 BK365; obtain ⟨hfz17_0, hfz17_1, hfz17_2, hfz17_3⟩ := zF4 BK365; obtain ⟨Ao18, co18, eo18⟩ := Kd.R_slice HO_7.out; subst eo18))
  repeat (go_quiet (first | ((with_reducible refine gate_dst (N := 9) rfl ?_); refine box_event ?hg (N := 9) ?hd (cs := #[.int .u32 0, .int .i64 0, .int .i64 0, .slice none 0 0]) (t := 66) ?hr ?_; (case hd => rfl); (case hg => rfl); (case hr => first | (go_simp; done) | (go_simp; rfl)); intro gb365 hg w16 hbox hb; have n0_ := Aside0.mk (Kd.S_below (Kd.S_elderB (by (with_reducible repeat (first | apply Kd.S_alloc | apply Kd.S_drewN | apply Kd.S_drew)); exact HO_4.out) gb365 (Nat.le_of_eq hg.symm)) hb); have n1_ := zR HO_7 hb; have n2_ := zs HB hb; have n3_ := Aside0.mk (hbox); have n4_ := zg HB hg; have n5_ := zg HB hg; clear HO_4; clear HO_7; clear HB; have HO_4 := n0_; have HO_7 := n1_; have HB := n2_; have BK365 := n3_; have GW365 := n4_; have GE365 := n5_; clear n0_ n1_ n2_ n3_ n4_ n5_; clear hb hbox hg; obtain ⟨hcz17_0, hcz17_1, hcz17_2, hcz17_3⟩ := zC4 BK365; obtain ⟨hfz17_0, hfz17_1, hfz17_2, hfz17_3⟩ := zF4 BK365; obtain ⟨Ao18, co18, eo18⟩ := Kd.R_slice HO_7.out; subst eo18)); go_upto_block 3 with (first | ((with_reducible refine gate_dst (N := 9) rfl ?_); refine box_event ?hg (N := 9) ?hd (cs := #[.int .u32 0, .int .i64 0, .int .i64 0, .slice none 0 0]) (t := 66) ?hr ?_; (case hd => rfl); (case hg => rfl); (case hr => first | (go_simp; done) | (go_simp; rfl)); intro gb365 hg w16 hbox hb; have n0_ := Aside0.mk (Kd.S_below (Kd.S_elderB (by (with_reducible repeat (first | apply Kd.S_alloc | apply Kd.S_drewN | apply Kd.S_drew)); exact HO_4.out) gb365 (Nat.le_of_eq hg.symm)) hb); have n1_ := zR HO_7 hb; have n2_ := zs HB hb; have n3_ := Aside0.mk (hbox); have n4_ := zg HB hg; have n5_ := zg HB hg; clear HO_4; clear HO_7; clear HB; have HO_4 := n0_; have HO_7 := n1_; have HB := n2_; have BK365 := n3_; have GW365 := n4_; have GE365 := n5_; clear n0_ n1_ n2_ n3_ n4_ n5_; clear hb hbox hg; obtain ⟨hcz17_0, hcz17_1, hcz17_2, hcz17_3⟩ := zC4 BK365; obtain ⟨hfz17_0, hfz17_1, hfz17_2, hfz17_3⟩ := zF4 BK365; obtain ⟨Ao18, co18, eo18⟩ := Kd.R_slice HO_7.out; subst eo18)))
  (try simp only [Act.put, List.setIfInBounds_toArray, List.set_cons_zero, List.set_cons_succ])
  go_cut [10] (fun v10 wc => ∃ (kq : Nat) (x10_14 : Int), v10 = .int .i64 x10_14 ∧ Aside0 (pick_Pick.j3 kq l0 a1 ([] : List (S66)) x5_2 x7_2 x31_2 x10_14 l0 (l0.length : Int) x31_2 = some (r1, r2, r3)) ∧ Aside0 (kq ≤ k2) ∧ Aside0 (Kd.S k66 66 wc w.heap.size (fun k_ => some k_ ≠ ((.slice Ao18 x7_2.length co18) : Value).ownBlock ∧ k_ ≠ gb365) (.slice none 0 0) ([] : List (S66))) ∧ Aside0 (Kd.R (Kd.int .i64) 3 wc w.heap.size (fun _ => True) (.slice Ao18 x7_2.length co18) x7_2) ∧ Aside0 (wc.heap[gb365]? = some (.cells #[.int .u32 ((rd_T66 l0 x31_2).f0), .int .i64 ((rd_T66 l0 x31_2).f1), .int .i64 ((rd_T66 l0 x31_2).f2), (.slice A364_3 ((rd_T66 l0 x31_2).f3).length c364_3)] 66 (0, 0))) ∧ Aside0 (Below w.heap.size w wc))
  case first =>
   have H := HC15.out
   clear HC15
   have H' := Aside0.mk H
   clear H
   go_wp2
   repeat (go_quiet (fail); try go_wp2)
   go_loopg [10] k2 (fun kq v10 w' => ∃ (x10_3 : Int), v10 = .int .i64 x10_3 ∧ Aside0 (pick_Pick.l1 kq l0 a1 ([] : List (S66)) x5_2 x7_2 x31_2 x10_3 l0 (l0.length : Int) x31_2 ((rd_T66 l0 x31_2).f0) ((rd_T66 l0 x31_2).f1) ((rd_T66 l0 x31_2).f2) ((rd_T66 l0 x31_2).f3) = some (r1, r2, r3)) ∧ Aside0 (kq ≤ k2) ∧ Aside0 (Kd.S k66 66 w' w.heap.size (fun k_ => some k_ ≠ ((.slice Ao18 x7_2.length co18) : Value).ownBlock ∧ k_ ≠ gb365) (.slice none 0 0) ([] : List (S66))) ∧ Aside0 (Kd.R (Kd.int .i64) 3 w' w.heap.size (fun _ => True) (.slice Ao18 x7_2.length co18) x7_2) ∧ Aside0 (w'.heap[gb365]? = some (.cells #[.int .u32 ((rd_T66 l0 x31_2).f0), .int .i64 ((rd_T66 l0 x31_2).f1), .int .i64 ((rd_T66 l0 x31_2).f2), (.slice A364_3 ((rd_T66 l0 x31_2).f3).length c364_3)] 66 (0, 0))) ∧ Aside0 (Below w.heap.size w w'))
   case atStart => exact ⟨((x7_2.length : Int)), (by first | rfl | (simp; done) | (simp [*]; done)), H', ⟨Nat.le_refl _⟩, ⟨by (with_reducible repeat (first | apply Kd.S_alloc | apply Kd.S_drewN | apply Kd.S_drew)); exact Kd.S_mono (Kd.S_far (p := ⟨gb365, 3, none⟩) (Kd.S_far (p := ⟨gb365, 2, none⟩) (Kd.S_far (p := ⟨gb365, 1, none⟩) (Kd.S_far (p := ⟨gb365, 0, none⟩) (Kd.S_mono HO_4.out (fun k_ hk => (⟨hk, hk.2⟩ : _ ∧ k_ ≠ gb365))) (fun _ hk => hk.2) (.int .u32 ((rd_T66 l0 x31_2).f0))) (fun _ hk => hk.2) (.int .i64 ((rd_T66 l0 x31_2).f1))) (fun _ hk => hk.2) (.int .i64 ((rd_T66 l0 x31_2).f2))) (fun _ hk => hk.2) (.slice A364_3 ((rd_T66 l0 x31_2).f3).length c364_3)) (fun _ hk => ⟨hk.1.1, hk.1.2⟩)⟩, ⟨by (with_reducible repeat (first | apply Kd.R_alloc | apply Kd.R_drewN | apply Kd.R_drew)); exact Kd.R_mono (Kd.R_far (p := ⟨gb365, 3, none⟩) (Kd.R_far (p := ⟨gb365, 2, none⟩) (Kd.R_far (p := ⟨gb365, 1, none⟩) (Kd.R_far (p := ⟨gb365, 0, none⟩) (Kd.R_types HO_7.out BK365.out (by decide)) (fun _ hk => hk.2) (.int .u32 ((rd_T66 l0 x31_2).f0))) (fun _ hk => hk.2) (.int .i64 ((rd_T66 l0 x31_2).f1))) (fun _ hk => hk.2) (.int .i64 ((rd_T66 l0 x31_2).f2))) (fun _ hk => hk.2) (.slice A364_3 ((rd_T66 l0 x31_2).f3).length c364_3)) (fun _ hk => trivial)⟩, ⟨by (with_reducible repeat (first | refine blk_drewN ?_ _ | refine blk_drew ?_ | refine blk_alloc ?_ _)); refine blk_put (cs := #[.int .u32 ((rd_T66 l0 x31_2).f0), .int .i64 ((rd_T66 l0 x31_2).f1), .int .i64 ((rd_T66 l0 x31_2).f2), .slice none 0 0]) ?_ 3 _ rfl; (with_reducible repeat (first | refine blk_drewN ?_ _ | refine blk_drew ?_ | refine blk_alloc ?_ _)); refine blk_put (cs := #[.int .u32 ((rd_T66 l0 x31_2).f0), .int .i64 ((rd_T66 l0 x31_2).f1), .int .i64 0, .slice none 0 0]) ?_ 2 _ rfl; (with_reducible repeat (first | refine blk_drewN ?_ _ | refine blk_drew ?_ | refine blk_alloc ?_ _)); refine blk_put (cs := #[.int .u32 ((rd_T66 l0 x31_2).f0), .int .i64 0, .int .i64 0, .slice none 0 0]) ?_ 1 _ rfl; (with_reducible repeat (first | refine blk_drewN ?_ _ | refine blk_drew ?_ | refine blk_alloc ?_ _)); refine blk_put (cs := #[.int .u32 0, .int .i64 0, .int .i64 0, .slice none 0 0]) ?_ 0 _ rfl; (with_reducible repeat (first | refine blk_drewN ?_ _ | refine blk_drew ?_ | refine blk_alloc ?_ _)); exact BK365.out⟩, ⟨by repeat (first | (with_reducible first | exact HB.out | apply below_alloc | apply pw_below_drewN | apply below_drew1 | refine below_set ?_ GE365.out) | exact HB.out)⟩⟩
   case round =>
    clear H'
    try clear c1
    try clear p2
    try clear c3
    try clear p3
    try clear q3
    try clear hx3
    try clear c4
    try clear c4b0
    try clear c5
    try clear c7
    try clear c8
    try clear c9
    try clear c9b0
    try clear c9b1
    try clear c12
    try clear c12b0
    try clear c13
    try clear c13b0
    try clear c14
    try clear c14b0
    try clear hcz17_0
    try clear hcz17_1
    try clear hcz17_2
    try clear hcz17_3
    try clear hfz17_0
    try clear hfz17_1
    try clear hfz17_2
    try clear hfz17_3
    try clear hx364_0
    try clear hx364_1
    try clear hx364_2
    try clear hx364_3
    try clear p2
    try clear p364
    try clear q364
    obtain ⟨x10_3, rfl, HA, HK3, HO_4, HO_7, BK365, HB⟩ := hrel
    cases gk with
    | zero => exact absurd HA.out (by simp [pick_Pick.l1])
    | succ k3 => ?_
    have H := HA.out
    clear HA
    simp only [pick_Pick.l1] at H
    by_cases c19 : x10_3 > 0
    rotate_left
    · rw [if_neg c19] at H
      have c19b0 : decide (0 < x10_3) = false := decide_eq_false c19
      clear c19
      (first | rw [c19b0] | (simp only [i64_w, i32_w]; rw [c19b0]) | skip)
      have H' := Aside0.mk H
      clear H
      exact pick_Pick.calls.z1
    rw [if_pos c19] at H
    have c19b0 : decide (0 < x10_3) = true := decide_eq_true c19
    clear c19
    (first | rw [c19b0] | (simp only [i64_w, i32_w]; rw [c19b0]) | skip)
    obtain ⟨ji20, hji20⟩ : ∃ j_ : Int, (wrap64 (x10_3 - 1)) = j_ := ⟨_, rfl⟩
    replace H : (if 0 ≤ (ji20) then (if (ji20) < (x7_2.length : Int) then (if 0 ≤ (rd x7_2 (ji20)) then (if (rd x7_2 (ji20)) < (l0.length : Int) then (if ((rd_T66 l0 (rd x7_2 (ji20))).f2) > ((rd_T66 l0 x31_2).f2) then (pick_Pick.l1 k3 l0 a1 ([] : List (S66)) x5_2 x7_2 x31_2 ji20 l0 (l0.length : Int) x31_2 ((rd_T66 l0 x31_2).f0) ((rd_T66 l0 x31_2).f1) ((rd_T66 l0 x31_2).f2) ((rd_T66 l0 x31_2).f3)) else (pick_Pick.j3 k3 l0 a1 ([] : List (S66)) x5_2 x7_2 x31_2 x10_3 l0 (l0.length : Int) x31_2)) else (none)) else (none)) else (none)) else (none)) = some (r1, r2, r3) := by first | (rw [hji20] at H; exact H) | (simp only [hji20] at H ⊢; exact H)
    have hji20w : (IntKind.i64.wrap (x10_3 - 1)) = ji20 := (i64_w _).trans hji20
    by_cases c21 : 0 ≤ (ji20)
    rotate_left
    · rw [if_neg c21] at H
      exact absurd H (by simp)
    rw [if_pos c21] at H
    have c21b0 : decide (0 ≤ (ji20)) = true := decide_eq_true c21
    clear c21
    by_cases c22 : (ji20) < (x7_2.length : Int)
    rotate_left
    · rw [if_neg c22] at H
      exact absurd H (by simp)
    rw [if_pos c22] at H
    have c22b0 : decide ((ji20) < (x7_2.length : Int)) = true := decide_eq_true c22
    clear c22
    by_cases c23 : 0 ≤ (rd x7_2 (ji20))
    rotate_left
    · rw [if_neg c23] at H
      exact absurd H (by simp)
    rw [if_pos c23] at H
    have c23b0 : decide (0 ≤ (rd x7_2 (ji20))) = true := decide_eq_true c23
    clear c23
    by_cases c24 : (rd x7_2 (ji20)) < (l0.length : Int)
    rotate_left
    · rw [if_neg c24] at H
      exact absurd H (by simp)
    rw [if_pos c24] at H
    have c24b0 : decide ((rd x7_2 (ji20)) < (l0.length : Int)) = true := decide_eq_true c24
    clear c24
    by_cases c25 : ((rd_T66 l0 (rd x7_2 (ji20))).f2) > ((rd_T66 l0 x31_2).f2)
    rotate_left
    · rw [if_neg c25] at H
      have c25b0 : decide (((rd_T66 l0 x31_2).f2) < ((rd_T66 l0 (rd x7_2 (ji20))).f2)) = false := decide_eq_false c25
      clear c25
      have H' := Aside0.mk H
      clear H
      have p366 : 0 ≤ ((ji20) : Int) := of_decide_eq_true (by first | (with_reducible assumption) | assumption)
      have q366 : (ji20) < (x7_2.length : Int) := of_decide_eq_true (by first | (with_reducible assumption) | assumption)
      obtain ⟨ad366, e366, hx366_0⟩ := Kd.at_int (Kd.R_reads' HO_7.out).2.2 (ji20) p366 q366
      cases e366
      replace p366 := eq_true p366
      replace q366 := eq_true q366
      have p367 : 0 ≤ ((rd x7_2 (ji20)) : Int) := of_decide_eq_true (by first | (with_reducible assumption) | assumption)
      have q367 : (rd x7_2 (ji20)) < (l0.length : Int) := of_decide_eq_true (by first | (with_reducible assumption) | assumption)
      obtain ⟨ad367, A367_3, c367_3, e367, hx367_0, hx367_1, hx367_2, hx367_3, hl367_3, hi367_3⟩ := at_T66 HR0.out (rd x7_2 (ji20)) p367 q367
      obtain rfl : ad364 = ad367 := (by injection e367)
      replace hx367_0 := (HB.out.cell (World.block_lt_of_cell? w _ hx367_0)).trans hx367_0
      replace hx367_1 := (HB.out.cell (World.block_lt_of_cell? w _ hx367_1)).trans hx367_1
      replace hx367_2 := (HB.out.cell (World.block_lt_of_cell? w _ hx367_2)).trans hx367_2
      replace hx367_3 := (HB.out.cell (World.block_lt_of_cell? w _ hx367_3)).trans hx367_3
      have HR367_3 := Aside0.mk hi367_3
      have HC367_3 := Aside0.mk hl367_3
      clear hi367_3 hl367_3
      replace p367 := eq_true p367
      replace q367 := eq_true q367
      obtain ⟨hcz27_0, hcz27_1, hcz27_2, hcz27_3⟩ := zC4 BK365
      obtain ⟨hfz27_0, hfz27_1, hfz27_2, hfz27_3⟩ := zF4 BK365
      exact pick_Pick.calls.z1
    rw [if_pos c25] at H
    have c25b0 : decide (((rd_T66 l0 x31_2).f2) < ((rd_T66 l0 (rd x7_2 (ji20))).f2)) = true := decide_eq_true c25
    clear c25
    have H' := Aside0.mk H
    clear H
    have p366 : 0 ≤ ((ji20) : Int) := of_decide_eq_true (by first | (with_reducible assumption) | assumption)
    have q366 : (ji20) < (x7_2.length : Int) := of_decide_eq_true (by first | (with_reducible assumption) | assumption)
    obtain ⟨ad366, e366, hx366_0⟩ := Kd.at_int (Kd.R_reads' HO_7.out).2.2 (ji20) p366 q366
    cases e366
    replace p366 := eq_true p366
    replace q366 := eq_true q366
    have p367 : 0 ≤ ((rd x7_2 (ji20)) : Int) := of_decide_eq_true (by first | (with_reducible assumption) | assumption)
    have q367 : (rd x7_2 (ji20)) < (l0.length : Int) := of_decide_eq_true (by first | (with_reducible assumption) | assumption)
    obtain ⟨ad367, A367_3, c367_3, e367, hx367_0, hx367_1, hx367_2, hx367_3, hl367_3, hi367_3⟩ := at_T66 HR0.out (rd x7_2 (ji20)) p367 q367
    obtain rfl : ad364 = ad367 := (by injection e367)
    replace hx367_0 := (HB.out.cell (World.block_lt_of_cell? w _ hx367_0)).trans hx367_0
    replace hx367_1 := (HB.out.cell (World.block_lt_of_cell? w _ hx367_1)).trans hx367_1
    replace hx367_2 := (HB.out.cell (World.block_lt_of_cell? w _ hx367_2)).trans hx367_2
    replace hx367_3 := (HB.out.cell (World.block_lt_of_cell? w _ hx367_3)).trans hx367_3
    have HR367_3 := Aside0.mk hi367_3
    have HC367_3 := Aside0.mk hl367_3
    clear hi367_3 hl367_3
    replace p367 := eq_true p367
    replace q367 := eq_true q367
    obtain ⟨hcz26_0, hcz26_1, hcz26_2, hcz26_3⟩ := zC4 BK365
    obtain ⟨hfz26_0, hfz26_1, hfz26_2, hfz26_3⟩ := zF4 BK365
    go_wp2
    repeat (go_quiet (fail); try go_wp2)
    go_roundg k3
    case measure => have := HJ2.out; have := HK2.out; have := HK3.out; omega
    case rel => exact ⟨(ji20), (by first | rfl | (simp; done) | (simp only [← hji20] <;> (first | rfl | simp)) | (simp [*]; done)), H', ⟨by have := HJ2.out; have := HK2.out; have := HK3.out; omega⟩, ⟨by (with_reducible repeat (first | apply Kd.S_alloc | apply Kd.S_drewN | apply Kd.S_drew)); exact HO_4.out⟩, ⟨by (with_reducible repeat (first | apply Kd.R_alloc | apply Kd.R_drewN | apply Kd.R_drew)); exact HO_7.out⟩, ⟨by (with_reducible repeat (first | refine blk_drewN ?_ _ | refine blk_drew ?_ | refine blk_alloc ?_ _)); exact BK365.out⟩, ⟨by repeat (first | (with_reducible first | exact HB.out | apply below_alloc | apply pw_below_drewN | apply below_drew1 | refine below_set ?_ GE365.out) | exact HB.out)⟩⟩
  clear HC15
  try clear c1
  try clear c2
  try clear p2
  try clear c3
  try clear p3
  try clear q3
  try clear hx3
  try clear c4
  try clear c4b0
  try clear c5
  try clear p6
  try clear c7
  try clear c8
  try clear c9
  try clear c9b0
  try clear c9b1
  try clear c12
  try clear c12b0
  try clear c13
  try clear c13b0
  try clear c14
  try clear c14b0
  try clear c19
  try clear c19b0
  try clear c21
  try clear c21b0
  try clear c22
  try clear c22b0
  try clear c23
  try clear c23b0
  try clear c24
  try clear c24b0
  try clear c25
  try clear c25b0
  try clear hcz17_0
  try clear hcz17_1
  try clear hcz17_2
  try clear hcz17_3
  try clear hcz26_0
  try clear hcz26_1
  try clear hcz26_2
  try clear hcz26_3
  try clear hcz27_0
  try clear hcz27_1
  try clear hcz27_2
  try clear hcz27_3
  try clear hfz17_0
  try clear hfz17_1
  try clear hfz17_2
  try clear hfz17_3
  try clear hfz26_0
  try clear hfz26_1
  try clear hfz26_2
  try clear hfz26_3
  try clear hfz27_0
  try clear hfz27_1
  try clear hfz27_2
  try clear hfz27_3
  try clear hx364_0
  try clear hx364_1
  try clear hx364_2
  try clear hx364_3
  try clear hx366_0
  try clear hx367_0
  try clear hx367_1
  try clear hx367_2
  try clear hx367_3
  try clear p2
  try clear p3
  try clear p364
  try clear p366
  try clear p367
  try clear q3
  try clear q364
  try clear q366
  try clear q367
  obtain ⟨kq, x10_14, rfl, HA, HJ14, HO_4, HO_7, BK365, HB⟩ := hcut
  cases kq with
  | zero => exact absurd HA.out (by simp [pick_Pick.j3])
  | succ kj14 => ?_
  have H := HA.out
  clear HA
  simp only [pick_Pick.j3] at H
  obtain ⟨y368, hy368⟩ : ∃ y_ : List Int, y_ = (([x31_2] : List Int)) := ⟨_, rfl⟩
  replace H : ((Insert_ints.f x7_2 x10_14 y368).bind fun t371 => (if (t371.length : Int) ≤ a1 then (pick_Pick.l0 kj14 l0 a1 ([] : List (S66)) x5_2 t371 l0 (l0.length : Int) (wrap64 (x31_2 + 1))) else (if 0 ≤ a1 then (if a1 < (t371.length : Int) then (if 0 ≤ (rd t371 a1) then (if (rd t371 a1) < (l0.length : Int) then (if a1 ≤ (t371.length : Int) then ((some (t371.take (a1 : Int).toNat : List Int)).bind fun y376 => (if x5_2 < 0 then (pick_Pick.l0 kj14 l0 a1 ([] : List (S66)) ((rd_T66 l0 (rd t371 a1)).f2) y376 l0 (l0.length : Int) (wrap64 (x31_2 + 1))) else (if ((rd_T66 l0 (rd t371 a1)).f2) < x5_2 then (pick_Pick.l0 kj14 l0 a1 ([] : List (S66)) ((rd_T66 l0 (rd t371 a1)).f2) y376 l0 (l0.length : Int) (wrap64 (x31_2 + 1))) else (pick_Pick.l0 kj14 l0 a1 ([] : List (S66)) x5_2 y376 l0 (l0.length : Int) (wrap64 (x31_2 + 1)))))) else (none)) else (none)) else (none)) else (none)) else (none)))) = some (r1, r2, r3) := by first | (rw [hy368]; with_reducible exact H) | (have H2_ := (Option.bind_some _ _).symm.trans H; rw [hy368]; with_reducible exact H2_) | (have H2_ := (Option.bind_some _ _).symm.trans H; with_reducible exact H2_) | with_reducible exact H | (rw [hy368]; exact H) | exact H
  have Ny368 := Aside0.mk hy368
  clear hy368
  replace H := Option.bind_eq_some_iff.mp H
  obtain ⟨t371, A280, H⟩ := H
  replace H : (if (t371.length : Int) ≤ a1 then (pick_Pick.l0 kj14 l0 a1 ([] : List (S66)) x5_2 t371 l0 (l0.length : Int) (wrap64 (x31_2 + 1))) else (if 0 ≤ a1 then (if a1 < (t371.length : Int) then (if 0 ≤ (rd t371 a1) then (if (rd t371 a1) < (l0.length : Int) then (if a1 ≤ (t371.length : Int) then ((some (t371.take (a1 : Int).toNat : List Int)).bind fun y376 => (if x5_2 < 0 then (pick_Pick.l0 kj14 l0 a1 ([] : List (S66)) ((rd_T66 l0 (rd t371 a1)).f2) y376 l0 (l0.length : Int) (wrap64 (x31_2 + 1))) else (if ((rd_T66 l0 (rd t371 a1)).f2) < x5_2 then (pick_Pick.l0 kj14 l0 a1 ([] : List (S66)) ((rd_T66 l0 (rd t371 a1)).f2) y376 l0 (l0.length : Int) (wrap64 (x31_2 + 1))) else (pick_Pick.l0 kj14 l0 a1 ([] : List (S66)) x5_2 y376 l0 (l0.length : Int) (wrap64 (x31_2 + 1)))))) else (none)) else (none)) else (none)) else (none)) else (none))) = some (r1, r2, r3) := H
  have A28 := Aside0.mk A280
  clear A280
  by_cases c29 : (t371.length : Int) ≤ a1
  · rw [if_pos c29] at H
    have c29b0 : decide ((t371.length : Int) ≤ a1) = true := decide_eq_true c29
    clear c29
    have H' := Aside0.mk H
    clear H
    go_wp2_with (first | ((with_reducible refine gate_dst (N := 59) rfl ?_); refine Kd.R_lit (Kd.int .i64) _ 3 ?hg (N := 59) ?hd (xs := ([x31_2] : List Int)) (inner := [.int .i64 x31_2]) (ok := fun _ => True) (okp := fun _ => True) ?hr ?hp (fun _ hk => hk) trivial (Below.refl _ _) (Nat.le_refl _) (by simp) ?_; (case hd => rfl); (case hg => rfl); (case hr => first | (go_simp; done) | (go_simp; rfl)); (case hp => exact (Reps.one (show Kd.M (Kd.int .i64) _ _ _ x31_2 [.int .i64 x31_2] from rfl) (Reps.none _ _))); intro v369 w30 ho31 hb hg_ hnew_; clear hg_ hnew_; (first | rw [← Ny368.out] at ho31 | (simp only [Int.reduceToNat] at ho31; rw [← Ny368.out] at ho31)); have n0_ := Aside0.mk (Kd.S_elder' (by (with_reducible repeat (first | apply Kd.S_alloc | apply Kd.S_drewN | apply Kd.S_drew)); exact HO_4.out) (Kd.R_base ho31) hb); have n1_ := Aside0.mk (Kd.R_elder' (zr_ HO_7) (Kd.R_base ho31) hb); have n2_ := Aside0.mk (Kd.R_lower (Kd.R_new' ho31 (Kd.R_lt (zr_ HO_7))) (below_size (zB HB))); have n3_ := zb BK365 hb; have n4_ := zs HB hb; clear HO_4; clear HO_7; clear BK365; clear HB; have HO_4 := n0_; have HO_7 := n1_; have HO370 := n2_; have BK365 := n3_; have HB := n4_; clear n0_ n1_ n2_ n3_ n4_; clear hb ho31; obtain ⟨Ao32, co32, eo32⟩ := Kd.R_slice HO370.out; subst eo32) | (go_at_call 126; (with_reducible refine (Insert_ints.calls (fun k_ => some k_ = (.slice Ao18 x7_2.length co18 : Value).ownBlock) (.slice Ao18 x7_2.length co18) x7_2 x10_14 (fun k_ => some k_ = (.slice Ao32 y368.length co32 : Value).ownBlock) (.slice Ao32 y368.length co32) y368 t371 w _ ?side1 ?side2 ?side3 ?side4 ?side5 A28.out).mono ?_); (case side1 => repeat (first | (with_reducible first | exact HB.out | apply below_alloc | apply pw_below_drewN | apply below_drew1 | refine below_set ?_ GE365.out) | exact HB.out)); (case side2 => exact Kd.R_tight rfl HO_7.out); (case side3 => exact fun k_ e_ => (HO_7.out.1 k_ e_.symm).2); (case side4 => exact Kd.R_tight rfl HO370.out); (case side5 => exact fun k_ e_ => (HO370.out.1 k_ e_.symm).2); rintro e w33 ⟨v372, rfl, ho0, hb, hkp⟩; have n0_ := Aside0.mk (Kd.S_mono (ok' := fun k_ => k_ ≠ gb365 ∧ some k_ ≠ (v372 : Value).ownBlock) (Kd.S_keptB (HO_4.out) hkp (fun k_ hk_ hs_ => Or.elim hs_ (fun e_ => (hk_.1.1) e_) (fun e_ => (hk_.2) e_))) (fun k_ hk_ => ⟨hk_.1.1.2, fun e_ => Or.elim (ho0.1 k_ e_.symm) (fun hs_ => hk_.2.1 hs_) (fun hn_ => Nat.not_le.2 hk_.2.2 hn_)⟩)); have n1_ := Aside0.mk (blk_kept (zk BK365) hkp (fun hs_ => Or.elim hs_ (fun e_ => (fun e_ => (Kd.R_ne HO_7.out BK365.out (by decide)) e_) e_) (fun e_ => (fun e_ => (Kd.R_ne HO370.out BK365.out (by decide)) e_) e_))); have n2_ := Aside0.mk (Kd.R_mono (ok' := fun k_ => True) ho0 (fun k_ hk_ => trivial)); have n3_ := Aside0.mk (hb); clear HO_4; clear BK365; clear HB; clear HO370; clear HO_7; have HO_4 := n0_; have BK365 := n1_; have HO373 := n2_; have HB := n3_; clear n0_ n1_ n2_ n3_; (try clear hb); (try clear hkp); (try clear ho0); obtain ⟨Ao34, co34, eo34⟩ := Kd.R_slice HO373.out; subst eo34))
    repeat (go_quiet (first | ((with_reducible refine gate_dst (N := 59) rfl ?_); refine Kd.R_lit (Kd.int .i64) _ 3 ?hg (N := 59) ?hd (xs := ([x31_2] : List Int)) (inner := [.int .i64 x31_2]) (ok := fun _ => True) (okp := fun _ => True) ?hr ?hp (fun _ hk => hk) trivial (Below.refl _ _) (Nat.le_refl _) (by simp) ?_; (case hd => rfl); (case hg => rfl); (case hr => first | (go_simp; done) | (go_simp; rfl)); (case hp => exact (Reps.one (show Kd.M (Kd.int .i64) _ _ _ x31_2 [.int .i64 x31_2] from rfl) (Reps.none _ _))); intro v369 w30 ho31 hb hg_ hnew_; clear hg_ hnew_; (first | rw [← Ny368.out] at ho31 | (simp only [Int.reduceToNat] at ho31; rw [← Ny368.out] at ho31)); have n0_ := Aside0.mk (Kd.S_elder' (by (with_reducible repeat (first | apply Kd.S_alloc | apply Kd.S_drewN | apply Kd.S_drew)); exact HO_4.out) (Kd.R_base ho31) hb); have n1_ := Aside0.mk (Kd.R_elder' (zr_ HO_7) (Kd.R_base ho31) hb); have n2_ := Aside0.mk (Kd.R_lower (Kd.R_new' ho31 (Kd.R_lt (zr_ HO_7))) (below_size (zB HB))); have n3_ := zb BK365 hb; have n4_ := zs HB hb; clear HO_4; clear HO_7; clear BK365; clear HB; have HO_4 := n0_; have HO_7 := n1_; have HO370 := n2_; have BK365 := n3_; have HB := n4_; clear n0_ n1_ n2_ n3_ n4_; clear hb ho31; obtain ⟨Ao32, co32, eo32⟩ := Kd.R_slice HO370.out; subst eo32) | (go_at_call 126; (with_reducible refine (Insert_ints.calls (fun k_ => some k_ = (.slice Ao18 x7_2.length co18 : Value).ownBlock) (.slice Ao18 x7_2.length co18) x7_2 x10_14 (fun k_ => some k_ = (.slice Ao32 y368.length co32 : Value).ownBlock) (.slice Ao32 y368.length co32) y368 t371 w _ ?side1 ?side2 ?side3 ?side4 ?side5 A28.out).mono ?_); (case side1 => repeat (first | (with_reducible first | exact HB.out | apply below_alloc | apply pw_below_drewN | apply below_drew1 | refine below_set ?_ GE365.out) | exact HB.out)); (case side2 => exact Kd.R_tight rfl HO_7.out); (case side3 => exact fun k_ e_ => (HO_7.out.1 k_ e_.symm).2); (case side4 => exact Kd.R_tight rfl HO370.out); (case side5 => exact fun k_ e_ => (HO370.out.1 k_ e_.symm).2); rintro e w33 ⟨v372, rfl, ho0, hb, hkp⟩; have n0_ := Aside0.mk (Kd.S_mono (ok' := fun k_ => k_ ≠ gb365 ∧ some k_ ≠ (v372 : Value).ownBlock) (Kd.S_keptB (HO_4.out) hkp (fun k_ hk_ hs_ => Or.elim hs_ (fun e_ => (hk_.1.1) e_) (fun e_ => (hk_.2) e_))) (fun k_ hk_ => ⟨hk_.1.1.2, fun e_ => Or.elim (ho0.1 k_ e_.symm) (fun hs_ => hk_.2.1 hs_) (fun hn_ => Nat.not_le.2 hk_.2.2 hn_)⟩)); have n1_ := Aside0.mk (blk_kept (zk BK365) hkp (fun hs_ => Or.elim hs_ (fun e_ => (fun e_ => (Kd.R_ne HO_7.out BK365.out (by decide)) e_) e_) (fun e_ => (fun e_ => (Kd.R_ne HO370.out BK365.out (by decide)) e_) e_))); have n2_ := Aside0.mk (Kd.R_mono (ok' := fun k_ => True) ho0 (fun k_ hk_ => trivial)); have n3_ := Aside0.mk (hb); clear HO_4; clear BK365; clear HB; clear HO370; clear HO_7; have HO_4 := n0_; have BK365 := n1_; have HO373 := n2_; have HB := n3_; clear n0_ n1_ n2_ n3_; (try clear hb); (try clear hkp); (try clear ho0); obtain ⟨Ao34, co34, eo34⟩ := Kd.R_slice HO373.out; subst eo34)); try go_wp2_with (first | ((with_reducible refine gate_dst (N := 59) rfl ?_); refine Kd.R_lit (Kd.int .i64) _ 3 ?hg (N := 59) ?hd (xs := ([x31_2] : List Int)) (inner := [.int .i64 x31_2]) (ok := fun _ => True) (okp := fun _ => True) ?hr ?hp (fun _ hk => hk) trivial (Below.refl _ _) (Nat.le_refl _) (by simp) ?_; (case hd => rfl); (case hg => rfl); (case hr => first | (go_simp; done) | (go_simp; rfl)); (case hp => exact (Reps.one (show Kd.M (Kd.int .i64) _ _ _ x31_2 [.int .i64 x31_2] from rfl) (Reps.none _ _))); intro v369 w30 ho31 hb hg_ hnew_; clear hg_ hnew_; (first | rw [← Ny368.out] at ho31 | (simp only [Int.reduceToNat] at ho31; rw [← Ny368.out] at ho31)); have n0_ := Aside0.mk (Kd.S_elder' (by (with_reducible repeat (first | apply Kd.S_alloc | apply Kd.S_drewN | apply Kd.S_drew)); exact HO_4.out) (Kd.R_base ho31) hb); have n1_ := Aside0.mk (Kd.R_elder' (zr_ HO_7) (Kd.R_base ho31) hb); have n2_ := Aside0.mk (Kd.R_lower (Kd.R_new' ho31 (Kd.R_lt (zr_ HO_7))) (below_size (zB HB))); have n3_ := zb BK365 hb; have n4_ := zs HB hb; clear HO_4; clear HO_7; clear BK365; clear HB; have HO_4 := n0_; have HO_7 := n1_; have HO370 := n2_; have BK365 := n3_; have HB := n4_; clear n0_ n1_ n2_ n3_ n4_; clear hb ho31; obtain ⟨Ao32, co32, eo32⟩ := Kd.R_slice HO370.out; subst eo32) | (go_at_call 126; (with_reducible refine (Insert_ints.calls (fun k_ => some k_ = (.slice Ao18 x7_2.length co18 : Value).ownBlock) (.slice Ao18 x7_2.length co18) x7_2 x10_14 (fun k_ => some k_ = (.slice Ao32 y368.length co32 : Value).ownBlock) (.slice Ao32 y368.length co32) y368 t371 w _ ?side1 ?side2 ?side3 ?side4 ?side5 A28.out).mono ?_); (case side1 => repeat (first | (with_reducible first | exact HB.out | apply below_alloc | apply pw_below_drewN | apply below_drew1 | refine below_set ?_ GE365.out) | exact HB.out)); (case side2 => exact Kd.R_tight rfl HO_7.out); (case side3 => exact fun k_ e_ => (HO_7.out.1 k_ e_.symm).2); (case side4 => exact Kd.R_tight rfl HO370.out); (case side5 => exact fun k_ e_ => (HO370.out.1 k_ e_.symm).2); rintro e w33 ⟨v372, rfl, ho0, hb, hkp⟩; have n0_ := Aside0.mk (Kd.S_mono (ok' := fun k_ => k_ ≠ gb365 ∧ some k_ ≠ (v372 : Value).ownBlock) (Kd.S_keptB (HO_4.out) hkp (fun k_ hk_ hs_ => Or.elim hs_ (fun e_ => (hk_.1.1) e_) (fun e_ => (hk_.2) e_))) (fun k_ hk_ => ⟨hk_.1.1.2, fun e_ => Or.elim (ho0.1 k_ e_.symm) (fun hs_ => hk_.2.1 hs_) (fun hn_ => Nat.not_le.2 hk_.2.2 hn_)⟩)); have n1_ := Aside0.mk (blk_kept (zk BK365) hkp (fun hs_ => Or.elim hs_ (fun e_ => (fun e_ => (Kd.R_ne HO_7.out BK365.out (by decide)) e_) e_) (fun e_ => (fun e_ => (Kd.R_ne HO370.out BK365.out (by decide)) e_) e_))); have n2_ := Aside0.mk (Kd.R_mono (ok' := fun k_ => True) ho0 (fun k_ hk_ => trivial)); have n3_ := Aside0.mk (hb); clear HO_4; clear BK365; clear HB; clear HO370; clear HO_7; have HO_4 := n0_; have BK365 := n1_; have HO373 := n2_; have HB := n3_; clear n0_ n1_ n2_ n3_; (try clear hb); (try clear hkp); (try clear ho0); obtain ⟨Ao34, co34, eo34⟩ := Kd.R_slice HO373.out; subst eo34)))
    go_roundg kj14
    case measure => have := HJ2.out; have := HK2.out; have := HJ14.out; omega
    case rel => exact ⟨(x5_2), (t371), (wrap64 (x31_2 + 1)), (by first | rfl | (simp; done) | (simp [*]; done)), (by first | rfl | (simp; done) | (simp [*]; done)), H', ⟨by have := HJ2.out; have := HK2.out; have := HJ14.out; omega⟩, ⟨by (with_reducible repeat (first | apply Kd.S_alloc | apply Kd.S_drewN | apply Kd.S_drew)); exact Kd.S_mono HO_4.out (fun _ hk => hk.2)⟩, ⟨by (with_reducible repeat (first | apply Kd.R_alloc | apply Kd.R_drewN | apply Kd.R_drew)); exact HO373.out⟩, ⟨by repeat (first | (with_reducible first | exact HB.out | apply below_alloc | apply pw_below_drewN | apply below_drew1 | refine below_set ?_ GE365.out) | exact HB.out)⟩⟩
  rw [if_neg c29] at H
  have c29b0 : decide ((t371.length : Int) ≤ a1) = false := decide_eq_false c29
  clear c29
  by_cases c35 : 0 ≤ a1
  rotate_left
  · rw [if_neg c35] at H
    exact absurd H (by simp)
  rw [if_pos c35] at H
  have c35b0 : decide (0 ≤ a1) = true := decide_eq_true c35
  clear c35
  by_cases c36 : a1 < (t371.length : Int)
  rotate_left
  · rw [if_neg c36] at H
    exact absurd H (by simp)
  rw [if_pos c36] at H
  have c36b0 : decide (a1 < (t371.length : Int)) = true := decide_eq_true c36
  clear c36
  by_cases c37 : 0 ≤ (rd t371 a1)
  rotate_left
  · rw [if_neg c37] at H
    exact absurd H (by simp)
  rw [if_pos c37] at H
  have c37b0 : decide (0 ≤ (rd t371 a1)) = true := decide_eq_true c37
  clear c37
  by_cases c38 : (rd t371 a1) < (l0.length : Int)
  rotate_left
  · rw [if_neg c38] at H
    exact absurd H (by simp)
  rw [if_pos c38] at H
  have c38b0 : decide ((rd t371 a1) < (l0.length : Int)) = true := decide_eq_true c38
  clear c38
  by_cases c39 : a1 ≤ (t371.length : Int)
  rotate_left
  · rw [if_neg c39] at H
    exact absurd H (by simp)
  rw [if_pos c39] at H
  have c39b0 := eq_true c39
  have c39b1 : decide (a1 ≤ (t371.length : Int)) = true := decide_eq_true c39
  clear c39
  obtain ⟨y376, hy376⟩ : ∃ y_ : List Int, y_ = (t371.take (a1 : Int).toNat) := ⟨_, rfl⟩
  replace H : (if x5_2 < 0 then (pick_Pick.l0 kj14 l0 a1 ([] : List (S66)) ((rd_T66 l0 (rd t371 a1)).f2) y376 l0 (l0.length : Int) (wrap64 (x31_2 + 1))) else (if ((rd_T66 l0 (rd t371 a1)).f2) < x5_2 then (pick_Pick.l0 kj14 l0 a1 ([] : List (S66)) ((rd_T66 l0 (rd t371 a1)).f2) y376 l0 (l0.length : Int) (wrap64 (x31_2 + 1))) else (pick_Pick.l0 kj14 l0 a1 ([] : List (S66)) x5_2 y376 l0 (l0.length : Int) (wrap64 (x31_2 + 1))))) = some (r1, r2, r3) := by first | (rw [hy376]; with_reducible exact H) | (have H2_ := (Option.bind_some _ _).symm.trans H; rw [hy376]; with_reducible exact H2_) | (have H2_ := (Option.bind_some _ _).symm.trans H; with_reducible exact H2_) | with_reducible exact H | (rw [hy376]; exact H) | exact H
  have Ny376 := Aside0.mk hy376
  clear hy376
  by_cases c40 : x5_2 < 0
  · rw [if_pos c40] at H
    have c40b0 : decide (x5_2 < 0) = true := decide_eq_true c40
    clear c40
    have H' := Aside0.mk H
    clear H
    exact pick_Pick.calls.z3
  rw [if_neg c40] at H
  have c40b0 : decide (x5_2 < 0) = false := decide_eq_false c40
  clear c40
  by_cases c47 : ((rd_T66 l0 (rd t371 a1)).f2) < x5_2
  · rw [if_pos c47] at H
    have c47b0 : decide (((rd_T66 l0 (rd t371 a1)).f2) < x5_2) = true := decide_eq_true c47
    clear c47
    have H' := Aside0.mk H
    clear H
    exact pick_Pick.calls.z3
  rw [if_neg c47] at H
  have c47b0 : decide (((rd_T66 l0 (rd t371 a1)).f2) < x5_2) = false := decide_eq_false c47
  clear c47
  have H' := Aside0.mk H
  clear H
  exact pick_Pick.calls.z3
end Go.Proofs.Ytlolfijadcflaaa.P
