/- What the law's proof needs: PxVolutelaw12. -/
import Derived.Test.YtlolfijadcflaaaBfPx0
import Derived.Test.YtlolfijadcflaaaBfPxCode
import Derived.Test.YtlolfijadcflaaaBfPxPile
import Derived.Test.YtlolfijadcflaaaBfPxBeam
import Derived.Test.YtlolfijadcflaaaBfPxVolutekeep
namespace Go.Proofs.Ytlolfijadcflaaa.P
open Go.RowKit Go.Proofs.YtlolfijadcflaaaW.PrintWords Go.Proofs.YtlolfijadcflaaaW.PrintLast Go.Proofs.YtlolfijadcflaaaW.PrintMore
attribute [local go_sem] max2_int min2_int max_two min_two max_three min_three max_four min_four   -- for this text's walks alone
set_option linter.unusedVariables false
set_option linter.unusedSimpArgs false
def volutelaw12_Light.l0 : Nat → Int → Int → Int → Option (Bool)
  | 0, _, _, _ => none
  | k + 1, x2, x7, x8 => if x8 < x2 then (if x8 < 4 then (volutelaw12_Light.l0 k x2 (wrap64 (x7 * 16)) (wrap64 (x8 + 1))) else (some (decide (x7 ≤ 300000)))) else (some (decide (x7 ≤ 300000)))
def volutelaw12_Light.f (k : Nat) (a0 : Int) (a1 : Int) (a2 : Int) : Option (Bool) := volutelaw12_Light.l0 k a2 (wrap64 ((wrap64 (a0 * a1)) * 16)) 1
set_option maxHeartbeats 8000000 in
set_option maxRecDepth 100000 in
theorem volutelaw12_Light.calls (k : Nat) (a0 : Int) (a1 : Int) (a2 : Int) (r : Bool) (w : World) (h : volutelaw12_Light.f k a0 a1 a2 = some r) :
    Calls Try.prog 25 #[.int .i64 a0, .int .i64 a1, .int .i64 a2] w fun e w' => e = .returned (.bool r) ∧ Drawn0 w w' := by
 have H : (volutelaw12_Light.l0 k a2 (wrap64 ((wrap64 (a0 * a1)) * 16)) 1) = some r := h
 clear h
 have H' := Aside0.mk H
 clear H
 go_enter Try.func25, Try.ntmps25
 go_wp2
 go_loopg [7, 8] k (fun kq v7 v8 w' => ∃ (x7_1 : Int) (x8_1 : Int), v7 = .int .i64 x7_1 ∧ v8 = .int .i64 x8_1 ∧ Aside0 (volutelaw12_Light.l0 kq a2 x7_1 x8_1 = some r) ∧ Aside0 (kq ≤ k) ∧ Drawn0 w w')
 case atStart => exact ⟨(wrap64 ((wrap64 (a0 * a1)) * 16)), (1), (by first | rfl | (simp; done) | (simp [*]; done)), (by first | rfl | (simp; done) | (simp [*]; done)), H', ⟨Nat.le_refl _⟩, by repeat (first | exact Drawn0.refl _ | apply Drawn0.step)⟩
 case round =>
  clear H'
  obtain ⟨x7_1, x8_1, rfl, rfl, HA, HKq0, ⟨mq0, rfl⟩⟩ := hrel
  cases gk with
  | zero => exact absurd HA.out (by simp [volutelaw12_Light.l0])
  | succ k1 => ?_
  have H := HA.out
  clear HA
  simp only [volutelaw12_Light.l0] at H
  by_cases cq0 : x8_1 < a2
  rotate_left
  · rw [if_neg cq0] at H
    have c4b0 : decide (x8_1 < a2) = false := decide_eq_false cq0
    clear cq0
    obtain rfl := Option.some.inj H
    go_wp2
    go_ret
    exact ⟨by first | rfl | (simp; done) | (simp [*]; done), by repeat (first | exact Drawn0.refl _ | apply Drawn0.step)⟩
  rw [if_pos cq0] at H
  have c4b0 : decide (x8_1 < a2) = true := decide_eq_true cq0
  clear cq0
  by_cases cq1 : x8_1 < 4
  · rw [if_pos cq1] at H
    have c5b0 : decide (x8_1 < 4) = true := decide_eq_true cq1
    clear cq1
    have H' := Aside0.mk H
    clear H
    go_wp2
    go_roundg k1
    case measure => have := HKq0.out; omega
    case rel => exact ⟨(wrap64 (x7_1 * 16)), (wrap64 (x8_1 + 1)), (by first | rfl | (simp; done) | (simp [*]; done)), (by first | rfl | (simp; done) | (simp [*]; done)), H', ⟨by have := HKq0.out; omega⟩, by repeat (first | exact Drawn0.refl _ | apply Drawn0.step)⟩
  rw [if_neg cq1] at H
  have c5b0 : decide (x8_1 < 4) = false := decide_eq_false cq1
  clear cq1
  obtain rfl := Option.some.inj H
  go_wp2
  go_ret
  exact ⟨by first | rfl | (simp; done) | (simp [*]; done), by repeat (first | exact Drawn0.refl _ | apply Drawn0.step)⟩
mutual
def volutelaw12_Heard.j0 : Nat → List Bool → List Int → Int → List Int → Bool → Int → Int → List (S132) → Option (Int × Int × (List (S132)) × Bool)
  | 0, _, _, _, _, _, _, _, _ => none
  | k + 1, x3, x4, x12, x15, x48, x435000, x435001, x435002 => if x48 = true then (some (0, 0, ([] : List (S132)), false)) else (volutelaw12_Heard.l0 k x3 x4 x12 x15 0 x435000 x435001 x435002)
def volutelaw12_Heard.l0 : Nat → List Bool → List Int → Int → List Int → Int → Int → Int → List (S132) → Option (Int × Int × (List (S132)) × Bool)
  | 0, _, _, _, _, _, _, _, _ => none
  | k + 1, x3, x4, x12, x15, x17, x435000, x435001, x435002 => if x17 < (x15.length : Int) then (if x17 < (x3.length : Int) then (if 0 ≤ x17 then (volutelaw12_Heard.j2 k x3 x4 x12 x15 x17 (rdOf false x3 x17) x435000 x435001 x435002) else (none)) else (volutelaw12_Heard.j2 k x3 x4 x12 x15 x17 false x435000 x435001 x435002)) else (some (x435000, x435001, x435002, (x435000 == x12)))
def volutelaw12_Heard.j2 : Nat → List Bool → List Int → Int → List Int → Int → Bool → Int → Int → List (S132) → Option (Int × Int × (List (S132)) × Bool)
  | 0, _, _, _, _, _, _, _, _, _ => none
  | k + 1, x3, x4, x12, x15, x17, x65, x435000, x435001, x435002 => if x65 = true then (volutelaw12_Heard.l0 k x3 x4 x12 x15 (wrap64 (x17 + 1)) x435000 x435001 x435002) else (if 0 ≤ x17 then (if x17 < (x15.length : Int) then (if x17 < (x4.length : Int) then ((pile_Put.f k x435000 x435001 x435002 x17 (wrap64 (Go.bits .xor .u8 (rd x15 x17) (rd x4 x17)))).bind fun bt442 => (if bt442.2.2.2.2 = 0 then (volutelaw12_Heard.l0 k x3 x4 x12 x15 (wrap64 (x17 + 1)) bt442.1 bt442.2.1 bt442.2.2.1) else (some (0, 0, ([] : List (S132)), false)))) else ((pile_Put.f k x435000 x435001 x435002 x17 (wrap64 (rd x15 x17))).bind fun bt450 => (if bt450.2.2.2.2 = 0 then (volutelaw12_Heard.l0 k x3 x4 x12 x15 (wrap64 (x17 + 1)) bt450.1 bt450.2.1 bt450.2.2.1) else (some (0, 0, ([] : List (S132)), false))))) else (none)) else (none))
end
def volutelaw12_Heard.f (k : Nat) (l0 : List Int) (a1 : Int) (a2 : Int) (l3 : List Bool) (l4 : List Int) : Option (Int × Int × (List (S132)) × Bool) := (pile_New.f (wrap64 (2 * (l0.length : Int))) a1).bind fun bt428 => ((code_Encode.f k l0 0 a2).bind fun bt435 => (if bt428.2.2.2 = 0 then (if bt435.2 = 0 then (volutelaw12_Heard.j0 k l3 l4 (wrap64 (2 * (l0.length : Int))) bt435.1 ((bt435.1.length : Int) != a2) bt428.1 bt428.2.1 bt428.2.2.1) else (volutelaw12_Heard.j0 k l3 l4 (wrap64 (2 * (l0.length : Int))) bt435.1 true bt428.1 bt428.2.1 bt428.2.2.1)) else (volutelaw12_Heard.j0 k l3 l4 (wrap64 (2 * (l0.length : Int))) bt435.1 true bt428.1 bt428.2.1 bt428.2.2.1)))
set_option maxRecDepth 100000 in
theorem volutelaw12_Heard.calls.z1 {P : Prop} (h : P := by
  go_wp2
  go_meet
  first
    | case rel => exact ⟨_, (((tq4.length : Int) != a2)), (by first | rfl | (simp; done) | (simp [*]; done)), H', ⟨by first | omega | exact Nat.le_refl _⟩, ⟨by (with_reducible repeat (first | apply Kd.R_alloc | apply Kd.R_drewN | apply Kd.R_drew)); exact HOq1.out⟩, ⟨by (with_reducible repeat (first | apply Kd.R_alloc | apply Kd.R_drewN | apply Kd.R_drew)); exact HOq0.out⟩, ⟨by (with_reducible repeat (first | refine blk_drewN ?_ _ | refine blk_drew ?_ | refine blk_alloc ?_ _)); exact BK427.out⟩, ⟨by (with_reducible repeat (first | refine blk_drewN ?_ _ | refine blk_drew ?_ | refine blk_alloc ?_ _)); exact BK434.out⟩, ⟨by repeat (first | (with_reducible first | exact HB.out | apply below_alloc | apply pw_below_drewN | apply below_drew1 | refine below_set ?_ GEq0.out | refine below_set ?_ GEq1.out) | exact HB.out)⟩⟩
    | case rel => exact ⟨_, (true), (by first | rfl | (simp; done) | (simp [*]; done)), H', ⟨by first | omega | exact Nat.le_refl _⟩, ⟨by (with_reducible repeat (first | apply Kd.R_alloc | apply Kd.R_drewN | apply Kd.R_drew)); exact HOq1.out⟩, ⟨by (with_reducible repeat (first | apply Kd.R_alloc | apply Kd.R_drewN | apply Kd.R_drew)); exact HOq0.out⟩, ⟨by (with_reducible repeat (first | refine blk_drewN ?_ _ | refine blk_drew ?_ | refine blk_alloc ?_ _)); exact BK427.out⟩, ⟨by (with_reducible repeat (first | refine blk_drewN ?_ _ | refine blk_drew ?_ | refine blk_alloc ?_ _)); exact BK434.out⟩, ⟨by repeat (first | (with_reducible first | exact HB.out | apply below_alloc | apply pw_below_drewN | apply below_drew1 | refine below_set ?_ GEq0.out | refine below_set ?_ GEq1.out) | exact HB.out)⟩⟩
    | case rel => exact ⟨_, (rdOf false l3 x17_2), (by first | rfl | (simp; done) | (simp [*]; done)), H', ⟨by have := HJq0.out; have := HKq0.out; first | omega | exact Nat.le_refl _⟩, ⟨by (with_reducible repeat (first | apply Kd.R_alloc | apply Kd.R_drewN | apply Kd.R_drew)); exact HO_15.out⟩, ⟨by (with_reducible repeat (first | apply Kd.R_alloc | apply Kd.R_drewN | apply Kd.R_drew)); exact HO_435002.out⟩, ⟨by (with_reducible repeat (first | refine blk_drewN ?_ _ | refine blk_drew ?_ | refine blk_alloc ?_ _)); exact BK427.out⟩, ⟨by (with_reducible repeat (first | refine blk_drewN ?_ _ | refine blk_drew ?_ | refine blk_alloc ?_ _)); exact BK434.out⟩, ⟨by repeat (first | (with_reducible first | exact HB.out | apply below_alloc | apply pw_below_drewN | apply below_drew1 | refine below_set ?_ GEq0.out | refine below_set ?_ GEq1.out) | exact HB.out)⟩⟩
    | case rel => exact ⟨_, (false), (by first | rfl | (simp; done) | (simp [*]; done)), H', ⟨by have := HJq0.out; have := HKq0.out; first | omega | exact Nat.le_refl _⟩, ⟨by (with_reducible repeat (first | apply Kd.R_alloc | apply Kd.R_drewN | apply Kd.R_drew)); exact HO_15.out⟩, ⟨by (with_reducible repeat (first | apply Kd.R_alloc | apply Kd.R_drewN | apply Kd.R_drew)); exact HO_435002.out⟩, ⟨by (with_reducible repeat (first | refine blk_drewN ?_ _ | refine blk_drew ?_ | refine blk_alloc ?_ _)); exact BK427.out⟩, ⟨by (with_reducible repeat (first | refine blk_drewN ?_ _ | refine blk_drew ?_ | refine blk_alloc ?_ _)); exact BK434.out⟩, ⟨by repeat (first | (with_reducible first | exact HB.out | apply below_alloc | apply pw_below_drewN | apply below_drew1 | refine below_set ?_ GEq0.out | refine below_set ?_ GEq1.out) | exact HB.out)⟩⟩) : P := h
set_option maxHeartbeats 8000000 in
set_option maxRecDepth 100000 in
theorem volutelaw12_Heard.calls (k : Nat) (A0 : Option Addr) (c0 : Nat) (l0 : List Int) (a1 : Int) (a2 : Int) (A3 : Option Addr) (c3 : Nat) (l3 : List Bool) (A4 : Option Addr) (c4 : Nat) (l4 : List Int) (r1 : Int) (r2 : Int) (r3 : List (S132)) (r4 : Bool) (w : World) (hr0 : Kd.C (Kd.int .u8) w A0 l0.length l0) (hc0 : l0.length ≤ c0) (hr3 : Kd.C Kd.bool w A3 l3.length l3) (hc3 : l3.length ≤ c3) (hr4 : Kd.C (Kd.int .u8) w A4 l4.length l4) (hc4 : l4.length ≤ c4) (h : volutelaw12_Heard.f k l0 a1 a2 l3 l4 = some (r1, r2, r3, r4)) :
    Calls Try.prog 31 #[.slice A0 l0.length c0, .int .i64 a1, .int .i64 a2, .slice A3 l3.length c3, .slice A4 l4.length c4] w fun e w' => ∃ v2_ : Value, e = .returned (.tuple #[.agg #[.int .i64 r1, .int .i64 r2, v2_], .bool r4]) ∧ Kd.R k132 132 w' w.heap.size (fun _ => True) v2_ r3 ∧ Below w.heap.size w w' := by
 have huq0 := Try.underlying49
 have HRq0 := Aside0.mk hr0
 have HCq0 := Aside0.mk hc0
 clear hr0 hc0
 have HRq1 := Aside0.mk hr3
 have HCq1 := Aside0.mk hc3
 clear hr3 hc3
 have HRq2 := Aside0.mk hr4
 have HCq2 := Aside0.mk hc4
 clear hr4 hc4
 have HB := Aside0.mk (Below.refl w.heap.size w)
 have H : ((pile_New.f (wrap64 (2 * (l0.length : Int))) a1).bind fun bt428 => ((code_Encode.f k l0 0 a2).bind fun bt435 => (if bt428.2.2.2 = 0 then (if bt435.2 = 0 then (volutelaw12_Heard.j0 k l3 l4 (wrap64 (2 * (l0.length : Int))) bt435.1 ((bt435.1.length : Int) != a2) bt428.1 bt428.2.1 bt428.2.2.1) else (volutelaw12_Heard.j0 k l3 l4 (wrap64 (2 * (l0.length : Int))) bt435.1 true bt428.1 bt428.2.1 bt428.2.2.1)) else (volutelaw12_Heard.j0 k l3 l4 (wrap64 (2 * (l0.length : Int))) bt435.1 true bt428.1 bt428.2.1 bt428.2.2.1)))) = some (r1, r2, r3, r4) := h
 clear h
 replace H := Option.bind_eq_some_iff.mp H
 obtain ⟨⟨tq0, tq1, tq2, tq3⟩, Aq0, H⟩ := H
 replace H : ((code_Encode.f k l0 0 a2).bind fun bt435 => (if tq3 = 0 then (if bt435.2 = 0 then (volutelaw12_Heard.j0 k l3 l4 (wrap64 (2 * (l0.length : Int))) bt435.1 ((bt435.1.length : Int) != a2) tq0 tq1 tq2) else (volutelaw12_Heard.j0 k l3 l4 (wrap64 (2 * (l0.length : Int))) bt435.1 true tq0 tq1 tq2)) else (volutelaw12_Heard.j0 k l3 l4 (wrap64 (2 * (l0.length : Int))) bt435.1 true tq0 tq1 tq2))) = some (r1, r2, r3, r4) := H
 have Aq1 := Aside0.mk Aq0
 clear Aq0
 replace H := Option.bind_eq_some_iff.mp H
 obtain ⟨⟨tq4, tq5⟩, Aq2, H⟩ := H
 replace H : (if tq3 = 0 then (if tq5 = 0 then (volutelaw12_Heard.j0 k l3 l4 (wrap64 (2 * (l0.length : Int))) tq4 ((tq4.length : Int) != a2) tq0 tq1 tq2) else (volutelaw12_Heard.j0 k l3 l4 (wrap64 (2 * (l0.length : Int))) tq4 true tq0 tq1 tq2)) else (volutelaw12_Heard.j0 k l3 l4 (wrap64 (2 * (l0.length : Int))) tq4 true tq0 tq1 tq2)) = some (r1, r2, r3, r4) := H
 have Aq3 := Aside0.mk Aq2
 clear Aq2
 have HCq3 := Aside0.mk H
 clear H
 go_enter Try.func31, Try.ntmps31
 go_upto_region 4 with (first | ((with_reducible refine gate_dst (N := 10) rfl ?_); (try (refine gate_guard (by rfl) ?_; dsimp only)); refine box_event ?hg (N := 10) ?hd (cs := #[.int .i64 0, .int .i64 0, .slice none 0 0]) (t := 49) ?hr ?_; (case hd => rfl); (case hg => rfl); (case hr => go_simp <;> rfl); intro gbq0 hg wq0 hbox hb; have BK427 := Aside0.mk (hbox); have GWq0 := zg HB hg; have GEq0 := zg HB hg; replace HB := zs HB hb; clear hb hbox hg) | ((with_reducible refine gate_callee (f := 26) rfl ?_); refine goesL_ (some 28) rfl rfl Try.func26 (by kernel_rfl) rfl #[.int .i64 (wrap64 (2 * (l0.length : Int))), .int .i64 a1] rfl (by (try simp only [List.map_toArray, List.map_cons, List.map_nil]); first | done | rfl | (simp only [List.length_drop, List.length_take]; rfl)) ?_; (with_reducible refine (pile_New.calls (wrap64 (2 * (l0.length : Int))) a1 tq0 tq1 tq2 tq3 _ Aq1.out).mono ?_); rintro e wq1 ⟨vq0, rfl, ho0, hb⟩; refine ⟨_, rfl, ?_⟩; have HOq0 := Aside0.mk (Kd.R_lower ho0 (below_size (zB HB))); replace BK427 := zb BK427 hb; replace HB := zs HB hb; (try clear hb); (try clear hb2); (try clear hk); (try clear hi); (try clear ho0)) | ((with_reducible refine gate_dst (N := 13) rfl ?_); (try (refine gate_guard (by rfl) ?_; dsimp only)); refine box_event ?hg (N := 13) ?hd (cs := #[.int .i64 0, .int .i64 0, .slice none 0 0]) (t := 49) ?hr ?_; (case hd => rfl); (case hg => rfl); (case hr => go_simp <;> rfl); intro gbq1 hg wq2 hbox hb; replace HOq0 := zR HOq0 hb; have BK434 := Aside0.mk (hbox); have GWq1 := zg HB hg; have GEq1 := zg HB hg; replace HB := zs HB hb; have NBq0_434 := zl BK427 hg; have NBq1_427 := zr BK427 hg; replace BK427 := zb BK427 hb; clear hb hbox hg; have hnbq0 := NBq1_427.out; have hncq0 := NBq0_434.out; obtain ⟨hczq0_0, hczq0_1, hczq0_2⟩ := zC3 BK434; obtain ⟨hfzq0_0, hfzq0_1, hfzq0_2⟩ := zF3 BK434; obtain ⟨Aoq0, coq0, eoq0⟩ := Kd.R_slice HOq0.out; subst eoq0) | ((with_reducible refine gate_callee (f := 77) rfl ?_); refine goesL_ (some 34) rfl rfl Try.func77 (by kernel_rfl) rfl #[.slice A0 l0.length c0, .int .i64 0, .int .i64 a2] rfl (by (try simp only [List.map_toArray, List.map_cons, List.map_nil]); first | done | rfl | (simp only [List.length_drop, List.length_take]; rfl)) ?_; (with_reducible refine (code_Encode.calls k _ _ l0 0 a2 tq4 tq5 _ ?side1 ?side2 Aq3.out).mono ?_); (case side1 => exact Kd.C_below HRq0.out (zB HB)); (case side2 => exact HCq0.out); rintro e wq3 ⟨vq1, rfl, ho0, hb⟩; refine ⟨_, rfl, ?_⟩; have nq0_ := Aside0.mk (Kd.R_below (by (with_reducible repeat (first | apply Kd.R_alloc | apply Kd.R_drewN | apply Kd.R_drew)); exact (Kd.R_mono (Kd.R_far (p := ⟨gbq1, 2, none⟩) (Kd.R_far (p := ⟨gbq1, 1, none⟩) (Kd.R_far (p := ⟨gbq1, 0, none⟩) (Kd.R_types HOq0.out BK434.out (by decide)) (fun _ hk => hk.2) (.int .i64 tq0)) (fun _ hk => hk.2) (.int .i64 tq1)) (fun _ hk => hk.2) (.slice Aoq0 tq2.length coq0)) (fun _ h_ => h_.1))) hb); have nq1_ := Aside0.mk (Kd.R_lower ho0 (below_size (zB HB))); have nq2_ := zb BK427 hb; have nq3_ := Aside0.mk (blk_below (g := gbq1) (o := .cells #[.int .i64 tq0, .int .i64 tq1, .slice Aoq0 tq2.length coq0] 49 (0, 0)) (by refine blk_put (cs := #[.int .i64 tq0, .int .i64 tq1, .slice none 0 0]) ?_ 2 _ rfl; refine blk_put (cs := #[.int .i64 tq0, .int .i64 0, .slice none 0 0]) ?_ 1 _ rfl; refine blk_put (cs := #[.int .i64 0, .int .i64 0, .slice none 0 0]) ?_ 0 _ rfl; (with_reducible repeat (first | refine blk_drewN ?_ _ | refine blk_drew ?_ | refine blk_alloc ?_ _)); exact BK434.out) hb); have nq4_ := zs HB hb; clear HOq0; clear BK427; clear BK434; clear HB; have HOq0 := nq0_; have HOq1 := nq1_; have BK427 := nq2_; have BK434 := nq3_; have HB := nq4_; clear nq0_ nq1_ nq2_ nq3_ nq4_; (try clear hb); (try clear hb2); (try clear hk); (try clear hi); (try clear ho0)))
 (try simp only [Act.put, List.setIfInBounds_toArray, List.set_cons_zero, List.set_cons_succ])
 go_cut [48] (fun v48 wc => ∃ (kq : Nat) (x48_7 : Bool), v48 = .bool x48_7 ∧ Aside0 (volutelaw12_Heard.j0 kq l3 l4 (wrap64 (2 * (l0.length : Int))) tq4 x48_7 tq0 tq1 tq2 = some (r1, r2, r3, r4)) ∧ Aside0 (kq ≤ k) ∧ Aside0 (Kd.R (Kd.int .u8) 5 wc w.heap.size (fun _ => True) vq1 tq4) ∧ Aside0 (Kd.R k132 132 wc w.heap.size (fun _ => True) (.slice Aoq0 tq2.length coq0) tq2) ∧ Aside0 (wc.heap[gbq0]? = some (.cells #[.int .i64 0, .int .i64 0, (.slice none 0 0)] 49 (0, 0))) ∧ Aside0 (wc.heap[gbq1]? = some (.cells #[.int .i64 tq0, .int .i64 tq1, (.slice Aoq0 tq2.length coq0)] 49 (0, 0))) ∧ Aside0 (Below w.heap.size w wc))
 case first =>
  have H := HCq3.out
  clear HCq3
  by_cases cq0 : tq3 = 0
  rotate_left
  · rw [if_neg cq0] at H
    have c16b0 : (tq3 == 0) = false := beq_eq_false_iff_ne.mpr cq0
    have c16b1 : (tq3 != 0) = true := bne_iff_ne.mpr cq0
    (first | rw [c16b0] | (simp only [i64_w, i32_w]; rw [c16b0]) | skip)
    have H' := Aside0.mk H
    clear H
    exact volutelaw12_Heard.calls.z1
  rw [if_pos cq0] at H
  have c16b0 : (tq3 == 0) = true := beq_iff_eq.mpr cq0
  have c16b1 : (tq3 != 0) = false := bne_eq_false_iff_eq.mpr cq0
  clear cq0
  (first | rw [c16b0] | (simp only [i64_w, i32_w]; rw [c16b0]) | skip)
  by_cases cq1 : tq5 = 0
  rotate_left
  · rw [if_neg cq1] at H
    have c17b0 : (tq5 == 0) = false := beq_eq_false_iff_ne.mpr cq1
    have c17b1 : (tq5 != 0) = true := bne_iff_ne.mpr cq1
    have H' := Aside0.mk H
    clear H
    exact volutelaw12_Heard.calls.z1
  rw [if_pos cq1] at H
  have c17b0 : (tq5 == 0) = true := beq_iff_eq.mpr cq1
  have c17b1 : (tq5 != 0) = false := bne_eq_false_iff_eq.mpr cq1
  clear cq1
  have H' := Aside0.mk H
  clear H
  obtain ⟨Aoq1, coq1, eoq1⟩ := Kd.R_slice HOq1.out
  subst eoq1
  exact volutelaw12_Heard.calls.z1
 clear HCq3
 try clear c3
 try clear c4
 try clear hczq0_0
 try clear hczq0_1
 try clear hczq0_2
 try clear hfzq0_0
 try clear hfzq0_1
 try clear hfzq0_2
 obtain ⟨kq, x48_7, rfl, HA, HJq0, HO_15, HO_435002, BK427, BK434, HB⟩ := hcut
 cases kq with
 | zero => exact absurd HA.out (by simp [volutelaw12_Heard.j0])
 | succ kj7 => ?_
 have H := HA.out
 clear HA
 simp only [volutelaw12_Heard.j0] at H
 by_cases c19 : x48_7 = true
 · subst c19
   have H1 : (some (0, 0, ([] : List (S132)), false)) = some (r1, r2, r3, r4) := by first | (rw [if_pos rfl] at H; exact H) | exact (if_pos rfl).symm.trans H
   clear H
   have H := H1
   clear H1
   simp only [Option.some.injEq, Prod.mk.injEq] at H
   obtain ⟨rfl, rfl, rfl, rfl⟩ := H
   have hnbq1 := NBq0_434.out
   have hncq1 := NBq1_427.out
   obtain ⟨hczq1_0, hczq1_1, hczq1_2⟩ := zC3 BK427
   obtain ⟨hfzq1_0, hfzq1_1, hfzq1_2⟩ := zF3 BK427
   go_wp2
   refine bodyPost_ret (results_ct rfl _ _ gbq0 49 #[.int .i64 0, .int .i64 0, .slice none 0 0] (0, 0) _ rfl (by refine blk_put (cs := #[.int .i64 0, .int .i64 0, .slice none 0 0]) ?_ 2 _ rfl; refine blk_put (cs := #[.int .i64 0, .int .i64 0, .slice none 0 0]) ?_ 1 _ rfl; refine blk_put (cs := #[.int .i64 0, .int .i64 0, .slice none 0 0]) ?_ 0 _ rfl; (with_reducible repeat (first | refine blk_drewN ?_ _ | refine blk_drew ?_ | refine blk_alloc ?_ _)); exact BK427.out) Try.underlying49 rfl (by kernel_rfl)) rfl ?_
   exact ⟨_, by first | rfl | (simp [errW_none, errW_some] <;> rfl) | (simp [*, errW_none, errW_some] <;> rfl), by first | exact Kd.R_nil _ _ _ _ _ | exact Kd.N_nil _ _ _ _ _ | exact Kd.V_nil _ _ _ _ _ | exact Kd.Q_nil _ _ _ _ _ | exact Kd.S_nil _ _ _ _ _, by repeat (first | (with_reducible first | exact HB.out | apply below_alloc | apply pw_below_drewN | apply below_drew1 | refine below_set ?_ GEq0.out | refine below_set ?_ GEq1.out) | exact HB.out)⟩
 replace c19 := Bool.eq_false_iff.mpr c19
 subst c19
 have H1 : (volutelaw12_Heard.l0 kj7 l3 l4 (wrap64 (2 * (l0.length : Int))) tq4 0 tq0 tq1 tq2) = some (r1, r2, r3, r4) := by rw [if_neg (show ¬ (false = true) by decide)] at H; exact H
 clear H
 have H := H1
 clear H1
 have H' := Aside0.mk H
 clear H
 go_wp2
 go_loopg [17] kj7 (fun kq v17 w' => ∃ (x17_2 : Int) (x428000_2 : Int) (x428001_2 : Int) (x435000_2 : Int) (x435001_2 : Int) (x435002_2 : List (S132)) (u435002 : Value), v17 = .int .i64 x17_2 ∧ Aside0 (volutelaw12_Heard.l0 kq l3 l4 (wrap64 (2 * (l0.length : Int))) tq4 x17_2 x435000_2 x435001_2 x435002_2 = some (r1, r2, r3, r4)) ∧ Aside0 (kq ≤ kj7) ∧ Aside0 (Kd.R (Kd.int .u8) 5 w' w.heap.size (fun _ => True) vq1 tq4) ∧ Aside0 (Kd.R k132 132 w' w.heap.size (fun _ => True) u435002 x435002_2) ∧ Aside0 (w'.heap[gbq0]? = some (.cells #[.int .i64 x428000_2, .int .i64 x428001_2, (.slice none 0 0)] 49 (0, 0))) ∧ Aside0 (w'.heap[gbq1]? = some (.cells #[.int .i64 x435000_2, .int .i64 x435001_2, u435002] 49 (0, 0))) ∧ Aside0 (Below w.heap.size w w'))
 case atStart => exact ⟨(0), (0), (0), (tq0), (tq1), (tq2), (.slice Aoq0 tq2.length coq0), (by first | rfl | (simp; done) | (simp [*]; done)), H', ⟨Nat.le_refl _⟩, ⟨by (with_reducible repeat (first | apply Kd.R_alloc | apply Kd.R_drewN | apply Kd.R_drew)); exact HO_15.out⟩, ⟨by (with_reducible repeat (first | apply Kd.R_alloc | apply Kd.R_drewN | apply Kd.R_drew)); exact HO_435002.out⟩, ⟨by (with_reducible repeat (first | refine blk_drewN ?_ _ | refine blk_drew ?_ | refine blk_alloc ?_ _)); exact BK427.out⟩, ⟨by (with_reducible repeat (first | refine blk_drewN ?_ _ | refine blk_drew ?_ | refine blk_alloc ?_ _)); exact BK434.out⟩, ⟨by repeat (first | (with_reducible first | exact HB.out | apply below_alloc | apply pw_below_drewN | apply below_drew1 | refine below_set ?_ GEq0.out | refine below_set ?_ GEq1.out) | exact HB.out)⟩⟩
 case round =>
  clear H'
  try clear c3
  try clear c4
  try clear c19
  try clear hczq0_0
  try clear hczq0_1
  try clear hczq0_2
  try clear hfzq0_0
  try clear hfzq0_1
  try clear hfzq0_2
  obtain ⟨x17_2, x428000_2, x428001_2, x435000_2, x435001_2, x435002_2, u435002, rfl, HA, HKq0, HO_15, HO_435002, BK427, BK434, HB⟩ := hrel
  cases gk with
  | zero => exact absurd HA.out (by simp [volutelaw12_Heard.l0])
  | succ k2 => ?_
  have H := HA.out
  clear HA
  simp only [volutelaw12_Heard.l0] at H
  by_cases cq0 : x17_2 < (tq4.length : Int)
  rotate_left
  · rw [if_neg cq0] at H
    have c22b0 : decide (x17_2 < (tq4.length : Int)) = false := decide_eq_false cq0
    clear cq0
    simp only [Option.some.injEq, Prod.mk.injEq] at H
    obtain ⟨rfl, rfl, rfl, rfl⟩ := H
    obtain ⟨Aoq1, coq1, eoq1⟩ := Kd.R_slice HO_15.out
    subst eoq1
    try go_wp2
    replace HO_15 := Aside0.mk (Kd.R_drew HO_15.out)
    replace HO_435002 := Aside0.mk (Kd.R_drew HO_435002.out)
    replace BK427 := Aside0.mk (blk_drew BK427.out)
    replace BK434 := Aside0.mk (blk_drew BK434.out)
    replace HB := Aside0.mk (below_drew1 HB.out)
    obtain ⟨Aoq2, coq2, eoq2⟩ := Kd.R_slice HO_435002.out
    (first | subst eoq2 | (injection eoq2 with f1_ f2_ f3_; have fq0_ := f1_.symm; have fq1_ := f3_.symm; clear f1_ f2_ f3_; subst fq0_; subst fq1_))
    refine start_ (n := 7) (S := fun w' => w'.cell? ⟨gbq1, 0, none⟩ = some (.int .i64 x435000_2) ∧ w'.cell? ⟨gbq1, 1, none⟩ = some (.int .i64 x435001_2) ∧ w'.cell? ⟨gbq1, 2, none⟩ = some (.slice Aoq2 x435002_2.length coq2)) (ds := []) (.replicate 7 false) (by kernel_rfl) rfl rfl ⟨zbc BK434 0 rfl, zbc BK434 1 rfl, zbc BK434 2 rfl⟩ (fun hHeld => ?_)
    generalize wr.drew = wq4 at HO_15 HO_435002 BK427 BK434 HB hHeld ⊢
    refine pu 1 94 (lb 7 2) rfl rfl (by kernel_rfl) ?_
    refine pu 3 96 (lb 7 10) rfl rfl (by kernel_rfl) ?_
    refine take_ (i := 0) (N := some 93) (v := ?_) (a' := ?_) (lb 7 11) rfl rfl (by kernel_rfl) (fun _ _ _ h => h) (Or.inl ⟨by rfl, ?_⟩) hHeld ?_ ?_
    rotate_left
    · rintro w' ⟨s0, s1, s2⟩
      go_simp
      with_reducible rfl
    rotate_left
    · simp only [Act.put, List.setIfInBounds_toArray, List.set_cons_zero, List.set_cons_succ, i64_w, i32_w]
      rfl
    refine take_ (i := 2) (N := some 95) (v := ?_) (a' := ?_) (lb 7 15) rfl rfl (by kernel_rfl) (fun _ _ _ h => h) (Or.inl ⟨by rfl, ?_⟩) hHeld ?_ ?_
    rotate_left
    · rintro w' ⟨s0, s1, s2⟩
      go_simp
      with_reducible rfl
    rotate_left
    · simp only [Act.put, List.setIfInBounds_toArray, List.set_cons_zero, List.set_cons_succ, i64_w, i32_w]
      rfl
    refine pu 4 97 (lb 7 31) rfl rfl (by kernel_rfl) ?_
    refine one_ (i := 5) (N := none) (lb 7 63) rfl rfl (by kernel_rfl) (by decide) (fun K hK => ?_)
    have hsq0 : wq4.cell? ⟨gbq0, 0, none⟩ = some (.int .i64 x428000_2) := zbc BK427 0 rfl
    have hfsq0 := blk_frozen BK427.out 0
    have hnsq0_1 := NBq1_427.out
    have hmsq0_1 := NBq0_434.out
    have hsq1 : wq4.cell? ⟨gbq0, 1, none⟩ = some (.int .i64 x428001_2) := zbc BK427 1 rfl
    have hfsq1 := blk_frozen BK427.out 1
    have hnsq1_1 := NBq1_427.out
    have hmsq1_1 := NBq0_434.out
    have hsq2 : wq4.cell? ⟨gbq0, 2, none⟩ = some (.slice none 0 0) := zbc BK427 2 rfl
    have hfsq2 := blk_frozen BK427.out 2
    have hnsq2_1 := NBq1_427.out
    have hmsq2_1 := NBq0_434.out
    refine skip_ (w1 := ?_) (by rfl) rfl ?_ ?_
    rotate_left
    · go_simp
      rfl
    refine hK.out _ _ ⟨((cell_far (p := ⟨gbq0, _, none⟩) NBq1_427.out _).trans (((cell_far (p := ⟨gbq0, _, none⟩) NBq1_427.out _).trans (((cell_far (p := ⟨gbq0, _, none⟩) NBq1_427.out _).trans (hHeld.1)))))), ((cell_far (p := ⟨gbq0, _, none⟩) NBq1_427.out _).trans (((cell_far (p := ⟨gbq0, _, none⟩) NBq1_427.out _).trans (((cell_far (p := ⟨gbq0, _, none⟩) NBq1_427.out _).trans (hHeld.2.1)))))), ((cell_far (p := ⟨gbq0, _, none⟩) NBq1_427.out _).trans (((cell_far (p := ⟨gbq0, _, none⟩) NBq1_427.out _).trans (((cell_far (p := ⟨gbq0, _, none⟩) NBq1_427.out _).trans (hHeld.2.2))))))⟩ (fun hHeld => ?_)
    clear hK K
    refine pu 6 11 (lb 7 127) rfl rfl (by kernel_rfl) ?_
    refine done_ (by kernel_rfl) ?_
    try go_wp2
    refine bodyPost_ret (results_ct rfl _ _ gbq0 49 #[.int .i64 x435000_2, .int .i64 x435001_2, .slice Aoq2 x435002_2.length coq2] (0, 0) _ rfl (by refine blk_put (cs := #[.int .i64 x435000_2, .int .i64 x435001_2, .slice none 0 0]) ?_ 2 _ rfl; refine blk_put (cs := #[.int .i64 x435000_2, .int .i64 x428001_2, .slice none 0 0]) ?_ 1 _ rfl; refine blk_put (cs := #[.int .i64 x428000_2, .int .i64 x428001_2, .slice none 0 0]) ?_ 0 _ rfl; (with_reducible repeat (first | refine blk_drewN ?_ _ | refine blk_drew ?_ | refine blk_alloc ?_ _)); exact BK427.out) Try.underlying49 rfl (by kernel_rfl)) rfl ?_
    exact ⟨_, by first | rfl | (simp [errW_none, errW_some] <;> rfl) | (simp [*, errW_none, errW_some] <;> rfl), by (with_reducible repeat (first | apply Kd.R_alloc | apply Kd.R_drewN | apply Kd.R_drew)); exact Kd.R_mono (Kd.R_far (p := ⟨gbq0, 2, none⟩) (Kd.R_far (p := ⟨gbq0, 1, none⟩) (Kd.R_far (p := ⟨gbq0, 0, none⟩) (Kd.R_types HO_435002.out BK427.out (by decide)) (fun _ hk => hk.2) (.int .i64 x435000_2)) (fun _ hk => hk.2) (.int .i64 x435001_2)) (fun _ hk => hk.2) (.slice Aoq2 x435002_2.length coq2)) (fun _ hk => trivial), by repeat (first | (with_reducible first | exact HB.out | apply below_alloc | apply pw_below_drewN | apply below_drew1 | refine below_set ?_ GEq0.out | refine below_set ?_ GEq1.out) | exact HB.out)⟩
  rw [if_pos cq0] at H
  have c22b0 : decide (x17_2 < (tq4.length : Int)) = true := decide_eq_true cq0
  clear cq0
  have HCq4 := Aside0.mk H
  clear H
  obtain ⟨Aoq1, coq1, eoq1⟩ := Kd.R_slice HO_15.out
  subst eoq1
  go_upto_region 9 with (fail)
  go_cut [65] (fun v65 wc => ∃ (kq : Nat) (x65_22 : Bool), v65 = .bool x65_22 ∧ Aside0 (volutelaw12_Heard.j2 kq l3 l4 (wrap64 (2 * (l0.length : Int))) tq4 x17_2 x65_22 x435000_2 x435001_2 x435002_2 = some (r1, r2, r3, r4)) ∧ Aside0 (kq ≤ k2) ∧ Aside0 (Kd.R (Kd.int .u8) 5 wc w.heap.size (fun _ => True) (.slice Aoq1 tq4.length coq1) tq4) ∧ Aside0 (Kd.R k132 132 wc w.heap.size (fun _ => True) u435002 x435002_2) ∧ Aside0 (wc.heap[gbq0]? = some (.cells #[.int .i64 x428000_2, .int .i64 x428001_2, (.slice none 0 0)] 49 (0, 0))) ∧ Aside0 (wc.heap[gbq1]? = some (.cells #[.int .i64 x435000_2, .int .i64 x435001_2, u435002] 49 (0, 0))) ∧ Aside0 (Below w.heap.size w wc))
  case first =>
   have H := HCq4.out
   clear HCq4
   by_cases cq1 : x17_2 < (l3.length : Int)
   rotate_left
   · rw [if_neg cq1] at H
     have c25b0 : decide (x17_2 < (l3.length : Int)) = false := decide_eq_false cq1
     clear cq1
     (first | rw [c25b0] | (simp only [i64_w, i32_w]; rw [c25b0]) | skip)
     have H' := Aside0.mk H
     clear H
     exact volutelaw12_Heard.calls.z1
   rw [if_pos cq1] at H
   have c25b0 : decide (x17_2 < (l3.length : Int)) = true := decide_eq_true cq1
   clear cq1
   (first | rw [c25b0] | (simp only [i64_w, i32_w]; rw [c25b0]) | skip)
   by_cases cq2 : 0 ≤ x17_2
   rotate_left
   · rw [if_neg cq2] at H
     exact absurd H (by simp)
   rw [if_pos cq2] at H
   have cq2b0 : decide (0 ≤ x17_2) = true := decide_eq_true cq2
   clear cq2
   have H' := Aside0.mk H
   clear H
   have p439 : 0 ≤ (x17_2 : Int) := zod
   have q439 : x17_2 < (l3.length : Int) := zod
   obtain ⟨adq0, eq0, hx439_0⟩ := Kd.at_bool HRq1.out x17_2 p439 q439
   cases eq0
   replace hx439_0 := (HB.out.cell (World.block_lt_of_cell? w _ hx439_0)).trans hx439_0
   replace p439 := eq_true p439
   replace q439 := eq_true q439
   exact volutelaw12_Heard.calls.z1
  clear HCq4
  try clear c3
  try clear c4
  try clear c19
  try clear cq0
  try clear c22b0
  try clear hczq0_0
  try clear hczq0_1
  try clear hczq0_2
  try clear hfzq0_0
  try clear hfzq0_1
  try clear hfzq0_2
  obtain ⟨kq, x65_22, rfl, HA, HJq1, HO_15, HO_435002, BK427, BK434, HB⟩ := hcut
  cases kq with
  | zero => exact absurd HA.out (by simp [volutelaw12_Heard.j2])
  | succ kj22 => ?_
  have H := HA.out
  clear HA
  simp only [volutelaw12_Heard.j2] at H
  by_cases c27 : x65_22 = true
  · subst c27
    have H1 : (volutelaw12_Heard.l0 kj22 l3 l4 (wrap64 (2 * (l0.length : Int))) tq4 (wrap64 (x17_2 + 1)) x435000_2 x435001_2 x435002_2) = some (r1, r2, r3, r4) := by first | (rw [if_pos rfl] at H; exact H) | exact (if_pos rfl).symm.trans H
    clear H
    have H := H1
    clear H1
    have H' := Aside0.mk H
    clear H
    go_wp2
    go_roundg kj22
    case measure => have := HJq0.out; have := HKq0.out; have := HJq1.out; omega
    case rel => exact ⟨(wrap64 (x17_2 + 1)), (x428000_2), (x428001_2), (x435000_2), (x435001_2), (x435002_2), (u435002), (by first | rfl | (simp; done) | (simp [*]; done)), H', ⟨by have := HJq0.out; have := HKq0.out; have := HJq1.out; omega⟩, ⟨by (with_reducible repeat (first | apply Kd.R_alloc | apply Kd.R_drewN | apply Kd.R_drew)); exact HO_15.out⟩, ⟨by (with_reducible repeat (first | apply Kd.R_alloc | apply Kd.R_drewN | apply Kd.R_drew)); exact HO_435002.out⟩, ⟨by (with_reducible repeat (first | refine blk_drewN ?_ _ | refine blk_drew ?_ | refine blk_alloc ?_ _)); exact BK427.out⟩, ⟨by (with_reducible repeat (first | refine blk_drewN ?_ _ | refine blk_drew ?_ | refine blk_alloc ?_ _)); exact BK434.out⟩, ⟨by repeat (first | (with_reducible first | exact HB.out | apply below_alloc | apply pw_below_drewN | apply below_drew1 | refine below_set ?_ GEq0.out | refine below_set ?_ GEq1.out) | exact HB.out)⟩⟩
  replace c27 := Bool.eq_false_iff.mpr c27
  subst c27
  have H1 : (if 0 ≤ x17_2 then (if x17_2 < (tq4.length : Int) then (if x17_2 < (l4.length : Int) then ((pile_Put.f kj22 x435000_2 x435001_2 x435002_2 x17_2 (wrap64 (Go.bits .xor .u8 (rd tq4 x17_2) (rd l4 x17_2)))).bind fun bt442 => (if bt442.2.2.2.2 = 0 then (volutelaw12_Heard.l0 kj22 l3 l4 (wrap64 (2 * (l0.length : Int))) tq4 (wrap64 (x17_2 + 1)) bt442.1 bt442.2.1 bt442.2.2.1) else (some (0, 0, ([] : List (S132)), false)))) else ((pile_Put.f kj22 x435000_2 x435001_2 x435002_2 x17_2 (wrap64 (rd tq4 x17_2))).bind fun bt450 => (if bt450.2.2.2.2 = 0 then (volutelaw12_Heard.l0 kj22 l3 l4 (wrap64 (2 * (l0.length : Int))) tq4 (wrap64 (x17_2 + 1)) bt450.1 bt450.2.1 bt450.2.2.1) else (some (0, 0, ([] : List (S132)), false))))) else (none)) else (none)) = some (r1, r2, r3, r4) := by rw [if_neg (show ¬ (false = true) by decide)] at H; exact H
  clear H
  have H := H1
  clear H1
  by_cases cq1 : 0 ≤ x17_2
  rotate_left
  · rw [if_neg cq1] at H
    exact absurd H (by simp)
  rw [if_pos cq1] at H
  have cq1b0 : decide (0 ≤ x17_2) = true := decide_eq_true cq1
  clear cq1
  by_cases cq2 : x17_2 < (tq4.length : Int)
  rotate_left
  · rw [if_neg cq2] at H
    exact absurd H (by simp)
  rw [if_pos cq2] at H
  have cq2b0 : decide (x17_2 < (tq4.length : Int)) = true := decide_eq_true cq2
  clear cq2
  by_cases cq3 : x17_2 < (l4.length : Int)
  rotate_left
  · rw [if_neg cq3] at H
    have c30b0 : decide (x17_2 < (l4.length : Int)) = false := decide_eq_false cq3
    clear cq3
    replace H := Option.bind_eq_some_iff.mp H
    obtain ⟨⟨tq6, tq7, tq8, tq9, tq10⟩, Aq4, H⟩ := H
    replace H : (if tq10 = 0 then (volutelaw12_Heard.l0 kj22 l3 l4 (wrap64 (2 * (l0.length : Int))) tq4 (wrap64 (x17_2 + 1)) tq6 tq7 tq8) else (some (0, 0, ([] : List (S132)), false))) = some (r1, r2, r3, r4) := H
    have Aq5 := Aside0.mk Aq4
    clear Aq4
    by_cases cq4 : tq10 = 0
    · rw [if_pos cq4] at H
      have c54b0 : (tq10 == 0) = true := beq_iff_eq.mpr cq4
      have c54b1 : (tq10 != 0) = false := bne_eq_false_iff_eq.mpr cq4
      clear cq4
      have H' := Aside0.mk H
      clear H
      have p440 : 0 ≤ (x17_2 : Int) := zod
      have q440 : x17_2 < (tq4.length : Int) := zod
      obtain ⟨ad440, e440, hx440_0⟩ := Kd.at_int (Kd.R_reads' HO_15.out).2.2 x17_2 p440 q440
      cases e440
      replace p440 := eq_true p440
      replace q440 := eq_true q440
      have hnbq1 := NBq1_427.out
      have hncq1 := NBq0_434.out
      obtain ⟨hczq1_0, hczq1_1, hczq1_2⟩ := zC3 BK434
      obtain ⟨hfzq1_0, hfzq1_1, hfzq1_2⟩ := zF3 BK434
      obtain ⟨Aoq2, coq2, eoq2⟩ := Kd.R_slice HO_435002.out
      subst eoq2
      go_wp2_with (first | ((with_reducible refine gate_callee (f := 29) rfl ?_); refine goesL_ (some 85) rfl rfl Try.func29 (by kernel_rfl) rfl #[.agg #[.int .i64 x435000_2, .int .i64 x435001_2, .slice Aoq2 x435002_2.length coq2], .int .i64 x17_2, .int .i64 (wrap64 (rd tq4 x17_2))] rfl (by (try simp only [List.map_toArray, List.map_cons, List.map_nil]); first | done | rfl | (simp only [List.length_drop, List.length_take]; rfl)) ?_; (with_reducible refine (pile_Put.calls kj22 x435000_2 x435001_2 _ _ x435002_2 x17_2 (wrap64 (rd tq4 x17_2)) tq6 tq7 tq8 tq9 tq10 _ ?side1 ?side2 Aq5.out).mono ?_); (case side1 => repeat (first | exact (Kd.R_reads' HO_435002.out).2.2 | (with_reducible refine Kd.C_alloc ?_ _) | (with_reducible refine Kd.C_drewN ?_ _) | (with_reducible refine Kd.C_drew ?_))); (case side2 => exact (Kd.R_reads' HO_435002.out).2.1); rintro e wq4 ⟨v453, rfl, ho0, hb⟩; refine ⟨_, rfl, ?_⟩; replace HO_15 := zR HO_15 hb; have HO454 := Aside0.mk (Kd.R_lower (Kd.R_new' ho0 (Kd.R_lt (zr_ HO_435002))) (below_size (zB HB))); replace HO_435002 := Aside0.mk (Kd.R_elder' (zr_ HO_435002) (Kd.R_base ho0) hb); replace BK427 := zb BK427 hb; replace BK434 := zb BK434 hb; replace HB := zs HB hb; (try clear hb); (try clear hb2); (try clear hk); (try clear hi); (try clear ho0)) | ((with_reducible refine gate_dst (N := 19) rfl ?_); (try (refine gate_guard (by rfl) ?_; dsimp only)); refine box_event ?hg (N := 19) ?hd (cs := #[.int .i64 0, .int .i64 0, .slice none 0 0]) (t := 49) ?hr ?_; (case hd => rfl); (case hg => rfl); (case hr => go_simp <;> rfl); intro gb457 hg wq5 hbox hb; replace HO_15 := zR HO_15 hb; replace HO_435002 := zR HO_435002 hb; replace HO454 := zR HO454 hb; have BK457 := Aside0.mk (hbox); have GW457 := zg HB hg; have GE457 := zg HB hg; replace HB := zs HB hb; have NB427_457 := zl BK427 hg; have NB457_427 := zr BK427 hg; replace BK427 := zb BK427 hb; have NB434_457 := zl BK434 hg; have NB457_434 := zr BK434 hg; replace BK434 := zb BK434 hb; clear hb hbox hg; have hnbq2 := NB457_427.out; have hncq2 := NB427_457.out; have hnbq3 := NB457_434.out; have hncq3 := NB434_457.out; obtain ⟨hczq2_0, hczq2_1, hczq2_2⟩ := zC3 BK457; obtain ⟨hfzq2_0, hfzq2_1, hfzq2_2⟩ := zF3 BK457; obtain ⟨Aoq3, coq3, eoq3⟩ := Kd.R_slice HO454.out; subst eoq3; obtain ⟨hczq3_0, hczq3_1, hczq3_2⟩ := zC3 BK434; obtain ⟨hfzq3_0, hfzq3_1⟩ := zF2 BK434; have hfzq3_2 := blk_frozen BK434.out 2))
      go_roundg kj22
      case measure => have := HJq0.out; have := HKq0.out; have := HJq1.out; omega
      case rel => exact ⟨(wrap64 (x17_2 + 1)), (x428000_2), (x428001_2), (tq6), (tq7), (tq8), (.slice Aoq3 tq8.length coq3), (by first | rfl | (simp; done) | (simp [*]; done)), H', ⟨by have := HJq0.out; have := HKq0.out; have := HJq1.out; omega⟩, ⟨by (with_reducible repeat (first | apply Kd.R_alloc | apply Kd.R_drewN | apply Kd.R_drew)); exact Kd.R_mono (Kd.R_far (p := ⟨gbq1, 2, none⟩) (Kd.R_far (p := ⟨gbq1, 1, none⟩) (Kd.R_far (p := ⟨gbq1, 0, none⟩) (Kd.R_far (p := ⟨gb457, 2, none⟩) (Kd.R_far (p := ⟨gb457, 1, none⟩) (Kd.R_far (p := ⟨gb457, 0, none⟩) (Kd.R_types (Kd.R_types HO_15.out BK457.out (by decide)) BK434.out (by decide)) (fun _ hk => hk.1.2) (.int .i64 tq6)) (fun _ hk => hk.1.2) (.int .i64 tq7)) (fun _ hk => hk.1.2) (.slice Aoq3 tq8.length coq3)) (fun _ hk => hk.2) (.int .i64 tq6)) (fun _ hk => hk.2) (.int .i64 tq7)) (fun _ hk => hk.2) (.slice Aoq3 tq8.length coq3)) (fun _ hk => trivial)⟩, ⟨by (with_reducible repeat (first | apply Kd.R_alloc | apply Kd.R_drewN | apply Kd.R_drew)); exact Kd.R_mono (Kd.R_far (p := ⟨gbq1, 2, none⟩) (Kd.R_far (p := ⟨gbq1, 1, none⟩) (Kd.R_far (p := ⟨gbq1, 0, none⟩) (Kd.R_far (p := ⟨gb457, 2, none⟩) (Kd.R_far (p := ⟨gb457, 1, none⟩) (Kd.R_far (p := ⟨gb457, 0, none⟩) (Kd.R_types (Kd.R_types HO454.out BK457.out (by decide)) BK434.out (by decide)) (fun _ hk => hk.1.2) (.int .i64 tq6)) (fun _ hk => hk.1.2) (.int .i64 tq7)) (fun _ hk => hk.1.2) (.slice Aoq3 tq8.length coq3)) (fun _ hk => hk.2) (.int .i64 tq6)) (fun _ hk => hk.2) (.int .i64 tq7)) (fun _ hk => hk.2) (.slice Aoq3 tq8.length coq3)) (fun _ hk => trivial)⟩, ⟨by refine blk_far ?_ NBq0_434.out _; refine blk_far ?_ NBq0_434.out _; refine blk_far ?_ NBq0_434.out _; refine blk_far ?_ NB427_457.out _; refine blk_far ?_ NB427_457.out _; refine blk_far ?_ NB427_457.out _; (with_reducible repeat (first | refine blk_drewN ?_ _ | refine blk_drew ?_ | refine blk_alloc ?_ _)); exact BK427.out⟩, ⟨by refine blk_put (cs := #[.int .i64 tq6, .int .i64 tq7, .slice Aoq2 x435002_2.length coq2]) ?_ 2 _ rfl; refine blk_put (cs := #[.int .i64 tq6, .int .i64 x435001_2, .slice Aoq2 x435002_2.length coq2]) ?_ 1 _ rfl; refine blk_put (cs := #[.int .i64 x435000_2, .int .i64 x435001_2, .slice Aoq2 x435002_2.length coq2]) ?_ 0 _ rfl; refine blk_far ?_ NB434_457.out _; refine blk_far ?_ NB434_457.out _; refine blk_far ?_ NB434_457.out _; (with_reducible repeat (first | refine blk_drewN ?_ _ | refine blk_drew ?_ | refine blk_alloc ?_ _)); exact BK434.out⟩, ⟨by repeat (first | (with_reducible first | exact HB.out | apply below_alloc | apply pw_below_drewN | apply below_drew1 | refine below_set ?_ GEq0.out | refine below_set ?_ GEq1.out | refine below_set ?_ GE457.out) | exact HB.out)⟩⟩
    rw [if_neg cq4] at H
    have c54b0 : (tq10 == 0) = false := beq_eq_false_iff_ne.mpr cq4
    have c54b1 : (tq10 != 0) = true := bne_iff_ne.mpr cq4
    simp only [Option.some.injEq, Prod.mk.injEq] at H
    obtain ⟨rfl, rfl, rfl, rfl⟩ := H
    have p440 : 0 ≤ (x17_2 : Int) := zod
    have q440 : x17_2 < (tq4.length : Int) := zod
    obtain ⟨ad440, e440, hx440_0⟩ := Kd.at_int (Kd.R_reads' HO_15.out).2.2 x17_2 p440 q440
    cases e440
    replace p440 := eq_true p440
    replace q440 := eq_true q440
    have hnbq1 := NBq1_427.out
    have hncq1 := NBq0_434.out
    obtain ⟨hczq1_0, hczq1_1, hczq1_2⟩ := zC3 BK434
    obtain ⟨hfzq1_0, hfzq1_1, hfzq1_2⟩ := zF3 BK434
    obtain ⟨Aoq2, coq2, eoq2⟩ := Kd.R_slice HO_435002.out
    subst eoq2
    go_wp2_with (first | ((with_reducible refine gate_callee (f := 29) rfl ?_); refine goesL_ (some 85) rfl rfl Try.func29 (by kernel_rfl) rfl #[.agg #[.int .i64 x435000_2, .int .i64 x435001_2, .slice Aoq2 x435002_2.length coq2], .int .i64 x17_2, .int .i64 (wrap64 (rd tq4 x17_2))] rfl (by (try simp only [List.map_toArray, List.map_cons, List.map_nil]); first | done | rfl | (simp only [List.length_drop, List.length_take]; rfl)) ?_; (with_reducible refine (pile_Put.calls kj22 x435000_2 x435001_2 _ _ x435002_2 x17_2 (wrap64 (rd tq4 x17_2)) tq6 tq7 tq8 tq9 tq10 _ ?side1 ?side2 Aq5.out).mono ?_); (case side1 => repeat (first | exact (Kd.R_reads' HO_435002.out).2.2 | (with_reducible refine Kd.C_alloc ?_ _) | (with_reducible refine Kd.C_drewN ?_ _) | (with_reducible refine Kd.C_drew ?_))); (case side2 => exact (Kd.R_reads' HO_435002.out).2.1); rintro e wq4 ⟨v453, rfl, ho0, hb⟩; refine ⟨_, rfl, ?_⟩; replace HO_15 := zR HO_15 hb; have HO454 := Aside0.mk (Kd.R_lower (Kd.R_new' ho0 (Kd.R_lt (zr_ HO_435002))) (below_size (zB HB))); replace HO_435002 := Aside0.mk (Kd.R_elder' (zr_ HO_435002) (Kd.R_base ho0) hb); replace BK427 := zb BK427 hb; replace BK434 := zb BK434 hb; replace HB := zs HB hb; (try clear hb); (try clear hb2); (try clear hk); (try clear hi); (try clear ho0)) | ((with_reducible refine gate_dst (N := 19) rfl ?_); (try (refine gate_guard (by rfl) ?_; dsimp only)); refine box_event ?hg (N := 19) ?hd (cs := #[.int .i64 0, .int .i64 0, .slice none 0 0]) (t := 49) ?hr ?_; (case hd => rfl); (case hg => rfl); (case hr => go_simp <;> rfl); intro gb457 hg wq5 hbox hb; replace HO_15 := zR HO_15 hb; replace HO_435002 := zR HO_435002 hb; replace HO454 := zR HO454 hb; have BK457 := Aside0.mk (hbox); have GW457 := zg HB hg; have GE457 := zg HB hg; replace HB := zs HB hb; have NB427_457 := zl BK427 hg; have NB457_427 := zr BK427 hg; replace BK427 := zb BK427 hb; have NB434_457 := zl BK434 hg; have NB457_434 := zr BK434 hg; replace BK434 := zb BK434 hb; clear hb hbox hg; have hnbq2 := NB457_427.out; have hncq2 := NB427_457.out; have hnbq3 := NB457_434.out; have hncq3 := NB434_457.out; obtain ⟨hczq2_0, hczq2_1, hczq2_2⟩ := zC3 BK457; obtain ⟨hfzq2_0, hfzq2_1, hfzq2_2⟩ := zF3 BK457; obtain ⟨Aoq3, coq3, eoq3⟩ := Kd.R_slice HO454.out; subst eoq3; obtain ⟨hczq3_0, hczq3_1, hczq3_2⟩ := zC3 BK427; obtain ⟨hfzq3_0, hfzq3_1⟩ := zF2 BK427; have hfzq3_2 := blk_frozen BK427.out 2))
    refine bodyPost_ret (results_ct rfl _ _ gbq0 49 #[.int .i64 0, .int .i64 0, .slice none 0 0] (0, 0) _ rfl (by refine blk_put (cs := #[.int .i64 0, .int .i64 0, .slice none 0 0]) ?_ 2 _ rfl; refine blk_put (cs := #[.int .i64 0, .int .i64 x428001_2, .slice none 0 0]) ?_ 1 _ rfl; refine blk_put (cs := #[.int .i64 x428000_2, .int .i64 x428001_2, .slice none 0 0]) ?_ 0 _ rfl; refine blk_far ?_ NB427_457.out _; refine blk_far ?_ NB427_457.out _; refine blk_far ?_ NB427_457.out _; (with_reducible repeat (first | refine blk_drewN ?_ _ | refine blk_drew ?_ | refine blk_alloc ?_ _)); exact BK427.out) Try.underlying49 rfl (by kernel_rfl)) rfl ?_
    exact ⟨_, by first | rfl | (simp [errW_none, errW_some] <;> rfl) | (simp [*, errW_none, errW_some] <;> rfl), by first | exact Kd.R_nil _ _ _ _ _ | exact Kd.N_nil _ _ _ _ _ | exact Kd.V_nil _ _ _ _ _ | exact Kd.Q_nil _ _ _ _ _ | exact Kd.S_nil _ _ _ _ _, by repeat (first | (with_reducible first | exact HB.out | apply below_alloc | apply pw_below_drewN | apply below_drew1 | refine below_set ?_ GEq0.out | refine below_set ?_ GEq1.out | refine below_set ?_ GE457.out) | exact HB.out)⟩
  rw [if_pos cq3] at H
  have c30b0 : decide (x17_2 < (l4.length : Int)) = true := decide_eq_true cq3
  clear cq3
  replace H := Option.bind_eq_some_iff.mp H
  obtain ⟨⟨tq6, tq7, tq8, tq9, tq10⟩, Aq4, H⟩ := H
  replace H : (if tq10 = 0 then (volutelaw12_Heard.l0 kj22 l3 l4 (wrap64 (2 * (l0.length : Int))) tq4 (wrap64 (x17_2 + 1)) tq6 tq7 tq8) else (some (0, 0, ([] : List (S132)), false))) = some (r1, r2, r3, r4) := H
  have Aq5 := Aside0.mk Aq4
  clear Aq4
  by_cases cq4 : tq10 = 0
  · rw [if_pos cq4] at H
    have c32b0 : (tq10 == 0) = true := beq_iff_eq.mpr cq4
    have c32b1 : (tq10 != 0) = false := bne_eq_false_iff_eq.mpr cq4
    clear cq4
    have H' := Aside0.mk H
    clear H
    have p440 : 0 ≤ (x17_2 : Int) := zod
    have q440 : x17_2 < (tq4.length : Int) := zod
    obtain ⟨ad440, e440, hx440_0⟩ := Kd.at_int (Kd.R_reads' HO_15.out).2.2 x17_2 p440 q440
    cases e440
    replace p440 := eq_true p440
    replace q440 := eq_true q440
    have p441 : 0 ≤ (x17_2 : Int) := zod
    have q441 : x17_2 < (l4.length : Int) := zod
    obtain ⟨ad441, e441, hx441_0⟩ := Kd.at_int HRq2.out x17_2 p441 q441
    cases e441
    replace hx441_0 := (HB.out.cell (World.block_lt_of_cell? w _ hx441_0)).trans hx441_0
    replace p441 := eq_true p441
    replace q441 := eq_true q441
    have hnbq1 := NBq1_427.out
    have hncq1 := NBq0_434.out
    obtain ⟨hczq1_0, hczq1_1, hczq1_2⟩ := zC3 BK434
    obtain ⟨hfzq1_0, hfzq1_1, hfzq1_2⟩ := zF3 BK434
    obtain ⟨Aoq2, coq2, eoq2⟩ := Kd.R_slice HO_435002.out
    subst eoq2
    go_wp2_with (first | ((with_reducible refine gate_callee (f := 29) rfl ?_); refine goesL_ (some 85) rfl rfl Try.func29 (by kernel_rfl) rfl #[.agg #[.int .i64 x435000_2, .int .i64 x435001_2, .slice Aoq2 x435002_2.length coq2], .int .i64 x17_2, .int .i64 (wrap64 (Go.bits .xor .u8 (rd tq4 x17_2) (rd l4 x17_2)))] rfl (by (try simp only [List.map_toArray, List.map_cons, List.map_nil]); first | done | rfl | (simp only [List.length_drop, List.length_take]; rfl)) ?_; (with_reducible refine (pile_Put.calls kj22 x435000_2 x435001_2 _ _ x435002_2 x17_2 (wrap64 (Go.bits .xor .u8 (rd tq4 x17_2) (rd l4 x17_2))) tq6 tq7 tq8 tq9 tq10 _ ?side1 ?side2 Aq5.out).mono ?_); (case side1 => repeat (first | exact (Kd.R_reads' HO_435002.out).2.2 | (with_reducible refine Kd.C_alloc ?_ _) | (with_reducible refine Kd.C_drewN ?_ _) | (with_reducible refine Kd.C_drew ?_))); (case side2 => exact (Kd.R_reads' HO_435002.out).2.1); rintro e wq4 ⟨v445, rfl, ho0, hb⟩; refine ⟨_, rfl, ?_⟩; replace HO_15 := zR HO_15 hb; have HO446 := Aside0.mk (Kd.R_lower (Kd.R_new' ho0 (Kd.R_lt (zr_ HO_435002))) (below_size (zB HB))); replace HO_435002 := Aside0.mk (Kd.R_elder' (zr_ HO_435002) (Kd.R_base ho0) hb); replace BK427 := zb BK427 hb; replace BK434 := zb BK434 hb; replace HB := zs HB hb; (try clear hb); (try clear hb2); (try clear hk); (try clear hi); (try clear ho0)) | ((with_reducible refine gate_dst (N := 19) rfl ?_); (try (refine gate_guard (by rfl) ?_; dsimp only)); refine box_event ?hg (N := 19) ?hd (cs := #[.int .i64 0, .int .i64 0, .slice none 0 0]) (t := 49) ?hr ?_; (case hd => rfl); (case hg => rfl); (case hr => go_simp <;> rfl); intro gb449 hg wq5 hbox hb; replace HO_15 := zR HO_15 hb; replace HO_435002 := zR HO_435002 hb; replace HO446 := zR HO446 hb; have BK449 := Aside0.mk (hbox); have GW449 := zg HB hg; have GE449 := zg HB hg; replace HB := zs HB hb; have NB427_449 := zl BK427 hg; have NB449_427 := zr BK427 hg; replace BK427 := zb BK427 hb; have NB434_449 := zl BK434 hg; have NB449_434 := zr BK434 hg; replace BK434 := zb BK434 hb; clear hb hbox hg; have hnbq2 := NB449_427.out; have hncq2 := NB427_449.out; have hnbq3 := NB449_434.out; have hncq3 := NB434_449.out; obtain ⟨hczq2_0, hczq2_1, hczq2_2⟩ := zC3 BK449; obtain ⟨hfzq2_0, hfzq2_1, hfzq2_2⟩ := zF3 BK449; obtain ⟨Aoq3, coq3, eoq3⟩ := Kd.R_slice HO446.out; subst eoq3; obtain ⟨hczq3_0, hczq3_1, hczq3_2⟩ := zC3 BK434; obtain ⟨hfzq3_0, hfzq3_1⟩ := zF2 BK434; have hfzq3_2 := blk_frozen BK434.out 2))
    go_roundg kj22
    case measure => have := HJq0.out; have := HKq0.out; have := HJq1.out; omega
    case rel => exact ⟨(wrap64 (x17_2 + 1)), (x428000_2), (x428001_2), (tq6), (tq7), (tq8), (.slice Aoq3 tq8.length coq3), (by first | rfl | (simp; done) | (simp [*]; done)), H', ⟨by have := HJq0.out; have := HKq0.out; have := HJq1.out; omega⟩, ⟨by (with_reducible repeat (first | apply Kd.R_alloc | apply Kd.R_drewN | apply Kd.R_drew)); exact Kd.R_mono (Kd.R_far (p := ⟨gbq1, 2, none⟩) (Kd.R_far (p := ⟨gbq1, 1, none⟩) (Kd.R_far (p := ⟨gbq1, 0, none⟩) (Kd.R_far (p := ⟨gb449, 2, none⟩) (Kd.R_far (p := ⟨gb449, 1, none⟩) (Kd.R_far (p := ⟨gb449, 0, none⟩) (Kd.R_types (Kd.R_types HO_15.out BK449.out (by decide)) BK434.out (by decide)) (fun _ hk => hk.1.2) (.int .i64 tq6)) (fun _ hk => hk.1.2) (.int .i64 tq7)) (fun _ hk => hk.1.2) (.slice Aoq3 tq8.length coq3)) (fun _ hk => hk.2) (.int .i64 tq6)) (fun _ hk => hk.2) (.int .i64 tq7)) (fun _ hk => hk.2) (.slice Aoq3 tq8.length coq3)) (fun _ hk => trivial)⟩, ⟨by (with_reducible repeat (first | apply Kd.R_alloc | apply Kd.R_drewN | apply Kd.R_drew)); exact Kd.R_mono (Kd.R_far (p := ⟨gbq1, 2, none⟩) (Kd.R_far (p := ⟨gbq1, 1, none⟩) (Kd.R_far (p := ⟨gbq1, 0, none⟩) (Kd.R_far (p := ⟨gb449, 2, none⟩) (Kd.R_far (p := ⟨gb449, 1, none⟩) (Kd.R_far (p := ⟨gb449, 0, none⟩) (Kd.R_types (Kd.R_types HO446.out BK449.out (by decide)) BK434.out (by decide)) (fun _ hk => hk.1.2) (.int .i64 tq6)) (fun _ hk => hk.1.2) (.int .i64 tq7)) (fun _ hk => hk.1.2) (.slice Aoq3 tq8.length coq3)) (fun _ hk => hk.2) (.int .i64 tq6)) (fun _ hk => hk.2) (.int .i64 tq7)) (fun _ hk => hk.2) (.slice Aoq3 tq8.length coq3)) (fun _ hk => trivial)⟩, ⟨by refine blk_far ?_ NBq0_434.out _; refine blk_far ?_ NBq0_434.out _; refine blk_far ?_ NBq0_434.out _; refine blk_far ?_ NB427_449.out _; refine blk_far ?_ NB427_449.out _; refine blk_far ?_ NB427_449.out _; (with_reducible repeat (first | refine blk_drewN ?_ _ | refine blk_drew ?_ | refine blk_alloc ?_ _)); exact BK427.out⟩, ⟨by refine blk_put (cs := #[.int .i64 tq6, .int .i64 tq7, .slice Aoq2 x435002_2.length coq2]) ?_ 2 _ rfl; refine blk_put (cs := #[.int .i64 tq6, .int .i64 x435001_2, .slice Aoq2 x435002_2.length coq2]) ?_ 1 _ rfl; refine blk_put (cs := #[.int .i64 x435000_2, .int .i64 x435001_2, .slice Aoq2 x435002_2.length coq2]) ?_ 0 _ rfl; refine blk_far ?_ NB434_449.out _; refine blk_far ?_ NB434_449.out _; refine blk_far ?_ NB434_449.out _; (with_reducible repeat (first | refine blk_drewN ?_ _ | refine blk_drew ?_ | refine blk_alloc ?_ _)); exact BK434.out⟩, ⟨by repeat (first | (with_reducible first | exact HB.out | apply below_alloc | apply pw_below_drewN | apply below_drew1 | refine below_set ?_ GEq0.out | refine below_set ?_ GEq1.out | refine below_set ?_ GE449.out) | exact HB.out)⟩⟩
  rw [if_neg cq4] at H
  have c32b0 : (tq10 == 0) = false := beq_eq_false_iff_ne.mpr cq4
  have c32b1 : (tq10 != 0) = true := bne_iff_ne.mpr cq4
  simp only [Option.some.injEq, Prod.mk.injEq] at H
  obtain ⟨rfl, rfl, rfl, rfl⟩ := H
  have p440 : 0 ≤ (x17_2 : Int) := zod
  have q440 : x17_2 < (tq4.length : Int) := zod
  obtain ⟨ad440, e440, hx440_0⟩ := Kd.at_int (Kd.R_reads' HO_15.out).2.2 x17_2 p440 q440
  cases e440
  replace p440 := eq_true p440
  replace q440 := eq_true q440
  have p441 : 0 ≤ (x17_2 : Int) := zod
  have q441 : x17_2 < (l4.length : Int) := zod
  obtain ⟨ad441, e441, hx441_0⟩ := Kd.at_int HRq2.out x17_2 p441 q441
  cases e441
  replace hx441_0 := (HB.out.cell (World.block_lt_of_cell? w _ hx441_0)).trans hx441_0
  replace p441 := eq_true p441
  replace q441 := eq_true q441
  have hnbq1 := NBq1_427.out
  have hncq1 := NBq0_434.out
  obtain ⟨hczq1_0, hczq1_1, hczq1_2⟩ := zC3 BK434
  obtain ⟨hfzq1_0, hfzq1_1, hfzq1_2⟩ := zF3 BK434
  obtain ⟨Aoq2, coq2, eoq2⟩ := Kd.R_slice HO_435002.out
  subst eoq2
  go_wp2_with (first | ((with_reducible refine gate_callee (f := 29) rfl ?_); refine goesL_ (some 85) rfl rfl Try.func29 (by kernel_rfl) rfl #[.agg #[.int .i64 x435000_2, .int .i64 x435001_2, .slice Aoq2 x435002_2.length coq2], .int .i64 x17_2, .int .i64 (wrap64 (Go.bits .xor .u8 (rd tq4 x17_2) (rd l4 x17_2)))] rfl (by (try simp only [List.map_toArray, List.map_cons, List.map_nil]); first | done | rfl | (simp only [List.length_drop, List.length_take]; rfl)) ?_; (with_reducible refine (pile_Put.calls kj22 x435000_2 x435001_2 _ _ x435002_2 x17_2 (wrap64 (Go.bits .xor .u8 (rd tq4 x17_2) (rd l4 x17_2))) tq6 tq7 tq8 tq9 tq10 _ ?side1 ?side2 Aq5.out).mono ?_); (case side1 => repeat (first | exact (Kd.R_reads' HO_435002.out).2.2 | (with_reducible refine Kd.C_alloc ?_ _) | (with_reducible refine Kd.C_drewN ?_ _) | (with_reducible refine Kd.C_drew ?_))); (case side2 => exact (Kd.R_reads' HO_435002.out).2.1); rintro e wq4 ⟨v445, rfl, ho0, hb⟩; refine ⟨_, rfl, ?_⟩; replace HO_15 := zR HO_15 hb; have HO446 := Aside0.mk (Kd.R_lower (Kd.R_new' ho0 (Kd.R_lt (zr_ HO_435002))) (below_size (zB HB))); replace HO_435002 := Aside0.mk (Kd.R_elder' (zr_ HO_435002) (Kd.R_base ho0) hb); replace BK427 := zb BK427 hb; replace BK434 := zb BK434 hb; replace HB := zs HB hb; (try clear hb); (try clear hb2); (try clear hk); (try clear hi); (try clear ho0)) | ((with_reducible refine gate_dst (N := 19) rfl ?_); (try (refine gate_guard (by rfl) ?_; dsimp only)); refine box_event ?hg (N := 19) ?hd (cs := #[.int .i64 0, .int .i64 0, .slice none 0 0]) (t := 49) ?hr ?_; (case hd => rfl); (case hg => rfl); (case hr => go_simp <;> rfl); intro gb449 hg wq5 hbox hb; replace HO_15 := zR HO_15 hb; replace HO_435002 := zR HO_435002 hb; replace HO446 := zR HO446 hb; have BK449 := Aside0.mk (hbox); have GW449 := zg HB hg; have GE449 := zg HB hg; replace HB := zs HB hb; have NB427_449 := zl BK427 hg; have NB449_427 := zr BK427 hg; replace BK427 := zb BK427 hb; have NB434_449 := zl BK434 hg; have NB449_434 := zr BK434 hg; replace BK434 := zb BK434 hb; clear hb hbox hg; have hnbq2 := NB449_427.out; have hncq2 := NB427_449.out; have hnbq3 := NB449_434.out; have hncq3 := NB434_449.out; obtain ⟨hczq2_0, hczq2_1, hczq2_2⟩ := zC3 BK449; obtain ⟨hfzq2_0, hfzq2_1, hfzq2_2⟩ := zF3 BK449; obtain ⟨Aoq3, coq3, eoq3⟩ := Kd.R_slice HO446.out; subst eoq3; obtain ⟨hczq3_0, hczq3_1, hczq3_2⟩ := zC3 BK427; obtain ⟨hfzq3_0, hfzq3_1⟩ := zF2 BK427; have hfzq3_2 := blk_frozen BK427.out 2))
  refine bodyPost_ret (results_ct rfl _ _ gbq0 49 #[.int .i64 0, .int .i64 0, .slice none 0 0] (0, 0) _ rfl (by refine blk_put (cs := #[.int .i64 0, .int .i64 0, .slice none 0 0]) ?_ 2 _ rfl; refine blk_put (cs := #[.int .i64 0, .int .i64 x428001_2, .slice none 0 0]) ?_ 1 _ rfl; refine blk_put (cs := #[.int .i64 x428000_2, .int .i64 x428001_2, .slice none 0 0]) ?_ 0 _ rfl; refine blk_far ?_ NB427_449.out _; refine blk_far ?_ NB427_449.out _; refine blk_far ?_ NB427_449.out _; (with_reducible repeat (first | refine blk_drewN ?_ _ | refine blk_drew ?_ | refine blk_alloc ?_ _)); exact BK427.out) Try.underlying49 rfl (by kernel_rfl)) rfl ?_
  exact ⟨_, by first | rfl | (simp [errW_none, errW_some] <;> rfl) | (simp [*, errW_none, errW_some] <;> rfl), by first | exact Kd.R_nil _ _ _ _ _ | exact Kd.N_nil _ _ _ _ _ | exact Kd.V_nil _ _ _ _ _ | exact Kd.Q_nil _ _ _ _ _ | exact Kd.S_nil _ _ _ _ _, by repeat (first | (with_reducible first | exact HB.out | apply below_alloc | apply pw_below_drewN | apply below_drew1 | refine below_set ?_ GEq0.out | refine below_set ?_ GEq1.out | refine below_set ?_ GE449.out) | exact HB.out)⟩
noncomputable def volutelaw12_wakes.f (k : Nat)  : Option (Bool) := (volutelaw12_Heard.f k (([90] : List Int)) 4 8 ([] : List Bool) ([] : List Int)).bind fun bt463 => (if bt463.2.2.2 = true then ((beam_Decode.f bt463.1 bt463.2.1 bt463.2.2.1 2 1).bind fun bt470 => (if bt470.2.2 = 0 then (if bt470.2.1 = 0 then ((volutekeep_Ints.f k bt470.1 (([5, 10] : List Int))).bind fun t478 => (some t478)) else (some false)) else (some false))) else (some false))
set_option maxHeartbeats 8000000 in
set_option maxRecDepth 100000 in
theorem volutelaw12_wakes.calls (k : Nat)  (w : World) (h : volutelaw12_wakes.f k  = some true) :
    Calls Try.prog 30 #[] w fun e w' => e = .returned (.bool true) ∧ Below w.heap.size w w' := by
 have huq0 := Try.underlying49
 have HB := Aside0.mk (Below.refl w.heap.size w)
 have H : ((volutelaw12_Heard.f k (([90] : List Int)) 4 8 ([] : List Bool) ([] : List Int)).bind fun bt463 => (if bt463.2.2.2 = true then ((beam_Decode.f bt463.1 bt463.2.1 bt463.2.2.1 2 1).bind fun bt470 => (if bt470.2.2 = 0 then (if bt470.2.1 = 0 then ((volutekeep_Ints.f k bt470.1 (([5, 10] : List Int))).bind fun t478 => (some t478)) else (some false)) else (some false))) else (some false))) = some true := h
 clear h
 obtain ⟨y460, hy460⟩ : ∃ y_ : List Int, y_ = (([90] : List Int)) := ⟨_, rfl⟩
 replace H : ((volutelaw12_Heard.f k y460 4 8 ([] : List Bool) ([] : List Int)).bind fun bt463 => (if bt463.2.2.2 = true then ((beam_Decode.f bt463.1 bt463.2.1 bt463.2.2.1 2 1).bind fun bt470 => (if bt470.2.2 = 0 then (if bt470.2.1 = 0 then ((volutekeep_Ints.f k bt470.1 (([5, 10] : List Int))).bind fun t478 => (some t478)) else (some false)) else (some false))) else (some false))) = some true := by first | (rw [hy460]; with_reducible exact H) | (have H2_ := (Option.bind_some _ _).symm.trans H; rw [hy460]; with_reducible exact H2_) | (have H2_ := (Option.bind_some _ _).symm.trans H; with_reducible exact H2_) | with_reducible exact H | (rw [hy460]; exact H) | exact H
 have Nyq0 := Aside0.mk hy460
 clear hy460
 replace H := Option.bind_eq_some_iff.mp H
 obtain ⟨⟨tq0, tq1, tq2, tq3⟩, Aq0, H⟩ := H
 replace H : (if tq3 = true then ((beam_Decode.f tq0 tq1 tq2 2 1).bind fun bt470 => (if bt470.2.2 = 0 then (if bt470.2.1 = 0 then ((volutekeep_Ints.f k bt470.1 (([5, 10] : List Int))).bind fun t478 => (some t478)) else (some false)) else (some false))) else (some false)) = some true := H
 have Aq1 := Aside0.mk Aq0
 clear Aq0
 by_cases c2 : tq3 = true
 rotate_left
 · replace c2 := Bool.eq_false_iff.mpr c2
   subst c2
   have H1 : (some false) = some true := by rw [if_neg (show ¬ (false = true) by decide)] at H; exact H
   clear H
   have H := H1
   clear H1
   exact absurd (Option.some.inj H) (by decide)
 subst c2
 have H1 : ((beam_Decode.f tq0 tq1 tq2 2 1).bind fun bt470 => (if bt470.2.2 = 0 then (if bt470.2.1 = 0 then ((volutekeep_Ints.f k bt470.1 (([5, 10] : List Int))).bind fun t478 => (some t478)) else (some false)) else (some false))) = some true := by first | (rw [if_pos rfl] at H; exact H) | exact (if_pos rfl).symm.trans H
 clear H
 have H := H1
 clear H1
 replace H := Option.bind_eq_some_iff.mp H
 obtain ⟨⟨tq4, tq5, tq6⟩, Aq2, H⟩ := H
 replace H : (if tq6 = 0 then (if tq5 = 0 then ((volutekeep_Ints.f k tq4 (([5, 10] : List Int))).bind fun t478 => (some t478)) else (some false)) else (some false)) = some true := H
 have Aq3 := Aside0.mk Aq2
 clear Aq2
 by_cases cq0 : tq6 = 0
 rotate_left
 · rw [if_neg cq0] at H
   have c4b0 : (tq6 == 0) = false := beq_eq_false_iff_ne.mpr cq0
   have c4b1 : (tq6 != 0) = true := bne_iff_ne.mpr cq0
   exact absurd (Option.some.inj H) (by decide)
 rw [if_pos cq0] at H
 have c4b0 : (tq6 == 0) = true := beq_iff_eq.mpr cq0
 have c4b1 : (tq6 != 0) = false := bne_eq_false_iff_eq.mpr cq0
 clear cq0
 by_cases cq1 : tq5 = 0
 rotate_left
 · rw [if_neg cq1] at H
   have c5b0 : (tq5 == 0) = false := beq_eq_false_iff_ne.mpr cq1
   have c5b1 : (tq5 != 0) = true := bne_iff_ne.mpr cq1
   exact absurd (Option.some.inj H) (by decide)
 rw [if_pos cq1] at H
 have c5b0 : (tq5 == 0) = true := beq_iff_eq.mpr cq1
 have c5b1 : (tq5 != 0) = false := bne_eq_false_iff_eq.mpr cq1
 clear cq1
 obtain ⟨y475, hy475⟩ : ∃ y_ : List Int, y_ = (([5, 10] : List Int)) := ⟨_, rfl⟩
 replace H : ((volutekeep_Ints.f k tq4 y475).bind fun t478 => (some t478)) = some true := by first | (rw [hy475]; with_reducible exact H) | (have H2_ := (Option.bind_some _ _).symm.trans H; rw [hy475]; with_reducible exact H2_) | (have H2_ := (Option.bind_some _ _).symm.trans H; with_reducible exact H2_) | with_reducible exact H | (rw [hy475]; exact H) | exact H
 have Nyq1 := Aside0.mk hy475
 clear hy475
 replace H := Option.bind_eq_some_iff.mp H
 obtain ⟨t478, Aq4, H⟩ := H
 replace H : (some t478) = some true := H
 have Aq5 := Aside0.mk Aq4
 clear Aq4
 obtain rfl : t478 = true := Option.some.inj H
 go_enter Try.func30, Try.ntmps30
 go_wp2_with (first | ((with_reducible refine gate_dst (N := 7) rfl ?_); (try (refine gate_guard (by rfl) ?_; dsimp only)); refine Kd.R_lit (Kd.int .u8) _ 5 ?hg (N := 7) ?hd (xs := ([90] : List Int)) (inner := [.int .u8 90]) (ok := fun _ => True) (okp := fun _ => True) ?hr ?hp (fun _ hk => hk) trivial (Below.refl _ _) (Nat.le_refl _) (by simp) ?_; (case hd => rfl); (case hg => rfl); (case hr => go_simp <;> rfl); (case hp => exact (Reps.one (show Kd.M (Kd.int .u8) _ _ _ 90 [.int .u8 90] from rfl) (Reps.none _ _))); intro vq0 wq0 hoq0 hb hg_ hnew_; clear hg_ hnew_; (first | rw [← Nyq0.out] at hoq0 | (simp only [Int.reduceToNat] at hoq0; rw [← Nyq0.out] at hoq0)); have HOq0 := Aside0.mk (Kd.R_lower hoq0 (below_size (zB HB))); replace HB := zs HB hb; clear hb hoq0; obtain ⟨Aoq0, coq0, eoq0⟩ := Kd.R_slice HOq0.out; subst eoq0) | ((with_reducible refine gate_callee (f := 31) rfl ?_); refine goesL_ (some 8) rfl rfl Try.func31 (by kernel_rfl) rfl #[.slice Aoq0 y460.length coq0, .int .i64 4, .int .i64 8, .slice none 0 0, .slice none 0 0] rfl (by (try simp only [List.map_toArray, List.map_cons, List.map_nil]); first | done | rfl | (simp only [List.length_drop, List.length_take]; rfl)) ?_; (refine (volutelaw12_Heard.calls k _ _ y460 4 8 _ _ ([] : List Bool) _ _ ([] : List Int) tq0 tq1 tq2 true _ ?side1 ?side2 ?side3 ?side4 ?side5 ?side6 Aq1.out).mono ?_); (case side1 => repeat (first | exact (Kd.R_reads' HOq0.out).2.2 | (with_reducible refine Kd.C_alloc ?_ _) | (with_reducible refine Kd.C_drewN ?_ _) | (with_reducible refine Kd.C_drew ?_))); (case side2 => exact (Kd.R_reads' HOq0.out).2.1); (case side3 => exact Kd.C_nil _ _); (case side4 => exact Nat.le_refl _); (case side5 => exact Kd.C_nil _ _); (case side6 => exact Nat.le_refl _); rintro e wq1 ⟨vq1, rfl, hoq1, hb⟩; refine ⟨_, rfl, ?_⟩; replace HOq0 := zR HOq0 hb; have HOq1 := Aside0.mk (Kd.R_lower hoq1 (below_size (zB HB))); replace HB := zs HB hb; (try clear hb); (try clear hb2); (try clear hk); (try clear hi); (try clear hoq1)) | ((with_reducible refine gate_dst (N := 1) rfl ?_); (try (refine gate_guard (by rfl) ?_; dsimp only)); refine box_event ?hg (N := 1) ?hd (cs := #[.int .i64 0, .int .i64 0, .slice none 0 0]) (t := 49) ?hr ?_; (case hd => rfl); (case hg => rfl); (case hr => go_simp <;> rfl); intro gbq0 hg wq2 hbox hb; replace HOq0 := zR HOq0 hb; replace HOq1 := zR HOq1 hb; have BKq0 := Aside0.mk (hbox); have GWq0 := zg HB hg; have GEq0 := zg HB hg; replace HB := zs HB hb; clear hb hbox hg; obtain ⟨hczq0_0, hczq0_1, hczq0_2⟩ := zC3 BKq0; obtain ⟨hfzq0_0, hfzq0_1, hfzq0_2⟩ := zF3 BKq0; obtain ⟨Aoq1, coq1, eoq1⟩ := Kd.R_slice HOq1.out; subst eoq1) | ((with_reducible refine gate_callee (f := 27) rfl ?_); refine goesL_ (some 15) rfl rfl Try.func27 (by kernel_rfl) rfl #[.agg #[.int .i64 tq0, .int .i64 tq1, .slice Aoq1 tq2.length coq1], .int .i64 2, .int .i64 1] rfl (by (try simp only [List.map_toArray, List.map_cons, List.map_nil]); first | done | rfl | (simp only [List.length_drop, List.length_take]; rfl)) ?_; (with_reducible refine (beam_Decode.calls tq0 tq1 _ _ tq2 2 1 tq4 tq5 tq6 _ ?side1 ?side2 Aq3.out).mono ?_); (case side1 => refine (Kd.R_reads' (e := 132) (base := w.heap.size) (ok := fun k_ => True) (n := tq2.length) (c := coq1) ?_).2.2; exact (by (with_reducible repeat (first | apply Kd.R_alloc | apply Kd.R_drewN | apply Kd.R_drew)); exact (Kd.R_mono (Kd.R_far (p := ⟨gbq0, 2, none⟩) (Kd.R_far (p := ⟨gbq0, 1, none⟩) (Kd.R_far (p := ⟨gbq0, 0, none⟩) (Kd.R_types HOq1.out BKq0.out (by decide)) (fun _ hk => hk.2) (.int .i64 tq0)) (fun _ hk => hk.2) (.int .i64 tq1)) (fun _ hk => hk.2) (.slice Aoq1 tq2.length coq1)) (fun _ h_ => h_.1)))); (case side2 => exact (Kd.R_reads' HOq1.out).2.1); rintro e wq3 ⟨vq2, rfl, hoq1, hb⟩; refine ⟨_, rfl, ?_⟩; have nq0_ := Aside0.mk (Kd.R_below (by (with_reducible repeat (first | apply Kd.R_alloc | apply Kd.R_drewN | apply Kd.R_drew)); exact (Kd.R_mono (Kd.R_far (p := ⟨gbq0, 2, none⟩) (Kd.R_far (p := ⟨gbq0, 1, none⟩) (Kd.R_far (p := ⟨gbq0, 0, none⟩) (Kd.R_types HOq0.out BKq0.out (by decide)) (fun _ hk => hk.2) (.int .i64 tq0)) (fun _ hk => hk.2) (.int .i64 tq1)) (fun _ hk => hk.2) (.slice Aoq1 tq2.length coq1)) (fun _ h_ => h_.1))) hb); have nq1_ := Aside0.mk (Kd.R_below (by (with_reducible repeat (first | apply Kd.R_alloc | apply Kd.R_drewN | apply Kd.R_drew)); exact (Kd.R_mono (Kd.R_far (p := ⟨gbq0, 2, none⟩) (Kd.R_far (p := ⟨gbq0, 1, none⟩) (Kd.R_far (p := ⟨gbq0, 0, none⟩) (Kd.R_types HOq1.out BKq0.out (by decide)) (fun _ hk => hk.2) (.int .i64 tq0)) (fun _ hk => hk.2) (.int .i64 tq1)) (fun _ hk => hk.2) (.slice Aoq1 tq2.length coq1)) (fun _ h_ => h_.1))) hb); have nq2_ := Aside0.mk (Kd.R_lower hoq1 (below_size (zB HB))); have nq3_ := Aside0.mk (blk_below (g := gbq0) (o := .cells #[.int .i64 tq0, .int .i64 tq1, .slice Aoq1 tq2.length coq1] 49 (0, 0)) (by refine blk_put (cs := #[.int .i64 tq0, .int .i64 tq1, .slice none 0 0]) ?_ 2 _ rfl; refine blk_put (cs := #[.int .i64 tq0, .int .i64 0, .slice none 0 0]) ?_ 1 _ rfl; refine blk_put (cs := #[.int .i64 0, .int .i64 0, .slice none 0 0]) ?_ 0 _ rfl; (with_reducible repeat (first | refine blk_drewN ?_ _ | refine blk_drew ?_ | refine blk_alloc ?_ _)); exact BKq0.out) hb); have nq4_ := zs HB hb; clear HOq0; clear HOq1; clear BKq0; clear HB; have HOq0 := nq0_; have HOq1 := nq1_; have HOq2 := nq2_; have BKq0 := nq3_; have HB := nq4_; clear nq0_ nq1_ nq2_ nq3_ nq4_; (try clear hb); (try clear hb2); (try clear hk); (try clear hi); (try clear hoq1)) | ((with_reducible refine gate_dst (N := 27) rfl ?_); (try (refine gate_guard (by rfl) ?_; dsimp only)); refine Kd.R_lit (Kd.int .i64) _ 3 ?hg (N := 27) ?hd (xs := ([5, 10] : List Int)) (inner := [.int .i64 5, .int .i64 10]) (ok := fun _ => True) (okp := fun _ => True) ?hr ?hp (fun _ hk => hk) trivial (Below.refl _ _) (Nat.le_refl _) (by simp) ?_; (case hd => rfl); (case hg => rfl); (case hr => go_simp <;> rfl); (case hp => exact (Reps.one (show Kd.M (Kd.int .i64) _ _ _ 5 [.int .i64 5] from rfl) (Reps.one (show Kd.M (Kd.int .i64) _ _ _ 10 [.int .i64 10] from rfl) (Reps.none _ _)))); intro vq3 wq4 hoq2 hb hg_ hnew_; clear hg_ hnew_; (first | rw [← Nyq1.out] at hoq2 | (simp only [Int.reduceToNat] at hoq2; rw [← Nyq1.out] at hoq2)); replace HOq0 := zR HOq0 hb; replace HOq1 := zR HOq1 hb; have HOq3 := Aside0.mk (Kd.R_lower (Kd.R_new' hoq2 (Kd.R_lt (zr_ HOq2))) (below_size (zB HB))); replace HOq2 := Aside0.mk (Kd.R_elder' (zr_ HOq2) (Kd.R_base hoq2) hb); replace BKq0 := zb BKq0 hb; replace HB := zs HB hb; clear hb hoq2; obtain ⟨Aoq2, coq2, eoq2⟩ := Kd.R_slice HOq2.out; subst eoq2; obtain ⟨Aoq3, coq3, eoq3⟩ := Kd.R_slice HOq3.out; subst eoq3) | (go_at_call 35; (with_reducible refine (volutekeep_Ints.calls k _ _ tq4 _ _ y475 true _ ?side1 ?side2 ?side3 ?side4 Aq5.out).mono ?_); (case side1 => repeat (first | exact (Kd.R_reads' HOq2.out).2.2 | (with_reducible refine Kd.C_alloc ?_ _) | (with_reducible refine Kd.C_drewN ?_ _) | (with_reducible refine Kd.C_drew ?_))); (case side2 => exact (Kd.R_reads' HOq2.out).2.1); (case side3 => repeat (first | exact (Kd.R_reads' HOq3.out).2.2 | (with_reducible refine Kd.C_alloc ?_ _) | (with_reducible refine Kd.C_drewN ?_ _) | (with_reducible refine Kd.C_drew ?_))); (case side4 => exact (Kd.R_reads' HOq3.out).2.1); rintro e w' ⟨rfl, ⟨nd, rfl⟩⟩))
 go_ret
 exact ⟨by first | rfl | (simp [errW_none, errW_some] <;> rfl) | (simp [*, errW_none, errW_some] <;> rfl), by repeat (first | (with_reducible first | exact HB.out | apply below_alloc | apply pw_below_drewN | apply below_drew1 | refine below_set ?_ GEq0.out) | exact HB.out)⟩
end Go.Proofs.Ytlolfijadcflaaa.P
