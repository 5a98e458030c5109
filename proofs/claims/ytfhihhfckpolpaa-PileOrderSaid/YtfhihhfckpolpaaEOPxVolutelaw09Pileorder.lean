/- What the law's proof needs: PxVolutelaw09Pileorder. -/
import Derived.Test.YtfhihhfckpolpaaEOPx0
import Derived.Test.YtfhihhfckpolpaaEOPxVolutekeep
import Derived.Test.YtfhihhfckpolpaaEOPxPile
import Derived.Test.YtfhihhfckpolpaaEOPxVolutelaw09
import Derived.Test.YtfhihhfckpolpaaEOShort
namespace Go.Proofs.Ytfhihhfckpolpaa.P
open Go.RowKit Go.Proofs.YtfhihhfckpolpaaW.PrintWords Go.Proofs.YtfhihhfckpolpaaW.PrintLast Go.Proofs.YtfhihhfckpolpaaW.PrintMore
attribute [local go_sem] max2_int min2_int max_two min_two max_three min_three max_four min_four   -- for this text's walks alone
set_option linter.unusedVariables false
set_option linter.unusedSimpArgs false
mutual
def volutelaw09_PileOrder.j0 : Nat → Int → Int → List Int → List Int → Int → Bool → Option (Bool)
  | 0, _, _, _, _, _, _ => none
  | k + 1, x0, x1, x2, x3, x9, x47 => if x47 = true then (some true) else ((pile_New.f x0 x1).bind fun bt348 => ((pile_New.f x0 x1).bind fun bt355 => (if bt348.2.2.2 = 0 then (volutelaw09_PileOrder.j1 k x2 x3 x9 (bt355.2.2.2 != 0) bt348.1 bt348.2.1 bt348.2.2.1 bt355.1 bt355.2.1 bt355.2.2.1) else (volutelaw09_PileOrder.j1 k x2 x3 x9 true bt348.1 bt348.2.1 bt348.2.2.1 bt355.1 bt355.2.1 bt355.2.2.1))))
def volutelaw09_PileOrder.j1 : Nat → List Int → List Int → Int → Bool → Int → Int → List (S88) → Int → Int → List (S88) → Option (Bool)
  | 0, _, _, _, _, _, _, _, _, _, _ => none
  | k + 1, x2, x3, x9, x65, x355000, x355001, x355002, x362000, x362001, x362002 => if x65 = true then (some false) else (volutelaw09_PileOrder.l0 k x2 x3 x9 ([] : List Int) 0 x355000 x355001 x355002 x362000 x362001 x362002)
def volutelaw09_PileOrder.l0 : Nat → List Int → List Int → Int → List Int → Int → Int → Int → List (S88) → Int → Int → List (S88) → Option (Bool)
  | 0, _, _, _, _, _, _, _, _, _, _, _ => none
  | k + 1, x2, x3, x9, x14, x15, x355000, x355001, x355002, x362000, x362001, x362002 => if x15 < (x2.length : Int) then (if x14.length < 17592186044416 then ((some (x14 ++ [x15] : List Int)).bind fun y362 => (if x9 = 0 then (none) else (if 0 ≤ x15 then ((pile_Put.f k x355000 x355001 x355002 (Int.tmod (wrap64 (x15 * 7)) x9) (wrap64 (Int.tmod (IntKind.u64.wrap (rd x2 x15)) 256))).bind fun bt366 => (if bt366.2.2.2.2 = 0 then (if bt366.2.2.2.1 = true then (volutelaw09_PileOrder.l0 k x2 x3 x9 y362 (wrap64 (x15 + 1)) bt366.1 bt366.2.1 bt366.2.2.1 x362000 x362001 x362002) else (if 0 ≤ (wrap64 ((y362.length : Int) - 1)) then (if (wrap64 ((y362.length : Int) - 1)) ≤ (y362.length : Int) then (volutelaw09_PileOrder.l0 k x2 x3 x9 (y362.take ((wrap64 ((y362.length : Int) - 1)) : Int).toNat) (wrap64 (x15 + 1)) bt366.1 bt366.2.1 bt366.2.2.1 x362000 x362001 x362002) else (none)) else (none))) else (some false))) else (none)))) else (none)) else (volutelaw09_PileOrder.l1 k x2 x3 x9 x14 0 x355000 x355001 x355002 x362000 x362001 x362002)
def volutelaw09_PileOrder.j4 : Nat → List Int → Int → List Int → Int → Int → List (S88) → Int → Int → List (S88) → Option (Bool)
  | 0, _, _, _, _, _, _, _, _, _ => none
  | k + 1, x2, x9, x14, x355000, x355001, x355002, x362000, x362001, x362002 => volutelaw09_PileOrder.l2 k x2 x9 x14 0 x355000 x355001 x355002 x362000 x362001 x362002
def volutelaw09_PileOrder.l2 : Nat → List Int → Int → List Int → Int → Int → Int → List (S88) → Int → Int → List (S88) → Option (Bool)
  | 0, _, _, _, _, _, _, _, _, _, _ => none
  | k + 1, x2, x9, x14, x22, x355000, x355001, x355002, x362000, x362001, x362002 => if x22 < (x14.length : Int) then (if 0 ≤ x22 then (if x9 = 0 then (none) else (if 0 ≤ (rd x14 x22) then (if (rd x14 x22) < (x2.length : Int) then ((pile_Put.f k x362000 x362001 x362002 (Int.tmod (wrap64 ((rd x14 x22) * 7)) x9) (wrap64 (Int.tmod (IntKind.u64.wrap (rd x2 (rd x14 x22))) 256))).bind fun bt385 => (if bt385.2.2.2.2 = 0 then (if bt385.2.2.2.1 = true then (volutelaw09_PileOrder.l2 k x2 x9 x14 (wrap64 (x22 + 1)) x355000 x355001 x355002 bt385.1 bt385.2.1 bt385.2.2.1) else (some false)) else (some false))) else (none)) else (none))) else (none)) else ((volutekeep_Pile.f k x355000 x355001 x355002 x362000 x362001 x362002).bind fun t393 => (if t393 = true then (if (x355002.length : Int) = (x14.length : Int) then ((volutelaw09_wakes.f k).bind fun t394 => (some t394)) else (some false)) else (some false)))
def volutelaw09_PileOrder.l1 : Nat → List Int → List Int → Int → List Int → Int → Int → Int → List (S88) → Int → Int → List (S88) → Option (Bool)
  | 0, _, _, _, _, _, _, _, _, _, _, _ => none
  | k + 1, x2, x3, x9, x14, x19, x355000, x355001, x355002, x362000, x362001, x362002 => if x19 < (x3.length : Int) then (if (x14.length : Int) > 0 then (if 0 ≤ x19 then (if (IntKind.u64.wrap ((x14.length : Int))) = 0 then (none) else (if (x14.length : Int) = 0 then (none) else (if 0 ≤ (Int.tmod x19 (x14.length : Int)) then (if (Int.tmod x19 (x14.length : Int)) < (x14.length : Int) then (if 0 ≤ (wrap64 (Int.tmod (IntKind.u64.wrap (rd x3 x19)) (IntKind.u64.wrap ((x14.length : Int))))) then (if (wrap64 (Int.tmod (IntKind.u64.wrap (rd x3 x19)) (IntKind.u64.wrap ((x14.length : Int))))) < (x14.length : Int) then (volutelaw09_PileOrder.l1 k x2 x3 x9 ((x14.set ((wrap64 (Int.tmod (IntKind.u64.wrap (rd x3 x19)) (IntKind.u64.wrap ((x14.length : Int))))) : Int).toNat (rd x14 (Int.tmod x19 (x14.length : Int)))).set ((Int.tmod x19 (x14.length : Int)) : Int).toNat (rd x14 (wrap64 (Int.tmod (IntKind.u64.wrap (rd x3 x19)) (IntKind.u64.wrap ((x14.length : Int))))))) (wrap64 (x19 + 1)) x355000 x355001 x355002 x362000 x362001 x362002) else (none)) else (none)) else (none)) else (none)))) else (none)) else (volutelaw09_PileOrder.j4 k x2 x9 x14 x355000 x355001 x355002 x362000 x362001 x362002)) else (volutelaw09_PileOrder.j4 k x2 x9 x14 x355000 x355001 x355002 x362000 x362001 x362002)
end
def volutelaw09_PileOrder.f (k : Nat) (a0 : Int) (a1 : Int) (l2 : List Int) (l3 : List Int) : Option (Bool) := if (l2.length : Int) > (wrap64 ((wrap64 (1 + (wrap64 (Int.tmod (IntKind.u64.wrap (a0)) 20)))) * (wrap64 (1 + (wrap64 (Int.tmod (IntKind.u64.wrap (a1)) 6)))))) then (volutelaw09_PileOrder.j0 k (wrap64 (1 + (wrap64 (Int.tmod (IntKind.u64.wrap (a0)) 20)))) (wrap64 (1 + (wrap64 (Int.tmod (IntKind.u64.wrap (a1)) 6)))) l2 l3 (wrap64 ((wrap64 (1 + (wrap64 (Int.tmod (IntKind.u64.wrap (a0)) 20)))) * (wrap64 (1 + (wrap64 (Int.tmod (IntKind.u64.wrap (a1)) 6)))))) true) else (volutelaw09_PileOrder.j0 k (wrap64 (1 + (wrap64 (Int.tmod (IntKind.u64.wrap (a0)) 20)))) (wrap64 (1 + (wrap64 (Int.tmod (IntKind.u64.wrap (a1)) 6)))) l2 l3 (wrap64 ((wrap64 (1 + (wrap64 (Int.tmod (IntKind.u64.wrap (a0)) 20)))) * (wrap64 (1 + (wrap64 (Int.tmod (IntKind.u64.wrap (a1)) 6)))))) (decide ((l3.length : Int) > 300)))
def volutelaw09_PileOrder.T14 : Bool × List (List Nat × List Nat) := (true, [([], []), ([], []), ([1], [1]), ([], []), ([2, 3], [2, 3]), ([], []), ([], []), ([5, 6], [5, 6]), ([7], [7]), ([8], [8]), ([9], [9]), ([10], [10]), ([0, 4, 11], [0, 4, 11]), ([12], [12]), ([13], [13]), ([13], [13]), ([13], [13]), ([], []), ([17, 14, 12, 0, 1, 2, 3, 4, 5, 6, 7, 8, 9, 10, 11, 12, 13, 14, 17], [14, 17]), ([15, 18, 0, 1, 2, 3, 4, 5, 6, 7, 8, 9, 10, 11, 12, 13, 14, 15, 17, 18], [15]), ([16, 19, 0, 1, 2, 3, 4, 5, 6, 7, 8, 9, 10, 11, 12, 13, 14, 15, 16, 17, 18, 19], [16])])
def volutelaw09_PileOrder.B14 : List Nat := [0, 0, 2, 0, 14, 0, 0, 96, 224, 480, 992, 2016, 4095, 8191, 16383, 16383, 16383, 0, 163839, 458751, 1048575]
theorem volutelaw09_PileOrder.tab14 : rtab .any (opsOf Try.f9 14) = volutelaw09_PileOrder.T14 := by kernel_rfl
theorem volutelaw09_PileOrder.bits14 : waitsOk volutelaw09_PileOrder.T14.2 volutelaw09_PileOrder.B14 = true := by kernel_rfl
def volutelaw09_PileOrder.T23 : Bool × List (List Nat × List Nat) := (true, [([], []), ([], []), ([0, 1], [0, 1]), ([2], [2]), ([3], [3]), ([], []), ([5], [5]), ([6], [6]), ([4, 7], [4, 7]), ([8], [8]), ([], []), ([], []), ([11], [11]), ([10, 12], [10, 12]), ([9, 0, 1, 2, 3, 4, 5, 6, 7, 8, 9], [9]), ([13, 14, 0, 1, 2, 3, 4, 5, 6, 7, 8, 9, 10, 11, 12, 13, 14], [13])])
def volutelaw09_PileOrder.B23 : List Nat := [0, 0, 3, 7, 15, 0, 32, 96, 255, 511, 0, 0, 2048, 7168, 1023, 32767]
theorem volutelaw09_PileOrder.tab23 : rtab .any (opsOf Try.f9 23) = volutelaw09_PileOrder.T23 := by kernel_rfl
theorem volutelaw09_PileOrder.bits23 : waitsOk volutelaw09_PileOrder.T23.2 volutelaw09_PileOrder.B23 = true := by kernel_rfl
def volutelaw09_PileOrder.T24 : Bool × List (List Nat × List Nat) := (true, [([], []), ([], []), ([], []), ([], []), ([], []), ([], []), ([4, 5], [4, 5]), ([6], [6]), ([], []), ([], []), ([8, 9], [8, 9]), ([10], [10]), ([0, 1, 0, 1, 4, 5, 6, 7, 11], [0, 1]), ([12, 7, 0, 1, 4, 5, 6, 7, 11], [7, 12]), ([2, 3, 0, 1, 2, 3, 4, 5, 6, 7, 8, 9, 10, 11, 12, 13], [2, 3]), ([14, 11, 13, 0, 1, 2, 3, 4, 5, 6, 7, 8, 9, 10, 11, 12, 13], [11, 14])])
def volutelaw09_PileOrder.B24 : List Nat := [0, 0, 0, 0, 0, 0, 48, 112, 0, 0, 768, 1792, 4083, 8179, 16383, 32767]
theorem volutelaw09_PileOrder.tab24 : rtab .any (opsOf Try.f9 24) = volutelaw09_PileOrder.T24 := by kernel_rfl
theorem volutelaw09_PileOrder.bits24 : waitsOk volutelaw09_PileOrder.T24.2 volutelaw09_PileOrder.B24 = true := by kernel_rfl
def volutelaw09_PileOrder.T28 : Bool × List (List Nat × List Nat) := (true, [([], []), ([], []), ([], []), ([1, 2], [1, 2]), ([3], [3]), ([4], [4]), ([], []), ([5, 6], [5, 6]), ([], []), ([], []), ([], []), ([9, 10], [9, 10]), ([11], [11]), ([8, 12], [8, 12]), ([13], [13]), ([14], [14]), ([15], [15]), ([16], [16]), ([0, 7, 17], [0, 7, 17]), ([18], [18]), ([19], [19]), ([19], [19]), ([19], [19]), ([], []), ([23, 20, 18, 0, 1, 2, 3, 4, 5, 6, 7, 8, 9, 10, 11, 12, 13, 14, 15, 16, 17, 18, 19, 20, 23], [20, 23]), ([21, 24, 0, 1, 2, 3, 4, 5, 6, 7, 8, 9, 10, 11, 12, 13, 14, 15, 16, 17, 18, 19, 20, 21, 23, 24], [21]), ([22, 25, 0, 1, 2, 3, 4, 5, 6, 7, 8, 9, 10, 11, 12, 13, 14, 15, 16, 17, 18, 19, 20, 21, 22, 23, 24, 25], [22])])
def volutelaw09_PileOrder.B28 : List Nat := [0, 0, 0, 6, 14, 30, 0, 126, 0, 0, 0, 1536, 3584, 7936, 16128, 32512, 65280, 130816, 262143, 524287, 1048575, 1048575, 1048575, 0, 10485759, 29360127, 67108863]
theorem volutelaw09_PileOrder.tab28 : rtab .any (opsOf Try.f9 28) = volutelaw09_PileOrder.T28 := by kernel_rfl
theorem volutelaw09_PileOrder.bits28 : waitsOk volutelaw09_PileOrder.T28.2 volutelaw09_PileOrder.B28 = true := by kernel_rfl
set_option maxHeartbeats 8000000 in
set_option maxRecDepth 100000 in
theorem volutelaw09_PileOrder.calls (k : Nat) (a0 : Int) (a1 : Int) (A2 : Option Addr) (c2 : Nat) (l2 : List Int) (A3 : Option Addr) (c3 : Nat) (l3 : List Int) (w : World) (hr2 : Kd.C (Kd.int .i64) w A2 l2.length l2) (hc2 : l2.length ≤ c2) (hr3 : Kd.C (Kd.int .i64) w A3 l3.length l3) (hc3 : l3.length ≤ c3) (h : volutelaw09_PileOrder.f k a0 a1 l2 l3 = some true) :
    Calls Try.prog 9 #[.int .i64 a0, .int .i64 a1, .slice A2 l2.length c2, .slice A3 l3.length c3] w fun e w' => e = .returned (.bool true) ∧ Below w.heap.size w w' := by
  have hu67 := Try.underlying67
  have HR2 := Aside0.mk hr2
  have HC2 := Aside0.mk hc2
  clear hr2 hc2
  have HR3 := Aside0.mk hr3
  have HC3 := Aside0.mk hc3
  clear hr3 hc3
  have HB := Aside0.mk (Below.refl w.heap.size w)
  have H : (if (l2.length : Int) > (wrap64 ((wrap64 (1 + (wrap64 (Int.tmod (IntKind.u64.wrap (a0)) 20)))) * (wrap64 (1 + (wrap64 (Int.tmod (IntKind.u64.wrap (a1)) 6)))))) then (volutelaw09_PileOrder.j0 k (wrap64 (1 + (wrap64 (Int.tmod (IntKind.u64.wrap (a0)) 20)))) (wrap64 (1 + (wrap64 (Int.tmod (IntKind.u64.wrap (a1)) 6)))) l2 l3 (wrap64 ((wrap64 (1 + (wrap64 (Int.tmod (IntKind.u64.wrap (a0)) 20)))) * (wrap64 (1 + (wrap64 (Int.tmod (IntKind.u64.wrap (a1)) 6)))))) true) else (volutelaw09_PileOrder.j0 k (wrap64 (1 + (wrap64 (Int.tmod (IntKind.u64.wrap (a0)) 20)))) (wrap64 (1 + (wrap64 (Int.tmod (IntKind.u64.wrap (a1)) 6)))) l2 l3 (wrap64 ((wrap64 (1 + (wrap64 (Int.tmod (IntKind.u64.wrap (a0)) 20)))) * (wrap64 (1 + (wrap64 (Int.tmod (IntKind.u64.wrap (a1)) 6)))))) (decide ((l3.length : Int) > 300)))) = some true := h
  clear h
  have HC5 := Aside0.mk H
  clear H
  go_enter Try.func9, Try.ntmps9
  go_upto_region 3 with (fail)
  go_cut [47] (fun v47 wc => ∃ (kq : Nat) (x47_4 : Bool), v47 = .bool x47_4 ∧ Aside0 (volutelaw09_PileOrder.j0 kq (wrap64 (1 + (wrap64 (Int.tmod (IntKind.u64.wrap (a0)) 20)))) (wrap64 (1 + (wrap64 (Int.tmod (IntKind.u64.wrap (a1)) 6)))) l2 l3 (wrap64 ((wrap64 (1 + (wrap64 (Int.tmod (IntKind.u64.wrap (a0)) 20)))) * (wrap64 (1 + (wrap64 (Int.tmod (IntKind.u64.wrap (a1)) 6)))))) x47_4 = some true) ∧ Aside0 (kq ≤ k) ∧ Aside0 (Below w.heap.size w wc))
  case first =>
    have H := HC5.out
    clear HC5
    by_cases c6 : (l2.length : Int) > (wrap64 ((wrap64 (1 + (wrap64 (Int.tmod (IntKind.u64.wrap (a0)) 20)))) * (wrap64 (1 + (wrap64 (Int.tmod (IntKind.u64.wrap (a1)) 6))))))
    · rw [if_pos c6] at H
      have c6b0 : decide ((wrap64 ((wrap64 (1 + (wrap64 (Int.tmod (IntKind.u64.wrap (a0)) 20)))) * (wrap64 (1 + (wrap64 (Int.tmod (IntKind.u64.wrap (a1)) 6)))))) < (l2.length : Int)) = true := decide_eq_true c6
      clear c6
      (first | rw [c6b0] | (simp only [i64_w, i32_w]; rw [c6b0]) | skip)
      have H' := Aside0.mk H
      clear H
      go_wp2
      go_meet
      case rel => exact ⟨_, (true), (by first | rfl | (simp; done) | (simp [*]; done)), H', ⟨by first | omega | exact Nat.le_refl _⟩, ⟨by repeat (first | (with_reducible first | exact HB.out | apply below_alloc | apply pw_below_drewN | apply below_drew1) | exact HB.out)⟩⟩
    · rw [if_neg c6] at H
      have c6b0 : decide ((wrap64 ((wrap64 (1 + (wrap64 (Int.tmod (IntKind.u64.wrap (a0)) 20)))) * (wrap64 (1 + (wrap64 (Int.tmod (IntKind.u64.wrap (a1)) 6)))))) < (l2.length : Int)) = false := decide_eq_false c6
      clear c6
      (first | rw [c6b0] | (simp only [i64_w, i32_w]; rw [c6b0]) | skip)
      have H' := Aside0.mk H
      clear H
      go_wp2
      go_meet
      case rel => exact ⟨_, (decide ((l3.length : Int) > 300)), (by first | rfl | (simp; done) | (simp [*]; done)), H', ⟨by first | omega | exact Nat.le_refl _⟩, ⟨by repeat (first | (with_reducible first | exact HB.out | apply below_alloc | apply pw_below_drewN | apply below_drew1) | exact HB.out)⟩⟩
  case rest =>
    clear HC5
    try clear c2
    try clear p2
    try clear c3
    try clear c6
    try clear c6b0
    try clear p6
    obtain ⟨kq, x47_4, rfl, HA, HJ4, HB⟩ := hcut
    cases kq with
    | zero => exact absurd HA.out (by simp [volutelaw09_PileOrder.j0])
    | succ kj4 =>
      have H := HA.out
      clear HA
      simp only [volutelaw09_PileOrder.j0] at H
      by_cases c7 : x47_4 = true
      · subst c7
        have H1 : (some true) = some true := rfl
        clear H
        have H := H1
        clear H1
        clear H
        go_wp2
        go_ret
        exact ⟨by first | rfl | (simp [errW_none, errW_some] <;> rfl) | (simp [*, errW_none, errW_some] <;> rfl), by repeat (first | (with_reducible first | exact HB.out | apply below_alloc | apply pw_below_drewN | apply below_drew1) | exact HB.out)⟩
      · replace c7 := Bool.eq_false_iff.mpr c7
        subst c7
        have H1 : ((pile_New.f (wrap64 (1 + (wrap64 (Int.tmod (IntKind.u64.wrap (a0)) 20)))) (wrap64 (1 + (wrap64 (Int.tmod (IntKind.u64.wrap (a1)) 6))))).bind fun bt348 => ((pile_New.f (wrap64 (1 + (wrap64 (Int.tmod (IntKind.u64.wrap (a0)) 20)))) (wrap64 (1 + (wrap64 (Int.tmod (IntKind.u64.wrap (a1)) 6))))).bind fun bt355 => (if bt348.2.2.2 = 0 then (volutelaw09_PileOrder.j1 kj4 l2 l3 (wrap64 ((wrap64 (1 + (wrap64 (Int.tmod (IntKind.u64.wrap (a0)) 20)))) * (wrap64 (1 + (wrap64 (Int.tmod (IntKind.u64.wrap (a1)) 6)))))) (bt355.2.2.2 != 0) bt348.1 bt348.2.1 bt348.2.2.1 bt355.1 bt355.2.1 bt355.2.2.1) else (volutelaw09_PileOrder.j1 kj4 l2 l3 (wrap64 ((wrap64 (1 + (wrap64 (Int.tmod (IntKind.u64.wrap (a0)) 20)))) * (wrap64 (1 + (wrap64 (Int.tmod (IntKind.u64.wrap (a1)) 6)))))) true bt348.1 bt348.2.1 bt348.2.2.1 bt355.1 bt355.2.1 bt355.2.2.1)))) = some true := by rw [if_neg (show ¬ (false = true) by decide)] at H; exact H
        clear H
        have H := H1
        clear H1
        replace H := Option.bind_eq_some_iff.mp H
        obtain ⟨⟨t348, t349, t350, t353⟩, A80, H⟩ := H
        replace H : ((pile_New.f (wrap64 (1 + (wrap64 (Int.tmod (IntKind.u64.wrap (a0)) 20)))) (wrap64 (1 + (wrap64 (Int.tmod (IntKind.u64.wrap (a1)) 6))))).bind fun bt355 => (if t353 = 0 then (volutelaw09_PileOrder.j1 kj4 l2 l3 (wrap64 ((wrap64 (1 + (wrap64 (Int.tmod (IntKind.u64.wrap (a0)) 20)))) * (wrap64 (1 + (wrap64 (Int.tmod (IntKind.u64.wrap (a1)) 6)))))) (bt355.2.2.2 != 0) t348 t349 t350 bt355.1 bt355.2.1 bt355.2.2.1) else (volutelaw09_PileOrder.j1 kj4 l2 l3 (wrap64 ((wrap64 (1 + (wrap64 (Int.tmod (IntKind.u64.wrap (a0)) 20)))) * (wrap64 (1 + (wrap64 (Int.tmod (IntKind.u64.wrap (a1)) 6)))))) true t348 t349 t350 bt355.1 bt355.2.1 bt355.2.2.1))) = some true := H
        have A8 := Aside0.mk A80
        clear A80
        replace H := Option.bind_eq_some_iff.mp H
        obtain ⟨⟨t355, t356, t357, t360⟩, A90, H⟩ := H
        replace H : (if t353 = 0 then (volutelaw09_PileOrder.j1 kj4 l2 l3 (wrap64 ((wrap64 (1 + (wrap64 (Int.tmod (IntKind.u64.wrap (a0)) 20)))) * (wrap64 (1 + (wrap64 (Int.tmod (IntKind.u64.wrap (a1)) 6)))))) (t360 != 0) t348 t349 t350 t355 t356 t357) else (volutelaw09_PileOrder.j1 kj4 l2 l3 (wrap64 ((wrap64 (1 + (wrap64 (Int.tmod (IntKind.u64.wrap (a0)) 20)))) * (wrap64 (1 + (wrap64 (Int.tmod (IntKind.u64.wrap (a1)) 6)))))) true t348 t349 t350 t355 t356 t357)) = some true := H
        have A9 := Aside0.mk A90
        clear A90
        have HC10 := Aside0.mk H
        clear H
        go_upto_region 7 with (first | ((with_reducible refine gate_callee (f := 35) rfl ?_); refine goesL_ (some 51) rfl rfl Try.func35 (by kernel_rfl) rfl #[.int .i64 (wrap64 (1 + (wrap64 (Int.tmod (IntKind.u64.wrap (a0)) 20)))), .int .i64 (wrap64 (1 + (wrap64 (Int.tmod (IntKind.u64.wrap (a1)) 6))))] rfl (by (try simp only [List.map_toArray, List.map_cons, List.map_nil]); first | done | rfl | (simp only [List.length_drop, List.length_take]; rfl)) ?_; (with_reducible refine (pile_New.calls (wrap64 (1 + (wrap64 (Int.tmod (IntKind.u64.wrap (a0)) 20)))) (wrap64 (1 + (wrap64 (Int.tmod (IntKind.u64.wrap (a1)) 6)))) t348 t349 t350 t353 _ A8.out).mono ?_); rintro e w11 ⟨v351, rfl, ho0, hb⟩; refine ⟨_, rfl, ?_⟩; have HO352 := Aside0.mk (Kd.R_lower ho0 (below_size (zB HB))); replace HB := zs HB hb; (try clear hb); (try clear hb2); (try clear hk); (try clear hi); (try clear ho0)) | ((with_reducible refine gate_dst (N := 10) rfl ?_); (try (refine gate_guard (by rfl) ?_; dsimp only)); refine box_event ?hg (N := 10) ?hd (cs := #[.int .i64 0, .int .i64 0, .slice none 0 0]) (t := 67) ?hr ?_; (case hd => rfl); (case hg => rfl); (case hr => first | (go_simp; done) | (go_simp; rfl)); intro gb354 hg w12 hbox hb; replace HO352 := zR HO352 hb; have BK354 := Aside0.mk (hbox); have GW354 := zg HB hg; have GE354 := zg HB hg; replace HB := zs HB hb; clear hb hbox hg; obtain ⟨hcz13_0, hcz13_1, hcz13_2⟩ := zC3 BK354; obtain ⟨hfz13_0, hfz13_1, hfz13_2⟩ := zF3 BK354; obtain ⟨Ao14, co14, eo14⟩ := Kd.R_slice HO352.out; subst eo14) | ((with_reducible refine gate_callee (f := 35) rfl ?_); refine goesL_ (some 57) rfl rfl Try.func35 (by kernel_rfl) rfl #[.int .i64 (wrap64 (1 + (wrap64 (Int.tmod (IntKind.u64.wrap (a0)) 20)))), .int .i64 (wrap64 (1 + (wrap64 (Int.tmod (IntKind.u64.wrap (a1)) 6))))] rfl (by (try simp only [List.map_toArray, List.map_cons, List.map_nil]); first | done | rfl | (simp only [List.length_drop, List.length_take]; rfl)) ?_; (with_reducible refine (pile_New.calls (wrap64 (1 + (wrap64 (Int.tmod (IntKind.u64.wrap (a0)) 20)))) (wrap64 (1 + (wrap64 (Int.tmod (IntKind.u64.wrap (a1)) 6)))) t355 t356 t357 t360 _ A9.out).mono ?_); rintro e w15 ⟨v358, rfl, ho0, hb⟩; refine ⟨_, rfl, ?_⟩; have n0_ := Aside0.mk (Kd.R_elder' (by (with_reducible repeat (first | apply Kd.R_alloc | apply Kd.R_drewN | apply Kd.R_drew)); exact (Kd.R_mono (Kd.R_far (p := ⟨gb354, 2, none⟩) (Kd.R_far (p := ⟨gb354, 1, none⟩) (Kd.R_far (p := ⟨gb354, 0, none⟩) (Kd.R_types HO352.out BK354.out (by decide)) (fun _ hk => hk.2) (.int .i64 t348)) (fun _ hk => hk.2) (.int .i64 t349)) (fun _ hk => hk.2) (.slice Ao14 t350.length co14)) (fun _ h_ => h_.1))) (Kd.R_base ho0) hb); have n1_ := Aside0.mk (Kd.R_lower (Kd.R_new' ho0 (Kd.R_lt (by (with_reducible repeat (first | apply Kd.R_alloc | apply Kd.R_drewN | apply Kd.R_drew)); exact (Kd.R_mono (Kd.R_far (p := ⟨gb354, 2, none⟩) (Kd.R_far (p := ⟨gb354, 1, none⟩) (Kd.R_far (p := ⟨gb354, 0, none⟩) (Kd.R_types HO352.out BK354.out (by decide)) (fun _ hk => hk.2) (.int .i64 t348)) (fun _ hk => hk.2) (.int .i64 t349)) (fun _ hk => hk.2) (.slice Ao14 t350.length co14)) (fun _ h_ => h_.1))))) (below_size (zB HB))); have n2_ := Aside0.mk (blk_below (g := gb354) (o := .cells #[.int .i64 t348, .int .i64 t349, .slice Ao14 t350.length co14] 67 (0, 0)) (by (with_reducible repeat (first | refine blk_drewN ?_ _ | refine blk_drew ?_ | refine blk_alloc ?_ _)); refine blk_put (cs := #[.int .i64 t348, .int .i64 t349, .slice none 0 0]) ?_ 2 _ rfl; (with_reducible repeat (first | refine blk_drewN ?_ _ | refine blk_drew ?_ | refine blk_alloc ?_ _)); refine blk_put (cs := #[.int .i64 t348, .int .i64 0, .slice none 0 0]) ?_ 1 _ rfl; (with_reducible repeat (first | refine blk_drewN ?_ _ | refine blk_drew ?_ | refine blk_alloc ?_ _)); refine blk_put (cs := #[.int .i64 0, .int .i64 0, .slice none 0 0]) ?_ 0 _ rfl; (with_reducible repeat (first | refine blk_drewN ?_ _ | refine blk_drew ?_ | refine blk_alloc ?_ _)); exact BK354.out) hb); have n3_ := zs HB hb; clear HO352; clear BK354; clear HB; have HO352 := n0_; have HO359 := n1_; have BK354 := n2_; have HB := n3_; clear n0_ n1_ n2_ n3_; (try clear hb); (try clear hb2); (try clear hk); (try clear hi); (try clear ho0)) | ((with_reducible refine gate_dst (N := 12) rfl ?_); (try (refine gate_guard (by rfl) ?_; dsimp only)); refine box_event ?hg (N := 12) ?hd (cs := #[.int .i64 0, .int .i64 0, .slice none 0 0]) (t := 67) ?hr ?_; (case hd => rfl); (case hg => rfl); (case hr => first | (go_simp; done) | (go_simp; rfl)); intro gb361 hg w16 hbox hb; replace HO352 := zR HO352 hb; replace HO359 := zR HO359 hb; have BK361 := Aside0.mk (hbox); have GW361 := zg HB hg; have GE361 := zg HB hg; replace HB := zs HB hb; have NB354_361 := zl BK354 hg; have NB361_354 := zr BK354 hg; replace BK354 := zb BK354 hb; clear hb hbox hg; have hnb17 := NB361_354.out; have hnc17 := NB354_361.out; obtain ⟨hcz18_0, hcz18_1, hcz18_2⟩ := zC3 BK361; obtain ⟨hfz18_0, hfz18_1, hfz18_2⟩ := zF3 BK361; obtain ⟨Ao19, co19, eo19⟩ := Kd.R_slice HO359.out; subst eo19))
        (try simp only [Act.put, List.setIfInBounds_toArray, List.set_cons_zero, List.set_cons_succ])
        go_cut [65] (fun v65 wc => ∃ (kq : Nat) (x65_9 : Bool), v65 = .bool x65_9 ∧ Aside0 (volutelaw09_PileOrder.j1 kq l2 l3 (wrap64 ((wrap64 (1 + (wrap64 (Int.tmod (IntKind.u64.wrap (a0)) 20)))) * (wrap64 (1 + (wrap64 (Int.tmod (IntKind.u64.wrap (a1)) 6)))))) x65_9 t348 t349 t350 t355 t356 t357 = some true) ∧ Aside0 (kq ≤ kj4) ∧ Aside0 (Kd.R k88 88 wc w.heap.size (fun k_ => some k_ ≠ ((.slice Ao19 t357.length co19) : Value).ownBlock) (.slice Ao14 t350.length co14) t350) ∧ Aside0 (Kd.R k88 88 wc w.heap.size (fun k_ => some k_ ≠ ((.slice Ao14 t350.length co14) : Value).ownBlock) (.slice Ao19 t357.length co19) t357) ∧ Aside0 (wc.heap[gb354]? = some (.cells #[.int .i64 t348, .int .i64 t349, (.slice Ao14 t350.length co14)] 67 (0, 0))) ∧ Aside0 (wc.heap[gb361]? = some (.cells #[.int .i64 t355, .int .i64 t356, (.slice Ao19 t357.length co19)] 67 (0, 0))) ∧ Aside0 (Below w.heap.size w wc))
        case first =>
          have H := HC10.out
          clear HC10
          by_cases c20 : t353 = 0
          · rw [if_pos c20] at H
            have c20b0 : (t353 == 0) = true := beq_iff_eq.mpr c20
            have c20b1 : (t353 != 0) = false := bne_eq_false_iff_eq.mpr c20
            clear c20
            (first | rw [c20b0] | (simp only [i64_w, i32_w]; rw [c20b0]) | skip)
            have H' := Aside0.mk H
            clear H
            go_wp2
            go_meet
            case rel => exact ⟨_, ((t360 != 0)), (by first | rfl | (simp; done) | (simp [*]; done)), H', ⟨by have := HJ4.out; first | omega | exact Nat.le_refl _⟩, ⟨by (with_reducible repeat (first | apply Kd.R_alloc | apply Kd.R_drewN | apply Kd.R_drew)); exact Kd.R_mono (Kd.R_far (p := ⟨gb361, 2, none⟩) (Kd.R_far (p := ⟨gb361, 1, none⟩) (Kd.R_far (p := ⟨gb361, 0, none⟩) (Kd.R_types HO352.out BK361.out (by decide)) (fun _ hk => hk.2) (.int .i64 t355)) (fun _ hk => hk.2) (.int .i64 t356)) (fun _ hk => hk.2) (.slice Ao19 t357.length co19)) (fun _ hk => hk.1.2)⟩, ⟨by (with_reducible repeat (first | apply Kd.R_alloc | apply Kd.R_drewN | apply Kd.R_drew)); exact Kd.R_mono (Kd.R_far (p := ⟨gb361, 2, none⟩) (Kd.R_far (p := ⟨gb361, 1, none⟩) (Kd.R_far (p := ⟨gb361, 0, none⟩) (Kd.R_types HO359.out BK361.out (by decide)) (fun _ hk => hk.2) (.int .i64 t355)) (fun _ hk => hk.2) (.int .i64 t356)) (fun _ hk => hk.2) (.slice Ao19 t357.length co19)) (fun _ hk => hk.1.2)⟩, ⟨by (with_reducible repeat (first | refine blk_drewN ?_ _ | refine blk_drew ?_ | refine blk_alloc ?_ _)); refine blk_far ?_ NB354_361.out _; (with_reducible repeat (first | refine blk_drewN ?_ _ | refine blk_drew ?_ | refine blk_alloc ?_ _)); refine blk_far ?_ NB354_361.out _; (with_reducible repeat (first | refine blk_drewN ?_ _ | refine blk_drew ?_ | refine blk_alloc ?_ _)); refine blk_far ?_ NB354_361.out _; (with_reducible repeat (first | refine blk_drewN ?_ _ | refine blk_drew ?_ | refine blk_alloc ?_ _)); exact BK354.out⟩, ⟨by (with_reducible repeat (first | refine blk_drewN ?_ _ | refine blk_drew ?_ | refine blk_alloc ?_ _)); refine blk_put (cs := #[.int .i64 t355, .int .i64 t356, .slice none 0 0]) ?_ 2 _ rfl; (with_reducible repeat (first | refine blk_drewN ?_ _ | refine blk_drew ?_ | refine blk_alloc ?_ _)); refine blk_put (cs := #[.int .i64 t355, .int .i64 0, .slice none 0 0]) ?_ 1 _ rfl; (with_reducible repeat (first | refine blk_drewN ?_ _ | refine blk_drew ?_ | refine blk_alloc ?_ _)); refine blk_put (cs := #[.int .i64 0, .int .i64 0, .slice none 0 0]) ?_ 0 _ rfl; (with_reducible repeat (first | refine blk_drewN ?_ _ | refine blk_drew ?_ | refine blk_alloc ?_ _)); exact BK361.out⟩, ⟨by repeat (first | (with_reducible first | exact HB.out | apply below_alloc | apply pw_below_drewN | apply below_drew1 | refine below_set ?_ GE354.out | refine below_set ?_ GE361.out) | exact HB.out)⟩⟩
          · rw [if_neg c20] at H
            have c20b0 : (t353 == 0) = false := beq_eq_false_iff_ne.mpr c20
            have c20b1 : (t353 != 0) = true := bne_iff_ne.mpr c20
            (first | rw [c20b0] | (simp only [i64_w, i32_w]; rw [c20b0]) | skip)
            have H' := Aside0.mk H
            clear H
            go_wp2
            go_meet
            case rel => exact ⟨_, (true), (by first | rfl | (simp; done) | (simp [*]; done)), H', ⟨by have := HJ4.out; first | omega | exact Nat.le_refl _⟩, ⟨by (with_reducible repeat (first | apply Kd.R_alloc | apply Kd.R_drewN | apply Kd.R_drew)); exact Kd.R_mono (Kd.R_far (p := ⟨gb361, 2, none⟩) (Kd.R_far (p := ⟨gb361, 1, none⟩) (Kd.R_far (p := ⟨gb361, 0, none⟩) (Kd.R_types HO352.out BK361.out (by decide)) (fun _ hk => hk.2) (.int .i64 t355)) (fun _ hk => hk.2) (.int .i64 t356)) (fun _ hk => hk.2) (.slice Ao19 t357.length co19)) (fun _ hk => hk.1.2)⟩, ⟨by (with_reducible repeat (first | apply Kd.R_alloc | apply Kd.R_drewN | apply Kd.R_drew)); exact Kd.R_mono (Kd.R_far (p := ⟨gb361, 2, none⟩) (Kd.R_far (p := ⟨gb361, 1, none⟩) (Kd.R_far (p := ⟨gb361, 0, none⟩) (Kd.R_types HO359.out BK361.out (by decide)) (fun _ hk => hk.2) (.int .i64 t355)) (fun _ hk => hk.2) (.int .i64 t356)) (fun _ hk => hk.2) (.slice Ao19 t357.length co19)) (fun _ hk => hk.1.2)⟩, ⟨by (with_reducible repeat (first | refine blk_drewN ?_ _ | refine blk_drew ?_ | refine blk_alloc ?_ _)); refine blk_far ?_ NB354_361.out _; (with_reducible repeat (first | refine blk_drewN ?_ _ | refine blk_drew ?_ | refine blk_alloc ?_ _)); refine blk_far ?_ NB354_361.out _; (with_reducible repeat (first | refine blk_drewN ?_ _ | refine blk_drew ?_ | refine blk_alloc ?_ _)); refine blk_far ?_ NB354_361.out _; (with_reducible repeat (first | refine blk_drewN ?_ _ | refine blk_drew ?_ | refine blk_alloc ?_ _)); exact BK354.out⟩, ⟨by (with_reducible repeat (first | refine blk_drewN ?_ _ | refine blk_drew ?_ | refine blk_alloc ?_ _)); refine blk_put (cs := #[.int .i64 t355, .int .i64 t356, .slice none 0 0]) ?_ 2 _ rfl; (with_reducible repeat (first | refine blk_drewN ?_ _ | refine blk_drew ?_ | refine blk_alloc ?_ _)); refine blk_put (cs := #[.int .i64 t355, .int .i64 0, .slice none 0 0]) ?_ 1 _ rfl; (with_reducible repeat (first | refine blk_drewN ?_ _ | refine blk_drew ?_ | refine blk_alloc ?_ _)); refine blk_put (cs := #[.int .i64 0, .int .i64 0, .slice none 0 0]) ?_ 0 _ rfl; (with_reducible repeat (first | refine blk_drewN ?_ _ | refine blk_drew ?_ | refine blk_alloc ?_ _)); exact BK361.out⟩, ⟨by repeat (first | (with_reducible first | exact HB.out | apply below_alloc | apply pw_below_drewN | apply below_drew1 | refine below_set ?_ GE354.out | refine below_set ?_ GE361.out) | exact HB.out)⟩⟩
        case rest =>
          clear HC10
          try clear c1
          try clear c2
          try clear p2
          try clear c3
          try clear c6
          try clear c6b0
          try clear p6
          try clear c7
          try clear c9
          try clear c17
          try clear c20
          try clear c20b0
          try clear c20b1
          try clear hcz13_0
          try clear hcz13_1
          try clear hcz13_2
          try clear hcz18_0
          try clear hcz18_1
          try clear hcz18_2
          try clear hfz13_0
          try clear hfz13_1
          try clear hfz13_2
          try clear hfz18_0
          try clear hfz18_1
          try clear hfz18_2
          try clear p2
          try clear p6
          obtain ⟨kq, x65_9, rfl, HA, HJ9, HO_355002, HO_362002, BK354, BK361, HB⟩ := hcut
          cases kq with
          | zero => exact absurd HA.out (by simp [volutelaw09_PileOrder.j1])
          | succ kj9 =>
            have H := HA.out
            clear HA
            simp only [volutelaw09_PileOrder.j1] at H
            by_cases c21 : x65_9 = true
            · subst c21
              have H1 : (some false) = some true := by rw [if_pos rfl] at H; exact H
              clear H
              have H := H1
              clear H1
              exact absurd (Option.some.inj H) (by decide)
            · replace c21 := Bool.eq_false_iff.mpr c21
              subst c21
              have H1 : (volutelaw09_PileOrder.l0 kj9 l2 l3 (wrap64 ((wrap64 (1 + (wrap64 (Int.tmod (IntKind.u64.wrap (a0)) 20)))) * (wrap64 (1 + (wrap64 (Int.tmod (IntKind.u64.wrap (a1)) 6)))))) ([] : List Int) 0 t348 t349 t350 t355 t356 t357) = some true := by rw [if_neg (show ¬ (false = true) by decide)] at H; exact H
              clear H
              have H := H1
              clear H1
              have H' := Aside0.mk H
              clear H
              go_wp2
              go_loopg [14, 15] kj9 (fun kq v14 v15 w' => ∃ (x14_3 : List Int) (x15_3 : Int) (x355000_3 : Int) (x355001_3 : Int) (x355002_3 : List (S88)) (u355002 : Value), v15 = .int .i64 x15_3 ∧ Aside0 (volutelaw09_PileOrder.l0 kq l2 l3 (wrap64 ((wrap64 (1 + (wrap64 (Int.tmod (IntKind.u64.wrap (a0)) 20)))) * (wrap64 (1 + (wrap64 (Int.tmod (IntKind.u64.wrap (a1)) 6)))))) x14_3 x15_3 x355000_3 x355001_3 x355002_3 t355 t356 t357 = some true) ∧ Aside0 (kq ≤ kj9) ∧ Aside0 (Kd.R (Kd.int .i64) 3 w' w.heap.size (fun _ => True) v14 x14_3) ∧ Aside0 (Kd.R k88 88 w' w.heap.size (fun k_ => some k_ ≠ ((.slice Ao19 t357.length co19) : Value).ownBlock) u355002 x355002_3) ∧ Aside0 (Kd.R k88 88 w' w.heap.size (fun k_ => some k_ ≠ (u355002 : Value).ownBlock) (.slice Ao19 t357.length co19) t357) ∧ Aside0 (w'.heap[gb354]? = some (.cells #[.int .i64 x355000_3, .int .i64 x355001_3, u355002] 67 (0, 0))) ∧ Aside0 (w'.heap[gb361]? = some (.cells #[.int .i64 t355, .int .i64 t356, (.slice Ao19 t357.length co19)] 67 (0, 0))) ∧ Aside0 (Below w.heap.size w w'))
              case atStart => exact ⟨(([] : List Int)), (0), (t348), (t349), (t350), (.slice Ao14 t350.length co14), (by first | rfl | (simp; done) | (simp [*]; done)), H', ⟨Nat.le_refl _⟩, ⟨by first | exact Kd.R_nil _ _ _ _ _ | exact Kd.N_nil _ _ _ _ _ | exact Kd.V_nil _ _ _ _ _ | exact Kd.Q_nil _ _ _ _ _ | exact Kd.S_nil _ _ _ _ _⟩, ⟨by (with_reducible repeat (first | apply Kd.R_alloc | apply Kd.R_drewN | apply Kd.R_drew)); exact HO_355002.out⟩, ⟨by (with_reducible repeat (first | apply Kd.R_alloc | apply Kd.R_drewN | apply Kd.R_drew)); exact HO_362002.out⟩, ⟨by (with_reducible repeat (first | refine blk_drewN ?_ _ | refine blk_drew ?_ | refine blk_alloc ?_ _)); exact BK354.out⟩, ⟨by (with_reducible repeat (first | refine blk_drewN ?_ _ | refine blk_drew ?_ | refine blk_alloc ?_ _)); exact BK361.out⟩, ⟨by repeat (first | (with_reducible first | exact HB.out | apply below_alloc | apply pw_below_drewN | apply below_drew1 | refine below_set ?_ GE354.out | refine below_set ?_ GE361.out) | exact HB.out)⟩⟩
              case round =>
                clear H'
                try clear c1
                try clear c2
                try clear p2
                try clear c3
                try clear c6
                try clear c6b0
                try clear p6
                try clear c7
                try clear c9
                try clear c17
                try clear c20
                try clear c20b0
                try clear c20b1
                try clear c21
                try clear hcz13_0
                try clear hcz13_1
                try clear hcz13_2
                try clear hcz18_0
                try clear hcz18_1
                try clear hcz18_2
                try clear hfz13_0
                try clear hfz13_1
                try clear hfz13_2
                try clear hfz18_0
                try clear hfz18_1
                try clear hfz18_2
                try clear p2
                try clear p6
                obtain ⟨x14_3, x15_3, x355000_3, x355001_3, x355002_3, u355002, rfl, HA, HK3, HO_14, HO_355002, HO_362002, BK354, BK361, HB⟩ := hrel
                cases gk with
                | zero => exact absurd HA.out (by simp [volutelaw09_PileOrder.l0])
                | succ k3 =>
                  have H := HA.out
                  clear HA
                  simp only [volutelaw09_PileOrder.l0] at H
                  by_cases c22 : x15_3 < (l2.length : Int)
                  · rw [if_pos c22] at H
                    have c22b0 : decide (x15_3 < (l2.length : Int)) = true := decide_eq_true c22
                    clear c22
                    by_cases c23 : x14_3.length < 17592186044416
                    · rw [if_pos c23] at H
                      have LMc23 := Aside0.mk c23
                      clear c23
                      obtain ⟨y362, hy362⟩ : ∃ y_ : List Int, y_ = (x14_3 ++ [x15_3]) := ⟨_, rfl⟩
                      replace H : (if (wrap64 ((wrap64 (1 + (wrap64 (Int.tmod (IntKind.u64.wrap (a0)) 20)))) * (wrap64 (1 + (wrap64 (Int.tmod (IntKind.u64.wrap (a1)) 6)))))) = 0 then (none) else (if 0 ≤ x15_3 then ((pile_Put.f k3 x355000_3 x355001_3 x355002_3 (Int.tmod (wrap64 (x15_3 * 7)) (wrap64 ((wrap64 (1 + (wrap64 (Int.tmod (IntKind.u64.wrap (a0)) 20)))) * (wrap64 (1 + (wrap64 (Int.tmod (IntKind.u64.wrap (a1)) 6))))))) (wrap64 (Int.tmod (IntKind.u64.wrap (rd l2 x15_3)) 256))).bind fun bt366 => (if bt366.2.2.2.2 = 0 then (if bt366.2.2.2.1 = true then (volutelaw09_PileOrder.l0 k3 l2 l3 (wrap64 ((wrap64 (1 + (wrap64 (Int.tmod (IntKind.u64.wrap (a0)) 20)))) * (wrap64 (1 + (wrap64 (Int.tmod (IntKind.u64.wrap (a1)) 6)))))) y362 (wrap64 (x15_3 + 1)) bt366.1 bt366.2.1 bt366.2.2.1 t355 t356 t357) else (if 0 ≤ (wrap64 ((y362.length : Int) - 1)) then (if (wrap64 ((y362.length : Int) - 1)) ≤ (y362.length : Int) then (volutelaw09_PileOrder.l0 k3 l2 l3 (wrap64 ((wrap64 (1 + (wrap64 (Int.tmod (IntKind.u64.wrap (a0)) 20)))) * (wrap64 (1 + (wrap64 (Int.tmod (IntKind.u64.wrap (a1)) 6)))))) (y362.take ((wrap64 ((y362.length : Int) - 1)) : Int).toNat) (wrap64 (x15_3 + 1)) bt366.1 bt366.2.1 bt366.2.2.1 t355 t356 t357) else (none)) else (none))) else (some false))) else (none))) = some true := by first | (rw [hy362]; with_reducible exact H) | (have H2_ := (Option.bind_some _ _).symm.trans H; rw [hy362]; with_reducible exact H2_) | (have H2_ := (Option.bind_some _ _).symm.trans H; with_reducible exact H2_) | with_reducible exact H | (rw [hy362]; exact H) | exact H
                      have Ny362 := Aside0.mk hy362
                      clear hy362
                      by_cases c24 : (wrap64 ((wrap64 (1 + (wrap64 (Int.tmod (IntKind.u64.wrap (a0)) 20)))) * (wrap64 (1 + (wrap64 (Int.tmod (IntKind.u64.wrap (a1)) 6)))))) = 0
                      · rw [if_pos c24] at H
                        exact absurd H (by simp)
                      · rw [if_neg c24] at H
                        have c24b0 : ((wrap64 ((wrap64 (1 + (wrap64 (Int.tmod (IntKind.u64.wrap (a0)) 20)))) * (wrap64 (1 + (wrap64 (Int.tmod (IntKind.u64.wrap (a1)) 6)))))) == 0) = false := beq_eq_false_iff_ne.mpr c24
                        have c24b1 : ((wrap64 ((wrap64 (1 + (wrap64 (Int.tmod (IntKind.u64.wrap (a0)) 20)))) * (wrap64 (1 + (wrap64 (Int.tmod (IntKind.u64.wrap (a1)) 6)))))) != 0) = true := bne_iff_ne.mpr c24
                        by_cases c25 : 0 ≤ x15_3
                        · rw [if_pos c25] at H
                          have c25b0 : decide (0 ≤ x15_3) = true := decide_eq_true c25
                          clear c25
                          replace H := Option.bind_eq_some_iff.mp H
                          obtain ⟨⟨t366, t367, t368, t371, t372⟩, A260, H⟩ := H
                          replace H : (if t372 = 0 then (if t371 = true then (volutelaw09_PileOrder.l0 k3 l2 l3 (wrap64 ((wrap64 (1 + (wrap64 (Int.tmod (IntKind.u64.wrap (a0)) 20)))) * (wrap64 (1 + (wrap64 (Int.tmod (IntKind.u64.wrap (a1)) 6)))))) y362 (wrap64 (x15_3 + 1)) t366 t367 t368 t355 t356 t357) else (if 0 ≤ (wrap64 ((y362.length : Int) - 1)) then (if (wrap64 ((y362.length : Int) - 1)) ≤ (y362.length : Int) then (volutelaw09_PileOrder.l0 k3 l2 l3 (wrap64 ((wrap64 (1 + (wrap64 (Int.tmod (IntKind.u64.wrap (a0)) 20)))) * (wrap64 (1 + (wrap64 (Int.tmod (IntKind.u64.wrap (a1)) 6)))))) (y362.take ((wrap64 ((y362.length : Int) - 1)) : Int).toNat) (wrap64 (x15_3 + 1)) t366 t367 t368 t355 t356 t357) else (none)) else (none))) else (some false)) = some true := H
                          have A26 := Aside0.mk A260
                          clear A260
                          by_cases c27 : t372 = 0
                          · rw [if_pos c27] at H
                            have c27b0 : (t372 == 0) = true := beq_iff_eq.mpr c27
                            have c27b1 : (t372 != 0) = false := bne_eq_false_iff_eq.mpr c27
                            clear c27
                            by_cases c28 : t371 = true
                            · subst c28
                              have H1 : (volutelaw09_PileOrder.l0 k3 l2 l3 (wrap64 ((wrap64 (1 + (wrap64 (Int.tmod (IntKind.u64.wrap (a0)) 20)))) * (wrap64 (1 + (wrap64 (Int.tmod (IntKind.u64.wrap (a1)) 6)))))) y362 (wrap64 (x15_3 + 1)) t366 t367 t368 t355 t356 t357) = some true := by rw [if_pos rfl] at H; exact H
                              clear H
                              have H := H1
                              clear H1
                              have H' := Aside0.mk H
                              clear H
                              try go_wp2_with (first | ((with_reducible refine gate_builtin (b := .append) (xs := #[.tmp 72, .tmp 74]) rfl ?_); (try (refine gate_guard (by rfl) ?_; dsimp only)); at_builtin; refine Kd.R_append (Kd.int .i64) (w0 := w) w.heap.size rfl (.tmp 72) (.tmp 74) 30 3 (.int .i64 0) 8 rfl Try.underlying30 info3 rfl (by decide) (by omega) u14 x14_3 x15_3 [.int .i64 x15_3] (fun _ => True) (fun _ => False) rfl rfl ?aP (fun _ hk => hk.elim) ?aF ?aO ?aB ?aS ?aL ?_; (case aP => exact rfl); (case aB => exact (zB HB)); (case aF => exact (fun _ _ => trivial)); (case aO => exact (zr_ HO_14)); (case aS => exact (below_size (zB HB))); (case aL => have := LMc23.out; omega); intro v363 w29 ho hb hg hat; rw [← Ny362.out] at ho; have n0_ := Aside0.mk (Kd.R_over' (zr_ HO_355002) (Kd.R_typed (zr_ HO_14)) (by decide) hg); have n1_ := Aside0.mk (Kd.R_over' (zr_ HO_362002) (Kd.R_typed (zr_ HO_14)) (by decide) hg); have n2_ := Aside0.mk (blk_grown (g := gb354) (o := .cells #[.int .i64 x355000_3, .int .i64 x355001_3, u355002] 67 (0, 0)) (zk BK354) hg (Kd.R_ne HO_14.out BK354.out (by decide))); have n3_ := Aside0.mk (blk_grown (g := gb361) (o := .cells #[.int .i64 t355, .int .i64 t356, .slice Ao19 t357.length co19] 67 (0, 0)) (zk BK361) hg (Kd.R_ne HO_14.out BK361.out (by decide))); have n4_ := Aside0.mk (hb); have n5_ := Aside0.mk (ho); clear HO_355002; clear HO_362002; clear BK354; clear BK361; clear HB; clear HO_14; have HO_355002 := n0_; have HO_362002 := n1_; have BK354 := n2_; have BK361 := n3_; have HB := n4_; have HO364 := n5_; clear n0_ n1_ n2_ n3_ n4_ n5_; clear ho hb hg hat; obtain ⟨Ao30, co30, eo30⟩ := Kd.R_slice HO_355002.out; subst eo30))
                              replace HO_355002 := Aside0.mk (Kd.R_drew HO_355002.out)
                              replace HO_362002 := Aside0.mk (Kd.R_drew HO_362002.out)
                              replace HO364 := Aside0.mk (Kd.R_drew HO364.out)
                              replace BK354 := Aside0.mk (blk_drew BK354.out)
                              replace BK361 := Aside0.mk (blk_drew BK361.out)
                              replace HB := Aside0.mk (below_drew1 HB.out)
                              have p365 : 0 ≤ (x15_3 : Int) := of_decide_eq_true (by first | (with_reducible assumption) | assumption)
                              have q365 : x15_3 < (l2.length : Int) := of_decide_eq_true (by first | (with_reducible assumption) | assumption)
                              obtain ⟨ad365, e365, hx365_0⟩ := Kd.at_int HR2.out x15_3 p365 q365
                              have hw365_0 := hx365_0
                              cases e365
                              replace hx365_0 := (HB.out.cell (World.block_lt_of_cell? w _ hx365_0)).trans hx365_0
                              replace p365 := eq_true p365
                              replace q365 := eq_true q365
                              refine start_ (n := 21) (S := fun w' => w'.cell? ⟨gb354, 0, none⟩ = some (.int .i64 x355000_3) ∧ w'.cell? ⟨gb354, 1, none⟩ = some (.int .i64 x355001_3) ∧ w'.cell? ⟨gb354, 2, none⟩ = some (.slice Ao30 x355002_3.length co30) ∧ w'.cell? (ad365.add (x15_3).toNat) = some (.int .i64 (rd l2 x15_3))) (ds := []) #[false, false, false, false, false, false, false, false, false, false, false, false, false, false, false, false, false, false, false, false, false] (by kernel_rfl) rfl rfl ⟨(blk_cell BK354.out 0).trans rfl, (blk_cell BK354.out 1).trans rfl, (blk_cell BK354.out 2).trans rfl, ((HB.out.cell (World.block_lt_of_cell? w _ hw365_0)).trans hw365_0)⟩ (fun hHeld => ?_); refine with_tabW volutelaw09_PileOrder.tab14 volutelaw09_PileOrder.bits14 (fun HT_ HW_ => ?_)
                              generalize w29.drew = w31 at HO_355002 HO_362002 HO364 BK354 BK361 HB hx365_0 hHeld ⊢
                              refine pu 1 78 (lb 21 2) rfl rfl (any_of HT_.out (by kernel_rfl)) ?_
                              refine pu 2 79 (lb 21 6) rfl rfl (any_of HT_.out (by kernel_rfl)) ?_
                              refine pu 3 80 (lb 21 14) rfl rfl (any_of HT_.out (by kernel_rfl)) ?_
                              refine pu 4 81 (lb 21 30) rfl rfl (any_of HT_.out (by kernel_rfl)) ?_
                              refine pu 5 82 (lb 21 62) rfl rfl (any_of HT_.out (by kernel_rfl)) ?_
                              refine pu 6 83 (lb 21 126) rfl rfl (any_of HT_.out (by kernel_rfl)) ?_
                              refine pu 7 84 (lb 21 254) rfl rfl (any_of HT_.out (by kernel_rfl)) ?_
                              refine take_ (i := 0) (N := some 77) (v := ?_) (a' := ?_) (lb 21 255) rfl rfl (take_ofW HT_.out HW_.out (by kernel_rfl)) (fun _ _ _ h => h) (Or.inl ⟨by rfl, ?_⟩) hHeld ?_ ?_
                              rotate_left
                              · rintro w' ⟨s0, s1, s2, s3⟩
                                go_simp
                                with_reducible rfl
                              rotate_left
                              · simp only [Act.put, List.setIfInBounds_toArray, List.set_cons_zero, List.set_cons_succ, i64_w, i32_w]
                                rfl
                              refine take_ (i := 8) (N := some 85) (v := ?_) (a' := ?_) (lb 21 511) rfl rfl (take_ofW HT_.out HW_.out (by kernel_rfl)) (fun _ _ _ h => h) (Or.inl ⟨by rfl, ?_⟩) hHeld ?_ ?_
                              rotate_left
                              · rintro w' ⟨s0, s1, s2, s3⟩
                                go_simp
                                with_reducible rfl
                              rotate_left
                              · simp only [Act.put, List.setIfInBounds_toArray, List.set_cons_zero, List.set_cons_succ, i64_w, i32_w]
                                rfl
                              refine pu 9 86 (lb 21 1023) rfl rfl (any_of HT_.out (by kernel_rfl)) ?_
                              refine pu 10 87 (lb 21 2047) rfl rfl (any_of HT_.out (by kernel_rfl)) ?_
                              refine pu 11 88 (lb 21 4095) rfl rfl (any_of HT_.out (by kernel_rfl)) ?_
                              refine join_ (σ := Value × Nat) 3 #[true, true, true, true, true, true, true, true, true, true, true, true, true, true, true, true, true, true, false, false, false] (fun s_ => [(89, .tuple #[.agg #[.int .i64 t366, .int .i64 t367, s_.1], .bool true, .int .i64 t372]), (16, .pointer (some ⟨s_.2, 0, none⟩)), (76, .tuple #[.agg #[.int .i64 t366, .int .i64 t367, s_.1], .bool true, .int .i64 t372]), (90, .agg #[.int .i64 t366, .int .i64 t367, s_.1]), (91, .bool true), (92, .int .i64 t372)]) (fun s_ w' => (w'.cell? ⟨gb354, 0, none⟩ = some (.int .i64 x355000_3) ∧ w'.cell? ⟨gb354, 1, none⟩ = some (.int .i64 x355001_3) ∧ w'.cell? ⟨gb354, 2, none⟩ = some (.slice Ao30 x355002_3.length co30) ∧ w'.cell? (ad365.add (x15_3).toNat) = some (.int .i64 (rd l2 x15_3))) ∧ (Kd.R (Kd.int .i64) 3 w' w.heap.size (fun _ => True) v363 y362) ∧ (Kd.R k88 88 w' w.heap.size (fun k_ => some k_ ≠ (.slice Ao30 x355002_3.length co30 : Value).ownBlock ∧ some k_ ≠ (.slice Ao19 t357.length co19 : Value).ownBlock) s_.1 t368) ∧ (Kd.R k88 88 w' w.heap.size (fun k_ => some k_ ≠ (s_.1 : Value).ownBlock ∧ some k_ ≠ (.slice Ao19 t357.length co19 : Value).ownBlock) (.slice Ao30 x355002_3.length co30) x355002_3) ∧ (Kd.R k88 88 w' w.heap.size (fun k_ => some k_ ≠ (s_.1 : Value).ownBlock ∧ some k_ ≠ (.slice Ao30 x355002_3.length co30 : Value).ownBlock) (.slice Ao19 t357.length co19) t357) ∧ (w'.heap[gb354]? = some (.cells #[.int .i64 x355000_3, .int .i64 x355001_3, .slice Ao30 x355002_3.length co30] 67 (0, 0))) ∧ (w'.heap[gb361]? = some (.cells #[.int .i64 t355, .int .i64 t356, .slice Ao19 t357.length co19] 67 (0, 0))) ∧ (w'.heap[s_.2]? = some (.cells #[.int .i64 0, .int .i64 0, .slice none 0 0] 67 (0, 0))) ∧ (w.heap.size ≤ s_.2) ∧ (w.heap.size ≤ s_.2) ∧ (gb354 ≠ s_.2) ∧ (s_.2 ≠ gb354) ∧ (gb361 ≠ s_.2) ∧ (s_.2 ≠ gb361) ∧ (Below w.heap.size w w')) ?_ ?_
                              rotate_left
                              · intro hCont
                                refine two_ (i := 12) (j := 17) (Ni := some 89) (Nj := some 16) (lb 21 8191) (lb 21 135167) rfl rfl rfl rfl (two_of HT_.out (by kernel_rfl)) (by decide) (by decide) (fun K hK => ?_) (fun K hK => ?_)
                                · skip
                                  refine goes_ Try.func36 (by kernel_rfl) rfl #[.agg #[.int .i64 x355000_3, .int .i64 x355001_3, .slice Ao30 x355002_3.length co30], .int .i64 (Int.tmod (wrap64 (x15_3 * 7)) (wrap64 ((wrap64 (1 + (wrap64 (Int.tmod (IntKind.u64.wrap (a0)) 20)))) * (wrap64 (1 + (wrap64 (Int.tmod (IntKind.u64.wrap (a1)) 6))))))), .int .i64 (wrap64 (Int.tmod (IntKind.u64.wrap (rd l2 x15_3)) 256))] (by rfl) rfl rfl (by (try simp only [List.map_toArray, List.map_cons, List.map_nil]); first | done | rfl | (simp only [List.length_drop, List.length_take]; rfl)) ?_
                                  with_reducible refine (pile_Put.calls k3 x355000_3 x355001_3 _ _ x355002_3 (Int.tmod (wrap64 (x15_3 * 7)) (wrap64 ((wrap64 (1 + (wrap64 (Int.tmod (IntKind.u64.wrap (a0)) 20)))) * (wrap64 (1 + (wrap64 (Int.tmod (IntKind.u64.wrap (a1)) 6))))))) (wrap64 (Int.tmod (IntKind.u64.wrap (rd l2 x15_3)) 256)) t366 t367 t368 true t372 _ ?side1 ?side2 A26.out).mono ?_
                                  (case side1 => repeat (first | exact (Kd.R_reads' HO_355002.out).2.2 | (with_reducible refine Kd.C_alloc ?_ _) | (with_reducible refine Kd.C_drewN ?_ _) | (with_reducible refine Kd.C_drew ?_)))
                                  (case side2 => exact (Kd.R_reads' HO_355002.out).2.1)
                                  rintro e w32 ⟨v369, rfl, ho0, hb⟩
                                  refine ⟨_, rfl, ?_⟩
                                  replace HO364 := zR HO364 hb
                                  have HO370 := Aside0.mk (Kd.R_lower (Kd.R_new' (Kd.R_new' ho0 (Kd.R_lt (zr_ HO_355002))) (Kd.R_lt (zr_ HO_362002))) (below_size (zB HB)))
                                  replace HO_355002 := Aside0.mk (Kd.R_elder' (zr_ HO_355002) (Kd.R_base ho0) hb)
                                  replace HO_362002 := Aside0.mk (Kd.R_elder' (zr_ HO_362002) (Kd.R_base ho0) hb)
                                  replace BK354 := zb BK354 hb
                                  replace BK361 := zb BK361 hb
                                  replace HB := zs HB hb
                                  (try clear hb)
                                  (try clear hb2)
                                  (try clear hk)
                                  (try clear hi)
                                  (try clear ho0)
                                  refine hK.out _ _ ⟨(blk_cell BK354.out 0).trans rfl, (blk_cell BK354.out 1).trans rfl, (blk_cell BK354.out 2).trans rfl, ((HB.out.cell (World.block_lt_of_cell? w _ hw365_0)).trans hw365_0)⟩ (fun hHeld => ?_)
                                  clear hK K
                                  refine norm_ (a' := ?_) ?_ ?_
                                  rotate_left
                                  · show Act.put _ (some 89) _ = _
                                    simp only [Act.put, List.setIfInBounds_toArray, List.set_cons_zero, List.set_cons_succ, i64_w, i32_w]
                                    rfl
                                  refine pu 13 76 (lb 21 16383) rfl rfl (any_of HT_.out (by kernel_rfl)) ?_
                                  refine pu 14 90 (lb 21 32767) rfl rfl (any_of HT_.out (by kernel_rfl)) ?_
                                  refine pu 15 91 (lb 21 65535) rfl rfl (any_of HT_.out (by kernel_rfl)) ?_
                                  refine pu 16 92 (lb 21 131071) rfl rfl (any_of HT_.out (by kernel_rfl)) ?_
                                  refine one_ (i := 17) (N := some 16) (lb 21 262143) rfl rfl (one_of HT_.out (by kernel_rfl)) (by decide) (fun K hK => ?_)
                                  refine box_step ?hg (N := 16) ?hd (cs := #[.int .i64 0, .int .i64 0, .slice none 0 0]) (t := 67) ?hr ?_; (case hd => rfl); (case hg => rfl); (case hr => first | (go_simp; done) | (go_simp; rfl))
                                  intro gb373 hg w33 hbox hb
                                  replace HO_355002 := zR HO_355002 hb
                                  replace HO_362002 := zR HO_362002 hb
                                  replace HO364 := zR HO364 hb
                                  replace HO370 := zR HO370 hb
                                  have BK373 := Aside0.mk (hbox)
                                  have GW373 := zg HB hg
                                  have GE373 := zg HB hg
                                  replace HB := zs HB hb
                                  have NB354_373 := zl BK354 hg
                                  have NB373_354 := zr BK354 hg
                                  replace BK354 := zb BK354 hb
                                  have NB361_373 := zl BK361 hg
                                  have NB373_361 := zr BK361 hg
                                  replace BK361 := zb BK361 hb
                                  clear hb hbox hg
                                  refine hK.out _ _ ⟨(blk_cell BK354.out 0).trans rfl, (blk_cell BK354.out 1).trans rfl, (blk_cell BK354.out 2).trans rfl, ((HB.out.cell (World.block_lt_of_cell? w _ hw365_0)).trans hw365_0)⟩ (fun hHeld => ?_)
                                  clear hK K
                                  refine norm_ (a' := ?_) ?_ ?_
                                  rotate_left
                                  · show Act.put _ (some 16) _ = _
                                    simp only [Act.put, List.setIfInBounds_toArray, List.set_cons_zero, List.set_cons_succ, i64_w, i32_w]
                                    rfl
                                  exact norm_ (by simp only [putAll, Act.put, List.setIfInBounds_toArray, List.set_cons_zero, List.set_cons_succ]) (hCont (v369, gb373) _ ⟨hHeld, (zr_ HO364), (by (with_reducible repeat (first | apply Kd.R_alloc | apply Kd.R_drewN | apply Kd.R_drew)); exact Kd.R_mono HO370.out (fun _ hk => ⟨hk.1.2, hk.2⟩)), (by (with_reducible repeat (first | apply Kd.R_alloc | apply Kd.R_drewN | apply Kd.R_drew)); exact Kd.R_mono HO_355002.out (fun _ hk => ⟨hk.2, hk.1⟩)), (by (with_reducible repeat (first | apply Kd.R_alloc | apply Kd.R_drewN | apply Kd.R_drew)); exact Kd.R_mono HO_362002.out (fun _ hk => ⟨hk.2, hk.1⟩)), (zk BK354), (zk BK361), (zk BK373), GW373.out, GE373.out, NB354_373.out, NB373_354.out, NB361_373.out, NB373_361.out, (zB HB)⟩)
                                · skip
                                  refine box_step ?hg (N := 16) ?hd (cs := #[.int .i64 0, .int .i64 0, .slice none 0 0]) (t := 67) ?hr ?_; (case hd => rfl); (case hg => rfl); (case hr => first | (go_simp; done) | (go_simp; rfl))
                                  intro gb373 hg w32 hbox hb
                                  replace HO_355002 := zR HO_355002 hb
                                  replace HO_362002 := zR HO_362002 hb
                                  replace HO364 := zR HO364 hb
                                  have BK373 := Aside0.mk (hbox)
                                  have GW373 := zg HB hg
                                  have GE373 := zg HB hg
                                  replace HB := zs HB hb
                                  have NB354_373 := zl BK354 hg
                                  have NB373_354 := zr BK354 hg
                                  replace BK354 := zb BK354 hb
                                  have NB361_373 := zl BK361 hg
                                  have NB373_361 := zr BK361 hg
                                  replace BK361 := zb BK361 hb
                                  clear hb hbox hg
                                  refine hK.out _ _ ⟨(blk_cell BK354.out 0).trans rfl, (blk_cell BK354.out 1).trans rfl, (blk_cell BK354.out 2).trans rfl, ((HB.out.cell (World.block_lt_of_cell? w _ hw365_0)).trans hw365_0)⟩ (fun hHeld => ?_)
                                  clear hK K
                                  refine norm_ (a' := ?_) ?_ ?_
                                  rotate_left
                                  · show Act.put _ (some 16) _ = _
                                    simp only [Act.put, List.setIfInBounds_toArray, List.set_cons_zero, List.set_cons_succ, i64_w, i32_w]
                                    rfl
                                  refine one_ (i := 12) (N := some 89) (lb 21 139263) rfl rfl (one_of HT_.out (by kernel_rfl)) (by decide) (fun K hK => ?_)
                                  refine goes_ Try.func36 (by kernel_rfl) rfl #[.agg #[.int .i64 x355000_3, .int .i64 x355001_3, .slice Ao30 x355002_3.length co30], .int .i64 (Int.tmod (wrap64 (x15_3 * 7)) (wrap64 ((wrap64 (1 + (wrap64 (Int.tmod (IntKind.u64.wrap (a0)) 20)))) * (wrap64 (1 + (wrap64 (Int.tmod (IntKind.u64.wrap (a1)) 6))))))), .int .i64 (wrap64 (Int.tmod (IntKind.u64.wrap (rd l2 x15_3)) 256))] (by rfl) rfl rfl (by (try simp only [List.map_toArray, List.map_cons, List.map_nil]); first | done | rfl | (simp only [List.length_drop, List.length_take]; rfl)) ?_
                                  with_reducible refine (pile_Put.calls k3 x355000_3 x355001_3 _ _ x355002_3 (Int.tmod (wrap64 (x15_3 * 7)) (wrap64 ((wrap64 (1 + (wrap64 (Int.tmod (IntKind.u64.wrap (a0)) 20)))) * (wrap64 (1 + (wrap64 (Int.tmod (IntKind.u64.wrap (a1)) 6))))))) (wrap64 (Int.tmod (IntKind.u64.wrap (rd l2 x15_3)) 256)) t366 t367 t368 true t372 _ ?side1 ?side2 A26.out).mono ?_
                                  (case side1 => repeat (first | exact (Kd.R_reads' HO_355002.out).2.2 | (with_reducible refine Kd.C_alloc ?_ _) | (with_reducible refine Kd.C_drewN ?_ _) | (with_reducible refine Kd.C_drew ?_)))
                                  (case side2 => exact (Kd.R_reads' HO_355002.out).2.1)
                                  rintro e w33 ⟨v369, rfl, ho0, hb⟩
                                  refine ⟨_, rfl, ?_⟩
                                  replace HO364 := zR HO364 hb
                                  have HO370 := Aside0.mk (Kd.R_lower (Kd.R_new' (Kd.R_new' ho0 (Kd.R_lt (zr_ HO_355002))) (Kd.R_lt (zr_ HO_362002))) (below_size (zB HB)))
                                  replace HO_355002 := Aside0.mk (Kd.R_elder' (zr_ HO_355002) (Kd.R_base ho0) hb)
                                  replace HO_362002 := Aside0.mk (Kd.R_elder' (zr_ HO_362002) (Kd.R_base ho0) hb)
                                  replace BK354 := zb BK354 hb
                                  replace BK361 := zb BK361 hb
                                  replace BK373 := zb BK373 hb
                                  replace HB := zs HB hb
                                  (try clear hb)
                                  (try clear hb2)
                                  (try clear hk)
                                  (try clear hi)
                                  (try clear ho0)
                                  refine hK.out _ _ ⟨(blk_cell BK354.out 0).trans rfl, (blk_cell BK354.out 1).trans rfl, (blk_cell BK354.out 2).trans rfl, ((HB.out.cell (World.block_lt_of_cell? w _ hw365_0)).trans hw365_0)⟩ (fun hHeld => ?_)
                                  clear hK K
                                  refine norm_ (a' := ?_) ?_ ?_
                                  rotate_left
                                  · show Act.put _ (some 89) _ = _
                                    simp only [Act.put, List.setIfInBounds_toArray, List.set_cons_zero, List.set_cons_succ, i64_w, i32_w]
                                    rfl
                                  refine pu 13 76 (lb 21 147455) rfl rfl (any_of HT_.out (by kernel_rfl)) ?_
                                  refine pu 14 90 (lb 21 163839) rfl rfl (any_of HT_.out (by kernel_rfl)) ?_
                                  refine pu 15 91 (lb 21 196607) rfl rfl (any_of HT_.out (by kernel_rfl)) ?_
                                  refine pu 16 92 (lb 21 262143) rfl rfl (any_of HT_.out (by kernel_rfl)) ?_
                                  exact norm_ (by simp only [putAll, Act.put, List.setIfInBounds_toArray, List.set_cons_zero, List.set_cons_succ]) (hCont (v369, gb373) _ ⟨hHeld, (zr_ HO364), (by (with_reducible repeat (first | apply Kd.R_alloc | apply Kd.R_drewN | apply Kd.R_drew)); exact Kd.R_mono HO370.out (fun _ hk => ⟨hk.1.2, hk.2⟩)), (by (with_reducible repeat (first | apply Kd.R_alloc | apply Kd.R_drewN | apply Kd.R_drew)); exact Kd.R_mono HO_355002.out (fun _ hk => ⟨hk.2, hk.1⟩)), (by (with_reducible repeat (first | apply Kd.R_alloc | apply Kd.R_drewN | apply Kd.R_drew)); exact Kd.R_mono HO_362002.out (fun _ hk => ⟨hk.2, hk.1⟩)), (zk BK354), (zk BK361), (zk BK373), GW373.out, GE373.out, NB354_373.out, NB373_354.out, NB361_373.out, NB373_361.out, (zB HB)⟩)
                              rintro ⟨v369, gb373⟩ w34 ⟨hS_, h0_, h1_, h2_, h3_, h4_, h5_, h6_, h7_, h8_, h9_, h10_, h11_, h12_, h13_⟩
                              have n0_ : Aside0 (Kd.R (Kd.int .i64) 3 w34 w.heap.size (fun _ => True) v363 y362) := ⟨h0_⟩
                              have n1_ : Aside0 (Kd.R k88 88 w34 w.heap.size (fun k_ => some k_ ≠ (.slice Ao30 x355002_3.length co30 : Value).ownBlock ∧ some k_ ≠ (.slice Ao19 t357.length co19 : Value).ownBlock) v369 t368) := ⟨h1_⟩
                              have n2_ : Aside0 (Kd.R k88 88 w34 w.heap.size (fun k_ => some k_ ≠ (v369 : Value).ownBlock ∧ some k_ ≠ (.slice Ao19 t357.length co19 : Value).ownBlock) (.slice Ao30 x355002_3.length co30) x355002_3) := ⟨h2_⟩
                              have n3_ : Aside0 (Kd.R k88 88 w34 w.heap.size (fun k_ => some k_ ≠ (v369 : Value).ownBlock ∧ some k_ ≠ (.slice Ao30 x355002_3.length co30 : Value).ownBlock) (.slice Ao19 t357.length co19) t357) := ⟨h3_⟩
                              have n4_ : Aside0 (w34.heap[gb354]? = some (.cells #[.int .i64 x355000_3, .int .i64 x355001_3, .slice Ao30 x355002_3.length co30] 67 (0, 0))) := ⟨h4_⟩
                              have n5_ : Aside0 (w34.heap[gb361]? = some (.cells #[.int .i64 t355, .int .i64 t356, .slice Ao19 t357.length co19] 67 (0, 0))) := ⟨h5_⟩
                              have n6_ : Aside0 (w34.heap[gb373]? = some (.cells #[.int .i64 0, .int .i64 0, .slice none 0 0] 67 (0, 0))) := ⟨h6_⟩
                              have n7_ : Aside0 (w.heap.size ≤ gb373) := ⟨h7_⟩
                              have n8_ : Aside0 (w.heap.size ≤ gb373) := ⟨h8_⟩
                              have n9_ : Aside0 (gb354 ≠ gb373) := ⟨h9_⟩
                              have n10_ : Aside0 (gb373 ≠ gb354) := ⟨h10_⟩
                              have n11_ : Aside0 (gb361 ≠ gb373) := ⟨h11_⟩
                              have n12_ : Aside0 (gb373 ≠ gb361) := ⟨h12_⟩
                              have n13_ : Aside0 (Below w.heap.size w w34) := ⟨h13_⟩
                              clear HO_355002
                              clear HO_362002
                              clear HO364
                              clear BK354
                              clear BK361
                              clear HB
                              clear h0_ h1_ h2_ h3_ h4_ h5_ h6_ h7_ h8_ h9_ h10_ h11_ h12_ h13_
                              have HO364 := n0_
                              have HO370 := n1_
                              have HO_355002 := n2_
                              have HO_362002 := n3_
                              have BK354 := n4_
                              have BK361 := n5_
                              have BK373 := n6_
                              have GW373 := n7_
                              have GE373 := n8_
                              have NB354_373 := n9_
                              have NB373_354 := n10_
                              have NB361_373 := n11_
                              have NB373_361 := n12_
                              have HB := n13_
                              clear n0_ n1_ n2_ n3_ n4_ n5_ n6_ n7_ n8_ n9_ n10_ n11_ n12_ n13_
                              have hHeld : w34.cell? ⟨gb354, 0, none⟩ = some (.int .i64 x355000_3) ∧ w34.cell? ⟨gb354, 1, none⟩ = some (.int .i64 x355001_3) ∧ w34.cell? ⟨gb354, 2, none⟩ = some (.slice Ao30 x355002_3.length co30) ∧ w34.cell? (ad365.add (x15_3).toNat) = some (.int .i64 (rd l2 x15_3)) := hS_
                              obtain ⟨Ao37, co37, eo37⟩ := Kd.R_slice HO370.out
                              (first | subst eo37 | (injection eo37 with f1_ f2_ f3_; have f4_ := f1_.symm; have f5_ := f3_.symm; clear f1_ f2_ f3_; subst f4_; subst f5_))
                              refine norm_ (a' := ?_) ?_ ?_
                              rotate_left
                              · simp only [putAll, Act.put, List.setIfInBounds_toArray, List.set_cons_zero, List.set_cons_succ]
                                rfl
                              refine one_ (i := 18) (N := none) (lb 21 524287) rfl rfl (one_of HT_.out (by kernel_rfl)) (by decide) (fun K hK => ?_)
                              have hs35 : w34.cell? ⟨gb373, 0, none⟩ = some (.int .i64 0) := (blk_cell BK373.out 0).trans rfl
                              have hfs35 := blk_frozen BK373.out 0
                              have hns35_0 := NB354_373.out
                              have hns35_1 := NB361_373.out
                              have hms35_0 := NB373_354.out
                              have hms35_1 := NB373_361.out
                              have hs36 : w34.cell? ⟨gb373, 1, none⟩ = some (.int .i64 0) := (blk_cell BK373.out 1).trans rfl
                              have hfs36 := blk_frozen BK373.out 1
                              have hns36_0 := NB354_373.out
                              have hns36_1 := NB361_373.out
                              have hms36_0 := NB373_354.out
                              have hms36_1 := NB373_361.out
                              have hs38 : w34.cell? ⟨gb373, 2, none⟩ = some (.slice none 0 0) := (blk_cell BK373.out 2).trans rfl
                              have hfs38 := blk_frozen BK373.out 2
                              have hns38_0 := NB354_373.out
                              have hns38_1 := NB361_373.out
                              have hms38_0 := NB373_354.out
                              have hms38_1 := NB373_361.out
                              refine skip_ (w1 := ?_) (by rfl) rfl ?_ ?_
                              rotate_left
                              · go_simp
                                rfl
                              refine hK.out _ _ ⟨((cell_far (p := ⟨gb373, _, none⟩) NB354_373.out _).trans (((cell_far (p := ⟨gb373, _, none⟩) NB354_373.out _).trans (((cell_far (p := ⟨gb373, _, none⟩) NB354_373.out _).trans (hHeld.1)))))), ((cell_far (p := ⟨gb373, _, none⟩) NB354_373.out _).trans (((cell_far (p := ⟨gb373, _, none⟩) NB354_373.out _).trans (((cell_far (p := ⟨gb373, _, none⟩) NB354_373.out _).trans (hHeld.2.1)))))), ((cell_far (p := ⟨gb373, _, none⟩) NB354_373.out _).trans (((cell_far (p := ⟨gb373, _, none⟩) NB354_373.out _).trans (((cell_far (p := ⟨gb373, _, none⟩) NB354_373.out _).trans (hHeld.2.2.1)))))), ((cell_far (p := ⟨gb373, _, none⟩) (by first | exact Nat.ne_of_lt (Nat.lt_of_lt_of_le (by have := World.block_lt_of_cell? _ _ hw365_0; first | rwa [add_block] at this | exact this) GW373.out) | (rw [add_block]; exact Nat.ne_of_lt (Nat.lt_of_lt_of_le (by have := World.block_lt_of_cell? _ _ hw365_0; first | rwa [add_block] at this | exact this) GW373.out)) | (show (Addr.add _ _).block ≠ _; rw [add_block]; exact Nat.ne_of_lt (Nat.lt_of_lt_of_le (by have := World.block_lt_of_cell? _ _ hw365_0; first | rwa [add_block] at this | exact this) GW373.out)) | (dsimp only; exact Nat.ne_of_lt (Nat.lt_of_lt_of_le (by have := World.block_lt_of_cell? _ _ hw365_0; first | rwa [add_block] at this | exact this) GW373.out))) _).trans (((cell_far (p := ⟨gb373, _, none⟩) (by first | exact Nat.ne_of_lt (Nat.lt_of_lt_of_le (by have := World.block_lt_of_cell? _ _ hw365_0; first | rwa [add_block] at this | exact this) GW373.out) | (rw [add_block]; exact Nat.ne_of_lt (Nat.lt_of_lt_of_le (by have := World.block_lt_of_cell? _ _ hw365_0; first | rwa [add_block] at this | exact this) GW373.out)) | (show (Addr.add _ _).block ≠ _; rw [add_block]; exact Nat.ne_of_lt (Nat.lt_of_lt_of_le (by have := World.block_lt_of_cell? _ _ hw365_0; first | rwa [add_block] at this | exact this) GW373.out)) | (dsimp only; exact Nat.ne_of_lt (Nat.lt_of_lt_of_le (by have := World.block_lt_of_cell? _ _ hw365_0; first | rwa [add_block] at this | exact this) GW373.out))) _).trans (((cell_far (p := ⟨gb373, _, none⟩) (by first | exact Nat.ne_of_lt (Nat.lt_of_lt_of_le (by have := World.block_lt_of_cell? _ _ hw365_0; first | rwa [add_block] at this | exact this) GW373.out) | (rw [add_block]; exact Nat.ne_of_lt (Nat.lt_of_lt_of_le (by have := World.block_lt_of_cell? _ _ hw365_0; first | rwa [add_block] at this | exact this) GW373.out)) | (show (Addr.add _ _).block ≠ _; rw [add_block]; exact Nat.ne_of_lt (Nat.lt_of_lt_of_le (by have := World.block_lt_of_cell? _ _ hw365_0; first | rwa [add_block] at this | exact this) GW373.out)) | (dsimp only; exact Nat.ne_of_lt (Nat.lt_of_lt_of_le (by have := World.block_lt_of_cell? _ _ hw365_0; first | rwa [add_block] at this | exact this) GW373.out))) _).trans (hHeld.2.2.2))))))⟩ (fun hHeld => ?_)
                              clear hK K
                              refine pu 19 17 (lb 21 1048575) rfl rfl (any_of HT_.out (by kernel_rfl)) ?_
                              refine pu 20 18 (lb 21 2097151) rfl rfl (any_of HT_.out (by kernel_rfl)) ?_
                              refine done_ (done_of HT_.out (by kernel_rfl)) ?_
                              have hnb39 := NB373_354.out
                              have hnc39 := NB354_373.out
                              have hnb40 := NB373_361.out
                              have hnc40 := NB361_373.out
                              obtain ⟨hcz41_0, hcz41_1, hcz41_2⟩ := zC3 BK373
                              obtain ⟨hfz41_0, hfz41_1, hfz41_2⟩ := zF3 BK373
                              have hnb42 := NB354_361.out
                              have hnc42 := NB361_354.out
                              obtain ⟨hcz43_0, hcz43_1, hcz43_2⟩ := zC3 BK354
                              obtain ⟨hfz43_0, hfz43_1, hfz43_2⟩ := zF3 BK354
                              try go_wp2
                              go_roundg k3
                              case measure => have := HJ4.out; have := HJ9.out; have := HK3.out; omega
                              case rel => exact ⟨(y362), (wrap64 (x15_3 + 1)), (t366), (t367), (t368), (.slice Ao37 t368.length co37), (by first | rfl | (simp; done) | (simp [*]; done)), H', ⟨by have := HJ4.out; have := HJ9.out; have := HK3.out; omega⟩, ⟨by (with_reducible repeat (first | apply Kd.R_alloc | apply Kd.R_drewN | apply Kd.R_drew)); exact Kd.R_mono (Kd.R_far (p := ⟨gb354, 2, none⟩) (Kd.R_far (p := ⟨gb354, 1, none⟩) (Kd.R_far (p := ⟨gb354, 0, none⟩) (Kd.R_far (p := ⟨gb373, 2, none⟩) (Kd.R_far (p := ⟨gb373, 1, none⟩) (Kd.R_far (p := ⟨gb373, 0, none⟩) (Kd.R_types (Kd.R_types HO364.out BK373.out (by decide)) BK354.out (by decide)) (fun _ hk => hk.1.2) (.int .i64 t366)) (fun _ hk => hk.1.2) (.int .i64 t367)) (fun _ hk => hk.1.2) (.slice Ao37 t368.length co37)) (fun _ hk => hk.2) (.int .i64 t366)) (fun _ hk => hk.2) (.int .i64 t367)) (fun _ hk => hk.2) (.slice Ao37 t368.length co37)) (fun _ hk => trivial)⟩, ⟨by (with_reducible repeat (first | apply Kd.R_alloc | apply Kd.R_drewN | apply Kd.R_drew)); exact Kd.R_mono (Kd.R_far (p := ⟨gb354, 2, none⟩) (Kd.R_far (p := ⟨gb354, 1, none⟩) (Kd.R_far (p := ⟨gb354, 0, none⟩) (Kd.R_far (p := ⟨gb373, 2, none⟩) (Kd.R_far (p := ⟨gb373, 1, none⟩) (Kd.R_far (p := ⟨gb373, 0, none⟩) (Kd.R_types (Kd.R_types HO370.out BK373.out (by decide)) BK354.out (by decide)) (fun _ hk => hk.1.2) (.int .i64 t366)) (fun _ hk => hk.1.2) (.int .i64 t367)) (fun _ hk => hk.1.2) (.slice Ao37 t368.length co37)) (fun _ hk => hk.2) (.int .i64 t366)) (fun _ hk => hk.2) (.int .i64 t367)) (fun _ hk => hk.2) (.slice Ao37 t368.length co37)) (fun _ hk => hk.1.1.2)⟩, ⟨by (with_reducible repeat (first | apply Kd.R_alloc | apply Kd.R_drewN | apply Kd.R_drew)); exact Kd.R_mono (Kd.R_far (p := ⟨gb354, 2, none⟩) (Kd.R_far (p := ⟨gb354, 1, none⟩) (Kd.R_far (p := ⟨gb354, 0, none⟩) (Kd.R_far (p := ⟨gb373, 2, none⟩) (Kd.R_far (p := ⟨gb373, 1, none⟩) (Kd.R_far (p := ⟨gb373, 0, none⟩) (Kd.R_types (Kd.R_types HO_362002.out BK373.out (by decide)) BK354.out (by decide)) (fun _ hk => hk.1.2) (.int .i64 t366)) (fun _ hk => hk.1.2) (.int .i64 t367)) (fun _ hk => hk.1.2) (.slice Ao37 t368.length co37)) (fun _ hk => hk.2) (.int .i64 t366)) (fun _ hk => hk.2) (.int .i64 t367)) (fun _ hk => hk.2) (.slice Ao37 t368.length co37)) (fun _ hk => hk.1.1.1)⟩, ⟨by (with_reducible repeat (first | refine blk_drewN ?_ _ | refine blk_drew ?_ | refine blk_alloc ?_ _)); refine blk_put (cs := #[.int .i64 t366, .int .i64 t367, .slice Ao30 x355002_3.length co30]) ?_ 2 _ rfl; (with_reducible repeat (first | refine blk_drewN ?_ _ | refine blk_drew ?_ | refine blk_alloc ?_ _)); refine blk_put (cs := #[.int .i64 t366, .int .i64 x355001_3, .slice Ao30 x355002_3.length co30]) ?_ 1 _ rfl; (with_reducible repeat (first | refine blk_drewN ?_ _ | refine blk_drew ?_ | refine blk_alloc ?_ _)); refine blk_put (cs := #[.int .i64 x355000_3, .int .i64 x355001_3, .slice Ao30 x355002_3.length co30]) ?_ 0 _ rfl; (with_reducible repeat (first | refine blk_drewN ?_ _ | refine blk_drew ?_ | refine blk_alloc ?_ _)); refine blk_far ?_ NB354_373.out _; (with_reducible repeat (first | refine blk_drewN ?_ _ | refine blk_drew ?_ | refine blk_alloc ?_ _)); refine blk_far ?_ NB354_373.out _; (with_reducible repeat (first | refine blk_drewN ?_ _ | refine blk_drew ?_ | refine blk_alloc ?_ _)); refine blk_far ?_ NB354_373.out _; (with_reducible repeat (first | refine blk_drewN ?_ _ | refine blk_drew ?_ | refine blk_alloc ?_ _)); exact BK354.out⟩, ⟨by (with_reducible repeat (first | refine blk_drewN ?_ _ | refine blk_drew ?_ | refine blk_alloc ?_ _)); refine blk_far ?_ NB361_354.out _; (with_reducible repeat (first | refine blk_drewN ?_ _ | refine blk_drew ?_ | refine blk_alloc ?_ _)); refine blk_far ?_ NB361_354.out _; (with_reducible repeat (first | refine blk_drewN ?_ _ | refine blk_drew ?_ | refine blk_alloc ?_ _)); refine blk_far ?_ NB361_354.out _; (with_reducible repeat (first | refine blk_drewN ?_ _ | refine blk_drew ?_ | refine blk_alloc ?_ _)); refine blk_far ?_ NB361_373.out _; (with_reducible repeat (first | refine blk_drewN ?_ _ | refine blk_drew ?_ | refine blk_alloc ?_ _)); refine blk_far ?_ NB361_373.out _; (with_reducible repeat (first | refine blk_drewN ?_ _ | refine blk_drew ?_ | refine blk_alloc ?_ _)); refine blk_far ?_ NB361_373.out _; (with_reducible repeat (first | refine blk_drewN ?_ _ | refine blk_drew ?_ | refine blk_alloc ?_ _)); exact BK361.out⟩, ⟨by repeat (first | (with_reducible first | exact HB.out | apply below_alloc | apply pw_below_drewN | apply below_drew1 | refine below_set ?_ GE354.out | refine below_set ?_ GE361.out | refine below_set ?_ GE373.out) | exact HB.out)⟩⟩
                            · replace c28 := Bool.eq_false_iff.mpr c28
                              subst c28
                              have H1 : (if 0 ≤ (wrap64 ((y362.length : Int) - 1)) then (if (wrap64 ((y362.length : Int) - 1)) ≤ (y362.length : Int) then (volutelaw09_PileOrder.l0 k3 l2 l3 (wrap64 ((wrap64 (1 + (wrap64 (Int.tmod (IntKind.u64.wrap (a0)) 20)))) * (wrap64 (1 + (wrap64 (Int.tmod (IntKind.u64.wrap (a1)) 6)))))) (y362.take ((wrap64 ((y362.length : Int) - 1)) : Int).toNat) (wrap64 (x15_3 + 1)) t366 t367 t368 t355 t356 t357) else (none)) else (none)) = some true := by rw [if_neg (show ¬ (false = true) by decide)] at H; exact H
                              clear H
                              have H := H1
                              clear H1
                              obtain ⟨ji44, hji44⟩ : ∃ j_ : Int, (wrap64 ((y362.length : Int) - 1)) = j_ := ⟨_, rfl⟩
                              replace H : (if 0 ≤ (ji44) then (if (ji44) ≤ (y362.length : Int) then (volutelaw09_PileOrder.l0 k3 l2 l3 (wrap64 ((wrap64 (1 + (wrap64 (Int.tmod (IntKind.u64.wrap (a0)) 20)))) * (wrap64 (1 + (wrap64 (Int.tmod (IntKind.u64.wrap (a1)) 6)))))) (y362.take ((ji44) : Int).toNat) (wrap64 (x15_3 + 1)) t366 t367 t368 t355 t356 t357) else (none)) else (none)) = some true := by first | (rw [hji44] at H; exact H) | (simp only [hji44] at H ⊢; exact H)
                              (try rw [hji44] at A26)
                              have hji44w : (IntKind.i64.wrap ((y362.length : Int) - 1)) = ji44 := (i64_w _).trans hji44
                              by_cases c45 : 0 ≤ (ji44)
                              · rw [if_pos c45] at H
                                have c45b0 := eq_true c45
                                have c45b1 : decide (0 ≤ (ji44)) = true := decide_eq_true c45
                                clear c45
                                by_cases c46 : (ji44) ≤ (y362.length : Int)
                                · rw [if_pos c46] at H
                                  have c46b0 := eq_true c46
                                  have c46b1 : decide ((ji44) ≤ (y362.length : Int)) = true := decide_eq_true c46
                                  clear c46
                                  obtain ⟨y374, hy374⟩ : ∃ y_ : List Int, y_ = (y362.take ((ji44) : Int).toNat) := ⟨_, rfl⟩
                                  replace H : (volutelaw09_PileOrder.l0 k3 l2 l3 (wrap64 ((wrap64 (1 + (wrap64 (Int.tmod (IntKind.u64.wrap (a0)) 20)))) * (wrap64 (1 + (wrap64 (Int.tmod (IntKind.u64.wrap (a1)) 6)))))) y374 (wrap64 (x15_3 + 1)) t366 t367 t368 t355 t356 t357) = some true := by first | (rw [hy374]; with_reducible exact H) | (have H2_ := (Option.bind_some _ _).symm.trans H; rw [hy374]; with_reducible exact H2_) | (have H2_ := (Option.bind_some _ _).symm.trans H; with_reducible exact H2_) | with_reducible exact H | (rw [hy374]; exact H) | exact H
                                  have Ny374 := Aside0.mk hy374
                                  clear hy374
                                  have H' := Aside0.mk H
                                  clear H
                                  try go_wp2_with (first | ((with_reducible refine gate_builtin (b := .append) (xs := #[.tmp 72, .tmp 74]) rfl ?_); (try (refine gate_guard (by rfl) ?_; dsimp only)); at_builtin; refine Kd.R_append (Kd.int .i64) (w0 := w) w.heap.size rfl (.tmp 72) (.tmp 74) 30 3 (.int .i64 0) 8 rfl Try.underlying30 info3 rfl (by decide) (by omega) u14 x14_3 x15_3 [.int .i64 x15_3] (fun _ => True) (fun _ => False) rfl rfl ?aP (fun _ hk => hk.elim) ?aF ?aO ?aB ?aS ?aL ?_; (case aP => exact rfl); (case aB => exact (zB HB)); (case aF => exact (fun _ _ => trivial)); (case aO => exact (zr_ HO_14)); (case aS => exact (below_size (zB HB))); (case aL => have := LMc23.out; omega); intro v363 w47 ho hb hg hat; rw [← Ny362.out] at ho; have n0_ := Aside0.mk (Kd.R_over' (zr_ HO_355002) (Kd.R_typed (zr_ HO_14)) (by decide) hg); have n1_ := Aside0.mk (Kd.R_over' (zr_ HO_362002) (Kd.R_typed (zr_ HO_14)) (by decide) hg); have n2_ := Aside0.mk (blk_grown (g := gb354) (o := .cells #[.int .i64 x355000_3, .int .i64 x355001_3, u355002] 67 (0, 0)) (zk BK354) hg (Kd.R_ne HO_14.out BK354.out (by decide))); have n3_ := Aside0.mk (blk_grown (g := gb361) (o := .cells #[.int .i64 t355, .int .i64 t356, .slice Ao19 t357.length co19] 67 (0, 0)) (zk BK361) hg (Kd.R_ne HO_14.out BK361.out (by decide))); have n4_ := Aside0.mk (hb); have n5_ := Aside0.mk (ho); clear HO_355002; clear HO_362002; clear BK354; clear BK361; clear HB; clear HO_14; have HO_355002 := n0_; have HO_362002 := n1_; have BK354 := n2_; have BK361 := n3_; have HB := n4_; have HO364 := n5_; clear n0_ n1_ n2_ n3_ n4_ n5_; clear ho hb hg hat; obtain ⟨Ao48, co48, eo48⟩ := Kd.R_slice HO_355002.out; subst eo48))
                                  replace HO_355002 := Aside0.mk (Kd.R_drew HO_355002.out)
                                  replace HO_362002 := Aside0.mk (Kd.R_drew HO_362002.out)
                                  replace HO364 := Aside0.mk (Kd.R_drew HO364.out)
                                  replace BK354 := Aside0.mk (blk_drew BK354.out)
                                  replace BK361 := Aside0.mk (blk_drew BK361.out)
                                  replace HB := Aside0.mk (below_drew1 HB.out)
                                  have p365 : 0 ≤ (x15_3 : Int) := of_decide_eq_true (by first | (with_reducible assumption) | assumption)
                                  have q365 : x15_3 < (l2.length : Int) := of_decide_eq_true (by first | (with_reducible assumption) | assumption)
                                  obtain ⟨ad365, e365, hx365_0⟩ := Kd.at_int HR2.out x15_3 p365 q365
                                  have hw365_0 := hx365_0
                                  cases e365
                                  replace hx365_0 := (HB.out.cell (World.block_lt_of_cell? w _ hx365_0)).trans hx365_0
                                  replace p365 := eq_true p365
                                  replace q365 := eq_true q365
                                  refine start_ (n := 21) (S := fun w' => w'.cell? ⟨gb354, 0, none⟩ = some (.int .i64 x355000_3) ∧ w'.cell? ⟨gb354, 1, none⟩ = some (.int .i64 x355001_3) ∧ w'.cell? ⟨gb354, 2, none⟩ = some (.slice Ao48 x355002_3.length co48) ∧ w'.cell? (ad365.add (x15_3).toNat) = some (.int .i64 (rd l2 x15_3))) (ds := []) #[false, false, false, false, false, false, false, false, false, false, false, false, false, false, false, false, false, false, false, false, false] (by kernel_rfl) rfl rfl ⟨(blk_cell BK354.out 0).trans rfl, (blk_cell BK354.out 1).trans rfl, (blk_cell BK354.out 2).trans rfl, ((HB.out.cell (World.block_lt_of_cell? w _ hw365_0)).trans hw365_0)⟩ (fun hHeld => ?_); refine with_tabW volutelaw09_PileOrder.tab14 volutelaw09_PileOrder.bits14 (fun HT_ HW_ => ?_)
                                  generalize w47.drew = w49 at HO_355002 HO_362002 HO364 BK354 BK361 HB hx365_0 hHeld ⊢
                                  refine pu 1 78 (lb 21 2) rfl rfl (any_of HT_.out (by kernel_rfl)) ?_
                                  refine pu 2 79 (lb 21 6) rfl rfl (any_of HT_.out (by kernel_rfl)) ?_
                                  refine pu 3 80 (lb 21 14) rfl rfl (any_of HT_.out (by kernel_rfl)) ?_
                                  refine pu 4 81 (lb 21 30) rfl rfl (any_of HT_.out (by kernel_rfl)) ?_
                                  refine pu 5 82 (lb 21 62) rfl rfl (any_of HT_.out (by kernel_rfl)) ?_
                                  refine pu 6 83 (lb 21 126) rfl rfl (any_of HT_.out (by kernel_rfl)) ?_
                                  refine pu 7 84 (lb 21 254) rfl rfl (any_of HT_.out (by kernel_rfl)) ?_
                                  refine take_ (i := 0) (N := some 77) (v := ?_) (a' := ?_) (lb 21 255) rfl rfl (take_ofW HT_.out HW_.out (by kernel_rfl)) (fun _ _ _ h => h) (Or.inl ⟨by rfl, ?_⟩) hHeld ?_ ?_
                                  rotate_left
                                  · rintro w' ⟨s0, s1, s2, s3⟩
                                    go_simp
                                    with_reducible rfl
                                  rotate_left
                                  · simp only [Act.put, List.setIfInBounds_toArray, List.set_cons_zero, List.set_cons_succ, i64_w, i32_w]
                                    rfl
                                  refine take_ (i := 8) (N := some 85) (v := ?_) (a' := ?_) (lb 21 511) rfl rfl (take_ofW HT_.out HW_.out (by kernel_rfl)) (fun _ _ _ h => h) (Or.inl ⟨by rfl, ?_⟩) hHeld ?_ ?_
                                  rotate_left
                                  · rintro w' ⟨s0, s1, s2, s3⟩
                                    go_simp
                                    with_reducible rfl
                                  rotate_left
                                  · simp only [Act.put, List.setIfInBounds_toArray, List.set_cons_zero, List.set_cons_succ, i64_w, i32_w]
                                    rfl
                                  refine pu 9 86 (lb 21 1023) rfl rfl (any_of HT_.out (by kernel_rfl)) ?_
                                  refine pu 10 87 (lb 21 2047) rfl rfl (any_of HT_.out (by kernel_rfl)) ?_
                                  refine pu 11 88 (lb 21 4095) rfl rfl (any_of HT_.out (by kernel_rfl)) ?_
                                  refine join_ (σ := Value × Nat) 3 #[true, true, true, true, true, true, true, true, true, true, true, true, true, true, true, true, true, true, false, false, false] (fun s_ => [(89, .tuple #[.agg #[.int .i64 t366, .int .i64 t367, s_.1], .bool false, .int .i64 t372]), (16, .pointer (some ⟨s_.2, 0, none⟩)), (76, .tuple #[.agg #[.int .i64 t366, .int .i64 t367, s_.1], .bool false, .int .i64 t372]), (90, .agg #[.int .i64 t366, .int .i64 t367, s_.1]), (91, .bool false), (92, .int .i64 t372)]) (fun s_ w' => (w'.cell? ⟨gb354, 0, none⟩ = some (.int .i64 x355000_3) ∧ w'.cell? ⟨gb354, 1, none⟩ = some (.int .i64 x355001_3) ∧ w'.cell? ⟨gb354, 2, none⟩ = some (.slice Ao48 x355002_3.length co48) ∧ w'.cell? (ad365.add (x15_3).toNat) = some (.int .i64 (rd l2 x15_3))) ∧ (Kd.R (Kd.int .i64) 3 w' w.heap.size (fun _ => True) v363 y362) ∧ (Kd.R k88 88 w' w.heap.size (fun k_ => some k_ ≠ (.slice Ao48 x355002_3.length co48 : Value).ownBlock ∧ some k_ ≠ (.slice Ao19 t357.length co19 : Value).ownBlock) s_.1 t368) ∧ (Kd.R k88 88 w' w.heap.size (fun k_ => some k_ ≠ (s_.1 : Value).ownBlock ∧ some k_ ≠ (.slice Ao19 t357.length co19 : Value).ownBlock) (.slice Ao48 x355002_3.length co48) x355002_3) ∧ (Kd.R k88 88 w' w.heap.size (fun k_ => some k_ ≠ (s_.1 : Value).ownBlock ∧ some k_ ≠ (.slice Ao48 x355002_3.length co48 : Value).ownBlock) (.slice Ao19 t357.length co19) t357) ∧ (w'.heap[gb354]? = some (.cells #[.int .i64 x355000_3, .int .i64 x355001_3, .slice Ao48 x355002_3.length co48] 67 (0, 0))) ∧ (w'.heap[gb361]? = some (.cells #[.int .i64 t355, .int .i64 t356, .slice Ao19 t357.length co19] 67 (0, 0))) ∧ (w'.heap[s_.2]? = some (.cells #[.int .i64 0, .int .i64 0, .slice none 0 0] 67 (0, 0))) ∧ (w.heap.size ≤ s_.2) ∧ (w.heap.size ≤ s_.2) ∧ (gb354 ≠ s_.2) ∧ (s_.2 ≠ gb354) ∧ (gb361 ≠ s_.2) ∧ (s_.2 ≠ gb361) ∧ (Below w.heap.size w w')) ?_ ?_
                                  rotate_left
                                  · intro hCont
                                    refine two_ (i := 12) (j := 17) (Ni := some 89) (Nj := some 16) (lb 21 8191) (lb 21 135167) rfl rfl rfl rfl (two_of HT_.out (by kernel_rfl)) (by decide) (by decide) (fun K hK => ?_) (fun K hK => ?_)
                                    · skip
                                      refine goes_ Try.func36 (by kernel_rfl) rfl #[.agg #[.int .i64 x355000_3, .int .i64 x355001_3, .slice Ao48 x355002_3.length co48], .int .i64 (Int.tmod (wrap64 (x15_3 * 7)) (wrap64 ((wrap64 (1 + (wrap64 (Int.tmod (IntKind.u64.wrap (a0)) 20)))) * (wrap64 (1 + (wrap64 (Int.tmod (IntKind.u64.wrap (a1)) 6))))))), .int .i64 (wrap64 (Int.tmod (IntKind.u64.wrap (rd l2 x15_3)) 256))] (by rfl) rfl rfl (by (try simp only [List.map_toArray, List.map_cons, List.map_nil]); first | done | rfl | (simp only [List.length_drop, List.length_take]; rfl)) ?_
                                      with_reducible refine (pile_Put.calls k3 x355000_3 x355001_3 _ _ x355002_3 (Int.tmod (wrap64 (x15_3 * 7)) (wrap64 ((wrap64 (1 + (wrap64 (Int.tmod (IntKind.u64.wrap (a0)) 20)))) * (wrap64 (1 + (wrap64 (Int.tmod (IntKind.u64.wrap (a1)) 6))))))) (wrap64 (Int.tmod (IntKind.u64.wrap (rd l2 x15_3)) 256)) t366 t367 t368 false t372 _ ?side1 ?side2 A26.out).mono ?_
                                      (case side1 => repeat (first | exact (Kd.R_reads' HO_355002.out).2.2 | (with_reducible refine Kd.C_alloc ?_ _) | (with_reducible refine Kd.C_drewN ?_ _) | (with_reducible refine Kd.C_drew ?_)))
                                      (case side2 => exact (Kd.R_reads' HO_355002.out).2.1)
                                      rintro e w50 ⟨v369, rfl, ho0, hb⟩
                                      refine ⟨_, rfl, ?_⟩
                                      replace HO364 := zR HO364 hb
                                      have HO370 := Aside0.mk (Kd.R_lower (Kd.R_new' (Kd.R_new' ho0 (Kd.R_lt (zr_ HO_355002))) (Kd.R_lt (zr_ HO_362002))) (below_size (zB HB)))
                                      replace HO_355002 := Aside0.mk (Kd.R_elder' (zr_ HO_355002) (Kd.R_base ho0) hb)
                                      replace HO_362002 := Aside0.mk (Kd.R_elder' (zr_ HO_362002) (Kd.R_base ho0) hb)
                                      replace BK354 := zb BK354 hb
                                      replace BK361 := zb BK361 hb
                                      replace HB := zs HB hb
                                      (try clear hb)
                                      (try clear hb2)
                                      (try clear hk)
                                      (try clear hi)
                                      (try clear ho0)
                                      refine hK.out _ _ ⟨(blk_cell BK354.out 0).trans rfl, (blk_cell BK354.out 1).trans rfl, (blk_cell BK354.out 2).trans rfl, ((HB.out.cell (World.block_lt_of_cell? w _ hw365_0)).trans hw365_0)⟩ (fun hHeld => ?_)
                                      clear hK K
                                      refine norm_ (a' := ?_) ?_ ?_
                                      rotate_left
                                      · show Act.put _ (some 89) _ = _
                                        simp only [Act.put, List.setIfInBounds_toArray, List.set_cons_zero, List.set_cons_succ, i64_w, i32_w]
                                        rfl
                                      refine pu 13 76 (lb 21 16383) rfl rfl (any_of HT_.out (by kernel_rfl)) ?_
                                      refine pu 14 90 (lb 21 32767) rfl rfl (any_of HT_.out (by kernel_rfl)) ?_
                                      refine pu 15 91 (lb 21 65535) rfl rfl (any_of HT_.out (by kernel_rfl)) ?_
                                      refine pu 16 92 (lb 21 131071) rfl rfl (any_of HT_.out (by kernel_rfl)) ?_
                                      refine one_ (i := 17) (N := some 16) (lb 21 262143) rfl rfl (one_of HT_.out (by kernel_rfl)) (by decide) (fun K hK => ?_)
                                      refine box_step ?hg (N := 16) ?hd (cs := #[.int .i64 0, .int .i64 0, .slice none 0 0]) (t := 67) ?hr ?_; (case hd => rfl); (case hg => rfl); (case hr => first | (go_simp; done) | (go_simp; rfl))
                                      intro gb373 hg w51 hbox hb
                                      replace HO_355002 := zR HO_355002 hb
                                      replace HO_362002 := zR HO_362002 hb
                                      replace HO364 := zR HO364 hb
                                      replace HO370 := zR HO370 hb
                                      have BK373 := Aside0.mk (hbox)
                                      have GW373 := zg HB hg
                                      have GE373 := zg HB hg
                                      replace HB := zs HB hb
                                      have NB354_373 := zl BK354 hg
                                      have NB373_354 := zr BK354 hg
                                      replace BK354 := zb BK354 hb
                                      have NB361_373 := zl BK361 hg
                                      have NB373_361 := zr BK361 hg
                                      replace BK361 := zb BK361 hb
                                      clear hb hbox hg
                                      refine hK.out _ _ ⟨(blk_cell BK354.out 0).trans rfl, (blk_cell BK354.out 1).trans rfl, (blk_cell BK354.out 2).trans rfl, ((HB.out.cell (World.block_lt_of_cell? w _ hw365_0)).trans hw365_0)⟩ (fun hHeld => ?_)
                                      clear hK K
                                      refine norm_ (a' := ?_) ?_ ?_
                                      rotate_left
                                      · show Act.put _ (some 16) _ = _
                                        simp only [Act.put, List.setIfInBounds_toArray, List.set_cons_zero, List.set_cons_succ, i64_w, i32_w]
                                        rfl
                                      exact norm_ (by simp only [putAll, Act.put, List.setIfInBounds_toArray, List.set_cons_zero, List.set_cons_succ]) (hCont (v369, gb373) _ ⟨hHeld, (zr_ HO364), (by (with_reducible repeat (first | apply Kd.R_alloc | apply Kd.R_drewN | apply Kd.R_drew)); exact Kd.R_mono HO370.out (fun _ hk => ⟨hk.1.2, hk.2⟩)), (by (with_reducible repeat (first | apply Kd.R_alloc | apply Kd.R_drewN | apply Kd.R_drew)); exact Kd.R_mono HO_355002.out (fun _ hk => ⟨hk.2, hk.1⟩)), (by (with_reducible repeat (first | apply Kd.R_alloc | apply Kd.R_drewN | apply Kd.R_drew)); exact Kd.R_mono HO_362002.out (fun _ hk => ⟨hk.2, hk.1⟩)), (zk BK354), (zk BK361), (zk BK373), GW373.out, GE373.out, NB354_373.out, NB373_354.out, NB361_373.out, NB373_361.out, (zB HB)⟩)
                                    · skip
                                      refine box_step ?hg (N := 16) ?hd (cs := #[.int .i64 0, .int .i64 0, .slice none 0 0]) (t := 67) ?hr ?_; (case hd => rfl); (case hg => rfl); (case hr => first | (go_simp; done) | (go_simp; rfl))
                                      intro gb373 hg w50 hbox hb
                                      replace HO_355002 := zR HO_355002 hb
                                      replace HO_362002 := zR HO_362002 hb
                                      replace HO364 := zR HO364 hb
                                      have BK373 := Aside0.mk (hbox)
                                      have GW373 := zg HB hg
                                      have GE373 := zg HB hg
                                      replace HB := zs HB hb
                                      have NB354_373 := zl BK354 hg
                                      have NB373_354 := zr BK354 hg
                                      replace BK354 := zb BK354 hb
                                      have NB361_373 := zl BK361 hg
                                      have NB373_361 := zr BK361 hg
                                      replace BK361 := zb BK361 hb
                                      clear hb hbox hg
                                      refine hK.out _ _ ⟨(blk_cell BK354.out 0).trans rfl, (blk_cell BK354.out 1).trans rfl, (blk_cell BK354.out 2).trans rfl, ((HB.out.cell (World.block_lt_of_cell? w _ hw365_0)).trans hw365_0)⟩ (fun hHeld => ?_)
                                      clear hK K
                                      refine norm_ (a' := ?_) ?_ ?_
                                      rotate_left
                                      · show Act.put _ (some 16) _ = _
                                        simp only [Act.put, List.setIfInBounds_toArray, List.set_cons_zero, List.set_cons_succ, i64_w, i32_w]
                                        rfl
                                      refine one_ (i := 12) (N := some 89) (lb 21 139263) rfl rfl (one_of HT_.out (by kernel_rfl)) (by decide) (fun K hK => ?_)
                                      refine goes_ Try.func36 (by kernel_rfl) rfl #[.agg #[.int .i64 x355000_3, .int .i64 x355001_3, .slice Ao48 x355002_3.length co48], .int .i64 (Int.tmod (wrap64 (x15_3 * 7)) (wrap64 ((wrap64 (1 + (wrap64 (Int.tmod (IntKind.u64.wrap (a0)) 20)))) * (wrap64 (1 + (wrap64 (Int.tmod (IntKind.u64.wrap (a1)) 6))))))), .int .i64 (wrap64 (Int.tmod (IntKind.u64.wrap (rd l2 x15_3)) 256))] (by rfl) rfl rfl (by (try simp only [List.map_toArray, List.map_cons, List.map_nil]); first | done | rfl | (simp only [List.length_drop, List.length_take]; rfl)) ?_
                                      with_reducible refine (pile_Put.calls k3 x355000_3 x355001_3 _ _ x355002_3 (Int.tmod (wrap64 (x15_3 * 7)) (wrap64 ((wrap64 (1 + (wrap64 (Int.tmod (IntKind.u64.wrap (a0)) 20)))) * (wrap64 (1 + (wrap64 (Int.tmod (IntKind.u64.wrap (a1)) 6))))))) (wrap64 (Int.tmod (IntKind.u64.wrap (rd l2 x15_3)) 256)) t366 t367 t368 false t372 _ ?side1 ?side2 A26.out).mono ?_
                                      (case side1 => repeat (first | exact (Kd.R_reads' HO_355002.out).2.2 | (with_reducible refine Kd.C_alloc ?_ _) | (with_reducible refine Kd.C_drewN ?_ _) | (with_reducible refine Kd.C_drew ?_)))
                                      (case side2 => exact (Kd.R_reads' HO_355002.out).2.1)
                                      rintro e w51 ⟨v369, rfl, ho0, hb⟩
                                      refine ⟨_, rfl, ?_⟩
                                      replace HO364 := zR HO364 hb
                                      have HO370 := Aside0.mk (Kd.R_lower (Kd.R_new' (Kd.R_new' ho0 (Kd.R_lt (zr_ HO_355002))) (Kd.R_lt (zr_ HO_362002))) (below_size (zB HB)))
                                      replace HO_355002 := Aside0.mk (Kd.R_elder' (zr_ HO_355002) (Kd.R_base ho0) hb)
                                      replace HO_362002 := Aside0.mk (Kd.R_elder' (zr_ HO_362002) (Kd.R_base ho0) hb)
                                      replace BK354 := zb BK354 hb
                                      replace BK361 := zb BK361 hb
                                      replace BK373 := zb BK373 hb
                                      replace HB := zs HB hb
                                      (try clear hb)
                                      (try clear hb2)
                                      (try clear hk)
                                      (try clear hi)
                                      (try clear ho0)
                                      refine hK.out _ _ ⟨(blk_cell BK354.out 0).trans rfl, (blk_cell BK354.out 1).trans rfl, (blk_cell BK354.out 2).trans rfl, ((HB.out.cell (World.block_lt_of_cell? w _ hw365_0)).trans hw365_0)⟩ (fun hHeld => ?_)
                                      clear hK K
                                      refine norm_ (a' := ?_) ?_ ?_
                                      rotate_left
                                      · show Act.put _ (some 89) _ = _
                                        simp only [Act.put, List.setIfInBounds_toArray, List.set_cons_zero, List.set_cons_succ, i64_w, i32_w]
                                        rfl
                                      refine pu 13 76 (lb 21 147455) rfl rfl (any_of HT_.out (by kernel_rfl)) ?_
                                      refine pu 14 90 (lb 21 163839) rfl rfl (any_of HT_.out (by kernel_rfl)) ?_
                                      refine pu 15 91 (lb 21 196607) rfl rfl (any_of HT_.out (by kernel_rfl)) ?_
                                      refine pu 16 92 (lb 21 262143) rfl rfl (any_of HT_.out (by kernel_rfl)) ?_
                                      exact norm_ (by simp only [putAll, Act.put, List.setIfInBounds_toArray, List.set_cons_zero, List.set_cons_succ]) (hCont (v369, gb373) _ ⟨hHeld, (zr_ HO364), (by (with_reducible repeat (first | apply Kd.R_alloc | apply Kd.R_drewN | apply Kd.R_drew)); exact Kd.R_mono HO370.out (fun _ hk => ⟨hk.1.2, hk.2⟩)), (by (with_reducible repeat (first | apply Kd.R_alloc | apply Kd.R_drewN | apply Kd.R_drew)); exact Kd.R_mono HO_355002.out (fun _ hk => ⟨hk.2, hk.1⟩)), (by (with_reducible repeat (first | apply Kd.R_alloc | apply Kd.R_drewN | apply Kd.R_drew)); exact Kd.R_mono HO_362002.out (fun _ hk => ⟨hk.2, hk.1⟩)), (zk BK354), (zk BK361), (zk BK373), GW373.out, GE373.out, NB354_373.out, NB373_354.out, NB361_373.out, NB373_361.out, (zB HB)⟩)
                                  rintro ⟨v369, gb373⟩ w52 ⟨hS_, h0_, h1_, h2_, h3_, h4_, h5_, h6_, h7_, h8_, h9_, h10_, h11_, h12_, h13_⟩
                                  have n0_ : Aside0 (Kd.R (Kd.int .i64) 3 w52 w.heap.size (fun _ => True) v363 y362) := ⟨h0_⟩
                                  have n1_ : Aside0 (Kd.R k88 88 w52 w.heap.size (fun k_ => some k_ ≠ (.slice Ao48 x355002_3.length co48 : Value).ownBlock ∧ some k_ ≠ (.slice Ao19 t357.length co19 : Value).ownBlock) v369 t368) := ⟨h1_⟩
                                  have n2_ : Aside0 (Kd.R k88 88 w52 w.heap.size (fun k_ => some k_ ≠ (v369 : Value).ownBlock ∧ some k_ ≠ (.slice Ao19 t357.length co19 : Value).ownBlock) (.slice Ao48 x355002_3.length co48) x355002_3) := ⟨h2_⟩
                                  have n3_ : Aside0 (Kd.R k88 88 w52 w.heap.size (fun k_ => some k_ ≠ (v369 : Value).ownBlock ∧ some k_ ≠ (.slice Ao48 x355002_3.length co48 : Value).ownBlock) (.slice Ao19 t357.length co19) t357) := ⟨h3_⟩
                                  have n4_ : Aside0 (w52.heap[gb354]? = some (.cells #[.int .i64 x355000_3, .int .i64 x355001_3, .slice Ao48 x355002_3.length co48] 67 (0, 0))) := ⟨h4_⟩
                                  have n5_ : Aside0 (w52.heap[gb361]? = some (.cells #[.int .i64 t355, .int .i64 t356, .slice Ao19 t357.length co19] 67 (0, 0))) := ⟨h5_⟩
                                  have n6_ : Aside0 (w52.heap[gb373]? = some (.cells #[.int .i64 0, .int .i64 0, .slice none 0 0] 67 (0, 0))) := ⟨h6_⟩
                                  have n7_ : Aside0 (w.heap.size ≤ gb373) := ⟨h7_⟩
                                  have n8_ : Aside0 (w.heap.size ≤ gb373) := ⟨h8_⟩
                                  have n9_ : Aside0 (gb354 ≠ gb373) := ⟨h9_⟩
                                  have n10_ : Aside0 (gb373 ≠ gb354) := ⟨h10_⟩
                                  have n11_ : Aside0 (gb361 ≠ gb373) := ⟨h11_⟩
                                  have n12_ : Aside0 (gb373 ≠ gb361) := ⟨h12_⟩
                                  have n13_ : Aside0 (Below w.heap.size w w52) := ⟨h13_⟩
                                  clear HO_355002
                                  clear HO_362002
                                  clear HO364
                                  clear BK354
                                  clear BK361
                                  clear HB
                                  clear h0_ h1_ h2_ h3_ h4_ h5_ h6_ h7_ h8_ h9_ h10_ h11_ h12_ h13_
                                  have HO364 := n0_
                                  have HO370 := n1_
                                  have HO_355002 := n2_
                                  have HO_362002 := n3_
                                  have BK354 := n4_
                                  have BK361 := n5_
                                  have BK373 := n6_
                                  have GW373 := n7_
                                  have GE373 := n8_
                                  have NB354_373 := n9_
                                  have NB373_354 := n10_
                                  have NB361_373 := n11_
                                  have NB373_361 := n12_
                                  have HB := n13_
                                  clear n0_ n1_ n2_ n3_ n4_ n5_ n6_ n7_ n8_ n9_ n10_ n11_ n12_ n13_
                                  have hHeld : w52.cell? ⟨gb354, 0, none⟩ = some (.int .i64 x355000_3) ∧ w52.cell? ⟨gb354, 1, none⟩ = some (.int .i64 x355001_3) ∧ w52.cell? ⟨gb354, 2, none⟩ = some (.slice Ao48 x355002_3.length co48) ∧ w52.cell? (ad365.add (x15_3).toNat) = some (.int .i64 (rd l2 x15_3)) := hS_
                                  obtain ⟨Ao55, co55, eo55⟩ := Kd.R_slice HO370.out
                                  (first | subst eo55 | (injection eo55 with f1_ f2_ f3_; have f4_ := f1_.symm; have f5_ := f3_.symm; clear f1_ f2_ f3_; subst f4_; subst f5_))
                                  refine norm_ (a' := ?_) ?_ ?_
                                  rotate_left
                                  · simp only [putAll, Act.put, List.setIfInBounds_toArray, List.set_cons_zero, List.set_cons_succ]
                                    rfl
                                  refine one_ (i := 18) (N := none) (lb 21 524287) rfl rfl (one_of HT_.out (by kernel_rfl)) (by decide) (fun K hK => ?_)
                                  have hs53 : w52.cell? ⟨gb373, 0, none⟩ = some (.int .i64 0) := (blk_cell BK373.out 0).trans rfl
                                  have hfs53 := blk_frozen BK373.out 0
                                  have hns53_0 := NB354_373.out
                                  have hns53_1 := NB361_373.out
                                  have hms53_0 := NB373_354.out
                                  have hms53_1 := NB373_361.out
                                  have hs54 : w52.cell? ⟨gb373, 1, none⟩ = some (.int .i64 0) := (blk_cell BK373.out 1).trans rfl
                                  have hfs54 := blk_frozen BK373.out 1
                                  have hns54_0 := NB354_373.out
                                  have hns54_1 := NB361_373.out
                                  have hms54_0 := NB373_354.out
                                  have hms54_1 := NB373_361.out
                                  have hs56 : w52.cell? ⟨gb373, 2, none⟩ = some (.slice none 0 0) := (blk_cell BK373.out 2).trans rfl
                                  have hfs56 := blk_frozen BK373.out 2
                                  have hns56_0 := NB354_373.out
                                  have hns56_1 := NB361_373.out
                                  have hms56_0 := NB373_354.out
                                  have hms56_1 := NB373_361.out
                                  refine skip_ (w1 := ?_) (by rfl) rfl ?_ ?_
                                  rotate_left
                                  · go_simp
                                    rfl
                                  refine hK.out _ _ ⟨((cell_far (p := ⟨gb373, _, none⟩) NB354_373.out _).trans (((cell_far (p := ⟨gb373, _, none⟩) NB354_373.out _).trans (((cell_far (p := ⟨gb373, _, none⟩) NB354_373.out _).trans (hHeld.1)))))), ((cell_far (p := ⟨gb373, _, none⟩) NB354_373.out _).trans (((cell_far (p := ⟨gb373, _, none⟩) NB354_373.out _).trans (((cell_far (p := ⟨gb373, _, none⟩) NB354_373.out _).trans (hHeld.2.1)))))), ((cell_far (p := ⟨gb373, _, none⟩) NB354_373.out _).trans (((cell_far (p := ⟨gb373, _, none⟩) NB354_373.out _).trans (((cell_far (p := ⟨gb373, _, none⟩) NB354_373.out _).trans (hHeld.2.2.1)))))), ((cell_far (p := ⟨gb373, _, none⟩) (by first | exact Nat.ne_of_lt (Nat.lt_of_lt_of_le (by have := World.block_lt_of_cell? _ _ hw365_0; first | rwa [add_block] at this | exact this) GW373.out) | (rw [add_block]; exact Nat.ne_of_lt (Nat.lt_of_lt_of_le (by have := World.block_lt_of_cell? _ _ hw365_0; first | rwa [add_block] at this | exact this) GW373.out)) | (show (Addr.add _ _).block ≠ _; rw [add_block]; exact Nat.ne_of_lt (Nat.lt_of_lt_of_le (by have := World.block_lt_of_cell? _ _ hw365_0; first | rwa [add_block] at this | exact this) GW373.out)) | (dsimp only; exact Nat.ne_of_lt (Nat.lt_of_lt_of_le (by have := World.block_lt_of_cell? _ _ hw365_0; first | rwa [add_block] at this | exact this) GW373.out))) _).trans (((cell_far (p := ⟨gb373, _, none⟩) (by first | exact Nat.ne_of_lt (Nat.lt_of_lt_of_le (by have := World.block_lt_of_cell? _ _ hw365_0; first | rwa [add_block] at this | exact this) GW373.out) | (rw [add_block]; exact Nat.ne_of_lt (Nat.lt_of_lt_of_le (by have := World.block_lt_of_cell? _ _ hw365_0; first | rwa [add_block] at this | exact this) GW373.out)) | (show (Addr.add _ _).block ≠ _; rw [add_block]; exact Nat.ne_of_lt (Nat.lt_of_lt_of_le (by have := World.block_lt_of_cell? _ _ hw365_0; first | rwa [add_block] at this | exact this) GW373.out)) | (dsimp only; exact Nat.ne_of_lt (Nat.lt_of_lt_of_le (by have := World.block_lt_of_cell? _ _ hw365_0; first | rwa [add_block] at this | exact this) GW373.out))) _).trans (((cell_far (p := ⟨gb373, _, none⟩) (by first | exact Nat.ne_of_lt (Nat.lt_of_lt_of_le (by have := World.block_lt_of_cell? _ _ hw365_0; first | rwa [add_block] at this | exact this) GW373.out) | (rw [add_block]; exact Nat.ne_of_lt (Nat.lt_of_lt_of_le (by have := World.block_lt_of_cell? _ _ hw365_0; first | rwa [add_block] at this | exact this) GW373.out)) | (show (Addr.add _ _).block ≠ _; rw [add_block]; exact Nat.ne_of_lt (Nat.lt_of_lt_of_le (by have := World.block_lt_of_cell? _ _ hw365_0; first | rwa [add_block] at this | exact this) GW373.out)) | (dsimp only; exact Nat.ne_of_lt (Nat.lt_of_lt_of_le (by have := World.block_lt_of_cell? _ _ hw365_0; first | rwa [add_block] at this | exact this) GW373.out))) _).trans (hHeld.2.2.2))))))⟩ (fun hHeld => ?_)
                                  clear hK K
                                  refine pu 19 17 (lb 21 1048575) rfl rfl (any_of HT_.out (by kernel_rfl)) ?_
                                  refine pu 20 18 (lb 21 2097151) rfl rfl (any_of HT_.out (by kernel_rfl)) ?_
                                  refine done_ (done_of HT_.out (by kernel_rfl)) ?_
                                  have n0_ : Aside0 (Kd.R k88 88 (((w52.setCell ⟨gb373, 0, none⟩ (.int .i64 t366)).setCell ⟨gb373, 1, none⟩ (.int .i64 t367)).setCell ⟨gb373, 2, none⟩ (.slice Ao55 t368.length co55)) w.heap.size (fun k_ => some k_ ≠ (.slice Ao19 t357.length co19 : Value).ownBlock ∧ some k_ ≠ (.slice Ao55 t368.length co55 : Value).ownBlock) (.slice Ao48 x355002_3.length co48) x355002_3) := ⟨by (with_reducible repeat (first | apply Kd.R_alloc | apply Kd.R_drewN | apply Kd.R_drew)); exact Kd.R_mono (Kd.R_far (p := ⟨gb373, 2, none⟩) (Kd.R_far (p := ⟨gb373, 1, none⟩) (Kd.R_far (p := ⟨gb373, 0, none⟩) (Kd.R_types HO_355002.out BK373.out (by decide)) (fun _ hk => hk.2) (.int .i64 t366)) (fun _ hk => hk.2) (.int .i64 t367)) (fun _ hk => hk.2) (.slice Ao55 t368.length co55)) (fun _ hk => ⟨hk.1.2, hk.1.1⟩)⟩
                                  have n1_ : Aside0 (Kd.R k88 88 (((w52.setCell ⟨gb373, 0, none⟩ (.int .i64 t366)).setCell ⟨gb373, 1, none⟩ (.int .i64 t367)).setCell ⟨gb373, 2, none⟩ (.slice Ao55 t368.length co55)) w.heap.size (fun k_ => some k_ ≠ (.slice Ao48 x355002_3.length co48 : Value).ownBlock ∧ some k_ ≠ (.slice Ao55 t368.length co55 : Value).ownBlock) (.slice Ao19 t357.length co19) t357) := ⟨by (with_reducible repeat (first | apply Kd.R_alloc | apply Kd.R_drewN | apply Kd.R_drew)); exact Kd.R_mono (Kd.R_far (p := ⟨gb373, 2, none⟩) (Kd.R_far (p := ⟨gb373, 1, none⟩) (Kd.R_far (p := ⟨gb373, 0, none⟩) (Kd.R_types HO_362002.out BK373.out (by decide)) (fun _ hk => hk.2) (.int .i64 t366)) (fun _ hk => hk.2) (.int .i64 t367)) (fun _ hk => hk.2) (.slice Ao55 t368.length co55)) (fun _ hk => ⟨hk.1.2, hk.1.1⟩)⟩
                                  have n2_ : Aside0 (Kd.R (Kd.int .i64) 3 (((w52.setCell ⟨gb373, 0, none⟩ (.int .i64 t366)).setCell ⟨gb373, 1, none⟩ (.int .i64 t367)).setCell ⟨gb373, 2, none⟩ (.slice Ao55 t368.length co55)) w.heap.size (fun _ => True) v363 y362) := ⟨by (with_reducible repeat (first | apply Kd.R_alloc | apply Kd.R_drewN | apply Kd.R_drew)); exact Kd.R_mono (Kd.R_far (p := ⟨gb373, 2, none⟩) (Kd.R_far (p := ⟨gb373, 1, none⟩) (Kd.R_far (p := ⟨gb373, 0, none⟩) (Kd.R_types HO364.out BK373.out (by decide)) (fun _ hk => hk.2) (.int .i64 t366)) (fun _ hk => hk.2) (.int .i64 t367)) (fun _ hk => hk.2) (.slice Ao55 t368.length co55)) (fun _ hk => trivial)⟩
                                  have n3_ : Aside0 (Kd.R k88 88 (((w52.setCell ⟨gb373, 0, none⟩ (.int .i64 t366)).setCell ⟨gb373, 1, none⟩ (.int .i64 t367)).setCell ⟨gb373, 2, none⟩ (.slice Ao55 t368.length co55)) w.heap.size (fun k_ => some k_ ≠ (.slice Ao48 x355002_3.length co48 : Value).ownBlock ∧ some k_ ≠ (.slice Ao19 t357.length co19 : Value).ownBlock) (.slice Ao55 t368.length co55) t368) := ⟨by (with_reducible repeat (first | apply Kd.R_alloc | apply Kd.R_drewN | apply Kd.R_drew)); exact Kd.R_mono (Kd.R_far (p := ⟨gb373, 2, none⟩) (Kd.R_far (p := ⟨gb373, 1, none⟩) (Kd.R_far (p := ⟨gb373, 0, none⟩) (Kd.R_types HO370.out BK373.out (by decide)) (fun _ hk => hk.2) (.int .i64 t366)) (fun _ hk => hk.2) (.int .i64 t367)) (fun _ hk => hk.2) (.slice Ao55 t368.length co55)) (fun _ hk => ⟨hk.1.1, hk.1.2⟩)⟩
                                  have n4_ : Aside0 ((((w52.setCell ⟨gb373, 0, none⟩ (.int .i64 t366)).setCell ⟨gb373, 1, none⟩ (.int .i64 t367)).setCell ⟨gb373, 2, none⟩ (.slice Ao55 t368.length co55)).heap[gb354]? = some (.cells #[.int .i64 x355000_3, .int .i64 x355001_3, .slice Ao48 x355002_3.length co48] 67 (0, 0))) := ⟨by (with_reducible repeat (first | refine blk_drewN ?_ _ | refine blk_drew ?_ | refine blk_alloc ?_ _)); refine blk_far ?_ NB354_373.out _; (with_reducible repeat (first | refine blk_drewN ?_ _ | refine blk_drew ?_ | refine blk_alloc ?_ _)); refine blk_far ?_ NB354_373.out _; (with_reducible repeat (first | refine blk_drewN ?_ _ | refine blk_drew ?_ | refine blk_alloc ?_ _)); refine blk_far ?_ NB354_373.out _; (with_reducible repeat (first | refine blk_drewN ?_ _ | refine blk_drew ?_ | refine blk_alloc ?_ _)); exact BK354.out⟩
                                  have n5_ : Aside0 ((((w52.setCell ⟨gb373, 0, none⟩ (.int .i64 t366)).setCell ⟨gb373, 1, none⟩ (.int .i64 t367)).setCell ⟨gb373, 2, none⟩ (.slice Ao55 t368.length co55)).heap[gb361]? = some (.cells #[.int .i64 t355, .int .i64 t356, .slice Ao19 t357.length co19] 67 (0, 0))) := ⟨by (with_reducible repeat (first | refine blk_drewN ?_ _ | refine blk_drew ?_ | refine blk_alloc ?_ _)); refine blk_far ?_ NB361_373.out _; (with_reducible repeat (first | refine blk_drewN ?_ _ | refine blk_drew ?_ | refine blk_alloc ?_ _)); refine blk_far ?_ NB361_373.out _; (with_reducible repeat (first | refine blk_drewN ?_ _ | refine blk_drew ?_ | refine blk_alloc ?_ _)); refine blk_far ?_ NB361_373.out _; (with_reducible repeat (first | refine blk_drewN ?_ _ | refine blk_drew ?_ | refine blk_alloc ?_ _)); exact BK361.out⟩
                                  have n6_ : Aside0 ((((w52.setCell ⟨gb373, 0, none⟩ (.int .i64 t366)).setCell ⟨gb373, 1, none⟩ (.int .i64 t367)).setCell ⟨gb373, 2, none⟩ (.slice Ao55 t368.length co55)).heap[gb373]? = some (.cells #[.int .i64 t366, .int .i64 t367, .slice Ao55 t368.length co55] 67 (0, 0))) := ⟨by (with_reducible repeat (first | refine blk_drewN ?_ _ | refine blk_drew ?_ | refine blk_alloc ?_ _)); refine blk_put (cs := #[.int .i64 t366, .int .i64 t367, .slice none 0 0]) ?_ 2 _ rfl; (with_reducible repeat (first | refine blk_drewN ?_ _ | refine blk_drew ?_ | refine blk_alloc ?_ _)); refine blk_put (cs := #[.int .i64 t366, .int .i64 0, .slice none 0 0]) ?_ 1 _ rfl; (with_reducible repeat (first | refine blk_drewN ?_ _ | refine blk_drew ?_ | refine blk_alloc ?_ _)); refine blk_put (cs := #[.int .i64 0, .int .i64 0, .slice none 0 0]) ?_ 0 _ rfl; (with_reducible repeat (first | refine blk_drewN ?_ _ | refine blk_drew ?_ | refine blk_alloc ?_ _)); exact BK373.out⟩
                                  have n7_ : Aside0 (Below w.heap.size w (((w52.setCell ⟨gb373, 0, none⟩ (.int .i64 t366)).setCell ⟨gb373, 1, none⟩ (.int .i64 t367)).setCell ⟨gb373, 2, none⟩ (.slice Ao55 t368.length co55))) := ⟨by repeat (first | (with_reducible first | exact HB.out | apply below_alloc | apply pw_below_drewN | apply below_drew1 | refine below_set ?_ GE354.out | refine below_set ?_ GE361.out | refine below_set ?_ GE373.out) | exact HB.out)⟩
                                  (try clear HO_355002)
                                  (try clear HO_362002)
                                  (try clear HO364)
                                  (try clear HO370)
                                  (try clear BK354)
                                  (try clear BK361)
                                  (try clear BK373)
                                  (try clear HB)
                                  generalize (((w52.setCell ⟨gb373, 0, none⟩ (.int .i64 t366)).setCell ⟨gb373, 1, none⟩ (.int .i64 t367)).setCell ⟨gb373, 2, none⟩ (.slice Ao55 t368.length co55)) = w57 at n0_ n1_ n2_ n3_ n4_ n5_ n6_ n7_ ⊢
                                  have HO_355002 := n0_
                                  have HO_362002 := n1_
                                  have HO364 := n2_
                                  have HO370 := n3_
                                  have BK354 := n4_
                                  have BK361 := n5_
                                  have BK373 := n6_
                                  have HB := n7_
                                  clear n0_ n1_ n2_ n3_ n4_ n5_ n6_ n7_
                                  obtain ⟨Ao58, co58, eo58⟩ := Kd.R_slice HO364.out
                                  subst eo58
                                  have q59 : ((ji44) : Int) ≤ ((y362.length : Int) : Int) := of_decide_eq_true (by first | (with_reducible assumption) | assumption)
                                  obtain ⟨i059, hi059, _, hsz59, _⟩ := info_parts info3
                                  have hcut59 := cut_to (P := Try.prog) 30 3 .i64 Try.underlying30 hi059 Ao58 y362.length co58 (ji44) (of_decide_eq_true (by first | (with_reducible assumption) | assumption)) q59 (Kd.R_reads' HO364.out).2.1
                                  have hr59 := Kd.R_take (m := ((ji44) : Int).toNat) HO364.out (by omega)
                                  have hy59 : y374.length = ((ji44) : Int).toNat := (by rw [Ny374.out, List.length_take]; omega)
                                  rw [← Ny374.out] at hr59
                                  rw [← hy59] at hr59 hcut59
                                  clear hy59 hi059 hsz59 HO364
                                  have HO376 := Aside0.mk hr59
                                  clear hr59
                                  replace q59 := eq_true q59
                                  have hnb60 := NB373_354.out
                                  have hnc60 := NB354_373.out
                                  have hnb61 := NB373_361.out
                                  have hnc61 := NB361_373.out
                                  obtain ⟨hcz62_0, hcz62_1, hcz62_2⟩ := zC3 BK373
                                  obtain ⟨hfz62_0, hfz62_1, hfz62_2⟩ := zF3 BK373
                                  have hnb63 := NB354_361.out
                                  have hnc63 := NB361_354.out
                                  obtain ⟨hcz64_0, hcz64_1, hcz64_2⟩ := zC3 BK354
                                  obtain ⟨hfz64_0, hfz64_1, hfz64_2⟩ := zF3 BK354
                                  try go_wp2
                                  go_roundg k3
                                  case measure => have := HJ4.out; have := HJ9.out; have := HK3.out; omega
                                  case rel => exact ⟨(y374), (wrap64 (x15_3 + 1)), (t366), (t367), (t368), (.slice Ao55 t368.length co55), (by first | rfl | (simp; done) | (simp [*]; done)), H', ⟨by have := HJ4.out; have := HJ9.out; have := HK3.out; omega⟩, ⟨by (with_reducible repeat (first | apply Kd.R_alloc | apply Kd.R_drewN | apply Kd.R_drew)); exact Kd.R_mono (Kd.R_far (p := ⟨gb354, 2, none⟩) (Kd.R_far (p := ⟨gb354, 1, none⟩) (Kd.R_far (p := ⟨gb354, 0, none⟩) (Kd.R_types HO376.out BK354.out (by decide)) (fun _ hk => hk.2) (.int .i64 t366)) (fun _ hk => hk.2) (.int .i64 t367)) (fun _ hk => hk.2) (.slice Ao55 t368.length co55)) (fun _ hk => trivial)⟩, ⟨by (with_reducible repeat (first | apply Kd.R_alloc | apply Kd.R_drewN | apply Kd.R_drew)); exact Kd.R_mono (Kd.R_far (p := ⟨gb354, 2, none⟩) (Kd.R_far (p := ⟨gb354, 1, none⟩) (Kd.R_far (p := ⟨gb354, 0, none⟩) (Kd.R_types HO370.out BK354.out (by decide)) (fun _ hk => hk.2) (.int .i64 t366)) (fun _ hk => hk.2) (.int .i64 t367)) (fun _ hk => hk.2) (.slice Ao55 t368.length co55)) (fun _ hk => hk.1.2)⟩, ⟨by (with_reducible repeat (first | apply Kd.R_alloc | apply Kd.R_drewN | apply Kd.R_drew)); exact Kd.R_mono (Kd.R_far (p := ⟨gb354, 2, none⟩) (Kd.R_far (p := ⟨gb354, 1, none⟩) (Kd.R_far (p := ⟨gb354, 0, none⟩) (Kd.R_types HO_362002.out BK354.out (by decide)) (fun _ hk => hk.2) (.int .i64 t366)) (fun _ hk => hk.2) (.int .i64 t367)) (fun _ hk => hk.2) (.slice Ao55 t368.length co55)) (fun _ hk => hk.1.2)⟩, ⟨by (with_reducible repeat (first | refine blk_drewN ?_ _ | refine blk_drew ?_ | refine blk_alloc ?_ _)); refine blk_put (cs := #[.int .i64 t366, .int .i64 t367, .slice Ao48 x355002_3.length co48]) ?_ 2 _ rfl; (with_reducible repeat (first | refine blk_drewN ?_ _ | refine blk_drew ?_ | refine blk_alloc ?_ _)); refine blk_put (cs := #[.int .i64 t366, .int .i64 x355001_3, .slice Ao48 x355002_3.length co48]) ?_ 1 _ rfl; (with_reducible repeat (first | refine blk_drewN ?_ _ | refine blk_drew ?_ | refine blk_alloc ?_ _)); refine blk_put (cs := #[.int .i64 x355000_3, .int .i64 x355001_3, .slice Ao48 x355002_3.length co48]) ?_ 0 _ rfl; (with_reducible repeat (first | refine blk_drewN ?_ _ | refine blk_drew ?_ | refine blk_alloc ?_ _)); exact BK354.out⟩, ⟨by (with_reducible repeat (first | refine blk_drewN ?_ _ | refine blk_drew ?_ | refine blk_alloc ?_ _)); refine blk_far ?_ NB361_354.out _; (with_reducible repeat (first | refine blk_drewN ?_ _ | refine blk_drew ?_ | refine blk_alloc ?_ _)); refine blk_far ?_ NB361_354.out _; (with_reducible repeat (first | refine blk_drewN ?_ _ | refine blk_drew ?_ | refine blk_alloc ?_ _)); refine blk_far ?_ NB361_354.out _; (with_reducible repeat (first | refine blk_drewN ?_ _ | refine blk_drew ?_ | refine blk_alloc ?_ _)); exact BK361.out⟩, ⟨by repeat (first | (with_reducible first | exact HB.out | apply below_alloc | apply pw_below_drewN | apply below_drew1 | refine below_set ?_ GE354.out | refine below_set ?_ GE361.out | refine below_set ?_ GE373.out) | exact HB.out)⟩⟩
                                · rw [if_neg c46] at H
                                  exact absurd H (by simp)
                              · rw [if_neg c45] at H
                                exact absurd H (by simp)
                          · rw [if_neg c27] at H
                            have c27b0 : (t372 == 0) = false := beq_eq_false_iff_ne.mpr c27
                            have c27b1 : (t372 != 0) = true := bne_iff_ne.mpr c27
                            exact absurd (Option.some.inj H) (by decide)
                        · rw [if_neg c25] at H
                          exact absurd H (by simp)
                    · rw [if_neg c23] at H
                      exact absurd H (by simp)
                  · rw [if_neg c22] at H
                    have c22b0 : decide (x15_3 < (l2.length : Int)) = false := decide_eq_false c22
                    clear c22
                    have HC75 := Aside0.mk H
                    clear H
                    go_upto_block 2 with (fail)
                    go_cut [] (fun wc => ∃ (kq : Nat) (x14_74 : List Int), Aside0 (volutelaw09_PileOrder.j4 kq l2 (wrap64 ((wrap64 (1 + (wrap64 (Int.tmod (IntKind.u64.wrap (a0)) 20)))) * (wrap64 (1 + (wrap64 (Int.tmod (IntKind.u64.wrap (a1)) 6)))))) x14_74 x355000_3 x355001_3 x355002_3 t355 t356 t357 = some true) ∧ Aside0 (kq ≤ k3) ∧ Aside0 (Kd.R (Kd.int .i64) 3 wc w.heap.size (fun _ => True) u14 x14_74) ∧ Aside0 (Kd.R k88 88 wc w.heap.size (fun k_ => some k_ ≠ ((.slice Ao19 t357.length co19) : Value).ownBlock) u355002 x355002_3) ∧ Aside0 (Kd.R k88 88 wc w.heap.size (fun k_ => some k_ ≠ (u355002 : Value).ownBlock) (.slice Ao19 t357.length co19) t357) ∧ Aside0 (wc.heap[gb354]? = some (.cells #[.int .i64 x355000_3, .int .i64 x355001_3, u355002] 67 (0, 0))) ∧ Aside0 (wc.heap[gb361]? = some (.cells #[.int .i64 t355, .int .i64 t356, (.slice Ao19 t357.length co19)] 67 (0, 0))) ∧ Aside0 (Below w.heap.size w wc))
                    case first =>
                      have H := HC75.out
                      clear HC75
                      have H' := Aside0.mk H
                      clear H
                      go_wp2
                      go_loopg [19] k3 (fun kq v19 w' => ∃ (x14_4 : List Int) (x19_4 : Int), v19 = .int .i64 x19_4 ∧ Aside0 (volutelaw09_PileOrder.l1 kq l2 l3 (wrap64 ((wrap64 (1 + (wrap64 (Int.tmod (IntKind.u64.wrap (a0)) 20)))) * (wrap64 (1 + (wrap64 (Int.tmod (IntKind.u64.wrap (a1)) 6)))))) x14_4 x19_4 x355000_3 x355001_3 x355002_3 t355 t356 t357 = some true) ∧ Aside0 (kq ≤ k3) ∧ Aside0 (Kd.R (Kd.int .i64) 3 w' w.heap.size (fun _ => True) u14 x14_4) ∧ Aside0 (Kd.R k88 88 w' w.heap.size (fun k_ => some k_ ≠ ((.slice Ao19 t357.length co19) : Value).ownBlock) u355002 x355002_3) ∧ Aside0 (Kd.R k88 88 w' w.heap.size (fun k_ => some k_ ≠ (u355002 : Value).ownBlock) (.slice Ao19 t357.length co19) t357) ∧ Aside0 (w'.heap[gb354]? = some (.cells #[.int .i64 x355000_3, .int .i64 x355001_3, u355002] 67 (0, 0))) ∧ Aside0 (w'.heap[gb361]? = some (.cells #[.int .i64 t355, .int .i64 t356, (.slice Ao19 t357.length co19)] 67 (0, 0))) ∧ Aside0 (Below w.heap.size w w'))
                      case atStart => exact ⟨(x14_3), (0), (by first | rfl | (simp; done) | (simp [*]; done)), H', ⟨Nat.le_refl _⟩, ⟨by (with_reducible repeat (first | apply Kd.R_alloc | apply Kd.R_drewN | apply Kd.R_drew)); exact HO_14.out⟩, ⟨by (with_reducible repeat (first | apply Kd.R_alloc | apply Kd.R_drewN | apply Kd.R_drew)); exact HO_355002.out⟩, ⟨by (with_reducible repeat (first | apply Kd.R_alloc | apply Kd.R_drewN | apply Kd.R_drew)); exact HO_362002.out⟩, ⟨by (with_reducible repeat (first | refine blk_drewN ?_ _ | refine blk_drew ?_ | refine blk_alloc ?_ _)); exact BK354.out⟩, ⟨by (with_reducible repeat (first | refine blk_drewN ?_ _ | refine blk_drew ?_ | refine blk_alloc ?_ _)); exact BK361.out⟩, ⟨by repeat (first | (with_reducible first | exact HB.out | apply below_alloc | apply pw_below_drewN | apply below_drew1 | refine below_set ?_ GE354.out | refine below_set ?_ GE361.out) | exact HB.out)⟩⟩
                      case round =>
                        clear H'
                        try clear c2
                        try clear p2
                        try clear c3
                        try clear p3
                        try clear q3
                        try clear hx3
                        try clear c4
                        try clear q5
                        try clear c6
                        try clear p6
                        try clear c22
                        try clear c22b0
                        try clear c23
                        try clear c25
                        try clear c27
                        try clear c27b0
                        try clear c27b1
                        try clear c36
                        try clear p36
                        try clear q36
                        try clear hx36
                        try clear c45
                        try clear c46
                        try clear q59
                        try clear c60
                        try clear c61
                        try clear c63
                        try clear p64
                        try clear hcz62_0
                        try clear hcz62_1
                        try clear hcz62_2
                        try clear hcz64_0
                        try clear hcz64_1
                        try clear hcz64_2
                        try clear hfz62_0
                        try clear hfz62_1
                        try clear hfz62_2
                        try clear hfz64_0
                        try clear hfz64_1
                        try clear hfz64_2
                        try clear hx365_0
                        try clear p365
                        try clear q365
                        try clear q59
                        obtain ⟨x14_4, x19_4, rfl, HA, HK4, HO_14, HO_355002, HO_362002, BK354, BK361, HB⟩ := hrel
                        cases gk with
                        | zero => exact absurd HA.out (by simp [volutelaw09_PileOrder.l1])
                        | succ k4 =>
                          have H := HA.out
                          clear HA
                          simp only [volutelaw09_PileOrder.l1] at H
                          by_cases c76 : x19_4 < (l3.length : Int)
                          · rw [if_pos c76] at H
                            have c76b0 : decide (x19_4 < (l3.length : Int)) = true := decide_eq_true c76
                            clear c76
                            (first | rw [c76b0] | (simp only [i64_w, i32_w]; rw [c76b0]) | skip)
                            by_cases c77 : (x14_4.length : Int) > 0
                            · rw [if_pos c77] at H
                              have c77b0 : decide (0 < (x14_4.length : Int)) = true := decide_eq_true c77
                              have c77b1 : decide (0 < x14_4.length) = true := decide_eq_true (by omega)
                              clear c77
                              by_cases c78 : 0 ≤ x19_4
                              · rw [if_pos c78] at H
                                have c78b0 : decide (0 ≤ x19_4) = true := decide_eq_true c78
                                clear c78
                                by_cases c79 : (IntKind.u64.wrap ((x14_4.length : Int))) = 0
                                · rw [if_pos c79] at H
                                  exact absurd H (by simp)
                                · rw [if_neg c79] at H
                                  have c79b0 : ((IntKind.u64.wrap ((x14_4.length : Int))) == 0) = false := beq_eq_false_iff_ne.mpr c79
                                  have c79b1 : ((IntKind.u64.wrap ((x14_4.length : Int))) != 0) = true := bne_iff_ne.mpr c79
                                  by_cases c80 : (x14_4.length : Int) = 0
                                  · rw [if_pos c80] at H
                                    exact absurd H (by simp)
                                  · rw [if_neg c80] at H
                                    have c80b0 : ((x14_4.length : Int) == 0) = false := beq_eq_false_iff_ne.mpr c80
                                    have c80b1 : ((x14_4.length : Int) != 0) = true := bne_iff_ne.mpr c80
                                    have c80b2 : ¬ (x14_4 = []) := fun h_ => c80 (by rw [h_]; rfl)
                                    obtain ⟨ji81, hji81⟩ : ∃ j_ : Int, (Int.tmod x19_4 (x14_4.length : Int)) = j_ := ⟨_, rfl⟩
                                    replace H : (if 0 ≤ (ji81) then (if (ji81) < (x14_4.length : Int) then (if 0 ≤ (wrap64 (Int.tmod (IntKind.u64.wrap (rd l3 x19_4)) (IntKind.u64.wrap ((x14_4.length : Int))))) then (if (wrap64 (Int.tmod (IntKind.u64.wrap (rd l3 x19_4)) (IntKind.u64.wrap ((x14_4.length : Int))))) < (x14_4.length : Int) then (volutelaw09_PileOrder.l1 k4 l2 l3 (wrap64 ((wrap64 (1 + (wrap64 (Int.tmod (IntKind.u64.wrap (a0)) 20)))) * (wrap64 (1 + (wrap64 (Int.tmod (IntKind.u64.wrap (a1)) 6)))))) ((x14_4.set ((wrap64 (Int.tmod (IntKind.u64.wrap (rd l3 x19_4)) (IntKind.u64.wrap ((x14_4.length : Int))))) : Int).toNat (rd x14_4 (ji81))).set ((ji81) : Int).toNat (rd x14_4 (wrap64 (Int.tmod (IntKind.u64.wrap (rd l3 x19_4)) (IntKind.u64.wrap ((x14_4.length : Int))))))) (wrap64 (x19_4 + 1)) x355000_3 x355001_3 x355002_3 t355 t356 t357) else (none)) else (none)) else (none)) else (none)) = some true := by first | (rw [hji81] at H; exact H) | (simp only [hji81] at H ⊢; exact H)
                                    by_cases c82 : 0 ≤ (ji81)
                                    · rw [if_pos c82] at H
                                      have c82b0 : decide (0 ≤ (ji81)) = true := decide_eq_true c82
                                      clear c82
                                      by_cases c83 : (ji81) < (x14_4.length : Int)
                                      · rw [if_pos c83] at H
                                        have c83b0 : decide ((ji81) < (x14_4.length : Int)) = true := decide_eq_true c83
                                        clear c83
                                        obtain ⟨ji84, hji84⟩ : ∃ j_ : Int, (wrap64 (Int.tmod (IntKind.u64.wrap (rd l3 x19_4)) (IntKind.u64.wrap ((x14_4.length : Int))))) = j_ := ⟨_, rfl⟩
                                        replace H : (if 0 ≤ (ji84) then (if (ji84) < (x14_4.length : Int) then (volutelaw09_PileOrder.l1 k4 l2 l3 (wrap64 ((wrap64 (1 + (wrap64 (Int.tmod (IntKind.u64.wrap (a0)) 20)))) * (wrap64 (1 + (wrap64 (Int.tmod (IntKind.u64.wrap (a1)) 6)))))) ((x14_4.set ((ji84) : Int).toNat (rd x14_4 (ji81))).set ((ji81) : Int).toNat (rd x14_4 (ji84))) (wrap64 (x19_4 + 1)) x355000_3 x355001_3 x355002_3 t355 t356 t357) else (none)) else (none)) = some true := by first | (rw [hji84] at H; exact H) | (simp only [hji84] at H ⊢; exact H)
                                        have hji84w : (IntKind.i64.wrap (Int.tmod (IntKind.u64.wrap (rd l3 x19_4)) (IntKind.u64.wrap ((x14_4.length : Int))))) = ji84 := (i64_w _).trans hji84
                                        by_cases c85 : 0 ≤ (ji84)
                                        · rw [if_pos c85] at H
                                          have c85b0 : decide (0 ≤ (ji84)) = true := decide_eq_true c85
                                          clear c85
                                          by_cases c86 : (ji84) < (x14_4.length : Int)
                                          · rw [if_pos c86] at H
                                            have c86b0 : decide ((ji84) < (x14_4.length : Int)) = true := decide_eq_true c86
                                            clear c86
                                            obtain ⟨y380, hy380⟩ : ∃ y_ : List Int, y_ = (x14_4.set ((ji84) : Int).toNat (rd x14_4 (ji81))) := ⟨_, rfl⟩
                                            replace H : (volutelaw09_PileOrder.l1 k4 l2 l3 (wrap64 ((wrap64 (1 + (wrap64 (Int.tmod (IntKind.u64.wrap (a0)) 20)))) * (wrap64 (1 + (wrap64 (Int.tmod (IntKind.u64.wrap (a1)) 6)))))) (y380.set ((ji81) : Int).toNat (rd x14_4 (ji84))) (wrap64 (x19_4 + 1)) x355000_3 x355001_3 x355002_3 t355 t356 t357) = some true := by first | (rw [hy380]; with_reducible exact H) | (have H2_ := (Option.bind_some _ _).symm.trans H; rw [hy380]; with_reducible exact H2_) | (have H2_ := (Option.bind_some _ _).symm.trans H; with_reducible exact H2_) | with_reducible exact H | (rw [hy380]; exact H) | exact H
                                            have Ny380 := Aside0.mk hy380
                                            clear hy380
                                            obtain ⟨y381, hy381⟩ : ∃ y_ : List Int, y_ = (y380.set ((ji81) : Int).toNat (rd x14_4 (ji84))) := ⟨_, rfl⟩
                                            replace H : (volutelaw09_PileOrder.l1 k4 l2 l3 (wrap64 ((wrap64 (1 + (wrap64 (Int.tmod (IntKind.u64.wrap (a0)) 20)))) * (wrap64 (1 + (wrap64 (Int.tmod (IntKind.u64.wrap (a1)) 6)))))) y381 (wrap64 (x19_4 + 1)) x355000_3 x355001_3 x355002_3 t355 t356 t357) = some true := by first | (rw [hy381]; with_reducible exact H) | (have H2_ := (Option.bind_some _ _).symm.trans H; rw [hy381]; with_reducible exact H2_) | (have H2_ := (Option.bind_some _ _).symm.trans H; with_reducible exact H2_) | with_reducible exact H | (rw [hy381]; exact H) | exact H
                                            have Ny381 := Aside0.mk hy381
                                            clear hy381
                                            have H' := Aside0.mk H
                                            clear H
                                            obtain ⟨Ao89, co89, eo89⟩ := Kd.R_slice HO_14.out
                                            subst eo89
                                            try go_wp2
                                            replace HO_14 := Aside0.mk (Kd.R_drew HO_14.out)
                                            replace HO_355002 := Aside0.mk (Kd.R_drew HO_355002.out)
                                            replace HO_362002 := Aside0.mk (Kd.R_drew HO_362002.out)
                                            replace BK354 := Aside0.mk (blk_drew BK354.out)
                                            replace BK361 := Aside0.mk (blk_drew BK361.out)
                                            replace HB := Aside0.mk (below_drew1 HB.out)
                                            have p377 : 0 ≤ (x19_4 : Int) := of_decide_eq_true (by first | (with_reducible assumption) | assumption)
                                            have q377 : x19_4 < (l3.length : Int) := of_decide_eq_true (by first | (with_reducible assumption) | assumption)
                                            obtain ⟨ad377, e377, hx377_0⟩ := Kd.at_int HR3.out x19_4 p377 q377
                                            have hw377_0 := hx377_0
                                            cases e377
                                            replace hx377_0 := (HB.out.cell (World.block_lt_of_cell? w _ hx377_0)).trans hx377_0
                                            replace p377 := eq_true p377
                                            replace q377 := eq_true q377
                                            refine start_ (n := 16) (S := fun w' => w'.cell? (ad377.add (x19_4).toNat) = some (.int .i64 (rd l3 x19_4))) (ds := []) #[false, false, false, false, false, false, false, false, false, false, false, false, false, false, false, false] (by kernel_rfl) rfl rfl (((HB.out.cell (World.block_lt_of_cell? w _ hw377_0)).trans hw377_0)) (fun hHeld => ?_); refine with_tabW volutelaw09_PileOrder.tab23 volutelaw09_PileOrder.bits23 (fun HT_ HW_ => ?_)
                                            generalize wr.drew = w90 at HO_14 HO_355002 HO_362002 BK354 BK361 HB hx377_0 hHeld ⊢
                                            refine pu 0 114 (lb 16 1) rfl rfl (any_of HT_.out (by kernel_rfl)) ?_
                                            refine pu 1 115 (lb 16 3) rfl rfl (any_of HT_.out (by kernel_rfl)) ?_
                                            refine pu 2 116 (lb 16 7) rfl rfl (any_of HT_.out (by kernel_rfl)) ?_
                                            refine pu 5 119 (lb 16 39) rfl rfl (any_of HT_.out (by kernel_rfl)) ?_
                                            refine pu 6 120 (lb 16 103) rfl rfl (any_of HT_.out (by kernel_rfl)) ?_
                                            refine pu 7 121 (lb 16 231) rfl rfl (any_of HT_.out (by kernel_rfl)) ?_
                                            refine pu 10 124 (lb 16 1255) rfl rfl (any_of HT_.out (by kernel_rfl)) ?_
                                            refine pu 11 125 (lb 16 3303) rfl rfl (any_of HT_.out (by kernel_rfl)) ?_
                                            refine pu 12 126 (lb 16 7399) rfl rfl (any_of HT_.out (by kernel_rfl)) ?_
                                            refine pu 13 127 (lb 16 15591) rfl rfl (any_of HT_.out (by kernel_rfl)) ?_
                                            refine take_ (i := 3) (N := some 117) (v := ?_) (a' := ?_) (lb 16 15599) rfl rfl (take_ofW HT_.out HW_.out (by kernel_rfl)) (fun _ _ _ h => h) (Or.inl ⟨by rfl, ?_⟩) hHeld ?_ ?_
                                            rotate_left
                                            · intro w' s0
                                              go_simp
                                              with_reducible rfl
                                            rotate_left
                                            · simp only [Act.put, List.setIfInBounds_toArray, List.set_cons_zero, List.set_cons_succ, i64_w, i32_w]
                                              rfl
                                            refine pu 4 118 (lb 16 15615) rfl rfl (any_of HT_.out (by kernel_rfl)) ?_
                                            refine pu 8 122 (lb 16 15871) rfl rfl (any_of HT_.out (by kernel_rfl)) ?_
                                            refine pu 9 123 (lb 16 16383) rfl rfl (any_of HT_.out (by kernel_rfl)) ?_
                                            refine pu 14 20 (lb 16 32767) rfl rfl (any_of HT_.out (by kernel_rfl)) ?_
                                            refine pu 15 21 (lb 16 65535) rfl rfl (any_of HT_.out (by kernel_rfl)) ?_
                                            refine done_ (done_of HT_.out (by kernel_rfl)) ?_
                                            try go_wp2
                                            replace HO_14 := Aside0.mk (Kd.R_drew HO_14.out)
                                            replace HO_355002 := Aside0.mk (Kd.R_drew HO_355002.out)
                                            replace HO_362002 := Aside0.mk (Kd.R_drew HO_362002.out)
                                            replace BK354 := Aside0.mk (blk_drew BK354.out)
                                            replace BK361 := Aside0.mk (blk_drew BK361.out)
                                            replace HB := Aside0.mk (below_drew1 HB.out)
                                            have p378 : 0 ≤ ((ji81) : Int) := of_decide_eq_true (by first | (with_reducible assumption) | assumption)
                                            have q378 : (ji81) < (x14_4.length : Int) := of_decide_eq_true (by first | (with_reducible assumption) | assumption)
                                            obtain ⟨ad378, e378, hx378_0⟩ := Kd.at_int (Kd.R_reads' HO_14.out).2.2 (ji81) p378 q378
                                            cases e378
                                            replace p378 := eq_true p378
                                            replace q378 := eq_true q378
                                            have p379 : 0 ≤ ((ji84) : Int) := of_decide_eq_true (by first | (with_reducible assumption) | assumption)
                                            have q379 : (ji84) < (x14_4.length : Int) := of_decide_eq_true (by first | (with_reducible assumption) | assumption)
                                            obtain ⟨ad379, e379, hx379_0⟩ := Kd.at_int (Kd.R_reads' HO_14.out).2.2 (ji84) p379 q379
                                            obtain rfl : ad378 = ad379 := (by injection e379)
                                            replace p379 := eq_true p379
                                            replace q379 := eq_true q379
                                            have p87 : 0 ≤ ((ji84) : Int) := of_decide_eq_true (by first | (with_reducible assumption) | assumption)
                                            have q87 : ((ji84) : Int) < ((x14_4.length : Int) : Int) := of_decide_eq_true (by first | (with_reducible assumption) | assumption)
                                            obtain ⟨go87, co87, eo87, gb87, gl87, cl87, HG87⟩ := Kd.R_form HO_14.out (by omega)
                                            (first | cases eo87 | (injection eo87 with ea_ en_ ec_; (first | subst ea_ | (injection ea_ with ea_; subst ea_)); subst ec_; clear en_))
                                            have GB87 := Aside0.mk gb87
                                            have GG87 := Aside0.mk HG87
                                            clear gb87 gl87 HG87
                                            (first | simp only [add_plain] at hx378_0 | skip)
                                            (first | simp only [add_plain] at hx379_0 | skip)
                                            obtain ⟨hx87_0, hf87_0⟩ := Kd.R_celln 0 HO_14.out ((ji84) : Int) p87 q87
                                            replace p87 := eq_true p87
                                            replace q87 := eq_true q87
                                            have HP92 := Kd.R_putn HO_14.out ((ji84) : Int) (rd x14_4 (ji81))
                                            rw [← Ny380.out] at HP92
                                            have HQ92 := Aside0.mk HP92
                                            clear HP92
                                            have p88 : 0 ≤ ((ji81) : Int) := of_decide_eq_true (by first | (with_reducible assumption) | assumption)
                                            have q88 : ((ji81) : Int) < ((x14_4.length : Int) : Int) := of_decide_eq_true (by first | (with_reducible assumption) | assumption)
                                            obtain ⟨hx88_0, hf88_0⟩ := Kd.R_celln 0 HQ92.out ((ji81) : Int) p88 q88
                                            replace p88 := eq_true p88
                                            replace q88 := eq_true q88
                                            have HP93 := Kd.R_putn HQ92.out ((ji81) : Int) (rd x14_4 (ji84))
                                            rw [← Ny381.out] at HP93
                                            have HQ93 := Aside0.mk HP93
                                            clear HP93
                                            refine start_ (n := 16) (S := fun w' => w'.cell? ⟨go87, ((ji81)).toNat, none⟩ = some (.int .i64 (rd x14_4 (ji81))) ∧ w'.cell? ⟨go87, ((ji84)).toNat, none⟩ = some (.int .i64 (rd x14_4 (ji84)))) (ds := [13, 15]) #[false, false, false, false, false, false, false, false, false, false, false, false, false, false, false, false] (by kernel_rfl) rfl rfl ⟨hx378_0, hx379_0⟩ (fun hHeld => ?_); refine with_tabW volutelaw09_PileOrder.tab24 volutelaw09_PileOrder.bits24 (fun HT_ HW_ => ?_)
                                            generalize w90.drew = w91 at HO_14 HO_355002 HO_362002 BK354 BK361 HB GG87 HQ92 HQ93 hf87_0 hf88_0 hx378_0 hx379_0 hx87_0 hx88_0 hHeld ⊢
                                            refine pu 0 128 (lb 16 1) rfl rfl (any_of HT_.out (by kernel_rfl)) ?_
                                            refine pu 1 129 (lb 16 3) rfl rfl (any_of HT_.out (by kernel_rfl)) ?_
                                            refine pu 2 130 (lb 16 7) rfl rfl (any_of HT_.out (by kernel_rfl)) ?_
                                            refine pu 3 131 (lb 16 15) rfl rfl (any_of HT_.out (by kernel_rfl)) ?_
                                            refine pu 4 132 (lb 16 31) rfl rfl (any_of HT_.out (by kernel_rfl)) ?_
                                            refine pu 5 133 (lb 16 63) rfl rfl (any_of HT_.out (by kernel_rfl)) ?_
                                            refine pu 6 134 (lb 16 127) rfl rfl (any_of HT_.out (by kernel_rfl)) ?_
                                            refine pu 8 136 (lb 16 383) rfl rfl (any_of HT_.out (by kernel_rfl)) ?_
                                            refine pu 9 137 (lb 16 895) rfl rfl (any_of HT_.out (by kernel_rfl)) ?_
                                            refine pu 10 138 (lb 16 1919) rfl rfl (any_of HT_.out (by kernel_rfl)) ?_
                                            refine take_ (i := 7) (N := some 135) (v := ?_) (a' := ?_) (lb 16 2047) rfl rfl (take_ofW HT_.out HW_.out (by kernel_rfl)) (fun _ _ _ h => h) (Or.inl ⟨by rfl, ?_⟩) hHeld ?_ ?_
                                            rotate_left
                                            · rintro w' ⟨s0, s1⟩
                                              go_simp
                                              with_reducible rfl
                                            rotate_left
                                            · simp only [Act.put, List.setIfInBounds_toArray, List.set_cons_zero, List.set_cons_succ, i64_w, i32_w]
                                              rfl
                                            refine take_ (i := 11) (N := some 139) (v := ?_) (a' := ?_) (lb 16 4095) rfl rfl (take_ofW HT_.out HW_.out (by kernel_rfl)) (fun _ _ _ h => h) (Or.inl ⟨by rfl, ?_⟩) hHeld ?_ ?_
                                            rotate_left
                                            · rintro w' ⟨s0, s1⟩
                                              go_simp
                                              with_reducible rfl
                                            rotate_left
                                            · simp only [Act.put, List.setIfInBounds_toArray, List.set_cons_zero, List.set_cons_succ, i64_w, i32_w]
                                              rfl
                                            refine pu 12 140 (lb 16 8191) rfl rfl (any_of HT_.out (by kernel_rfl)) ?_
                                            refine last_ (i := 13) (N := none) (lb 16 16383) rfl rfl (one_of HT_.out (by kernel_rfl)) (by decide) (fun K hK => ?_)
                                            refine skip_ (w1 := ?_) (by rfl) rfl ?_ ?_
                                            rotate_left
                                            · go_simp
                                              rfl
                                            refine hK.out _ _ ?_
                                            clear hK K
                                            refine pu 14 141 (lb 16 32767) rfl rfl (any_of HT_.out (by kernel_rfl)) ?_
                                            refine last_ (i := 15) (N := none) (lb 16 65535) rfl rfl (one_of HT_.out (by kernel_rfl)) (by decide) (fun K hK => ?_)
                                            refine skip_ (w1 := ?_) (by rfl) rfl ?_ ?_
                                            rotate_left
                                            · go_simp
                                              rfl
                                            refine hK.out _ _ ?_
                                            clear hK K
                                            refine done_ (done_of HT_.out (by kernel_rfl)) ?_
                                            try go_wp2
                                            go_roundg k4
                                            case measure => have := HJ4.out; have := HJ9.out; have := HK3.out; have := HK4.out; omega
                                            case rel => exact ⟨(y381), (wrap64 (x19_4 + 1)), (by first | rfl | (simp; done) | (simp [*]; done)), H', ⟨by have := HJ4.out; have := HJ9.out; have := HK3.out; have := HK4.out; omega⟩, ⟨by (with_reducible repeat (first | apply Kd.R_alloc | apply Kd.R_drewN | apply Kd.R_drew)); exact HQ93.out⟩, ⟨by (with_reducible repeat (first | apply Kd.R_alloc | apply Kd.R_drewN | apply Kd.R_drew)); exact Kd.R_mono (Kd.R_far (p := ⟨go87, ((ji81) : Int).toNat, none⟩) (Kd.R_far (p := ⟨go87, ((ji84) : Int).toNat, none⟩) (Kd.R_types HO_355002.out GG87.out (by decide)) (fun _ hk => hk.2) (.int .i64 (rd x14_4 (ji81)))) (fun _ hk => hk.2) (.int .i64 (rd x14_4 (ji84)))) (fun _ hk => hk.1)⟩, ⟨by (with_reducible repeat (first | apply Kd.R_alloc | apply Kd.R_drewN | apply Kd.R_drew)); exact Kd.R_mono (Kd.R_far (p := ⟨go87, ((ji81) : Int).toNat, none⟩) (Kd.R_far (p := ⟨go87, ((ji84) : Int).toNat, none⟩) (Kd.R_types HO_362002.out GG87.out (by decide)) (fun _ hk => hk.2) (.int .i64 (rd x14_4 (ji81)))) (fun _ hk => hk.2) (.int .i64 (rd x14_4 (ji84)))) (fun _ hk => hk.1)⟩, ⟨by (with_reducible repeat (first | refine blk_drewN ?_ _ | refine blk_drew ?_ | refine blk_alloc ?_ _)); refine blk_far ?_ (by have h_ := Kd.R_ne HO_14.out BK354.out (by decide); intro e_; exact h_ (by rw [e_]; rfl)) _; (with_reducible repeat (first | refine blk_drewN ?_ _ | refine blk_drew ?_ | refine blk_alloc ?_ _)); refine blk_far ?_ (by have h_ := Kd.R_ne HO_14.out BK354.out (by decide); intro e_; exact h_ (by rw [e_]; rfl)) _; (with_reducible repeat (first | refine blk_drewN ?_ _ | refine blk_drew ?_ | refine blk_alloc ?_ _)); exact BK354.out⟩, ⟨by (with_reducible repeat (first | refine blk_drewN ?_ _ | refine blk_drew ?_ | refine blk_alloc ?_ _)); refine blk_far ?_ (by have h_ := Kd.R_ne HO_14.out BK361.out (by decide); intro e_; exact h_ (by rw [e_]; rfl)) _; (with_reducible repeat (first | refine blk_drewN ?_ _ | refine blk_drew ?_ | refine blk_alloc ?_ _)); refine blk_far ?_ (by have h_ := Kd.R_ne HO_14.out BK361.out (by decide); intro e_; exact h_ (by rw [e_]; rfl)) _; (with_reducible repeat (first | refine blk_drewN ?_ _ | refine blk_drew ?_ | refine blk_alloc ?_ _)); exact BK361.out⟩, ⟨by repeat (first | (with_reducible first | exact HB.out | apply below_alloc | apply pw_below_drewN | apply below_drew1 | refine below_set ?_ GB87.out | refine below_set ?_ GB87.out | refine below_set ?_ GE354.out | refine below_set ?_ GE361.out) | exact HB.out)⟩⟩
                                          · rw [if_neg c86] at H
                                            exact absurd H (by simp)
                                        · rw [if_neg c85] at H
                                          exact absurd H (by simp)
                                      · rw [if_neg c83] at H
                                        exact absurd H (by simp)
                                    · rw [if_neg c82] at H
                                      exact absurd H (by simp)
                              · rw [if_neg c78] at H
                                exact absurd H (by simp)
                            · rw [if_neg c77] at H
                              have c77b0 : decide (0 < (x14_4.length : Int)) = false := decide_eq_false c77
                              have c77b1 : decide (0 < x14_4.length) = false := decide_eq_false (by omega)
                              clear c77
                              have H' := Aside0.mk H
                              clear H
                              obtain ⟨Ao94, co94, eo94⟩ := Kd.R_slice HO_14.out
                              subst eo94
                              go_wp2
                              go_meet
                              case rel => exact ⟨_, (x14_4), H', ⟨by have := HJ4.out; have := HJ9.out; have := HK3.out; have := HK4.out; first | omega | exact Nat.le_refl _⟩, ⟨by (with_reducible repeat (first | apply Kd.R_alloc | apply Kd.R_drewN | apply Kd.R_drew)); exact HO_14.out⟩, ⟨by (with_reducible repeat (first | apply Kd.R_alloc | apply Kd.R_drewN | apply Kd.R_drew)); exact HO_355002.out⟩, ⟨by (with_reducible repeat (first | apply Kd.R_alloc | apply Kd.R_drewN | apply Kd.R_drew)); exact HO_362002.out⟩, ⟨by (with_reducible repeat (first | refine blk_drewN ?_ _ | refine blk_drew ?_ | refine blk_alloc ?_ _)); exact BK354.out⟩, ⟨by (with_reducible repeat (first | refine blk_drewN ?_ _ | refine blk_drew ?_ | refine blk_alloc ?_ _)); exact BK361.out⟩, ⟨by repeat (first | (with_reducible first | exact HB.out | apply below_alloc | apply pw_below_drewN | apply below_drew1 | refine below_set ?_ GE354.out | refine below_set ?_ GE361.out) | exact HB.out)⟩⟩
                          · rw [if_neg c76] at H
                            have c76b0 : decide (x19_4 < (l3.length : Int)) = false := decide_eq_false c76
                            clear c76
                            (first | rw [c76b0] | (simp only [i64_w, i32_w]; rw [c76b0]) | skip)
                            have H' := Aside0.mk H
                            clear H
                            go_wp2
                            go_meet
                            case rel => exact ⟨_, (x14_4), H', ⟨by have := HJ4.out; have := HJ9.out; have := HK3.out; have := HK4.out; first | omega | exact Nat.le_refl _⟩, ⟨by (with_reducible repeat (first | apply Kd.R_alloc | apply Kd.R_drewN | apply Kd.R_drew)); exact HO_14.out⟩, ⟨by (with_reducible repeat (first | apply Kd.R_alloc | apply Kd.R_drewN | apply Kd.R_drew)); exact HO_355002.out⟩, ⟨by (with_reducible repeat (first | apply Kd.R_alloc | apply Kd.R_drewN | apply Kd.R_drew)); exact HO_362002.out⟩, ⟨by (with_reducible repeat (first | refine blk_drewN ?_ _ | refine blk_drew ?_ | refine blk_alloc ?_ _)); exact BK354.out⟩, ⟨by (with_reducible repeat (first | refine blk_drewN ?_ _ | refine blk_drew ?_ | refine blk_alloc ?_ _)); exact BK361.out⟩, ⟨by repeat (first | (with_reducible first | exact HB.out | apply below_alloc | apply pw_below_drewN | apply below_drew1 | refine below_set ?_ GE354.out | refine below_set ?_ GE361.out) | exact HB.out)⟩⟩
                    case rest =>
                      clear HC75
                      try clear c2
                      try clear p2
                      try clear c3
                      try clear p3
                      try clear q3
                      try clear hx3
                      try clear c4
                      try clear q5
                      try clear c6
                      try clear p6
                      try clear c7
                      try clear c8
                      try clear p8
                      try clear q8
                      try clear hx8
                      try clear hf8
                      try clear c22
                      try clear c22b0
                      try clear c23
                      try clear c25
                      try clear c27
                      try clear c27b0
                      try clear c27b1
                      try clear c36
                      try clear p36
                      try clear q36
                      try clear hx36
                      try clear p37
                      try clear q37
                      try clear hx37
                      try clear c45
                      try clear c46
                      try clear q59
                      try clear c60
                      try clear c61
                      try clear c63
                      try clear p64
                      try clear c76
                      try clear c76b0
                      try clear c77
                      try clear c77b0
                      try clear c77b1
                      try clear c78
                      try clear c78b0
                      try clear c79
                      try clear c79b0
                      try clear c79b1
                      try clear c80
                      try clear c80b0
                      try clear c80b1
                      try clear c80b2
                      try clear c82
                      try clear c82b0
                      try clear c83
                      try clear c83b0
                      try clear c85
                      try clear c85b0
                      try clear c86
                      try clear c86b0
                      try clear p87
                      try clear q87
                      try clear hx87
                      try clear hf87
                      try clear p88
                      try clear q88
                      try clear hx88
                      try clear hf88
                      try clear hcz62_0
                      try clear hcz62_1
                      try clear hcz62_2
                      try clear hcz64_0
                      try clear hcz64_1
                      try clear hcz64_2
                      try clear hfz62_0
                      try clear hfz62_1
                      try clear hfz62_2
                      try clear hfz64_0
                      try clear hfz64_1
                      try clear hfz64_2
                      try clear hx365_0
                      try clear hx377_0
                      try clear hx378_0
                      try clear hx379_0
                      try clear hx87_0
                      try clear hx88_0
                      try clear p2
                      try clear p3
                      try clear p36
                      try clear p365
                      try clear p377
                      try clear p378
                      try clear p379
                      try clear p6
                      try clear p64
                      try clear p87
                      try clear p88
                      try clear q3
                      try clear q36
                      try clear q365
                      try clear q377
                      try clear q378
                      try clear q379
                      try clear q5
                      try clear q59
                      try clear q87
                      try clear q88
                      obtain ⟨kq, x14_74, HA, HJ74, HO_14, HO_355002, HO_362002, BK354, BK361, HB⟩ := hcut
                      cases kq with
                      | zero => exact absurd HA.out (by simp [volutelaw09_PileOrder.j4])
                      | succ kj74 =>
                        have H := HA.out
                        clear HA
                        simp only [volutelaw09_PileOrder.j4] at H
                        have H' := Aside0.mk H
                        clear H
                        go_wp2
                        go_loopg [22] kj74 (fun kq v22 w' => ∃ (x22_5 : Int) (x362000_5 : Int) (x362001_5 : Int) (x362002_5 : List (S88)) (u362002 : Value), v22 = .int .i64 x22_5 ∧ Aside0 (volutelaw09_PileOrder.l2 kq l2 (wrap64 ((wrap64 (1 + (wrap64 (Int.tmod (IntKind.u64.wrap (a0)) 20)))) * (wrap64 (1 + (wrap64 (Int.tmod (IntKind.u64.wrap (a1)) 6)))))) x14_74 x22_5 x355000_3 x355001_3 x355002_3 x362000_5 x362001_5 x362002_5 = some true) ∧ Aside0 (kq ≤ kj74) ∧ Aside0 (Kd.R (Kd.int .i64) 3 w' w.heap.size (fun _ => True) u14 x14_74) ∧ Aside0 (Kd.R k88 88 w' w.heap.size (fun k_ => some k_ ≠ (u362002 : Value).ownBlock) u355002 x355002_3) ∧ Aside0 (Kd.R k88 88 w' w.heap.size (fun k_ => some k_ ≠ (u355002 : Value).ownBlock) u362002 x362002_5) ∧ Aside0 (w'.heap[gb354]? = some (.cells #[.int .i64 x355000_3, .int .i64 x355001_3, u355002] 67 (0, 0))) ∧ Aside0 (w'.heap[gb361]? = some (.cells #[.int .i64 x362000_5, .int .i64 x362001_5, u362002] 67 (0, 0))) ∧ Aside0 (Below w.heap.size w w'))
                        case atStart => exact ⟨(0), (t355), (t356), (t357), (.slice Ao19 t357.length co19), (by first | rfl | (simp; done) | (simp [*]; done)), H', ⟨Nat.le_refl _⟩, ⟨by (with_reducible repeat (first | apply Kd.R_alloc | apply Kd.R_drewN | apply Kd.R_drew)); exact HO_14.out⟩, ⟨by (with_reducible repeat (first | apply Kd.R_alloc | apply Kd.R_drewN | apply Kd.R_drew)); exact HO_355002.out⟩, ⟨by (with_reducible repeat (first | apply Kd.R_alloc | apply Kd.R_drewN | apply Kd.R_drew)); exact HO_362002.out⟩, ⟨by (with_reducible repeat (first | refine blk_drewN ?_ _ | refine blk_drew ?_ | refine blk_alloc ?_ _)); exact BK354.out⟩, ⟨by (with_reducible repeat (first | refine blk_drewN ?_ _ | refine blk_drew ?_ | refine blk_alloc ?_ _)); exact BK361.out⟩, ⟨by repeat (first | (with_reducible first | exact HB.out | apply below_alloc | apply pw_below_drewN | apply below_drew1 | refine below_set ?_ GE354.out | refine below_set ?_ GE361.out) | exact HB.out)⟩⟩
                        case round =>
                          clear H'
                          try clear c2
                          try clear p2
                          try clear c3
                          try clear p3
                          try clear q3
                          try clear hx3
                          try clear c4
                          try clear q5
                          try clear c6
                          try clear p6
                          try clear c7
                          try clear c8
                          try clear p8
                          try clear q8
                          try clear hx8
                          try clear hf8
                          try clear c22
                          try clear c22b0
                          try clear c23
                          try clear c25
                          try clear c27
                          try clear c27b0
                          try clear c27b1
                          try clear c36
                          try clear p36
                          try clear q36
                          try clear hx36
                          try clear p37
                          try clear q37
                          try clear hx37
                          try clear c45
                          try clear c46
                          try clear q59
                          try clear c60
                          try clear c61
                          try clear c63
                          try clear p64
                          try clear c76
                          try clear c76b0
                          try clear c77
                          try clear c77b0
                          try clear c77b1
                          try clear c78
                          try clear c78b0
                          try clear c79
                          try clear c79b0
                          try clear c79b1
                          try clear c80
                          try clear c80b0
                          try clear c80b1
                          try clear c80b2
                          try clear c82
                          try clear c82b0
                          try clear c83
                          try clear c83b0
                          try clear c85
                          try clear c85b0
                          try clear c86
                          try clear c86b0
                          try clear p87
                          try clear q87
                          try clear hx87
                          try clear hf87
                          try clear p88
                          try clear q88
                          try clear hx88
                          try clear hf88
                          try clear hcz62_0
                          try clear hcz62_1
                          try clear hcz62_2
                          try clear hcz64_0
                          try clear hcz64_1
                          try clear hcz64_2
                          try clear hfz62_0
                          try clear hfz62_1
                          try clear hfz62_2
                          try clear hfz64_0
                          try clear hfz64_1
                          try clear hfz64_2
                          try clear hx365_0
                          try clear hx377_0
                          try clear hx378_0
                          try clear hx379_0
                          try clear hx87_0
                          try clear hx88_0
                          try clear p2
                          try clear p3
                          try clear p36
                          try clear p365
                          try clear p37
                          try clear p377
                          try clear p378
                          try clear p379
                          try clear p6
                          try clear p64
                          try clear p8
                          try clear p87
                          try clear p88
                          try clear q3
                          try clear q36
                          try clear q365
                          try clear q37
                          try clear q377
                          try clear q378
                          try clear q379
                          try clear q5
                          try clear q59
                          try clear q8
                          try clear q87
                          try clear q88
                          obtain ⟨x22_5, x362000_5, x362001_5, x362002_5, u362002, rfl, HA, HK5, HO_14, HO_355002, HO_362002, BK354, BK361, HB⟩ := hrel
                          cases gk with
                          | zero => exact absurd HA.out (by simp [volutelaw09_PileOrder.l2])
                          | succ k5 =>
                            have H := HA.out
                            clear HA
                            simp only [volutelaw09_PileOrder.l2] at H
                            by_cases c95 : x22_5 < (x14_74.length : Int)
                            · rw [if_pos c95] at H
                              have c95b0 : decide (x22_5 < (x14_74.length : Int)) = true := decide_eq_true c95
                              clear c95
                              by_cases c96 : 0 ≤ x22_5
                              · rw [if_pos c96] at H
                                have c96b0 : decide (0 ≤ x22_5) = true := decide_eq_true c96
                                clear c96
                                by_cases c97 : (wrap64 ((wrap64 (1 + (wrap64 (Int.tmod (IntKind.u64.wrap (a0)) 20)))) * (wrap64 (1 + (wrap64 (Int.tmod (IntKind.u64.wrap (a1)) 6)))))) = 0
                                · rw [if_pos c97] at H
                                  exact absurd H (by simp)
                                · rw [if_neg c97] at H
                                  have c97b0 : ((wrap64 ((wrap64 (1 + (wrap64 (Int.tmod (IntKind.u64.wrap (a0)) 20)))) * (wrap64 (1 + (wrap64 (Int.tmod (IntKind.u64.wrap (a1)) 6)))))) == 0) = false := beq_eq_false_iff_ne.mpr c97
                                  have c97b1 : ((wrap64 ((wrap64 (1 + (wrap64 (Int.tmod (IntKind.u64.wrap (a0)) 20)))) * (wrap64 (1 + (wrap64 (Int.tmod (IntKind.u64.wrap (a1)) 6)))))) != 0) = true := bne_iff_ne.mpr c97
                                  by_cases c98 : 0 ≤ (rd x14_74 x22_5)
                                  · rw [if_pos c98] at H
                                    have c98b0 : decide (0 ≤ (rd x14_74 x22_5)) = true := decide_eq_true c98
                                    clear c98
                                    by_cases c99 : (rd x14_74 x22_5) < (l2.length : Int)
                                    · rw [if_pos c99] at H
                                      have c99b0 : decide ((rd x14_74 x22_5) < (l2.length : Int)) = true := decide_eq_true c99
                                      clear c99
                                      replace H := Option.bind_eq_some_iff.mp H
                                      obtain ⟨⟨t385, t386, t387, t390, t391⟩, A1000, H⟩ := H
                                      replace H : (if t391 = 0 then (if t390 = true then (volutelaw09_PileOrder.l2 k5 l2 (wrap64 ((wrap64 (1 + (wrap64 (Int.tmod (IntKind.u64.wrap (a0)) 20)))) * (wrap64 (1 + (wrap64 (Int.tmod (IntKind.u64.wrap (a1)) 6)))))) x14_74 (wrap64 (x22_5 + 1)) x355000_3 x355001_3 x355002_3 t385 t386 t387) else (some false)) else (some false)) = some true := H
                                      have A100 := Aside0.mk A1000
                                      clear A1000
                                      by_cases c101 : t391 = 0
                                      · rw [if_pos c101] at H
                                        have c101b0 : (t391 == 0) = true := beq_iff_eq.mpr c101
                                        have c101b1 : (t391 != 0) = false := bne_eq_false_iff_eq.mpr c101
                                        clear c101
                                        by_cases c102 : t390 = true
                                        · subst c102
                                          have H1 : (volutelaw09_PileOrder.l2 k5 l2 (wrap64 ((wrap64 (1 + (wrap64 (Int.tmod (IntKind.u64.wrap (a0)) 20)))) * (wrap64 (1 + (wrap64 (Int.tmod (IntKind.u64.wrap (a1)) 6)))))) x14_74 (wrap64 (x22_5 + 1)) x355000_3 x355001_3 x355002_3 t385 t386 t387) = some true := by rw [if_pos rfl] at H; exact H
                                          clear H
                                          have H := H1
                                          clear H1
                                          have H' := Aside0.mk H
                                          clear H
                                          obtain ⟨Ao103, co103, eo103⟩ := Kd.R_slice HO_14.out
                                          subst eo103
                                          obtain ⟨Ao104, co104, eo104⟩ := Kd.R_slice HO_362002.out
                                          subst eo104
                                          try go_wp2
                                          replace HO_14 := Aside0.mk (Kd.R_drew HO_14.out)
                                          replace HO_355002 := Aside0.mk (Kd.R_drew HO_355002.out)
                                          replace HO_362002 := Aside0.mk (Kd.R_drew HO_362002.out)
                                          replace BK354 := Aside0.mk (blk_drew BK354.out)
                                          replace BK361 := Aside0.mk (blk_drew BK361.out)
                                          replace HB := Aside0.mk (below_drew1 HB.out)
                                          have p382 : 0 ≤ (x22_5 : Int) := of_decide_eq_true (by first | (with_reducible assumption) | assumption)
                                          have q382 : x22_5 < (x14_74.length : Int) := of_decide_eq_true (by first | (with_reducible assumption) | assumption)
                                          obtain ⟨ad382, e382, hx382_0⟩ := Kd.at_int (Kd.R_reads' HO_14.out).2.2 x22_5 p382 q382
                                          cases e382
                                          replace p382 := eq_true p382
                                          replace q382 := eq_true q382
                                          have p383 : 0 ≤ (x22_5 : Int) := of_decide_eq_true (by first | (with_reducible assumption) | assumption)
                                          have q383 : x22_5 < (x14_74.length : Int) := of_decide_eq_true (by first | (with_reducible assumption) | assumption)
                                          obtain ⟨ad383, e383, hx383_0⟩ := Kd.at_int (Kd.R_reads' HO_14.out).2.2 x22_5 p383 q383
                                          obtain rfl : ad382 = ad383 := (by injection e383)
                                          replace p383 := eq_true p383
                                          replace q383 := eq_true q383
                                          have p384 : 0 ≤ ((rd x14_74 x22_5) : Int) := of_decide_eq_true (by first | (with_reducible assumption) | assumption)
                                          have q384 : (rd x14_74 x22_5) < (l2.length : Int) := of_decide_eq_true (by first | (with_reducible assumption) | assumption)
                                          obtain ⟨ad384, e384, hx384_0⟩ := Kd.at_int HR2.out (rd x14_74 x22_5) p384 q384
                                          have hw384_0 := hx384_0
                                          cases e384
                                          replace hx384_0 := (HB.out.cell (World.block_lt_of_cell? w _ hx384_0)).trans hx384_0
                                          replace p384 := eq_true p384
                                          replace q384 := eq_true q384
                                          refine start_ (n := 27) (S := fun w' => w'.cell? ⟨gb361, 0, none⟩ = some (.int .i64 x362000_5) ∧ w'.cell? ⟨gb361, 1, none⟩ = some (.int .i64 x362001_5) ∧ w'.cell? ⟨gb361, 2, none⟩ = some (.slice Ao104 x362002_5.length co104) ∧ w'.cell? (ad382.add (x22_5).toNat) = some (.int .i64 (rd x14_74 x22_5)) ∧ w'.cell? (ad382.add (x22_5).toNat) = some (.int .i64 (rd x14_74 x22_5)) ∧ w'.cell? (ad384.add ((rd x14_74 x22_5)).toNat) = some (.int .i64 (rd l2 (rd x14_74 x22_5)))) (ds := []) #[false, false, false, false, false, false, false, false, false, false, false, false, false, false, false, false, false, false, false, false, false, false, false, false, false, false, false] (by kernel_rfl) rfl rfl ⟨(blk_cell BK361.out 0).trans rfl, (blk_cell BK361.out 1).trans rfl, (blk_cell BK361.out 2).trans rfl, hx382_0, hx383_0, ((HB.out.cell (World.block_lt_of_cell? w _ hw384_0)).trans hw384_0)⟩ (fun hHeld => ?_); refine with_tabW volutelaw09_PileOrder.tab28 volutelaw09_PileOrder.bits28 (fun HT_ HW_ => ?_)
                                          generalize wr.drew = w105 at HO_14 HO_355002 HO_362002 BK354 BK361 HB hx382_0 hx383_0 hx384_0 hHeld ⊢
                                          refine pu 1 150 (lb 27 2) rfl rfl (any_of HT_.out (by kernel_rfl)) ?_
                                          refine pu 2 151 (lb 27 6) rfl rfl (any_of HT_.out (by kernel_rfl)) ?_
                                          refine pu 3 152 (lb 27 14) rfl rfl (any_of HT_.out (by kernel_rfl)) ?_
                                          refine pu 6 155 (lb 27 78) rfl rfl (any_of HT_.out (by kernel_rfl)) ?_
                                          refine pu 8 157 (lb 27 334) rfl rfl (any_of HT_.out (by kernel_rfl)) ?_
                                          refine pu 9 158 (lb 27 846) rfl rfl (any_of HT_.out (by kernel_rfl)) ?_
                                          refine pu 10 159 (lb 27 1870) rfl rfl (any_of HT_.out (by kernel_rfl)) ?_
                                          refine pu 11 160 (lb 27 3918) rfl rfl (any_of HT_.out (by kernel_rfl)) ?_
                                          refine take_ (i := 0) (N := some 149) (v := ?_) (a' := ?_) (lb 27 3919) rfl rfl (take_ofW HT_.out HW_.out (by kernel_rfl)) (fun _ _ _ h => h) (Or.inl ⟨by rfl, ?_⟩) hHeld ?_ ?_
                                          rotate_left
                                          · rintro w' ⟨s0, s1, s2, s3, s4, s5⟩
                                            go_simp
                                            with_reducible rfl
                                          rotate_left
                                          · simp only [Act.put, List.setIfInBounds_toArray, List.set_cons_zero, List.set_cons_succ, i64_w, i32_w]
                                            rfl
                                          refine take_ (i := 4) (N := some 153) (v := ?_) (a' := ?_) (lb 27 3935) rfl rfl (take_ofW HT_.out HW_.out (by kernel_rfl)) (fun _ _ _ h => h) (Or.inl ⟨by rfl, ?_⟩) hHeld ?_ ?_
                                          rotate_left
                                          · rintro w' ⟨s0, s1, s2, s3, s4, s5⟩
                                            go_simp
                                            with_reducible rfl
                                          rotate_left
                                          · simp only [Act.put, List.setIfInBounds_toArray, List.set_cons_zero, List.set_cons_succ, i64_w, i32_w]
                                            rfl
                                          refine pu 5 154 (lb 27 3967) rfl rfl (any_of HT_.out (by kernel_rfl)) ?_
                                          refine pu 7 156 (lb 27 4095) rfl rfl (any_of HT_.out (by kernel_rfl)) ?_
                                          refine take_ (i := 12) (N := some 161) (v := ?_) (a' := ?_) (lb 27 8191) rfl rfl (take_ofW HT_.out HW_.out (by kernel_rfl)) (fun _ _ _ h => h) (Or.inl ⟨by rfl, ?_⟩) hHeld ?_ ?_
                                          rotate_left
                                          · rintro w' ⟨s0, s1, s2, s3, s4, s5⟩
                                            go_simp
                                            with_reducible rfl
                                          rotate_left
                                          · simp only [Act.put, List.setIfInBounds_toArray, List.set_cons_zero, List.set_cons_succ, i64_w, i32_w]
                                            rfl
                                          refine pu 13 162 (lb 27 16383) rfl rfl (any_of HT_.out (by kernel_rfl)) ?_
                                          refine take_ (i := 14) (N := some 163) (v := ?_) (a' := ?_) (lb 27 32767) rfl rfl (take_ofW HT_.out HW_.out (by kernel_rfl)) (fun _ _ _ h => h) (Or.inl ⟨by rfl, ?_⟩) hHeld ?_ ?_
                                          rotate_left
                                          · rintro w' ⟨s0, s1, s2, s3, s4, s5⟩
                                            go_simp
                                            with_reducible rfl
                                          rotate_left
                                          · simp only [Act.put, List.setIfInBounds_toArray, List.set_cons_zero, List.set_cons_succ, i64_w, i32_w]
                                            rfl
                                          refine pu 15 164 (lb 27 65535) rfl rfl (any_of HT_.out (by kernel_rfl)) ?_
                                          refine pu 16 165 (lb 27 131071) rfl rfl (any_of HT_.out (by kernel_rfl)) ?_
                                          refine pu 17 166 (lb 27 262143) rfl rfl (any_of HT_.out (by kernel_rfl)) ?_
                                          refine join_ (σ := Value × Nat) 3 #[true, true, true, true, true, true, true, true, true, true, true, true, true, true, true, true, true, true, true, true, true, true, true, true, false, false, false] (fun s_ => [(167, .tuple #[.agg #[.int .i64 t385, .int .i64 t386, s_.1], .bool true, .int .i64 t391]), (23, .pointer (some ⟨s_.2, 0, none⟩)), (148, .tuple #[.agg #[.int .i64 t385, .int .i64 t386, s_.1], .bool true, .int .i64 t391]), (168, .agg #[.int .i64 t385, .int .i64 t386, s_.1]), (169, .bool true), (170, .int .i64 t391)]) (fun s_ w' => (w'.cell? ⟨gb361, 0, none⟩ = some (.int .i64 x362000_5) ∧ w'.cell? ⟨gb361, 1, none⟩ = some (.int .i64 x362001_5) ∧ w'.cell? ⟨gb361, 2, none⟩ = some (.slice Ao104 x362002_5.length co104) ∧ w'.cell? (ad382.add (x22_5).toNat) = some (.int .i64 (rd x14_74 x22_5)) ∧ w'.cell? (ad382.add (x22_5).toNat) = some (.int .i64 (rd x14_74 x22_5)) ∧ w'.cell? (ad384.add ((rd x14_74 x22_5)).toNat) = some (.int .i64 (rd l2 (rd x14_74 x22_5)))) ∧ (Kd.R k88 88 w' w.heap.size (fun k_ => some k_ ≠ (u355002 : Value).ownBlock ∧ some k_ ≠ (.slice Ao104 x362002_5.length co104 : Value).ownBlock) s_.1 t387) ∧ (Kd.R (Kd.int .i64) 3 w' w.heap.size (fun _ => True) (.slice (some ad382) x14_74.length co103) x14_74) ∧ (Kd.R k88 88 w' w.heap.size (fun k_ => some k_ ≠ (s_.1 : Value).ownBlock ∧ some k_ ≠ (.slice Ao104 x362002_5.length co104 : Value).ownBlock) u355002 x355002_3) ∧ (Kd.R k88 88 w' w.heap.size (fun k_ => some k_ ≠ (s_.1 : Value).ownBlock ∧ some k_ ≠ (u355002 : Value).ownBlock) (.slice Ao104 x362002_5.length co104) x362002_5) ∧ (w'.heap[gb354]? = some (.cells #[.int .i64 x355000_3, .int .i64 x355001_3, u355002] 67 (0, 0))) ∧ (w'.heap[gb361]? = some (.cells #[.int .i64 x362000_5, .int .i64 x362001_5, .slice Ao104 x362002_5.length co104] 67 (0, 0))) ∧ (w'.heap[s_.2]? = some (.cells #[.int .i64 0, .int .i64 0, .slice none 0 0] 67 (0, 0))) ∧ (w.heap.size ≤ s_.2) ∧ (w.heap.size ≤ s_.2) ∧ (gb354 ≠ s_.2) ∧ (s_.2 ≠ gb354) ∧ (gb361 ≠ s_.2) ∧ (s_.2 ≠ gb361) ∧ (Below w.heap.size w w')) ?_ ?_
                                          rotate_left
                                          · intro hCont
                                            refine two_ (i := 18) (j := 23) (Ni := some 167) (Nj := some 23) (lb 27 524287) (lb 27 8650751) rfl rfl rfl rfl (two_of HT_.out (by kernel_rfl)) (by decide) (by decide) (fun K hK => ?_) (fun K hK => ?_)
                                            · skip
                                              refine goes_ Try.func36 (by kernel_rfl) rfl #[.agg #[.int .i64 x362000_5, .int .i64 x362001_5, .slice Ao104 x362002_5.length co104], .int .i64 (Int.tmod (wrap64 ((rd x14_74 x22_5) * 7)) (wrap64 ((wrap64 (1 + (wrap64 (Int.tmod (IntKind.u64.wrap (a0)) 20)))) * (wrap64 (1 + (wrap64 (Int.tmod (IntKind.u64.wrap (a1)) 6))))))), .int .i64 (wrap64 (Int.tmod (IntKind.u64.wrap (rd l2 (rd x14_74 x22_5))) 256))] (by rfl) rfl rfl (by (try simp only [List.map_toArray, List.map_cons, List.map_nil]); first | done | rfl | (simp only [List.length_drop, List.length_take]; rfl)) ?_
                                              with_reducible refine (pile_Put.calls k5 x362000_5 x362001_5 _ _ x362002_5 (Int.tmod (wrap64 ((rd x14_74 x22_5) * 7)) (wrap64 ((wrap64 (1 + (wrap64 (Int.tmod (IntKind.u64.wrap (a0)) 20)))) * (wrap64 (1 + (wrap64 (Int.tmod (IntKind.u64.wrap (a1)) 6))))))) (wrap64 (Int.tmod (IntKind.u64.wrap (rd l2 (rd x14_74 x22_5))) 256)) t385 t386 t387 true t391 _ ?side1 ?side2 A100.out).mono ?_
                                              (case side1 => repeat (first | exact (Kd.R_reads' HO_362002.out).2.2 | (with_reducible refine Kd.C_alloc ?_ _) | (with_reducible refine Kd.C_drewN ?_ _) | (with_reducible refine Kd.C_drew ?_)))
                                              (case side2 => exact (Kd.R_reads' HO_362002.out).2.1)
                                              rintro e w106 ⟨v388, rfl, ho0, hb⟩
                                              have HS3_ := (hb.cell (World.block_lt_of_cell? _ _ (hHeld.2.2.2.1))).trans (hHeld.2.2.2.1)
                                              have HS4_ := (hb.cell (World.block_lt_of_cell? _ _ (hHeld.2.2.2.2.1))).trans (hHeld.2.2.2.2.1)
                                              refine ⟨_, rfl, ?_⟩
                                              replace HO_14 := zR HO_14 hb
                                              have HO389 := Aside0.mk (Kd.R_lower (Kd.R_new' (Kd.R_new' ho0 (Kd.R_lt (zr_ HO_355002))) (Kd.R_lt (zr_ HO_362002))) (below_size (zB HB)))
                                              replace HO_355002 := Aside0.mk (Kd.R_elder' (zr_ HO_355002) (Kd.R_base ho0) hb)
                                              replace HO_362002 := Aside0.mk (Kd.R_elder' (zr_ HO_362002) (Kd.R_base ho0) hb)
                                              replace BK354 := zb BK354 hb
                                              replace BK361 := zb BK361 hb
                                              replace HB := zs HB hb
                                              (try clear hb)
                                              (try clear hb2)
                                              (try clear hk)
                                              (try clear hi)
                                              (try clear ho0)
                                              refine hK.out _ _ ⟨(blk_cell BK361.out 0).trans rfl, (blk_cell BK361.out 1).trans rfl, (blk_cell BK361.out 2).trans rfl, HS3_, HS4_, ((HB.out.cell (World.block_lt_of_cell? w _ hw384_0)).trans hw384_0)⟩ (fun hHeld => ?_)
                                              clear hK K
                                              refine norm_ (a' := ?_) ?_ ?_
                                              rotate_left
                                              · show Act.put _ (some 167) _ = _
                                                simp only [Act.put, List.setIfInBounds_toArray, List.set_cons_zero, List.set_cons_succ, i64_w, i32_w]
                                                rfl
                                              refine pu 19 148 (lb 27 1048575) rfl rfl (any_of HT_.out (by kernel_rfl)) ?_
                                              refine pu 20 168 (lb 27 2097151) rfl rfl (any_of HT_.out (by kernel_rfl)) ?_
                                              refine pu 21 169 (lb 27 4194303) rfl rfl (any_of HT_.out (by kernel_rfl)) ?_
                                              refine pu 22 170 (lb 27 8388607) rfl rfl (any_of HT_.out (by kernel_rfl)) ?_
                                              refine one_ (i := 23) (N := some 23) (lb 27 16777215) rfl rfl (one_of HT_.out (by kernel_rfl)) (by decide) (fun K hK => ?_)
                                              refine box_step ?hg (N := 23) ?hd (cs := #[.int .i64 0, .int .i64 0, .slice none 0 0]) (t := 67) ?hr ?_; (case hd => rfl); (case hg => rfl); (case hr => first | (go_simp; done) | (go_simp; rfl))
                                              intro gb392 hg w107 hbox hb
                                              have HS3_ := (hb.cell (World.block_lt_of_cell? _ _ (hHeld.2.2.2.1))).trans (hHeld.2.2.2.1)
                                              have HS4_ := (hb.cell (World.block_lt_of_cell? _ _ (hHeld.2.2.2.2.1))).trans (hHeld.2.2.2.2.1)
                                              replace HO_14 := zR HO_14 hb
                                              replace HO_355002 := zR HO_355002 hb
                                              replace HO_362002 := zR HO_362002 hb
                                              replace HO389 := zR HO389 hb
                                              have BK392 := Aside0.mk (hbox)
                                              have GW392 := zg HB hg
                                              have GE392 := zg HB hg
                                              replace HB := zs HB hb
                                              have NB354_392 := zl BK354 hg
                                              have NB392_354 := zr BK354 hg
                                              replace BK354 := zb BK354 hb
                                              have NB361_392 := zl BK361 hg
                                              have NB392_361 := zr BK361 hg
                                              replace BK361 := zb BK361 hb
                                              clear hb hbox hg
                                              refine hK.out _ _ ⟨(blk_cell BK361.out 0).trans rfl, (blk_cell BK361.out 1).trans rfl, (blk_cell BK361.out 2).trans rfl, HS3_, HS4_, ((HB.out.cell (World.block_lt_of_cell? w _ hw384_0)).trans hw384_0)⟩ (fun hHeld => ?_)
                                              clear hK K
                                              refine norm_ (a' := ?_) ?_ ?_
                                              rotate_left
                                              · show Act.put _ (some 23) _ = _
                                                simp only [Act.put, List.setIfInBounds_toArray, List.set_cons_zero, List.set_cons_succ, i64_w, i32_w]
                                                rfl
                                              exact norm_ (by simp only [putAll, Act.put, List.setIfInBounds_toArray, List.set_cons_zero, List.set_cons_succ]) (hCont (v388, gb392) _ ⟨hHeld, (by (with_reducible repeat (first | apply Kd.R_alloc | apply Kd.R_drewN | apply Kd.R_drew)); exact Kd.R_mono HO389.out (fun _ hk => ⟨hk.1.2, hk.2⟩)), (zr_ HO_14), (by (with_reducible repeat (first | apply Kd.R_alloc | apply Kd.R_drewN | apply Kd.R_drew)); exact Kd.R_mono HO_355002.out (fun _ hk => ⟨hk.2, hk.1⟩)), (by (with_reducible repeat (first | apply Kd.R_alloc | apply Kd.R_drewN | apply Kd.R_drew)); exact Kd.R_mono HO_362002.out (fun _ hk => ⟨hk.2, hk.1⟩)), (zk BK354), (zk BK361), (zk BK392), GW392.out, GE392.out, NB354_392.out, NB392_354.out, NB361_392.out, NB392_361.out, (zB HB)⟩)
                                            · skip
                                              refine box_step ?hg (N := 23) ?hd (cs := #[.int .i64 0, .int .i64 0, .slice none 0 0]) (t := 67) ?hr ?_; (case hd => rfl); (case hg => rfl); (case hr => first | (go_simp; done) | (go_simp; rfl))
                                              intro gb392 hg w106 hbox hb
                                              have HS3_ := (hb.cell (World.block_lt_of_cell? _ _ (hHeld.2.2.2.1))).trans (hHeld.2.2.2.1)
                                              have HS4_ := (hb.cell (World.block_lt_of_cell? _ _ (hHeld.2.2.2.2.1))).trans (hHeld.2.2.2.2.1)
                                              replace HO_14 := zR HO_14 hb
                                              replace HO_355002 := zR HO_355002 hb
                                              replace HO_362002 := zR HO_362002 hb
                                              have BK392 := Aside0.mk (hbox)
                                              have GW392 := zg HB hg
                                              have GE392 := zg HB hg
                                              replace HB := zs HB hb
                                              have NB354_392 := zl BK354 hg
                                              have NB392_354 := zr BK354 hg
                                              replace BK354 := zb BK354 hb
                                              have NB361_392 := zl BK361 hg
                                              have NB392_361 := zr BK361 hg
                                              replace BK361 := zb BK361 hb
                                              clear hb hbox hg
                                              refine hK.out _ _ ⟨(blk_cell BK361.out 0).trans rfl, (blk_cell BK361.out 1).trans rfl, (blk_cell BK361.out 2).trans rfl, HS3_, HS4_, ((HB.out.cell (World.block_lt_of_cell? w _ hw384_0)).trans hw384_0)⟩ (fun hHeld => ?_)
                                              clear hK K
                                              refine norm_ (a' := ?_) ?_ ?_
                                              rotate_left
                                              · show Act.put _ (some 23) _ = _
                                                simp only [Act.put, List.setIfInBounds_toArray, List.set_cons_zero, List.set_cons_succ, i64_w, i32_w]
                                                rfl
                                              refine one_ (i := 18) (N := some 167) (lb 27 8912895) rfl rfl (one_of HT_.out (by kernel_rfl)) (by decide) (fun K hK => ?_)
                                              refine goes_ Try.func36 (by kernel_rfl) rfl #[.agg #[.int .i64 x362000_5, .int .i64 x362001_5, .slice Ao104 x362002_5.length co104], .int .i64 (Int.tmod (wrap64 ((rd x14_74 x22_5) * 7)) (wrap64 ((wrap64 (1 + (wrap64 (Int.tmod (IntKind.u64.wrap (a0)) 20)))) * (wrap64 (1 + (wrap64 (Int.tmod (IntKind.u64.wrap (a1)) 6))))))), .int .i64 (wrap64 (Int.tmod (IntKind.u64.wrap (rd l2 (rd x14_74 x22_5))) 256))] (by rfl) rfl rfl (by (try simp only [List.map_toArray, List.map_cons, List.map_nil]); first | done | rfl | (simp only [List.length_drop, List.length_take]; rfl)) ?_
                                              with_reducible refine (pile_Put.calls k5 x362000_5 x362001_5 _ _ x362002_5 (Int.tmod (wrap64 ((rd x14_74 x22_5) * 7)) (wrap64 ((wrap64 (1 + (wrap64 (Int.tmod (IntKind.u64.wrap (a0)) 20)))) * (wrap64 (1 + (wrap64 (Int.tmod (IntKind.u64.wrap (a1)) 6))))))) (wrap64 (Int.tmod (IntKind.u64.wrap (rd l2 (rd x14_74 x22_5))) 256)) t385 t386 t387 true t391 _ ?side1 ?side2 A100.out).mono ?_
                                              (case side1 => repeat (first | exact (Kd.R_reads' HO_362002.out).2.2 | (with_reducible refine Kd.C_alloc ?_ _) | (with_reducible refine Kd.C_drewN ?_ _) | (with_reducible refine Kd.C_drew ?_)))
                                              (case side2 => exact (Kd.R_reads' HO_362002.out).2.1)
                                              rintro e w107 ⟨v388, rfl, ho0, hb⟩
                                              have HS3_ := (hb.cell (World.block_lt_of_cell? _ _ (hHeld.2.2.2.1))).trans (hHeld.2.2.2.1)
                                              have HS4_ := (hb.cell (World.block_lt_of_cell? _ _ (hHeld.2.2.2.2.1))).trans (hHeld.2.2.2.2.1)
                                              refine ⟨_, rfl, ?_⟩
                                              replace HO_14 := zR HO_14 hb
                                              have HO389 := Aside0.mk (Kd.R_lower (Kd.R_new' (Kd.R_new' ho0 (Kd.R_lt (zr_ HO_355002))) (Kd.R_lt (zr_ HO_362002))) (below_size (zB HB)))
                                              replace HO_355002 := Aside0.mk (Kd.R_elder' (zr_ HO_355002) (Kd.R_base ho0) hb)
                                              replace HO_362002 := Aside0.mk (Kd.R_elder' (zr_ HO_362002) (Kd.R_base ho0) hb)
                                              replace BK354 := zb BK354 hb
                                              replace BK361 := zb BK361 hb
                                              replace BK392 := zb BK392 hb
                                              replace HB := zs HB hb
                                              (try clear hb)
                                              (try clear hb2)
                                              (try clear hk)
                                              (try clear hi)
                                              (try clear ho0)
                                              refine hK.out _ _ ⟨(blk_cell BK361.out 0).trans rfl, (blk_cell BK361.out 1).trans rfl, (blk_cell BK361.out 2).trans rfl, HS3_, HS4_, ((HB.out.cell (World.block_lt_of_cell? w _ hw384_0)).trans hw384_0)⟩ (fun hHeld => ?_)
                                              clear hK K
                                              refine norm_ (a' := ?_) ?_ ?_
                                              rotate_left
                                              · show Act.put _ (some 167) _ = _
                                                simp only [Act.put, List.setIfInBounds_toArray, List.set_cons_zero, List.set_cons_succ, i64_w, i32_w]
                                                rfl
                                              refine pu 19 148 (lb 27 9437183) rfl rfl (any_of HT_.out (by kernel_rfl)) ?_
                                              refine pu 20 168 (lb 27 10485759) rfl rfl (any_of HT_.out (by kernel_rfl)) ?_
                                              refine pu 21 169 (lb 27 12582911) rfl rfl (any_of HT_.out (by kernel_rfl)) ?_
                                              refine pu 22 170 (lb 27 16777215) rfl rfl (any_of HT_.out (by kernel_rfl)) ?_
                                              exact norm_ (by simp only [putAll, Act.put, List.setIfInBounds_toArray, List.set_cons_zero, List.set_cons_succ]) (hCont (v388, gb392) _ ⟨hHeld, (by (with_reducible repeat (first | apply Kd.R_alloc | apply Kd.R_drewN | apply Kd.R_drew)); exact Kd.R_mono HO389.out (fun _ hk => ⟨hk.1.2, hk.2⟩)), (zr_ HO_14), (by (with_reducible repeat (first | apply Kd.R_alloc | apply Kd.R_drewN | apply Kd.R_drew)); exact Kd.R_mono HO_355002.out (fun _ hk => ⟨hk.2, hk.1⟩)), (by (with_reducible repeat (first | apply Kd.R_alloc | apply Kd.R_drewN | apply Kd.R_drew)); exact Kd.R_mono HO_362002.out (fun _ hk => ⟨hk.2, hk.1⟩)), (zk BK354), (zk BK361), (zk BK392), GW392.out, GE392.out, NB354_392.out, NB392_354.out, NB361_392.out, NB392_361.out, (zB HB)⟩)
                                          rintro ⟨v388, gb392⟩ w108 ⟨hS_, h0_, h1_, h2_, h3_, h4_, h5_, h6_, h7_, h8_, h9_, h10_, h11_, h12_, h13_⟩
                                          have n0_ : Aside0 (Kd.R k88 88 w108 w.heap.size (fun k_ => some k_ ≠ (u355002 : Value).ownBlock ∧ some k_ ≠ (.slice Ao104 x362002_5.length co104 : Value).ownBlock) v388 t387) := ⟨h0_⟩
                                          have n1_ : Aside0 (Kd.R (Kd.int .i64) 3 w108 w.heap.size (fun _ => True) (.slice (some ad382) x14_74.length co103) x14_74) := ⟨h1_⟩
                                          have n2_ : Aside0 (Kd.R k88 88 w108 w.heap.size (fun k_ => some k_ ≠ (v388 : Value).ownBlock ∧ some k_ ≠ (.slice Ao104 x362002_5.length co104 : Value).ownBlock) u355002 x355002_3) := ⟨h2_⟩
                                          have n3_ : Aside0 (Kd.R k88 88 w108 w.heap.size (fun k_ => some k_ ≠ (v388 : Value).ownBlock ∧ some k_ ≠ (u355002 : Value).ownBlock) (.slice Ao104 x362002_5.length co104) x362002_5) := ⟨h3_⟩
                                          have n4_ : Aside0 (w108.heap[gb354]? = some (.cells #[.int .i64 x355000_3, .int .i64 x355001_3, u355002] 67 (0, 0))) := ⟨h4_⟩
                                          have n5_ : Aside0 (w108.heap[gb361]? = some (.cells #[.int .i64 x362000_5, .int .i64 x362001_5, .slice Ao104 x362002_5.length co104] 67 (0, 0))) := ⟨h5_⟩
                                          have n6_ : Aside0 (w108.heap[gb392]? = some (.cells #[.int .i64 0, .int .i64 0, .slice none 0 0] 67 (0, 0))) := ⟨h6_⟩
                                          have n7_ : Aside0 (w.heap.size ≤ gb392) := ⟨h7_⟩
                                          have n8_ : Aside0 (w.heap.size ≤ gb392) := ⟨h8_⟩
                                          have n9_ : Aside0 (gb354 ≠ gb392) := ⟨h9_⟩
                                          have n10_ : Aside0 (gb392 ≠ gb354) := ⟨h10_⟩
                                          have n11_ : Aside0 (gb361 ≠ gb392) := ⟨h11_⟩
                                          have n12_ : Aside0 (gb392 ≠ gb361) := ⟨h12_⟩
                                          have n13_ : Aside0 (Below w.heap.size w w108) := ⟨h13_⟩
                                          clear HO_14
                                          clear HO_355002
                                          clear HO_362002
                                          clear BK354
                                          clear BK361
                                          clear HB
                                          clear h0_ h1_ h2_ h3_ h4_ h5_ h6_ h7_ h8_ h9_ h10_ h11_ h12_ h13_
                                          have HO389 := n0_
                                          have HO_14 := n1_
                                          have HO_355002 := n2_
                                          have HO_362002 := n3_
                                          have BK354 := n4_
                                          have BK361 := n5_
                                          have BK392 := n6_
                                          have GW392 := n7_
                                          have GE392 := n8_
                                          have NB354_392 := n9_
                                          have NB392_354 := n10_
                                          have NB361_392 := n11_
                                          have NB392_361 := n12_
                                          have HB := n13_
                                          clear n0_ n1_ n2_ n3_ n4_ n5_ n6_ n7_ n8_ n9_ n10_ n11_ n12_ n13_
                                          have hHeld : w108.cell? ⟨gb361, 0, none⟩ = some (.int .i64 x362000_5) ∧ w108.cell? ⟨gb361, 1, none⟩ = some (.int .i64 x362001_5) ∧ w108.cell? ⟨gb361, 2, none⟩ = some (.slice Ao104 x362002_5.length co104) ∧ w108.cell? (ad382.add (x22_5).toNat) = some (.int .i64 (rd x14_74 x22_5)) ∧ w108.cell? (ad382.add (x22_5).toNat) = some (.int .i64 (rd x14_74 x22_5)) ∧ w108.cell? (ad384.add ((rd x14_74 x22_5)).toNat) = some (.int .i64 (rd l2 (rd x14_74 x22_5))) := hS_
                                          obtain ⟨Ao111, co111, eo111⟩ := Kd.R_slice HO389.out
                                          (first | subst eo111 | (injection eo111 with f1_ f2_ f3_; have f4_ := f1_.symm; have f5_ := f3_.symm; clear f1_ f2_ f3_; subst f4_; subst f5_))
                                          refine norm_ (a' := ?_) ?_ ?_
                                          rotate_left
                                          · simp only [putAll, Act.put, List.setIfInBounds_toArray, List.set_cons_zero, List.set_cons_succ]
                                            rfl
                                          refine one_ (i := 24) (N := none) (lb 27 33554431) rfl rfl (one_of HT_.out (by kernel_rfl)) (by decide) (fun K hK => ?_)
                                          have hs109 : w108.cell? ⟨gb392, 0, none⟩ = some (.int .i64 0) := (blk_cell BK392.out 0).trans rfl
                                          have hfs109 := blk_frozen BK392.out 0
                                          have hns109_0 := NB354_392.out
                                          have hns109_1 := NB361_392.out
                                          have hms109_0 := NB392_354.out
                                          have hms109_1 := NB392_361.out
                                          have hs110 : w108.cell? ⟨gb392, 1, none⟩ = some (.int .i64 0) := (blk_cell BK392.out 1).trans rfl
                                          have hfs110 := blk_frozen BK392.out 1
                                          have hns110_0 := NB354_392.out
                                          have hns110_1 := NB361_392.out
                                          have hms110_0 := NB392_354.out
                                          have hms110_1 := NB392_361.out
                                          have hs112 : w108.cell? ⟨gb392, 2, none⟩ = some (.slice none 0 0) := (blk_cell BK392.out 2).trans rfl
                                          have hfs112 := blk_frozen BK392.out 2
                                          have hns112_0 := NB354_392.out
                                          have hns112_1 := NB361_392.out
                                          have hms112_0 := NB392_354.out
                                          have hms112_1 := NB392_361.out
                                          refine skip_ (w1 := ?_) (by rfl) rfl ?_ ?_
                                          rotate_left
                                          · go_simp
                                            rfl
                                          refine hK.out _ _ ⟨((cell_far (p := ⟨gb392, _, none⟩) NB361_392.out _).trans (((cell_far (p := ⟨gb392, _, none⟩) NB361_392.out _).trans (((cell_far (p := ⟨gb392, _, none⟩) NB361_392.out _).trans (hHeld.1)))))), ((cell_far (p := ⟨gb392, _, none⟩) NB361_392.out _).trans (((cell_far (p := ⟨gb392, _, none⟩) NB361_392.out _).trans (((cell_far (p := ⟨gb392, _, none⟩) NB361_392.out _).trans (hHeld.2.1)))))), ((cell_far (p := ⟨gb392, _, none⟩) NB361_392.out _).trans (((cell_far (p := ⟨gb392, _, none⟩) NB361_392.out _).trans (((cell_far (p := ⟨gb392, _, none⟩) NB361_392.out _).trans (hHeld.2.2.1)))))), ((cell_far (p := ⟨gb392, _, none⟩) (by first | exact Kd.own_blk (Kd.R_ne HO_14.out BK392.out (by decide)) | (rw [add_block]; exact Kd.own_blk (Kd.R_ne HO_14.out BK392.out (by decide))) | (show (Addr.add _ _).block ≠ _; rw [add_block]; exact Kd.own_blk (Kd.R_ne HO_14.out BK392.out (by decide))) | (dsimp only; exact Kd.own_blk (Kd.R_ne HO_14.out BK392.out (by decide)))) _).trans (((cell_far (p := ⟨gb392, _, none⟩) (by first | exact Kd.own_blk (Kd.R_ne HO_14.out BK392.out (by decide)) | (rw [add_block]; exact Kd.own_blk (Kd.R_ne HO_14.out BK392.out (by decide))) | (show (Addr.add _ _).block ≠ _; rw [add_block]; exact Kd.own_blk (Kd.R_ne HO_14.out BK392.out (by decide))) | (dsimp only; exact Kd.own_blk (Kd.R_ne HO_14.out BK392.out (by decide)))) _).trans (((cell_far (p := ⟨gb392, _, none⟩) (by first | exact Kd.own_blk (Kd.R_ne HO_14.out BK392.out (by decide)) | (rw [add_block]; exact Kd.own_blk (Kd.R_ne HO_14.out BK392.out (by decide))) | (show (Addr.add _ _).block ≠ _; rw [add_block]; exact Kd.own_blk (Kd.R_ne HO_14.out BK392.out (by decide))) | (dsimp only; exact Kd.own_blk (Kd.R_ne HO_14.out BK392.out (by decide)))) _).trans (hHeld.2.2.2.1)))))), ((cell_far (p := ⟨gb392, _, none⟩) (by first | exact Kd.own_blk (Kd.R_ne HO_14.out BK392.out (by decide)) | (rw [add_block]; exact Kd.own_blk (Kd.R_ne HO_14.out BK392.out (by decide))) | (show (Addr.add _ _).block ≠ _; rw [add_block]; exact Kd.own_blk (Kd.R_ne HO_14.out BK392.out (by decide))) | (dsimp only; exact Kd.own_blk (Kd.R_ne HO_14.out BK392.out (by decide)))) _).trans (((cell_far (p := ⟨gb392, _, none⟩) (by first | exact Kd.own_blk (Kd.R_ne HO_14.out BK392.out (by decide)) | (rw [add_block]; exact Kd.own_blk (Kd.R_ne HO_14.out BK392.out (by decide))) | (show (Addr.add _ _).block ≠ _; rw [add_block]; exact Kd.own_blk (Kd.R_ne HO_14.out BK392.out (by decide))) | (dsimp only; exact Kd.own_blk (Kd.R_ne HO_14.out BK392.out (by decide)))) _).trans (((cell_far (p := ⟨gb392, _, none⟩) (by first | exact Kd.own_blk (Kd.R_ne HO_14.out BK392.out (by decide)) | (rw [add_block]; exact Kd.own_blk (Kd.R_ne HO_14.out BK392.out (by decide))) | (show (Addr.add _ _).block ≠ _; rw [add_block]; exact Kd.own_blk (Kd.R_ne HO_14.out BK392.out (by decide))) | (dsimp only; exact Kd.own_blk (Kd.R_ne HO_14.out BK392.out (by decide)))) _).trans (hHeld.2.2.2.2.1)))))), ((cell_far (p := ⟨gb392, _, none⟩) (by first | exact Nat.ne_of_lt (Nat.lt_of_lt_of_le (by have := World.block_lt_of_cell? _ _ hw384_0; first | rwa [add_block] at this | exact this) GW392.out) | (rw [add_block]; exact Nat.ne_of_lt (Nat.lt_of_lt_of_le (by have := World.block_lt_of_cell? _ _ hw384_0; first | rwa [add_block] at this | exact this) GW392.out)) | (show (Addr.add _ _).block ≠ _; rw [add_block]; exact Nat.ne_of_lt (Nat.lt_of_lt_of_le (by have := World.block_lt_of_cell? _ _ hw384_0; first | rwa [add_block] at this | exact this) GW392.out)) | (dsimp only; exact Nat.ne_of_lt (Nat.lt_of_lt_of_le (by have := World.block_lt_of_cell? _ _ hw384_0; first | rwa [add_block] at this | exact this) GW392.out))) _).trans (((cell_far (p := ⟨gb392, _, none⟩) (by first | exact Nat.ne_of_lt (Nat.lt_of_lt_of_le (by have := World.block_lt_of_cell? _ _ hw384_0; first | rwa [add_block] at this | exact this) GW392.out) | (rw [add_block]; exact Nat.ne_of_lt (Nat.lt_of_lt_of_le (by have := World.block_lt_of_cell? _ _ hw384_0; first | rwa [add_block] at this | exact this) GW392.out)) | (show (Addr.add _ _).block ≠ _; rw [add_block]; exact Nat.ne_of_lt (Nat.lt_of_lt_of_le (by have := World.block_lt_of_cell? _ _ hw384_0; first | rwa [add_block] at this | exact this) GW392.out)) | (dsimp only; exact Nat.ne_of_lt (Nat.lt_of_lt_of_le (by have := World.block_lt_of_cell? _ _ hw384_0; first | rwa [add_block] at this | exact this) GW392.out))) _).trans (((cell_far (p := ⟨gb392, _, none⟩) (by first | exact Nat.ne_of_lt (Nat.lt_of_lt_of_le (by have := World.block_lt_of_cell? _ _ hw384_0; first | rwa [add_block] at this | exact this) GW392.out) | (rw [add_block]; exact Nat.ne_of_lt (Nat.lt_of_lt_of_le (by have := World.block_lt_of_cell? _ _ hw384_0; first | rwa [add_block] at this | exact this) GW392.out)) | (show (Addr.add _ _).block ≠ _; rw [add_block]; exact Nat.ne_of_lt (Nat.lt_of_lt_of_le (by have := World.block_lt_of_cell? _ _ hw384_0; first | rwa [add_block] at this | exact this) GW392.out)) | (dsimp only; exact Nat.ne_of_lt (Nat.lt_of_lt_of_le (by have := World.block_lt_of_cell? _ _ hw384_0; first | rwa [add_block] at this | exact this) GW392.out))) _).trans (hHeld.2.2.2.2.2))))))⟩ (fun hHeld => ?_)
                                          clear hK K
                                          refine pu 25 24 (lb 27 67108863) rfl rfl (any_of HT_.out (by kernel_rfl)) ?_
                                          refine pu 26 25 (lb 27 134217727) rfl rfl (any_of HT_.out (by kernel_rfl)) ?_
                                          refine done_ (done_of HT_.out (by kernel_rfl)) ?_
                                          have hnb113 := NB392_354.out
                                          have hnc113 := NB354_392.out
                                          have hnb114 := NB392_361.out
                                          have hnc114 := NB361_392.out
                                          obtain ⟨hcz115_0, hcz115_1, hcz115_2⟩ := zC3 BK392
                                          obtain ⟨hfz115_0, hfz115_1, hfz115_2⟩ := zF3 BK392
                                          have hnb116 := NB361_354.out
                                          have hnc116 := NB354_361.out
                                          obtain ⟨hcz117_0, hcz117_1, hcz117_2⟩ := zC3 BK361
                                          obtain ⟨hfz117_0, hfz117_1, hfz117_2⟩ := zF3 BK361
                                          try go_wp2
                                          go_roundg k5
                                          case measure => have := HJ4.out; have := HJ9.out; have := HK3.out; have := HJ74.out; have := HK5.out; omega
                                          case rel => exact ⟨(wrap64 (x22_5 + 1)), (t385), (t386), (t387), (.slice Ao111 t387.length co111), (by first | rfl | (simp; done) | (simp [*]; done)), H', ⟨by have := HJ4.out; have := HJ9.out; have := HK3.out; have := HJ74.out; have := HK5.out; omega⟩, ⟨by (with_reducible repeat (first | apply Kd.R_alloc | apply Kd.R_drewN | apply Kd.R_drew)); exact Kd.R_mono (Kd.R_far (p := ⟨gb361, 2, none⟩) (Kd.R_far (p := ⟨gb361, 1, none⟩) (Kd.R_far (p := ⟨gb361, 0, none⟩) (Kd.R_far (p := ⟨gb392, 2, none⟩) (Kd.R_far (p := ⟨gb392, 1, none⟩) (Kd.R_far (p := ⟨gb392, 0, none⟩) (Kd.R_types (Kd.R_types HO_14.out BK392.out (by decide)) BK361.out (by decide)) (fun _ hk => hk.1.2) (.int .i64 t385)) (fun _ hk => hk.1.2) (.int .i64 t386)) (fun _ hk => hk.1.2) (.slice Ao111 t387.length co111)) (fun _ hk => hk.2) (.int .i64 t385)) (fun _ hk => hk.2) (.int .i64 t386)) (fun _ hk => hk.2) (.slice Ao111 t387.length co111)) (fun _ hk => trivial)⟩, ⟨by (with_reducible repeat (first | apply Kd.R_alloc | apply Kd.R_drewN | apply Kd.R_drew)); exact Kd.R_mono (Kd.R_far (p := ⟨gb361, 2, none⟩) (Kd.R_far (p := ⟨gb361, 1, none⟩) (Kd.R_far (p := ⟨gb361, 0, none⟩) (Kd.R_far (p := ⟨gb392, 2, none⟩) (Kd.R_far (p := ⟨gb392, 1, none⟩) (Kd.R_far (p := ⟨gb392, 0, none⟩) (Kd.R_types (Kd.R_types HO_355002.out BK392.out (by decide)) BK361.out (by decide)) (fun _ hk => hk.1.2) (.int .i64 t385)) (fun _ hk => hk.1.2) (.int .i64 t386)) (fun _ hk => hk.1.2) (.slice Ao111 t387.length co111)) (fun _ hk => hk.2) (.int .i64 t385)) (fun _ hk => hk.2) (.int .i64 t386)) (fun _ hk => hk.2) (.slice Ao111 t387.length co111)) (fun _ hk => hk.1.1.1)⟩, ⟨by (with_reducible repeat (first | apply Kd.R_alloc | apply Kd.R_drewN | apply Kd.R_drew)); exact Kd.R_mono (Kd.R_far (p := ⟨gb361, 2, none⟩) (Kd.R_far (p := ⟨gb361, 1, none⟩) (Kd.R_far (p := ⟨gb361, 0, none⟩) (Kd.R_far (p := ⟨gb392, 2, none⟩) (Kd.R_far (p := ⟨gb392, 1, none⟩) (Kd.R_far (p := ⟨gb392, 0, none⟩) (Kd.R_types (Kd.R_types HO389.out BK392.out (by decide)) BK361.out (by decide)) (fun _ hk => hk.1.2) (.int .i64 t385)) (fun _ hk => hk.1.2) (.int .i64 t386)) (fun _ hk => hk.1.2) (.slice Ao111 t387.length co111)) (fun _ hk => hk.2) (.int .i64 t385)) (fun _ hk => hk.2) (.int .i64 t386)) (fun _ hk => hk.2) (.slice Ao111 t387.length co111)) (fun _ hk => hk.1.1.1)⟩, ⟨by (with_reducible repeat (first | refine blk_drewN ?_ _ | refine blk_drew ?_ | refine blk_alloc ?_ _)); refine blk_far ?_ NB354_361.out _; (with_reducible repeat (first | refine blk_drewN ?_ _ | refine blk_drew ?_ | refine blk_alloc ?_ _)); refine blk_far ?_ NB354_361.out _; (with_reducible repeat (first | refine blk_drewN ?_ _ | refine blk_drew ?_ | refine blk_alloc ?_ _)); refine blk_far ?_ NB354_361.out _; (with_reducible repeat (first | refine blk_drewN ?_ _ | refine blk_drew ?_ | refine blk_alloc ?_ _)); refine blk_far ?_ NB354_392.out _; (with_reducible repeat (first | refine blk_drewN ?_ _ | refine blk_drew ?_ | refine blk_alloc ?_ _)); refine blk_far ?_ NB354_392.out _; (with_reducible repeat (first | refine blk_drewN ?_ _ | refine blk_drew ?_ | refine blk_alloc ?_ _)); refine blk_far ?_ NB354_392.out _; (with_reducible repeat (first | refine blk_drewN ?_ _ | refine blk_drew ?_ | refine blk_alloc ?_ _)); exact BK354.out⟩, ⟨by (with_reducible repeat (first | refine blk_drewN ?_ _ | refine blk_drew ?_ | refine blk_alloc ?_ _)); refine blk_put (cs := #[.int .i64 t385, .int .i64 t386, .slice Ao104 x362002_5.length co104]) ?_ 2 _ rfl; (with_reducible repeat (first | refine blk_drewN ?_ _ | refine blk_drew ?_ | refine blk_alloc ?_ _)); refine blk_put (cs := #[.int .i64 t385, .int .i64 x362001_5, .slice Ao104 x362002_5.length co104]) ?_ 1 _ rfl; (with_reducible repeat (first | refine blk_drewN ?_ _ | refine blk_drew ?_ | refine blk_alloc ?_ _)); refine blk_put (cs := #[.int .i64 x362000_5, .int .i64 x362001_5, .slice Ao104 x362002_5.length co104]) ?_ 0 _ rfl; (with_reducible repeat (first | refine blk_drewN ?_ _ | refine blk_drew ?_ | refine blk_alloc ?_ _)); refine blk_far ?_ NB361_392.out _; (with_reducible repeat (first | refine blk_drewN ?_ _ | refine blk_drew ?_ | refine blk_alloc ?_ _)); refine blk_far ?_ NB361_392.out _; (with_reducible repeat (first | refine blk_drewN ?_ _ | refine blk_drew ?_ | refine blk_alloc ?_ _)); refine blk_far ?_ NB361_392.out _; (with_reducible repeat (first | refine blk_drewN ?_ _ | refine blk_drew ?_ | refine blk_alloc ?_ _)); exact BK361.out⟩, ⟨by repeat (first | (with_reducible first | exact HB.out | apply below_alloc | apply pw_below_drewN | apply below_drew1 | refine below_set ?_ GE354.out | refine below_set ?_ GE361.out | refine below_set ?_ GE392.out) | exact HB.out)⟩⟩
                                        · replace c102 := Bool.eq_false_iff.mpr c102
                                          subst c102
                                          have H1 : (some false) = some true := by rw [if_neg (show ¬ (false = true) by decide)] at H; exact H
                                          clear H
                                          have H := H1
                                          clear H1
                                          exact absurd (Option.some.inj H) (by decide)
                                      · rw [if_neg c101] at H
                                        have c101b0 : (t391 == 0) = false := beq_eq_false_iff_ne.mpr c101
                                        have c101b1 : (t391 != 0) = true := bne_iff_ne.mpr c101
                                        exact absurd (Option.some.inj H) (by decide)
                                    · rw [if_neg c99] at H
                                      exact absurd H (by simp)
                                  · rw [if_neg c98] at H
                                    exact absurd H (by simp)
                              · rw [if_neg c96] at H
                                exact absurd H (by simp)
                            · rw [if_neg c95] at H
                              have c95b0 : decide (x22_5 < (x14_74.length : Int)) = false := decide_eq_false c95
                              clear c95
                              replace H := Option.bind_eq_some_iff.mp H
                              obtain ⟨t393, A1380, H⟩ := H
                              replace H : (if t393 = true then (if (x355002_3.length : Int) = (x14_74.length : Int) then ((volutelaw09_wakes.f k5).bind fun t394 => (some t394)) else (some false)) else (some false)) = some true := H
                              have A138 := Aside0.mk A1380
                              clear A1380
                              by_cases c139 : t393 = true
                              · subst c139
                                have H1 : (if (x355002_3.length : Int) = (x14_74.length : Int) then ((volutelaw09_wakes.f k5).bind fun t394 => (some t394)) else (some false)) = some true := by rw [if_pos rfl] at H; exact H
                                clear H
                                have H := H1
                                clear H1
                                by_cases c140 : (x355002_3.length : Int) = (x14_74.length : Int)
                                · rw [if_pos c140] at H
                                  have c140b0 : ((x355002_3.length : Int) == (x14_74.length : Int)) = true := beq_iff_eq.mpr c140
                                  have c140b1 : ((x355002_3.length : Int) != (x14_74.length : Int)) = false := bne_eq_false_iff_eq.mpr c140
                                  have c140b2 : (x355002_3.length == x14_74.length) = true := by first | simpa using c140 | (simp at c140 ⊢; omega)
                                  clear c140
                                  replace H := Option.bind_eq_some_iff.mp H
                                  obtain ⟨t394, A1410, H⟩ := H
                                  replace H : (some t394) = some true := H
                                  have A141 := Aside0.mk A1410
                                  clear A1410
                                  obtain rfl : t394 = true := Option.some.inj H
                                  obtain ⟨Ao142, co142, eo142⟩ := Kd.R_slice HO_14.out
                                  subst eo142
                                  have hnb143 := NB354_361.out
                                  have hnc143 := NB361_354.out
                                  obtain ⟨hcz144_0, hcz144_1, hcz144_2⟩ := zC3 BK354
                                  obtain ⟨hfz144_0, hfz144_1, hfz144_2⟩ := zF3 BK354
                                  obtain ⟨hcz145_0, hcz145_1, hcz145_2⟩ := zC3 BK361
                                  obtain ⟨hfz145_0, hfz145_1, hfz145_2⟩ := zF3 BK361
                                  obtain ⟨Ao146, co146, eo146⟩ := Kd.R_slice HO_355002.out
                                  subst eo146
                                  obtain ⟨Ao147, co147, eo147⟩ := Kd.R_slice HO_362002.out
                                  subst eo147
                                  go_wp2_with (first | ((with_reducible refine gate_callee (f := 37) rfl ?_); refine goesL_ (some 180) rfl rfl Try.func37 (by kernel_rfl) rfl #[.agg #[.int .i64 x355000_3, .int .i64 x355001_3, .slice Ao146 x355002_3.length co146], .agg #[.int .i64 x362000_5, .int .i64 x362001_5, .slice Ao147 x362002_5.length co147]] rfl (by (try simp only [List.map_toArray, List.map_cons, List.map_nil]); first | done | rfl | (simp only [List.length_drop, List.length_take]; rfl)) ?_; (with_reducible refine (volutekeep_Pile.calls k5 x355000_3 x355001_3 _ _ x355002_3 x362000_5 x362001_5 _ _ x362002_5 true _ ?side1 ?side2 ?side3 ?side4 A138.out).mono ?_); (case side1 => repeat (first | exact (Kd.R_reads' HO_355002.out).2.2 | (with_reducible refine Kd.C_alloc ?_ _) | (with_reducible refine Kd.C_drewN ?_ _) | (with_reducible refine Kd.C_drew ?_))); (case side2 => exact (Kd.R_reads' HO_355002.out).2.1); (case side3 => repeat (first | exact (Kd.R_reads' HO_362002.out).2.2 | (with_reducible refine Kd.C_alloc ?_ _) | (with_reducible refine Kd.C_drewN ?_ _) | (with_reducible refine Kd.C_drew ?_))); (case side4 => exact (Kd.R_reads' HO_362002.out).2.1); rintro e w148 ⟨rfl, hb⟩; refine ⟨_, rfl, ?_⟩; replace HO_14 := zR HO_14 hb; replace HO_355002 := zR HO_355002 hb; replace HO_362002 := zR HO_362002 hb; replace BK354 := zb BK354 hb; replace BK361 := zb BK361 hb; replace HB := zs HB hb; (try clear hb); (try clear hb2); (try clear hk); (try clear hi); obtain ⟨hcz149_0, hcz149_1, hcz149_2⟩ := zC3 BK354; obtain ⟨hfz149_0, hfz149_1⟩ := zF2 BK354; have hfz149_2 := blk_frozen BK354.out 2) | (go_at_call 38; (with_reducible refine (volutelaw09_wakes.calls k5 _ A141.out).mono ?_); rintro e w150 ⟨rfl, hb⟩; replace HO_14 := zR HO_14 hb; replace HO_355002 := zR HO_355002 hb; replace HO_362002 := zR HO_362002 hb; replace BK354 := zb BK354 hb; replace BK361 := zb BK361 hb; replace HB := zs HB hb; (try clear hb); (try clear hb2); (try clear hk); (try clear hi)))
                                  go_ret
                                  exact ⟨by first | rfl | (simp [errW_none, errW_some] <;> rfl) | (simp [*, errW_none, errW_some] <;> rfl), by repeat (first | (with_reducible first | exact HB.out | apply below_alloc | apply pw_below_drewN | apply below_drew1 | refine below_set ?_ GE354.out | refine below_set ?_ GE361.out) | exact HB.out)⟩
                                · rw [if_neg c140] at H
                                  have c140b0 : ((x355002_3.length : Int) == (x14_74.length : Int)) = false := beq_eq_false_iff_ne.mpr c140
                                  have c140b1 : ((x355002_3.length : Int) != (x14_74.length : Int)) = true := bne_iff_ne.mpr c140
                                  have c140b2 : (x355002_3.length == x14_74.length) = false := by first | simpa using c140 | (simp at c140 ⊢; omega)
                                  exact absurd (Option.some.inj H) (by decide)
                              · replace c139 := Bool.eq_false_iff.mpr c139
                                subst c139
                                have H1 : (some false) = some true := by rw [if_neg (show ¬ (false = true) by decide)] at H; exact H
                                clear H
                                have H := H1
                                clear H1
                                exact absurd (Option.some.inj H) (by decide)
def volutelaw09_PileOrder.Pure : Prop := ∀ (a0 : Int) (a1 : Int) (l2 : List Int) (l3 : List Int), (Lit.int .i64 a0).wf = true → (Lit.int .i64 a1).wf = true → l2.length ≤ maxLen → l2.length * 8 ≤ 140737488351232 → (∀ x ∈ l2, (Lit.int .i64 x).wf = true) → l3.length ≤ maxLen → l3.length * 8 ≤ 140737488351232 → (∀ x ∈ l3, (Lit.int .i64 x).wf = true) → ∃ k, volutelaw09_PileOrder.f k a0 a1 l2 l3 = some true
theorem volutelaw09_PileOrder.walk (P : volutelaw09_PileOrder.Pure) (a0 : Int) (a1 : Int) (a2 : Option Addr) (len2 cap2 : Nat) (z2 : List Int) (a3 : Option Addr) (len3 cap3 : Nat) (z3 : List Int) (w : World) (w0 : (Lit.int .i64 a0).wf = true) (w1 : (Lit.int .i64 a1).wf = true) (w2 : (a2 = none ∧ len2 = 0 ∧ cap2 = 0 ∧ z2 = []) ∨ ∃ x, a2 = some x ∧ len2 ≤ cap2 ∧ cap2 ≤ maxLen ∧ z2.length = cap2 ∧ (∀ i, i < z2.length → w.cell? (x.add i) = some (.int .i64 (z2.getD i 0))) ∧ ∀ n ∈ z2, (Lit.int .i64 n).wf = true) (y2 : len2 * 8 ≤ 140737488351232) (w3 : (a3 = none ∧ len3 = 0 ∧ cap3 = 0 ∧ z3 = []) ∨ ∃ x, a3 = some x ∧ len3 ≤ cap3 ∧ cap3 ≤ maxLen ∧ z3.length = cap3 ∧ (∀ i, i < z3.length → w.cell? (x.add i) = some (.int .i64 (z3.getD i 0))) ∧ ∀ n ∈ z3, (Lit.int .i64 n).wf = true) (y3 : len3 * 8 ≤ 140737488351232) :
    Calls Try.prog 9 #[.int .i64 a0, .int .i64 a1, .slice a2 len2 cap2, .slice a3 len3 cap3] w fun e w' => e = .returned (.bool true) ∧ Below w.heap.size w w' := by
  obtain ⟨l2, rfl, hr2, hm2, hw2, hc2⟩ := ReadsInt.ofRowC w2
  obtain ⟨l3, rfl, hr3, hm3, hw3, hc3⟩ := ReadsInt.ofRowC w3
  obtain ⟨k, h⟩ := P a0 a1 l2 l3 w0 w1 hm2 y2 hw2 hm3 y3 hw3
  refine (volutelaw09_PileOrder.calls k a0 a1 _ _ l2 _ _ l3 w (Kd.C_of_reads (d := (0 : Int)) (h1 := fun _ => rfl) hr2) hc2 (Kd.C_of_reads (d := (0 : Int)) (h1 := fun _ => rfl) hr3) hc3 h).mono ?_
  rintro e w' ⟨rfl, hd⟩
  exact ⟨rfl, hd⟩
end Go.Proofs.Ytfhihhfckpolpaa.P
