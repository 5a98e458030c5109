/- What the law's proof needs: PxSymbol. -/
import Derived.Test.YtlolfijadcflaaaBfPx0
import Derived.RangeFuncNested
import Derived.RangeFuncBound
import Derived.RangeFuncCalls
import Derived.RangeFuncLeaves
import Derived.RangeFuncBox
import Derived.Shelf.Abstract
import Derived.Shelf.RegionOpen
import Derived.WalkKit
import Derived.OwnWalkIn
import Derived.TacticsInMore
import Derived.LoopNIn
import Derived.LoopIn
import Derived.Lib.BufferOwn
import Derived.Maps.AppendAt
import Derived.Lib.Hide
import Derived.Deep.RegionHeld3
import Derived.Test.YtlolfijadcflaaaProg
section
namespace Go.Proofs.Ytlolfijadcflaaa.P
open Go.RowKit Go.Proofs.YtlolfijadcflaaaW.PrintWords Go.Proofs.YtlolfijadcflaaaW.PrintLast Go.Proofs.YtlolfijadcflaaaW.PrintMore
attribute [local go_sem] max2_int min2_int max_two min_two max_three min_three max_four min_four   -- for this text's walks alone
set_option linter.unusedVariables false
set_option linter.unusedSimpArgs false
def symbol_Of.j0 : Nat → Int → Int → Bool → Option (Int × Int)
  | 0, _, _, _ => none
  | k + 1, x0, x1, x6 => if x6 = true then (some (0, 1)) else (if x1 < 4 then (if 0 ≤ (wrap64 (8 * x1)) then (some (wrap64 (Go.bits .and .u32 (shr .u32 x0 (wrap64 (8 * x1))) 255), 0)) else (none)) else ((mix_Mix.f ((x0 + ((((x1) % 4294967296) * 2654435769) % 4294967296)) % 4294967296)).bind fun t156 => (some (wrap64 (Go.bits .and .u32 t156 255), 0))))
def symbol_Of.f (k : Nat) (a0 : Int) (a1 : Int) : Option (Int × Int) := if a1 < 0 then (symbol_Of.j0 k a0 a1 true) else (symbol_Of.j0 k a0 a1 (decide (a1 > 255)))
theorem symbol_Of.mono_l : ∀ k, (∀ y0 y1 y2, LeO (symbol_Of.j0 k y0 y1 y2) (symbol_Of.j0 (k + 1) y0 y1 y2))
  | 0 => fun _ _ _ r h => by simp [symbol_Of.j0] at h
  | k + 1 => by
    have ih0 := symbol_Of.mono_l k
    · intro y0 y1 y2
      unfold symbol_Of.j0
      repeat' first
      | (with_reducible exact ih0 _ _ _)
      | (with_reducible exact LeO.refl _)
      | (with_reducible exact LeO.none _)
      | (with_reducible refine LeO.ite ?_ ?_)
      | (with_reducible refine LeO.bind ?_ (fun _ => ?_))
      | exact ih0 _ _ _
      | exact LeO.none _
      | refine LeO.ite ?_ ?_
      | refine LeO.bind ?_ (fun _ => ?_)
theorem symbol_Of.mono : ∀ a0 a1 k, LeO (symbol_Of.f k a0 a1) (symbol_Of.f (k + 1) a0 a1) := by
 intro a0 a1 k
 have ih0 := symbol_Of.mono_l k
 unfold symbol_Of.f
 repeat' first
     | (with_reducible exact ih0 _ _ _)
     | (with_reducible exact LeO.refl _)
     | (with_reducible exact LeO.none _)
     | (with_reducible refine LeO.ite ?_ ?_)
     | (with_reducible refine LeO.bind ?_ (fun _ => ?_))
     | exact ih0 _ _ _
     | exact LeO.none _
     | refine LeO.ite ?_ ?_
     | refine LeO.bind ?_ (fun _ => ?_)
set_option maxHeartbeats 8000000 in
set_option maxRecDepth 100000 in
theorem symbol_Of.calls (k : Nat) (a0 : Int) (a1 : Int) (r1 : Int) (r2 : Int) (w : World) (h : symbol_Of.f k a0 a1 = some (r1, r2)) :
    Calls Try.prog 123 #[.int .u32 a0, .int .i64 a1] w fun e w' => e = .returned (.tuple #[.int .i64 r1, .int .i64 r2]) ∧ Drawn0 w w' := by
 have H : (if a1 < 0 then (symbol_Of.j0 k a0 a1 true) else (symbol_Of.j0 k a0 a1 (decide (a1 > 255)))) = some (r1, r2) := h
 clear h
 have HCq0 := Aside0.mk H
 clear H
 go_enter Try.func123, Try.ntmps123
 go_upto_region 1 with (fail)
 go_cut [6] (fun v6 wc => ∃ (kq : Nat) (x6_2 : Bool), v6 = .bool x6_2 ∧ Aside0 (symbol_Of.j0 kq a0 a1 x6_2 = some (r1, r2)) ∧ Aside0 (kq ≤ k) ∧ Drawn0 w wc)
 case first =>
  have H := HCq0.out
  clear HCq0
  by_cases cq0 : a1 < 0
  · rw [if_pos cq0] at H
    have c4b0 : decide (a1 < 0) = true := decide_eq_true cq0
    clear cq0
    (first | rw [c4b0] | (simp only [i64_w, i32_w]; rw [c4b0]) | skip)
    have H' := Aside0.mk H
    clear H
    go_wp2
    go_meet
    case rel => exact ⟨_, (true), (by first | rfl | (simp; done) | (simp [*]; done)), H', ⟨by first | omega | exact Nat.le_refl _⟩, by repeat (first | exact Drawn0.refl _ | apply Drawn0.step)⟩
  rw [if_neg cq0] at H
  have c4b0 : decide (a1 < 0) = false := decide_eq_false cq0
  clear cq0
  (first | rw [c4b0] | (simp only [i64_w, i32_w]; rw [c4b0]) | skip)
  have H' := Aside0.mk H
  clear H
  go_wp2
  go_meet
  case rel => exact ⟨_, (decide (a1 > 255)), (by first | rfl | (simp; done) | (simp [*]; done)), H', ⟨by first | omega | exact Nat.le_refl _⟩, by repeat (first | exact Drawn0.refl _ | apply Drawn0.step)⟩
 clear HCq0
 obtain ⟨kq, x6_2, rfl, HA, HJq0, ⟨mcq0, rfl⟩⟩ := hcut
 cases kq with
 | zero => exact absurd HA.out (by simp [symbol_Of.j0])
 | succ kj2 => ?_
 have H := HA.out
 clear HA
 simp only [symbol_Of.j0] at H
 by_cases c5 : x6_2 = true
 · subst c5
   have H1 : (some (0, 1)) = some (r1, r2) := by first | (rw [if_pos rfl] at H; exact H) | exact (if_pos rfl).symm.trans H
   clear H
   have H := H1
   clear H1
   simp only [Option.some.injEq, Prod.mk.injEq] at H
   obtain ⟨rfl, rfl⟩ := H
   go_wp2
   go_ret2
   exact ⟨by first | rfl | (simp; done) | (simp [*]; done), by repeat (first | exact Drawn0.refl _ | apply Drawn0.step)⟩
 replace c5 := Bool.eq_false_iff.mpr c5
 subst c5
 have H1 : (if a1 < 4 then (if 0 ≤ (wrap64 (8 * a1)) then (some (wrap64 (Go.bits .and .u32 (shr .u32 a0 (wrap64 (8 * a1))) 255), 0)) else (none)) else ((mix_Mix.f ((a0 + ((((a1) % 4294967296) * 2654435769) % 4294967296)) % 4294967296)).bind fun t156 => (some (wrap64 (Go.bits .and .u32 t156 255), 0)))) = some (r1, r2) := by rw [if_neg (show ¬ (false = true) by decide)] at H; exact H
 clear H
 have H := H1
 clear H1
 by_cases cq0 : a1 < 4
 rotate_left
 · rw [if_neg cq0] at H
   have c6b0 : decide (a1 < 4) = false := decide_eq_false cq0
   clear cq0
   replace H := Option.bind_eq_some_iff.mp H
   obtain ⟨t156, Aq0, H⟩ := H
   replace H : (some (wrap64 (Go.bits .and .u32 t156 255), 0)) = some (r1, r2) := H
   have Aq1 := Aside0.mk Aq0
   clear Aq0
   simp only [Option.some.injEq, Prod.mk.injEq] at H
   obtain ⟨rfl, rfl⟩ := H
   go_wp2_with (first | ((with_reducible refine gate_callee (f := 137) rfl ?_); refine goesL_ (some 27) rfl rfl Try.func137 (by kernel_rfl) rfl #[.int .u32 ((a0 + ((((a1) % 4294967296) * 2654435769) % 4294967296)) % 4294967296)] rfl (by (try simp only [List.map_toArray, List.map_cons, List.map_nil]); first | done | rfl | (simp only [List.length_drop, List.length_take]; rfl)) ?_; (with_reducible refine (mix_Mix.calls ((a0 + ((((a1) % 4294967296) * 2654435769) % 4294967296)) % 4294967296) t156 _ Aq1.out).mono ?_); rintro e w' ⟨rfl, ⟨nd, rfl⟩⟩; refine ⟨_, rfl, ?_⟩))
   go_ret2
   exact ⟨by first | rfl | (simp; done) | (simp [*]; done), by repeat (first | exact Drawn0.refl _ | apply Drawn0.step)⟩
 rw [if_pos cq0] at H
 have c6b0 : decide (a1 < 4) = true := decide_eq_true cq0
 clear cq0
 obtain ⟨ji7, hji7⟩ : ∃ j_ : Int, (wrap64 (8 * a1)) = j_ := ⟨_, rfl⟩
 replace H : (if 0 ≤ (ji7) then (some (wrap64 (Go.bits .and .u32 (shr .u32 a0 (ji7)) 255), 0)) else (none)) = some (r1, r2) := by first | (rw [hji7] at H; exact H) | (simp only [hji7] at H ⊢; exact H)
 have hjiq0w : (IntKind.i64.wrap (8 * a1)) = ji7 := (i64_w _).trans hji7
 by_cases cq1 : 0 ≤ (ji7)
 rotate_left
 · rw [if_neg cq1] at H
   exact absurd H (by simp)
 rw [if_pos cq1] at H
 have cq1b0 := eq_true cq1
 have cq1b1 : decide (0 ≤ (ji7)) = true := decide_eq_true cq1
 clear cq1
 obtain ⟨ji9, hji9⟩ : ∃ j_ : Int, (shr .u32 a0 (ji7)) = j_ := ⟨_, rfl⟩
 replace H : (some (wrap64 (Go.bits .and .u32 (ji9) 255), 0)) = some (r1, r2) := by first | (rw [hji9] at H; exact H) | (simp only [hji9] at H ⊢; exact H)
 have hjiq1_ : (a0 / 2 ^ min (ji7).toNat 32) = ji9 := hji9
 have hjiq1z : (ji7) ≤ 32 → (a0 / 2 ^ (ji7).toNat) = ji9 := shr_small hji9
 simp only [Option.some.injEq, Prod.mk.injEq] at H
 obtain ⟨rfl, rfl⟩ := H
 go_wp2
 go_ret2
 exact ⟨by first | rfl | (simp; done) | (simp only [← hji7, ← hji9] <;> (first | rfl | simp)) | (simp [*]; done), by repeat (first | exact Drawn0.refl _ | apply Drawn0.step)⟩
end Go.Proofs.Ytlolfijadcflaaa.P
end
section
namespace Go.Proofs.Ytlolfijadcflaaa.P
open Go.RowKit Go.Shelf
attribute [local go_sem] Oper.semAt_some
set_option linter.unusedSimpArgs false
set_option linter.unusedVariables false
def col (n g : Nat) : List Int := (List.range ((n + 7 - g) / 8)).map fun i => ((g + 8 * i : Nat) : Int)
def grp : List Nat := [0, 4, 2, 6, 1, 5, 3, 7]
def ord (n : Nat) : List Int := grp.flatMap (col n)
def ordTo (n i j : Nat) : List Int := (grp.take i).flatMap (col n) ++ (col n (grp.getD i 0)).take j
theorem col_length (n g : Nat) : (col n g).length = (n + 7 - g) / 8 := by simp [col]
theorem ordTo_zero (n i : Nat) : ordTo n i 0 = (grp.take i).flatMap (col n) := by simp [ordTo]
theorem ordTo_succ (n i j : Nat) (h : grp.getD i 0 + 8 * j < n) : ordTo n i (j + 1) = ordTo n i j ++ [((grp.getD i 0 + 8 * j : Nat) : Int)] := by
 have hl : j < (col n (grp.getD i 0)).length := by rw [col_length]; omega
 unfold ordTo
 rw [List.append_assoc, List.take_succ_eq_append_getElem hl]
 simp [col]
theorem ordTo_next (n i j : Nat) (hi : i < 8) (h : n ≤ grp.getD i 0 + 8 * j) : ordTo n i j = ordTo n (i + 1) 0 := by
 rw [ordTo_zero]
 unfold ordTo
 rw [List.take_of_length_le (l := col n _) (by rw [col_length]; omega)]
 have : grp.take (i + 1) = grp.take i ++ [grp.getD i 0] := by
   have : i = 0 ∨ i = 1 ∨ i = 2 ∨ i = 3 ∨ i = 4 ∨ i = 5 ∨ i = 6 ∨ i = 7 := by omega
   rcases this with rfl | rfl | rfl | rfl | rfl | rfl | rfl | rfl <;> rfl
 rw [this, List.flatMap_append]; simp
theorem ordTo_all (n : Nat) : ordTo n 8 0 = ord n := by rw [ordTo_zero]; rfl
theorem ordTo_prefix (n i j : Nat) (hi : i < 8) : ordTo n i j <+: ord n := by
 have e : ord n = (grp.take i).flatMap (col n) ++ (col n (grp.getD i 0) ++ (grp.drop (i + 1)).flatMap (col n)) := by
   have h : grp = grp.take i ++ (grp.getD i 0 :: grp.drop (i + 1)) := by
     have : i = 0 ∨ i = 1 ∨ i = 2 ∨ i = 3 ∨ i = 4 ∨ i = 5 ∨ i = 6 ∨ i = 7 := by omega
     rcases this with rfl | rfl | rfl | rfl | rfl | rfl | rfl | rfl <;> rfl
   unfold ord
   conv => lhs; rw [h]
   rw [List.flatMap_append, List.flatMap_cons]
 rw [e]
 unfold ordTo
 exact (List.prefix_append_right_inj _).2 ((List.take_prefix _ _).trans (List.prefix_append _ _))
theorem ordTo_len (n i j : Nat) (hi : i < 8) (h : grp.getD i 0 + 8 * j < n) : (ordTo n i j).length < (ord n).length := by
 have h1 := (ordTo_prefix n i (j + 1) hi).length_le
 rw [ordTo_succ n i j h] at h1
 simp at h1; omega
set_option maxHeartbeats 1000000 in
theorem order_in (n : Nat) (x : Int) (w : World) :
    CallsIn Fence.wide n Try.prog 154 #[.int .i64 x] w fun e w' => e = .returned (.func (.func 171) #[] #[.pointer (some ⟨w.heap.size, 0, none⟩)]) ∧ w' = w.alloc (.cells #[.int .i64 x] 3) := by
 refine callsIn_of_wp Try.func154 rfl trivial ?_ rfl
 simp only [Try.ntmps154, List.size_toArray, List.length_cons, List.length_nil, Nat.reduceAdd, Nat.reduceSub, Array.replicate_succ, Array.replicate_zero, List.push_toArray, List.append_toArray, List.nil_append, List.cons_append]
 gi_wp2
 go_ret
 exact ⟨rfl, rfl⟩
def grpV : Value := .agg #[.int .i64 0, .int .i64 4, .int .i64 2, .int .i64 6, .int .i64 1, .int .i64 5, .int .i64 3, .int .i64 7]
set_option maxHeartbeats 1000000 in
theorem groups_in (n : Nat) (w : World) :
    CallsIn Fence.wide n Try.prog 172 #[] w fun e w' => e = .returned grpV ∧ Below w.heap.size w w' ∧ w.grownBy w' none := by
 refine callsIn_of_wp Try.func172 rfl trivial ?_ rfl
 simp only [Try.ntmps172, List.size_toArray, List.length_cons, List.length_nil, Nat.reduceAdd, Nat.reduceSub, Array.replicate_succ, Array.replicate_zero, List.push_toArray, List.append_toArray, List.nil_append, List.cons_append]
 gi_wp2
 exact bodyPost_ret (v := grpV) (by simp [results, Try.results172, go_sem, grpV]) rfl ⟨rfl, (Below.refl _ _).alloc (Nat.le_refl _) _, World.grownBy_alloc _ _ _⟩
theorem groups_index (k : Nat) (hk : k < 8) (W : World) : (Instr.index 227 grpV (.int .i64 k)).run Try.prog W = .ok (.int .i64 ((grp.getD k 0 : Nat) : Int)) W := by
 have h : k = 0 ∨ k = 1 ∨ k = 2 ∨ k = 3 ∨ k = 4 ∨ k = 5 ∨ k = 6 ∨ k = 7 := by omega
 rcases h with rfl | rfl | rfl | rfl | rfl | rfl | rfl | rfl <;> simp [Instr.index, run_underlying Try.underlying227, asIntOf, go_sem, grpV, grp]
theorem grp_lt (k : Nat) (hk : k < 8) : grp.getD k 0 < 8 := by
 have h : k = 0 ∨ k = 1 ∨ k = 2 ∨ k = 3 ∨ k = 4 ∨ k = 5 ∨ k = 6 ∨ k = 7 := by omega
 rcases h with rfl | rfl | rfl | rfl | rfl | rfl | rfl | rfl <;> decide
def KeepsAt (B : Nat) (W W' : World) : Prop := ∀ v, W.cell? ⟨B, 0, none⟩ = some v → W'.cell? ⟨B, 0, none⟩ = some v
theorem KeepsAt.t {Bx : Nat} {A B C : World} (h : KeepsAt Bx A B) (k : KeepsAt Bx B C) : KeepsAt Bx A C := fun v hv => k v (h v hv)
theorem KeepsAt.b {Bx : Nat} (W : World) (l : Nat) (o o' : Obj) (ho : W.heap[l]? = some o) (hc : o.isCells = false) : KeepsAt Bx W (W.putObj l o') := fun v hv =>
  cell_kept hv (grownBy_putObj' W l o') (fun r e => by cases e; exact ⟨o, ho, hc⟩)
theorem KeepsAt.far {Bx : Nat} (W : World) (p : Addr) (v : Value) (h : p.block ≠ Bx) : KeepsAt Bx W (W.setCell p v) := fun u hu => (World.cell?_setCell_far W p ⟨Bx, 0, none⟩ v h).trans hu
theorem KeepsAt.below {Bx n₀ : Nat} {W W' : World} (h : Below n₀ W W') (hb : Bx < n₀) : KeepsAt Bx W W' := fun u hu => (h.cell (p := ⟨Bx, 0, none⟩) hb).trans hu
theorem KeepsAt.refl (Bx : Nat) (W : World) : KeepsAt Bx W W := fun _ h => h
set_option maxRecDepth 100000 in
set_option maxHeartbeats 2000000 in
theorem order1_in (m : Nat) (hm : 1 ≤ m) (l Bn n : Nat) (hn : n ≤ 64) (J Jx : List Int → World → Prop) (W : World)
    (hJa : AbidesFrom W.heap.size J)
    (hY : ∀ pre x W, J pre W → pre.length < (ord n).length → YieldAt Fence.wide (m - 1) Try.prog l #[.int .i64 x] W fun e W' =>
      (e = .returned (.bool true) ∧ J (pre ++ [x]) W' ∧ KeepsAt Bn W W') ∨ (e = .returned (.bool false) ∧ Jx (pre ++ [x]) W'))
    (hBn : W.cell? ⟨Bn, 0, none⟩ = some (.int .i64 n)) (h0 : J [] W) :
    CallsIn Fence.wide m Try.prog 171 #[.func (.yield l) #[] #[], .pointer (some ⟨Bn, 0, none⟩)] W fun e W' => (∃ v, e = .returned v) ∧
      ((∃ ys, ys = ord n ∧ J ys W') ∨ (∃ pre, pre <+: ord n ∧ Jx pre W')) := by
 refine callsIn_of_wp Try.func171 rfl trivial ?_ rfl
 simp only [Try.ntmps171, List.size_toArray, List.length_cons, List.length_nil, Nat.reduceAdd, Nat.reduceSub, Array.replicate_succ, Array.replicate_zero, List.push_toArray, List.append_toArray, List.nil_append, List.cons_append]
 gi_wp2_with (refine ⟨trivial, ?_⟩; gi_at_call 172; refine (groups_in _ _).mono ?_; rintro e w' ⟨rfl, hb1, hg1⟩)
 have hlB : Bn < W.heap.size := by
   obtain ⟨o, ho, _⟩ := cells_of_cell hBn
   exact (Array.getElem?_eq_some_iff.1 ho).1
 have hJ1 : J [] w' := hJa [] W w' none h0 hg1 (fun r e => by cases e)
 have hB1 : w'.cell? ⟨Bn, 0, none⟩ = some (.int .i64 n) := KeepsAt.below hb1 hlB _ hBn
 clear hb1 hg1 h0 hBn hJa
 gi_loopw [7] (fun i wr => ∃ k : Nat, k ≤ 8 ∧ i = .int .i64 k ∧ J (ordTo n k 0) wr ∧ KeepsAt Bn w' wr)
   (fun i _ => 8 - (intOf i).toNat)
 case atStart => exact ⟨0, by omega, rfl, hJ1, KeepsAt.refl _ _⟩
 case round =>
  obtain ⟨k, hk, rfl, hJs, hbs⟩ := hrel
  by_cases hlt : k < 8
  rotate_left
  · obtain rfl : k = 8 := by omega
    gi_wp2
    go_end0
    exact ⟨⟨_, rfl⟩, .inl ⟨_, ordTo_all n, hJs⟩⟩
  have hix := groups_index k hlt wr
  have hg8 := grp_lt k hlt
  have HO := @ordTo_len n k
  have HN := ordTo_next n k
  have HS := ordTo_succ n k
  generalize hgg : grp.getD k 0 = g at *
  have Hgg := Lib.hid hgg
  clear hgg
  have hd8 : decide ((k : Int) < 8) = true := by simp; omega
  gi_wp2
  gi_loopw [5] (fun s wr => ∃ j : Nat, g + 8 * j ≤ n + 8 ∧ s = .int .i64 ((g + 8 * j : Nat) : Int) ∧ J (ordTo n k j) wr ∧ KeepsAt Bn w' wr)
    (fun s _ => 100 - (intOf s).toNat)
  case atStart => exact ⟨0, by omega, by simp, hJs, hbs⟩
  case round =>
   obtain ⟨j, hj, rfl, hJ2, hb2⟩ := hrel
   have hc2 := hb2 _ hB1
   by_cases hs : g + 8 * j < n
   rotate_left
   · gi_wp2
     exact ⟨⟨k + 1, by omega, by go_num, by rw [← HN j hlt (by omega)]; exact hJ2, hb2⟩, by simp [intOf]; omega⟩
   obtain ⟨fn, tmps, assign, body, hy, hR⟩ := hY (ordTo n k j) ((g : Int) + 8 * (j : Int)) wr hJ2 (HO j hlt hs)
   gi_wp2
   refine hR.mono ?_
   rintro e W3 (⟨rfl, hJ3, hk3⟩ | ⟨rfl, hJx3⟩)
   · gi_wp2
     go_roundw
     case rel => exact ⟨j + 1, by omega, by simp; omega, by rw [HS j hs]; push_cast; exact hJ3, hb2.t hk3⟩
     case measure => simp [intOf]; omega
   gi_wp2
   refine bodyPost_ret (results_none rfl _ _ _) rfl ?_
   refine ⟨⟨_, rfl⟩, .inr ⟨_, ?_, hJx3⟩⟩
   have hp := ordTo_prefix n k (j + 1) hlt
   rw [HS j hs] at hp
   push_cast at hp
   exact hp
theorem order_stops (m : Nat) (hm : 1 ≤ m) (Bn n : Nat) (hn : n ≤ 64) (w : World) (hc : w.cell? ⟨Bn, 0, none⟩ = some (.int .i64 n)) :
    SeqStopsK Fence.wide m Try.prog 171 #[.pointer (some ⟨Bn, 0, none⟩)] (fun x : Int => #[Value.int .i64 x]) (KeepsAt Bn) (fun ys => ys = ord n) (fun pre => pre <+: ord n) (ord n).length w := fun l J Jx W hW hJ _ hY h0 =>
  order1_in m hm l Bn n hn J Jx W hJ hY (KeepsAt.below hW (by obtain ⟨o, ho, _⟩ := cells_of_cell hc; exact (Array.getElem?_eq_some_iff.1 ho).1) _ hc) h0
def mayB (n : Int) : Bool := decide (1 ≤ n ∧ n ≤ 64)
theorem mayB_yes {n : Int} (h : 1 ≤ n ∧ n ≤ 64) : mayB n = true := by simp [mayB, h]
theorem mayB_no {n : Int} (h : ¬ (1 ≤ n ∧ n ≤ 64)) : mayB n = false := by simp [mayB]; omega
set_option maxHeartbeats 1000000 in
theorem may_any (n : Int) (b : Bool) (hb : mayB n = b) (w : World) : Calls Try.prog 153 #[.int .i64 n] w fun e w' => e = .returned (.bool b) ∧ w' = w := by
 have hb' : decide (1 ≤ n ∧ n ≤ 64) = b := hb
 clear hb
 by_cases h1 : 1 ≤ n
 rotate_left
 · obtain rfl : b = false := by rw [← hb']; simp; omega
   clear hb'
   go_enter Try.func153, Try.ntmps153
   go_wp2
   go_ret
   exact ⟨by simp, rfl⟩
 by_cases h2 : n ≤ 64
 · obtain rfl : b = true := by rw [← hb']; simp; omega
   clear hb'
   go_enter Try.func153, Try.ntmps153
   go_wp2
   go_ret
   exact ⟨by first | rfl | (simp; done) | (simp; omega), rfl⟩
 obtain rfl : b = false := by rw [← hb']; simp; omega
 clear hb'
 go_enter Try.func153, Try.ntmps153
 go_wp2
 go_ret
 exact ⟨by first | rfl | (simp; done) | (simp; omega), rfl⟩
end Go.Proofs.Ytlolfijadcflaaa.P
end
