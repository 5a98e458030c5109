/- The order of a pass: the iterator 'order' of package sched comes to the list 'ord n', for every n from 0 to 64. -/
import Derived.RangeFuncNested
import Derived.RangeFuncBound
import Derived.RangeFuncCalls
import Derived.RangeFuncLeaves
import Derived.RangeFuncBox
import Derived.Shelf.Abstract
import Derived.Shelf.RegionOpen
import Derived.WalkKit
import Derived.OwnWalkIn
import Derived.TacticsInMore
import Derived.LoopNIn
import Derived.LoopIn
import Derived.Lib.BufferOwn
import Derived.Maps.AppendAt
import Derived.Lib.Hide
import Derived.Deep.RegionHeld3
import Derived.Test.YtekojicaeadepaaProg
namespace Go.Proofs.Ytekojicaeadepaa.P
open Go.RowKit Go.Shelf
attribute [local go_sem] Oper.semAt_some
set_option linter.unusedSimpArgs false
set_option linter.unusedVariables false

/-- the segments of one number modulo 8. -/
def col (n g : Nat) : List Int := (List.range ((n + 7 - g) / 8)).map fun i => ((g + 8 * i : Nat) : Int)
def grp : List Nat := [0, 4, 2, 6, 1, 5, 3, 7]
/-- a pass's segments, in order. -/
def ord (n : Nat) : List Int := grp.flatMap (col n)
/-- what has come when i groups are over, and j of the next. -/
def ordTo (n i j : Nat) : List Int := (grp.take i).flatMap (col n) ++ (col n (grp.getD i 0)).take j

theorem col_length (n g : Nat) : (col n g).length = (n + 7 - g) / 8 := by simp [col]
theorem ordTo_zero (n i : Nat) : ordTo n i 0 = (grp.take i).flatMap (col n) := by simp [ordTo]
theorem ordTo_succ (n i j : Nat) (h : grp.getD i 0 + 8 * j < n) : ordTo n i (j + 1) = ordTo n i j ++ [((grp.getD i 0 + 8 * j : Nat) : Int)] := by
  have hl : j < (col n (grp.getD i 0)).length := by rw [col_length]; omega
  unfold ordTo
  rw [List.append_assoc, List.take_succ_eq_append_getElem hl]
  simp [col]
theorem ordTo_next (n i j : Nat) (hi : i < 8) (h : n ≤ grp.getD i 0 + 8 * j) : ordTo n i j = ordTo n (i + 1) 0 := by
  rw [ordTo_zero]
  unfold ordTo
  rw [List.take_of_length_le (l := col n _) (by rw [col_length]; omega)]
  have : grp.take (i + 1) = grp.take i ++ [grp.getD i 0] := by
    have : i = 0 ∨ i = 1 ∨ i = 2 ∨ i = 3 ∨ i = 4 ∨ i = 5 ∨ i = 6 ∨ i = 7 := by omega
    rcases this with rfl | rfl | rfl | rfl | rfl | rfl | rfl | rfl <;> rfl
  rw [this, List.flatMap_append]; simp
theorem ordTo_all (n : Nat) : ordTo n 8 0 = ord n := by rw [ordTo_zero]; rfl
theorem ordTo_prefix (n i j : Nat) (hi : i < 8) : ordTo n i j <+: ord n := by
  have e : ord n = (grp.take i).flatMap (col n) ++ (col n (grp.getD i 0) ++ (grp.drop (i + 1)).flatMap (col n)) := by
    have h : grp = grp.take i ++ (grp.getD i 0 :: grp.drop (i + 1)) := by
      have : i = 0 ∨ i = 1 ∨ i = 2 ∨ i = 3 ∨ i = 4 ∨ i = 5 ∨ i = 6 ∨ i = 7 := by omega
      rcases this with rfl | rfl | rfl | rfl | rfl | rfl | rfl | rfl <;> rfl
    unfold ord
    conv => lhs; rw [h]
    rw [List.flatMap_append, List.flatMap_cons]
  rw [e]
  unfold ordTo
  exact (List.prefix_append_right_inj _).2 ((List.take_prefix _ _).trans (List.prefix_append _ _))
theorem ordTo_len (n i j : Nat) (hi : i < 8) (h : grp.getD i 0 + 8 * j < n) : (ordTo n i j).length < (ord n).length := by
  have h1 := (ordTo_prefix n i (j + 1) hi).length_le
  rw [ordTo_succ n i j h] at h1
  simp at h1; omega

set_option maxHeartbeats 1000000 in
theorem order_in (n : Nat) (x : Int) (w : World) :
    CallsIn Fence.wide n Try.prog 69 #[.int .i64 x] w fun e w' => e = .returned (.func (.func 86) #[] #[.pointer (some ⟨w.heap.size, 0, none⟩)]) ∧ w' = w.alloc (.cells #[.int .i64 x] 3) := by
  refine callsIn_of_wp Try.func69 rfl trivial ?_ rfl
  simp only [Try.ntmps69, List.size_toArray, List.length_cons, List.length_nil, Nat.reduceAdd, Nat.reduceSub, Array.replicate_succ, Array.replicate_zero, List.push_toArray, List.append_toArray, List.nil_append, List.cons_append]
  gi_wp2
  go_ret
  exact ⟨rfl, rfl⟩

/-- the groups, as a value. -/
def grpV : Value := .agg #[.int .i64 0, .int .i64 4, .int .i64 2, .int .i64 6, .int .i64 1, .int .i64 5, .int .i64 3, .int .i64 7]

set_option maxHeartbeats 1000000 in
theorem groups_in (n : Nat) (w : World) :
    CallsIn Fence.wide n Try.prog 87 #[] w fun e w' => e = .returned grpV ∧ Below w.heap.size w w' ∧ w.grownBy w' none := by
  refine callsIn_of_wp Try.func87 rfl trivial ?_ rfl
  simp only [Try.ntmps87, List.size_toArray, List.length_cons, List.length_nil, Nat.reduceAdd, Nat.reduceSub, Array.replicate_succ, Array.replicate_zero, List.push_toArray, List.append_toArray, List.nil_append, List.cons_append]
  gi_wp2
  exact bodyPost_ret (v := grpV) (by simp [results, Try.results87, go_sem, grpV]) rfl ⟨rfl, (Below.refl _ _).alloc (Nat.le_refl _) _, World.grownBy_alloc _ _ _⟩

theorem groups_index (k : Nat) (hk : k < 8) (W : World) : (Instr.index 131 grpV (.int .i64 k)).run Try.prog W = .ok (.int .i64 ((grp.getD k 0 : Nat) : Int)) W := by
  have h : k = 0 ∨ k = 1 ∨ k = 2 ∨ k = 3 ∨ k = 4 ∨ k = 5 ∨ k = 6 ∨ k = 7 := by omega
  rcases h with rfl | rfl | rfl | rfl | rfl | rfl | rfl | rfl <;> simp [Instr.index, run_underlying Try.underlying131, asIntOf, go_sem, grpV, grp]
theorem grp_lt (k : Nat) (hk : k < 8) : grp.getD k 0 < 8 := by
  have h : k = 0 ∨ k = 1 ∨ k = 2 ∨ k = 3 ∨ k = 4 ∨ k = 5 ∨ k = 6 ∨ k = 7 := by omega
  rcases h with rfl | rfl | rfl | rfl | rfl | rfl | rfl | rfl <;> decide

/-- what stands in one box stays. -/
def KeepsAt (B : Nat) (W W' : World) : Prop := ∀ v, W.cell? ⟨B, 0, none⟩ = some v → W'.cell? ⟨B, 0, none⟩ = some v
theorem KeepsAt.t {Bx : Nat} {A B C : World} (h : KeepsAt Bx A B) (k : KeepsAt Bx B C) : KeepsAt Bx A C := fun v hv => k v (h v hv)
theorem KeepsAt.b {Bx : Nat} (W : World) (l : Nat) (o o' : Obj) (ho : W.heap[l]? = some o) (hc : o.isCells = false) : KeepsAt Bx W (W.putObj l o') := fun v hv =>
  cell_kept hv (grownBy_putObj' W l o') (fun r e => by cases e; exact ⟨o, ho, hc⟩)
theorem KeepsAt.far {Bx : Nat} (W : World) (p : Addr) (v : Value) (h : p.block ≠ Bx) : KeepsAt Bx W (W.setCell p v) := fun u hu => (World.cell?_setCell_far W p ⟨Bx, 0, none⟩ v h).trans hu
theorem KeepsAt.below {Bx n₀ : Nat} {W W' : World} (h : Below n₀ W W') (hb : Bx < n₀) : KeepsAt Bx W W' := fun u hu => (h.cell (p := ⟨Bx, 0, none⟩) hb).trans hu
theorem KeepsAt.refl (Bx : Nat) (W : World) : KeepsAt Bx W W := fun _ h => h

set_option maxRecDepth 100000 in
set_option maxHeartbeats 2000000 in
/-- the closure of 'order': for every loop body that keeps what lay below n₀. -/
theorem order1_in (m : Nat) (hm : 1 ≤ m) (l Bn n : Nat) (hn : n ≤ 64) (J Jx : List Int → World → Prop) (W : World)
    (hJa : AbidesFrom W.heap.size J)
    (hY : ∀ pre x W, J pre W → pre.length < (ord n).length → YieldAt Fence.wide (m - 1) Try.prog l #[.int .i64 x] W fun e W' =>
      (e = .returned (.bool true) ∧ J (pre ++ [x]) W' ∧ KeepsAt Bn W W') ∨ (e = .returned (.bool false) ∧ Jx (pre ++ [x]) W'))
    (hBn : W.cell? ⟨Bn, 0, none⟩ = some (.int .i64 n)) (h0 : J [] W) :
    CallsIn Fence.wide m Try.prog 86 #[.func (.yield l) #[] #[], .pointer (some ⟨Bn, 0, none⟩)] W fun e W' => (∃ v, e = .returned v) ∧
      ((∃ ys, ys = ord n ∧ J ys W') ∨ (∃ pre, pre <+: ord n ∧ Jx pre W')) := by
  refine callsIn_of_wp Try.func86 rfl trivial ?_ rfl
  simp only [Try.ntmps86, List.size_toArray, List.length_cons, List.length_nil, Nat.reduceAdd, Nat.reduceSub, Array.replicate_succ, Array.replicate_zero, List.push_toArray, List.append_toArray, List.nil_append, List.cons_append]
  gi_wp2_with (refine ⟨trivial, ?_⟩; gi_at_call 87; refine (groups_in _ _).mono ?_; rintro e w' ⟨rfl, hb1, hg1⟩)
  have hlB : Bn < W.heap.size := by
    obtain ⟨o, ho, _⟩ := cells_of_cell hBn
    exact (Array.getElem?_eq_some_iff.1 ho).1
  have hJ1 : J [] w' := hJa [] W w' none h0 hg1 (fun r e => by cases e)
  have hB1 : w'.cell? ⟨Bn, 0, none⟩ = some (.int .i64 n) := KeepsAt.below hb1 hlB _ hBn
  clear hb1 hg1 h0 hBn hJa
  gi_loopw [7] (fun i wr => ∃ k : Nat, k ≤ 8 ∧ i = .int .i64 k ∧ J (ordTo n k 0) wr ∧ KeepsAt Bn w' wr)
    (fun i _ => 8 - (intOf i).toNat)
  case atStart => exact ⟨0, by omega, rfl, hJ1, KeepsAt.refl _ _⟩
  case round =>
    obtain ⟨k, hk, rfl, hJs, hbs⟩ := hrel
    by_cases hlt : k < 8
    · have hix := groups_index k hlt wr
      have hg8 := grp_lt k hlt
      have HO := @ordTo_len n k
      have HN := ordTo_next n k
      have HS := ordTo_succ n k
      generalize hgg : grp.getD k 0 = g at *
      have Hgg := Lib.hid hgg
      clear hgg
      have hd8 : decide ((k : Int) < 8) = true := by simp; omega
      gi_wp2
      gi_loopw [5] (fun s wr => ∃ j : Nat, g + 8 * j ≤ n + 8 ∧ s = .int .i64 ((g + 8 * j : Nat) : Int) ∧ J (ordTo n k j) wr ∧ KeepsAt Bn w' wr)
        (fun s _ => 100 - (intOf s).toNat)
      case atStart => exact ⟨0, by omega, by simp, hJs, hbs⟩
      case round =>
        obtain ⟨j, hj, rfl, hJ2, hb2⟩ := hrel
        have hc2 := hb2 _ hB1
        by_cases hs : g + 8 * j < n
        · obtain ⟨fn, tmps, assign, body, hy, hR⟩ := hY (ordTo n k j) ((g : Int) + 8 * (j : Int)) wr hJ2 (HO j hlt hs)
          gi_wp2
          refine hR.mono ?_
          rintro e W3 (⟨rfl, hJ3, hk3⟩ | ⟨rfl, hJx3⟩)
          · gi_wp2
            go_roundw
            case rel => exact ⟨j + 1, by omega, by simp; omega, by rw [HS j hs]; push_cast; exact hJ3, hb2.t hk3⟩
            case measure => simp [intOf]; omega
          · gi_wp2
            refine bodyPost_ret (results_none rfl _ _ _) rfl ?_
            refine ⟨⟨_, rfl⟩, .inr ⟨_, ?_, hJx3⟩⟩
            have hp := ordTo_prefix n k (j + 1) hlt
            rw [HS j hs] at hp
            push_cast at hp
            exact hp
        · gi_wp2
          exact ⟨⟨k + 1, by omega, by go_num, by rw [← HN j hlt (by omega)]; exact hJ2, hb2⟩, by simp [intOf]; omega⟩
    · obtain rfl : k = 8 := by omega
      gi_wp2
      go_end0
      exact ⟨⟨_, rfl⟩, .inl ⟨_, ordTo_all n, hJs⟩⟩

theorem order_stops (m : Nat) (hm : 1 ≤ m) (Bn n : Nat) (hn : n ≤ 64) (w : World) (hc : w.cell? ⟨Bn, 0, none⟩ = some (.int .i64 n)) :
    SeqStopsK Fence.wide m Try.prog 86 #[.pointer (some ⟨Bn, 0, none⟩)] (fun x : Int => #[Value.int .i64 x]) (KeepsAt Bn) (fun ys => ys = ord n) (fun pre => pre <+: ord n) (ord n).length w := fun l J Jx W hW hJ _ hY h0 =>
  order1_in m hm l Bn n hn J Jx W hJ hY (KeepsAt.below hW (by obtain ⟨o, ho, _⟩ := cells_of_cell hc; exact (Array.getElem?_eq_some_iff.1 ho).1) _ hc) h0

def mayB (n : Int) : Bool := decide (1 ≤ n ∧ n ≤ 64)
theorem mayB_yes {n : Int} (h : 1 ≤ n ∧ n ≤ 64) : mayB n = true := by simp [mayB, h]
theorem mayB_no {n : Int} (h : ¬ (1 ≤ n ∧ n ≤ 64)) : mayB n = false := by simp [mayB]; omega
set_option maxHeartbeats 1000000 in
theorem may_any (n : Int) (b : Bool) (hb : mayB n = b) (w : World) : Calls Try.prog 68 #[.int .i64 n] w fun e w' => e = .returned (.bool b) ∧ w' = w := by
  have hb' : decide (1 ≤ n ∧ n ≤ 64) = b := hb
  clear hb
  by_cases h1 : 1 ≤ n
  · by_cases h2 : n ≤ 64
    · obtain rfl : b = true := by rw [← hb']; simp; omega
      clear hb'
      go_enter Try.func68, Try.ntmps68
      go_wp2
      go_ret
      exact ⟨by first | rfl | (simp; done) | (simp; omega), rfl⟩
    · obtain rfl : b = false := by rw [← hb']; simp; omega
      clear hb'
      go_enter Try.func68, Try.ntmps68
      go_wp2
      go_ret
      exact ⟨by first | rfl | (simp; done) | (simp; omega), rfl⟩
  · obtain rfl : b = false := by rw [← hb']; simp; omega
    clear hb'
    go_enter Try.func68, Try.ntmps68
    go_wp2
    go_ret
    exact ⟨by simp, rfl⟩
end Go.Proofs.Ytekojicaeadepaa.P
