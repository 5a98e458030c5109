/- Package sched: At comes to what 'ord n' says, at all arguments. -/
import Derived.Deep.QuietTactic
import Derived.BigQuiet
import Derived.RegionIn
import Derived.BigRegionIn
import Derived.Test.YtekojicaeadepaaOrd
import Derived.Test.YtekojicaeadepaaWWords
namespace Go.Proofs.Ytekojicaeadepaa.P
open Go.RowKit Go.Shelf Go.Proofs.YtekojicaeadepaaW.PrintWords
attribute [local go_sem] Oper.semAt_some
set_option linter.unusedSimpArgs false
set_option linter.unusedVariables false

def sched_At.f (a0 a1 : Int) : Option (Int × Int × Int) :=
  if 1 ≤ a0 ∧ a0 ≤ 64 ∧ 0 ≤ a1 ∧ a1 < a0 * 16 then some ((ord a0.toNat).getD (a1 % a0).toNat 0, a1 / a0, 0) else some (0, 0, 1)

theorem ord_length : ∀ n, n < 65 → (ord n).length = n := by decide

theorem enters_order1 : ∀ args w, (callFunc 86 args).run Try.prog w = .ok (.enter 86 args) w := enters_of Try.func86 (by kernel_rfl) rfl
theorem pre_last {α : Type} {xs pre : List α} {x : α} (d : α) (h : pre ++ [x] <+: xs) : xs.getD pre.length d = x := by
  obtain ⟨r, rfl⟩ := h; simp
def AtI (B n k : Nat) (pre : List Int) (W : World) : Prop :=
  (((((Boxed W B 3 (.int .i64 n) ∧ Boxed W (B + 1) 3 (.int .i64 k)) ∧ Boxed W (B + 2) 3 (.int .i64 0)) ∧ Boxed W (B + 3) 3 (.int .i64 0)) ∧ Boxed W (B + 4) 29 (.int .i64 0)) ∧ Boxed W (B + 5) 3 (.int .i64 (((k % n : Nat) : Int) - (pre.length : Int)))) ∧ pre.length ≤ k % n
def AtX (B n k : Nat) (c : Code) (pre : List Int) (W : World) : Prop :=
  (((c = .ret ∧ ∃ ini x, pre = ini ++ [x] ∧ ini.length = k % n ∧ Boxed W (B + 2) 3 (.int .i64 x)) ∧ Boxed W (B + 3) 3 (.int .i64 ((k / n : Nat) : Int))) ∧ Boxed W (B + 4) 29 (.int .i64 0))
theorem own_pure {β : Type} {p : β → Prop} : Own (fun (s : β) (_ : World) => p s) := fun _ _ _ _ hs _ _ => hs
theorem own_and {β : Type} {I I' : β → World → Prop} (h : Own I) (h' : Own I') : Own (fun s W => I s W ∧ I' s W) := fun s W W' row hs hg hr => ⟨h s W W' row hs.1 hg hr, h' s W W' row hs.2 hg hr⟩
theorem own_ex {β γ : Type} {I : γ → β → World → Prop} (h : ∀ x, Own (I x)) : Own (fun s W => ∃ x, I x s W) := fun s W W' row ⟨x, hs⟩ hg hr => ⟨x, h x s W W' row hs hg hr⟩
theorem AtI.own (B n k : Nat) : Own (AtI B n k) :=
  own_and (own_and (own_and (own_and (own_and (own_and (boxed_own _ _ _) (boxed_own _ _ _)) (boxed_own _ _ _)) (boxed_own _ _ _)) (boxed_own _ _ _)) (boxed_own _ _ _)) own_pure
theorem AtX.own (B n k : Nat) (c : Code) : Own (AtX B n k c) :=
  own_and (own_and (own_and own_pure (own_ex fun i => own_ex fun x => own_and own_pure (own_and own_pure (boxed_own _ _ _)))) (boxed_own _ _ _)) (boxed_own _ _ _)

set_option maxRecDepth 100000 in
set_option maxHeartbeats 2000000 in
theorem at_yes (n : Nat) (k : Nat) (h1 : 1 ≤ n) (h2 : n ≤ 64) (h3 : k < n * 16) (w : World) :
    Calls Try.prog 40 #[.int .i64 n, .int .i64 k] w fun e w' => e = .returned (.tuple #[.int .i64 ((ord n).getD (k % n) 0), .int .i64 ((k / n : Nat) : Int), .int .i64 0]) ∧ Below w.heap.size w w' := by
  refine (callsIn_wide (n := 9)).1 ?_
  refine callsIn_of_wp_marks Try.func40 rfl trivial ?_ rfl
  refine wpIn_wide.2 ?_
  simp only [Try.ntmps40, List.size_toArray, List.length_cons, List.length_nil, Nat.reduceAdd, Nat.reduceSub, Array.replicate_succ, Array.replicate_zero, List.push_toArray, List.append_toArray, List.nil_append, List.cons_append]
  have g1 : decide ((k : Int) < 0) = false := by simp
  have g2 : decide ((n : Int) * 16 ≤ (k : Int)) = false := by simp; omega
  go_wp2_with (first | (go_at_call 68; refine (may_any _ true (mayB_yes (by omega)) _).mono ?_; rintro e w' ⟨rfl, rfl⟩) | (go_at_call 69; refine (callsIn_wide.1 (order_in 9 _ _)).mono ?_; rintro e w' ⟨rfl, rfl⟩))
  clear g1 g2
  obtain ⟨B, hB⟩ : ∃ B, w.heap.size = B := ⟨_, rfl⟩
  have b0 := Boxed.new w 3 (.int .i64 n)
  have b1 := Boxed.new (w.alloc (.cells #[.int .i64 n] 3)) 3 (.int .i64 k)
  have b2 := Boxed.new ((w.alloc (.cells #[.int .i64 n] 3)).alloc (.cells #[.int .i64 k] 3)) 3 (.int .i64 0)
  have b3 := Boxed.new (((w.alloc (.cells #[.int .i64 n] 3)).alloc (.cells #[.int .i64 k] 3)).alloc (.cells #[.int .i64 0] 3)) 3 (.int .i64 0)
  have b4 := Boxed.new ((((w.alloc (.cells #[.int .i64 n] 3)).alloc (.cells #[.int .i64 k] 3)).alloc (.cells #[.int .i64 0] 3)).alloc (.cells #[.int .i64 0] 3)) 29 (.int .i64 0)
  have b5 := Boxed.new (((((w.alloc (.cells #[.int .i64 n] 3)).alloc (.cells #[.int .i64 k] 3)).alloc (.cells #[.int .i64 0] 3)).alloc (.cells #[.int .i64 0] 3)).alloc (.cells #[.int .i64 0] 29)) 3 (.int .i64 ((k : Int) % (n : Int)))
  have b6 := Boxed.new ((((((w.alloc (.cells #[.int .i64 n] 3)).alloc (.cells #[.int .i64 k] 3)).alloc (.cells #[.int .i64 0] 3)).alloc (.cells #[.int .i64 0] 3)).alloc (.cells #[.int .i64 0] 29)).alloc (.cells #[.int .i64 ((k : Int) % (n : Int))] 3)) 3 (.int .i64 n)
  simp only [World.size_alloc, hB] at b0 b1 b2 b3 b4 b5 b6
  have hBB : Below B w (((((((w.alloc (.cells #[.int .i64 n] 3)).alloc (.cells #[.int .i64 k] 3)).alloc (.cells #[.int .i64 0] 3)).alloc (.cells #[.int .i64 0] 3)).alloc (.cells #[.int .i64 0] 29)).alloc (.cells #[.int .i64 ((k : Int) % (n : Int))] 3)).alloc (.cells #[.int .i64 n] 3)) :=
    (((((((Below.refl _ w).alloc (by omega) _).alloc (by simp; omega) _).alloc (by simp; omega) _).alloc (by simp; omega) _).alloc (by simp; omega) _).alloc (by simp; omega) _).alloc (by simp; omega) _
  have bI : AtI B n k [] (((((((w.alloc (.cells #[.int .i64 n] 3)).alloc (.cells #[.int .i64 k] 3)).alloc (.cells #[.int .i64 0] 3)).alloc (.cells #[.int .i64 0] 3)).alloc (.cells #[.int .i64 0] 29)).alloc (.cells #[.int .i64 ((k : Int) % (n : Int))] 3)).alloc (.cells #[.int .i64 n] 3)) :=
    ⟨⟨⟨⟨⟨⟨(((((b0.alloc _).alloc _).alloc _).alloc _).alloc _).alloc _, ((((b1.alloc _).alloc _).alloc _).alloc _).alloc _⟩, (((b2.alloc _).alloc _).alloc _).alloc _⟩, ((b3.alloc _).alloc _).alloc _⟩, (b4.alloc _).alloc _⟩, by have := b5.alloc (.cells #[.int .i64 n] 3); simpa using this⟩, by simp⟩
  clear b0 b1 b2 b3 b4 b5
  generalize hW0 : (((((((w.alloc (.cells #[.int .i64 n] 3)).alloc (.cells #[.int .i64 k] 3)).alloc (.cells #[.int .i64 0] 3)).alloc (.cells #[.int .i64 0] 3)).alloc (.cells #[.int .i64 0] 29)).alloc (.cells #[.int .i64 ((k : Int) % (n : Int))] 3)).alloc (.cells #[.int .i64 n] 3)) = W0 at *
  have hsz : W0.heap.size = B + 7 := by rw [← hW0]; simp; omega
  clear hW0
  have HBs := Lib.hid hsz
  have HwB := Lib.hid hB
  clear hsz hB
  simp only [HwB.out]
  refine (wpIn_wide (n := 9)).1 ?_
  apply wpIn_rangeFunc_ownG rfl (by omega) (gf := 86) (lb := #[.pointer (some ⟨B + 6, 0, none⟩)]) (encs := fun x : Int => #[Value.int .i64 x]) (Kp := KeepsAt (B + 6)) rfl trivial enters_order1
    (order_stops 8 (by omega) (B + 6) n h2 W0 b6.cell) KeepsAt.t (fun W l o o' _ ho hc _ => KeepsAt.b W l o o' ho hc) (Below.refl _ _) (fun _ => rfl)
    (fun pre W => AtI B n k pre W ∧ Below B w W) (fun c pre W => AtX B n k c pre W ∧ Below B w W)
    (OwnFrom.and ((AtI.own B n k).from _) (ownFrom_below (by have := HwB.out; omega) (by have := HBs.out; omega))) (fun c => OwnFrom.and ((AtX.own B n k c).from _) (ownFrom_below (by have := HwB.out; omega) (by have := HBs.out; omega)))
    ⟨bI, hBB⟩
  case hassign =>
    intro l x W K hK
    gi_wp2
    exact hK
  case hbody =>
    rintro l pre x W ⟨⟨⟨⟨⟨⟨⟨c0, c1⟩, c2⟩, c3⟩, c4⟩, c5⟩, hle⟩, hBW⟩ hlt
    have e0 := c0.cell
    have e1 := c1.cell
    have e2 := c2.cell
    have e3 := c3.cell
    have e4 := c4.cell
    have e5 := c5.cell
    have f2 := c2.frozen
    have f3 := c3.frozen
    have f4 := c4.frozen
    have f5 := c5.frozen
    have q0 : 0 ≤ (k : Int) / (n : Int) := Int.ediv_nonneg (by omega) (by omega)
    have q1 : (k : Int) / (n : Int) ≤ 1024 := Int.le_trans (Int.ediv_le_self _ (by omega)) (by omega)
    have r0 : 0 ≤ (k : Int) % (n : Int) := Int.emod_nonneg _ (by omega)
    have r1 : (k : Int) % (n : Int) < (n : Int) := Int.emod_lt_of_pos _ (by omega)
    have hle' : (pre.length : Int) ≤ (k : Int) % (n : Int) := by
      have : ((k % n : Nat) : Int) = (k : Int) % (n : Int) := by simp
      omega
    by_cases hk : pre.length = k % n
    · have g1 : ((((k : Int) % (n : Int)) - (pre.length : Int)) == 0) = true := by simp; omega
      have Hk := Lib.hid hk
      clear hk
      gi_wp2
      gi_region
      all_goals gi_wp2
      all_goals
        refine ⟨((KeepsOthers.setCell _ _ _).trans ((KeepsOthers.setCell _ _ _).trans ((KeepsOthers.setCell _ _ _).trans (KeepsOthers.drew _)))).from _, ⟨⟨⟨rfl, pre, x, rfl, Hk.out, ?_⟩, ?_⟩, ?_⟩, ?_⟩
        · exact ((c2.set _).other (by omega) _).other (by omega) _
        · have h := ((c3.other (B' := B + 2) (by omega) (.int .i64 x)).set (.int .i64 ((k : Int) / (n : Int)))).other (B' := B + 4) (by omega) (.int .i64 0)
          rw [show ((k / n : Nat) : Int) = (k : Int) / (n : Int) from by simp]
          exact h
        · exact ((c4.other (B' := B + 2) (by omega) _).other (B' := B + 3) (by omega) _).set _
        · exact (((hBW.setCell (by simp; omega) _).setCell (by simp; omega) _).setCell (by simp; omega) _).drew
    · have g1 : ((((k : Int) % (n : Int)) - (pre.length : Int)) == 0) = false := by simp; omega
      have hne : (pre.length : Int) + 1 ≤ (k : Int) % (n : Int) := by
        have : ((k % n : Nat) : Int) = (k : Int) % (n : Int) := by simp
        omega
      gi_wp2
      refine ⟨(KeepsOthers.setCell _ _ _).from _, KeepsAt.far _ _ _ (by simp), ⟨⟨⟨⟨⟨⟨⟨c0.other (by omega) _, c1.other (by omega) _⟩, c2.other (by omega) _⟩, c3.other (by omega) _⟩, c4.other (by omega) _⟩, ?_⟩, ?_⟩, hBW.setCell (by simp; omega) _⟩⟩
      · have h := c5.set (.int .i64 ((k : Int) % (n : Int) - (pre.length : Int) - 1))
        simpa [Int.sub_sub] using h
      · simp; omega
  case hdone =>
    rintro D ys W hD rfl ⟨⟨_, hle⟩, _⟩ hK
    rw [ord_length n (by omega)] at hle
    have := Nat.mod_lt k (show 0 < n by omega)
    omega
  case hstop =>
    rintro D c pre W hD hp ⟨⟨⟨⟨rfl, ini, x, rfl, hl, c2⟩, c3⟩, c4⟩, hBW⟩ hK
    have k2 := cell_kept c2.cell (grownBy_putObj' W D (.deferred none)) (fun r e => by cases e; exact ⟨_, hK, rfl⟩)
    have k3 := cell_kept c3.cell (grownBy_putObj' W D (.deferred none)) (fun r e => by cases e; exact ⟨_, hK, rfl⟩)
    have k4 := cell_kept c4.cell (grownBy_putObj' W D (.deferred none)) (fun r e => by cases e; exact ⟨_, hK, rfl⟩)
    have hx : (ord n).getD (k % n) 0 = x := by rw [← hl]; exact pre_last 0 hp
    have Hx := Lib.hid hx
    clear hx hp c2 c3 c4
    dsimp only
    gi_wp2
    refine ⟨by simp, .inl ⟨_, _, rfl, run_takeDeferred hK, ?_⟩⟩
    refine ⟨.tuple #[.int .i64 x, .int .i64 ((k / n : Nat) : Int), .int .i64 0], ?_, by rw [Hx.out], ?_⟩
    · simp [results, Try.results40, go_sem, k2, k3, k4]
    · rw [HwB.out]
      exact hBW.trans (belowK_b (w := w) (by have := HwB.out; omega) W D _ _ (by have := HBs.out; have := HwB.out; omega) hK rfl rfl)

set_option maxRecDepth 100000 in
set_option maxHeartbeats 2000000 in
theorem at_no (a0 a1 : Int) (h : ¬ (1 ≤ a0 ∧ a0 ≤ 64 ∧ 0 ≤ a1 ∧ a1 < a0 * 16)) (w : World) :
    Calls Try.prog 40 #[.int .i64 a0, .int .i64 a1] w fun e w' => e = .returned (.tuple #[.int .i64 0, .int .i64 0, .int .i64 1]) ∧ Below w.heap.size w w' := by
  have hfin : ∀ W' : World, Below w.heap.size w W' → Below w.heap.size w W' := fun _ h => h
  have hb : Below w.heap.size w (((((w.alloc (.cells #[.int .i64 a0] 3)).alloc (.cells #[.int .i64 a1] 3)).alloc (.cells #[.int .i64 0] 3)).alloc (.cells #[.int .i64 0] 3)).alloc (.cells #[.int .i64 1] 29)) :=
    (((((Below.refl _ w).alloc (by omega) _).alloc (by simp) _).alloc (by simp; omega) _).alloc (by simp; omega) _).alloc (by simp; omega) _
  by_cases hm : 1 ≤ a0 ∧ a0 ≤ 64
  · by_cases h1 : a1 < 0
    · have g1 : decide (a1 < 0) = true := by simp; omega
      go_enter Try.func40, Try.ntmps40
      go_wp2_with (go_at_call 68; refine (may_any _ true (mayB_yes hm) _).mono ?_; rintro e w' ⟨rfl, rfl⟩)
      exact bodyPost_ret (v := .tuple #[.int .i64 0, .int .i64 0, .int .i64 1]) (by simp [results, Try.results40, go_sem]) rfl ⟨rfl, by repeat (first | exact hb | refine Below.setCell ?_ (by simp; omega) _)⟩
    · have g1 : decide (a1 < 0) = false := by simp; omega
      have g2 : decide (a0 * 16 ≤ a1) = true := by simp; omega
      go_enter Try.func40, Try.ntmps40
      go_wp2_with (go_at_call 68; refine (may_any _ true (mayB_yes hm) _).mono ?_; rintro e w' ⟨rfl, rfl⟩)
      exact bodyPost_ret (v := .tuple #[.int .i64 0, .int .i64 0, .int .i64 1]) (by simp [results, Try.results40, go_sem]) rfl ⟨rfl, by repeat (first | exact hb | refine Below.setCell ?_ (by simp; omega) _)⟩
  · go_enter Try.func40, Try.ntmps40
    go_wp2_with (go_at_call 68; refine (may_any _ false (mayB_no hm) _).mono ?_; rintro e w' ⟨rfl, rfl⟩)
    exact bodyPost_ret (v := .tuple #[.int .i64 0, .int .i64 0, .int .i64 1]) (by simp [results, Try.results40, go_sem]) rfl ⟨rfl, by repeat (first | exact hb | refine Below.setCell ?_ (by simp; omega) _)⟩

theorem sched_At.calls (a0 : Int) (a1 : Int) (r1 : Int) (r2 : Int) (r3 : Int) (w : World) (h : sched_At.f a0 a1 = some (r1, r2, r3)) :
    Calls Try.prog 40 #[.int .i64 a0, .int .i64 a1] w fun e w' => e = .returned (.tuple #[.int .i64 r1, .int .i64 r2, .int .i64 r3]) ∧ Below w.heap.size w w' := by
  unfold sched_At.f at h
  by_cases hc : 1 ≤ a0 ∧ a0 ≤ 64 ∧ 0 ≤ a1 ∧ a1 < a0 * 16
  · rw [if_pos hc] at h
    obtain ⟨h1, h2, h3, h4⟩ := hc
    obtain ⟨n, rfl⟩ := Int.eq_ofNat_of_zero_le (show 0 ≤ a0 by omega)
    obtain ⟨k, rfl⟩ := Int.eq_ofNat_of_zero_le h3
    have e1 : ((k : Int) % (n : Int)).toNat = k % n := by rw [← Int.natCast_emod]; rfl
    simp only [e1, Option.some.injEq, Prod.mk.injEq] at h
    obtain ⟨rfl, rfl, rfl⟩ := h
    have := at_yes n k (by omega) (by omega) (by omega) w
    exact this
  · rw [if_neg hc] at h
    simp only [Option.some.injEq, Prod.mk.injEq] at h
    obtain ⟨rfl, rfl, rfl⟩ := h
    exact at_no a0 a1 hc w

theorem mem_ord (n : Nat) (hn : n ≤ 64) (s : Nat) (hs : s < n) : (s : Int) ∈ ord n := by
  unfold ord
  rw [List.mem_flatMap]
  refine ⟨s % 8, ?_, ?_⟩
  · have h : s % 8 = 0 ∨ s % 8 = 1 ∨ s % 8 = 2 ∨ s % 8 = 3 ∨ s % 8 = 4 ∨ s % 8 = 5 ∨ s % 8 = 6 ∨ s % 8 = 7 := by omega
    rcases h with h | h | h | h | h | h | h | h <;> rw [h] <;> decide
  · unfold col
    rw [List.mem_map]
    exact ⟨s / 8, by rw [List.mem_range]; omega, by congr 1; omega⟩
theorem idx_of_prefix {xs ini : List Int} {s : Int} (h : ini ++ [s] <+: xs) (hs : s ∉ ini) : xs.idxOf s = ini.length := by
  obtain ⟨r, rfl⟩ := h
  induction ini with
  | nil => simp
  | cons a ini ih =>
    have h1 : a ≠ s := fun e => hs (by simp [e])
    have h2 : s ∉ ini := fun e => hs (by simp [e])
    have := ih h2
    simp only [List.cons_append, List.length_cons] at this ⊢
    rw [List.idxOf_cons, show (a == s) = false from by simpa using h1, this]
    rfl

end Go.Proofs.Ytekojicaeadepaa.P
