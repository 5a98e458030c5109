/- The order of any number of segments, what stands at any place, and the place of anything are the reference's, at all arguments; no conditions. -/
import Derived.Test.YtmihnicknicckaaPxVolutelaw07Schedexact
import Derived.Test.YtmihnicknicckaaOrdFacts
import Derived.Test.YtmihnicknicckaaKeepFacts
namespace Go.Proofs.Ytmihnicknicckaa.Pure
open Go.RowKit Go.Proofs.Ytmihnicknicckaa.P Go.Proofs.YtmihnicknicckaaW.PrintWords Go.Proofs.YtmihnicknicckaaW.PrintLast Go.Proofs.YtmihnicknicckaaW.PrintMore
set_option linter.unusedVariables false
set_option linter.unusedSimpArgs false

theorem wakesX (k : Nat) (hk : 10 ≤ k) : volutelaw07_wakes.f k = some true := by
  have h : volutelaw07_wakes.f 10 = some true := by decide +kernel
  exact at_rounds volutelaw07_wakes.mono hk h
theorem ref_order100 : ∀ n : Nat, n < 65 → 1 ≤ n → voluteref04_Order.f 100 (n : Int) = some (ord n) := by decide +kernel
theorem ref_order (n k : Nat) (hn : n < 65) (h1 : 1 ≤ n) (hk : 100 ≤ k) : voluteref04_Order.f k (n : Int) = some (ord n) :=
  at_rounds (voluteref04_Order.mono (n : Int)) hk (ref_order100 n hn h1)
theorem exact_l0 (n a i p : Nat) (x14 : Int) (hn : n < 65) (ha : a < n) (hx : x14 = wrap64 (wrap64 ((i : Int) * (n : Int)) + ((ord n).idxOf (a : Int) : Nat))) (d : Nat) : ∀ (k j : Nat), j ≤ (ord n).idxOf (a : Int) → (ord n).idxOf (a : Int) - j = d → d + 20 < k →
    volutelaw07_SchedExact.l0 k (n : Int) (a : Int) (i : Int) x14 0 (ord n) (j : Int) = some true := by
  have hl := ord_len n hn
  have hmem := mem_ord n (by omega) a ha
  have hlt := List.idxOf_lt_length_of_mem hmem
  have hget : (ord n)[(ord n).idxOf (a : Int)] = (a : Int) := List.getElem_idxOf hlt
  induction d with
  | zero =>
    intro k j hj hd hk
    obtain ⟨k, rfl⟩ : ∃ m, k = m + 1 := ⟨k - 1, by omega⟩
    obtain rfl : j = (ord n).idxOf (a : Int) := by omega
    rw [volutelaw07_SchedExact.l0, if_pos (by omega), if_pos (by omega), if_pos (by omega), rd_get _ _ hlt, hget, if_pos rfl, if_pos rfl, if_pos hx, wakesX k (by omega)]
    rfl
  | succ d ih =>
    intro k j hj hd hk
    obtain ⟨k, rfl⟩ : ∃ m, k = m + 1 := ⟨k - 1, by omega⟩
    have hj2 : j < (ord n).length := by omega
    have hne : (ord n)[j] ≠ (a : Int) := by
      intro e
      have h := ord_idx n hn j (by omega)
      rw [List.getD_eq_getElem?_getD, List.getElem?_eq_getElem hj2] at h
      simp only [Option.getD_some, e] at h
      omega
    rw [volutelaw07_SchedExact.l0, if_pos (by omega), if_pos (by omega), if_pos (by omega), rd_get _ _ hj2, if_neg hne, wsucc j (by omega)]
    exact ih k (j + 1) (by omega) (by omega) (by omega)
theorem exact_j2 (n : Nat) (x2 x3 x14 x15 : Int) (h1 : 1 ≤ n) (hn : n < 65) (hp : sched_Place.f (n : Int) x2 x3 = some (x14, x15)) (k : Nat) (hk : 120 ≤ k) :
    volutelaw07_SchedExact.j2 k (n : Int) x2 x3 x14 x15 (ord n) = some true := by
  obtain ⟨k, rfl⟩ : ∃ m, k = m + 2 := ⟨k - 2, by omega⟩
  unfold sched_Place.f at hp
  by_cases hc : 1 ≤ (n : Int) ∧ (n : Int) ≤ 64 ∧ 0 ≤ x2 ∧ x2 < (n : Int) ∧ 0 ≤ x3 ∧ x3 < 16
  · rw [if_pos hc] at hp
    obtain ⟨_, _, c1, c2, c3, c4⟩ := hc
    obtain ⟨a, rfl⟩ := Int.eq_ofNat_of_zero_le c1
    obtain ⟨i, rfl⟩ := Int.eq_ofNat_of_zero_le c3
    simp only [Option.some.injEq, Prod.mk.injEq, Int.toNat_natCast] at hp
    obtain ⟨e14, rfl⟩ := hp
    have hlt := List.idxOf_lt_length_of_mem (mem_ord n (by omega) a (by omega))
    rw [ord_len n hn] at hlt
    have hlt2 := hlt
    have hx : x14 = wrap64 (wrap64 ((i : Int) * (n : Int)) + ((ord n).idxOf (a : Int) : Nat)) := by
      rw [← e14]
      have hm : ((i * n : Nat) : Int) = (i : Int) * (n : Int) := by push_cast; rfl
      have hb : i * n ≤ 16 * 64 := Nat.mul_le_mul (by omega) (by omega)
      rw [← hm]
      generalize (ord n).idxOf (a : Int) = z at *
      generalize i * n = y at *
      rw [w64 (x := (y : Int)) (by omega) (by omega), w64 (by omega) (by omega)]
    rw [volutelaw07_SchedExact.j2, if_neg (by omega), if_neg (by omega), if_neg (by omega), volutelaw07_SchedExact.j3, if_neg (by simp; omega)]
    exact exact_l0 n a i 0 x14 hn (by omega) hx ((ord n).idxOf (a : Int)) k 0 (by omega) (by omega) (by omega)
  · rw [if_neg hc] at hp
    simp only [Option.some.injEq, Prod.mk.injEq] at hp
    obtain ⟨rfl, rfl⟩ := hp
    have hj3 : ∀ b, b = true → volutelaw07_SchedExact.j3 (k + 1) (n : Int) x2 x3 0 1 (ord n) b = some true := by
      rintro b rfl
      rw [volutelaw07_SchedExact.j3, if_pos rfl, if_pos rfl, if_pos rfl, wakesX k (by omega)]; rfl
    rw [volutelaw07_SchedExact.j2]
    by_cases c1 : x2 < 0
    · rw [if_pos c1]; exact hj3 _ rfl
    · rw [if_neg c1]
      by_cases c2 : x2 ≥ (n : Int)
      · rw [if_pos c2]; exact hj3 _ rfl
      · rw [if_neg c2]
        by_cases c3 : x3 < 0
        · rw [if_pos c3]; exact hj3 _ rfl
        · rw [if_neg c3]; exact hj3 _ (by simp; omega)
theorem exact_j0 (n : Nat) (x1 x2 x3 x11 x12 x13 x14 x15 : Int) (h1 : 1 ≤ n) (hn : n < 65) (ha : sched_At.f (n : Int) x1 = some (x11, x12, x13)) (hp : sched_Place.f (n : Int) x2 x3 = some (x14, x15)) (k : Nat) (hk : 200 ≤ k) :
    volutelaw07_SchedExact.j0 k (n : Int) x1 x2 x3 (ord n) x11 x12 x13 x14 x15 (ord n) false = some true := by
  obtain ⟨k, rfl⟩ : ∃ m, k = m + 2 := ⟨k - 2, by omega⟩
  have hl := ord_len n hn
  obtain ⟨r, hr⟩ := spoilInts_f (ord n).length (k + 1) 0 (ord n) (by omega) (by omega) (by omega) (by omega)
  rw [volutelaw07_SchedExact.j0, if_neg (by simp)]
  unfold volutekeep_SpoilInts.f
  have hr' : volutekeep_SpoilInts.l0 (k + 1) (ord n) 0 = some r := hr
  rw [hr', Option.bind_some]
  have hj2 := exact_j2 n x2 x3 x14 x15 h1 hn hp k (by omega)
  have hw : wrap64 ((n : Int) * 16) = (n : Int) * 16 := w64 (by omega) (by omega)
  unfold sched_At.f at ha
  by_cases hc : 1 ≤ (n : Int) ∧ (n : Int) ≤ 64 ∧ 0 ≤ x1 ∧ x1 < (n : Int) * 16
  · rw [if_pos hc] at ha
    obtain ⟨_, _, c1, c2⟩ := hc
    obtain ⟨a, rfl⟩ := Int.eq_ofNat_of_zero_le c1
    have em : Int.tmod (a : Int) (n : Int) = ((a % n : Nat) : Int) := by rw [Int.tmod_eq_emod_of_nonneg (by omega)]; simp
    have ed : wrap64 (Int.tdiv (a : Int) (n : Int)) = ((a / n : Nat) : Int) := by
      rw [Int.tdiv_eq_ediv_of_nonneg (by omega), ← Int.natCast_ediv]
      have : a / n ≤ a := Nat.div_le_self _ _
      generalize a / n = z at *
      exact w64 (by omega) (by omega)
    have hml : a % n < (ord n).length := by rw [hl]; exact Nat.mod_lt _ (by omega)
    have e1 : ((a : Int) % (n : Int)).toNat = a % n := by rw [← Int.natCast_emod]; rfl
    have e2 : (a : Int) / (n : Int) = ((a / n : Nat) : Int) := by simp
    simp only [Option.some.injEq, Prod.mk.injEq, Int.toNat_natCast, e1, e2] at ha
    obtain ⟨h11, rfl, rfl⟩ := ha
    have h11' : x11 = (ord n)[a % n] := by
      rw [← h11, List.getD_eq_getElem?_getD, List.getElem?_eq_getElem hml]; rfl
    rw [if_neg (by omega), hw, volutelaw07_SchedExact.j1, if_neg (by simp; omega), if_pos rfl, if_neg (by omega), em, ed, if_pos (by omega), if_pos (by omega), rd_get _ _ hml, if_pos h11', if_pos rfl]
    exact hj2
  · rw [if_neg hc] at ha
    simp only [Option.some.injEq, Prod.mk.injEq] at ha
    obtain ⟨rfl, rfl, rfl⟩ := ha
    have hj1 : ∀ b, b = true → volutelaw07_SchedExact.j1 (k + 1) (n : Int) x1 x2 x3 0 0 1 x14 x15 (ord n) b = some true := by
      rintro b rfl
      rw [volutelaw07_SchedExact.j1, if_pos rfl, if_pos rfl, if_pos rfl, if_pos rfl]; exact hj2
    by_cases c1 : x1 < 0
    · rw [if_pos c1]; exact hj1 _ rfl
    · rw [if_neg c1, hw]; exact hj1 _ (by simp; omega)

theorem SchedExact : volutelaw07_SchedExact.Pure := by
  intro a0 a1 a2 a3 w0 w1 w2 w3
  refine ⟨300, ?_⟩
  unfold volutelaw07_SchedExact.f
  obtain ⟨⟨x11, x12, x13⟩, ha⟩ : ∃ x, sched_At.f a0 a1 = some x := by unfold sched_At.f; split <;> exact ⟨_, rfl⟩
  obtain ⟨⟨x14, x15⟩, hp⟩ : ∃ x, sched_Place.f a0 a2 a3 = some x := by unfold sched_Place.f; split <;> exact ⟨_, rfl⟩
  by_cases hm : 1 ≤ a0 ∧ a0 ≤ 64
  · obtain ⟨n, rfl⟩ := Int.eq_ofNat_of_zero_le (show 0 ≤ a0 by omega)
    have ho : sched_Order.f (n : Int) = some (ord n, 0) := by unfold sched_Order.f; rw [if_pos hm]; simp
    have hN : voluteref04_N.f (n : Int) = some true := by
      unfold voluteref04_N.f; rw [if_pos (by omega)]; simp; omega
    have hl := ord_len n (by omega)
    rw [ho, Option.bind_some, ha, Option.bind_some, hp, Option.bind_some, hN, Option.bind_some, if_pos rfl, ref_order n 300 (by omega) (by omega) (by omega), Option.bind_some]
    dsimp only
    rw [if_pos rfl, ints_f _ _ (by omega) 300 (by omega), Option.bind_some]
    have hd : (!decide (ord n = ord n)) = false := by simp
    rw [hd]
    exact exact_j0 n a1 a2 a3 x11 x12 x13 x14 x15 (by omega) (by omega) ha hp 300 (by omega)
  · have ho : sched_Order.f a0 = some ([], 1) := by unfold sched_Order.f; rw [if_neg hm]
    have hN : voluteref04_N.f a0 = some false := by
      unfold voluteref04_N.f
      by_cases c : a0 ≥ 1
      · rw [if_pos c]; simp; omega
      · rw [if_neg c]
    unfold sched_At.f at ha
    rw [if_neg (by omega)] at ha
    unfold sched_Place.f at hp
    rw [if_neg (by omega)] at hp
    unfold sched_At.f sched_Place.f
    rw [if_neg (by omega), if_neg (by omega), ho, Option.bind_some, Option.bind_some, Option.bind_some, hN, Option.bind_some]
    dsimp only
    rw [if_neg (by simp), if_pos rfl, if_pos rfl, if_pos rfl, if_pos (by simp [wrap64]), wakesX 300 (by omega)]
    rfl
end Go.Proofs.Ytmihnicknicckaa.Pure
