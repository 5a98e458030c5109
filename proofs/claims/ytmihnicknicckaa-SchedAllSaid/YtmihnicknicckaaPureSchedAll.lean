/- A pass has each segment once, each symbol has its place and each place its symbol, for every number of segments and every pass; no conditions. -/
import Derived.Test.YtmihnicknicckaaPxVolutelaw07Schedall
import Derived.Test.YtmihnicknicckaaOrdFacts
namespace Go.Proofs.Ytmihnicknicckaa.Pure
open Go.RowKit Go.Proofs.Ytmihnicknicckaa.P Go.Proofs.YtmihnicknicckaaW.PrintWords Go.Proofs.YtmihnicknicckaaW.PrintLast Go.Proofs.YtmihnicknicckaaW.PrintMore
set_option linter.unusedVariables false
set_option linter.unusedSimpArgs false

theorem wakes07 (k : Nat) (hk : 10 ≤ k) : volutelaw07_wakes.f k = some true := by
  obtain ⟨m, rfl⟩ : ∃ m, k = m + 10 := ⟨k - 10, by omega⟩
  have h : volutelaw07_wakes.f 10 = some true := by decide +kernel
  exact at_rounds (volutelaw07_wakes.mono) (Nat.le_add_left _ _) h

theorem all_loop (n p : Nat) (h1 : 1 ≤ n) (hn : n < 65) (hp : p < 16) (d : Nat) : ∀ (k i : Nat) (seen : List Bool), i ≤ n → n - i = d → seen.length = n →
    (∀ j, i ≤ j → j < n → seen.getD ((ord n).getD j 0).toNat false = false) → 2 * d + 20 < k →
    volutelaw07_SchedAll.l0 k (n : Int) (p : Int) (ord n) seen (i : Int) = some true := by
  induction d with
  | zero =>
    intro k i seen hi hd hs _ hk
    obtain ⟨k, rfl⟩ : ∃ m, k = m + 1 := ⟨k - 1, by omega⟩
    simp only [volutelaw07_SchedAll.l0]
    rw [if_neg (by omega), wakes07 k (by omega)]; rfl
  | succ d ih =>
    intro k i seen hi hd hs hf hk
    obtain ⟨k, rfl⟩ : ∃ m, k = m + 2 := ⟨k - 2, by omega⟩
    have hin : i < n := by omega
    have hl := ord_len n hn
    obtain ⟨r0, r1⟩ := ord_rng n hn i hin
    have hfi := hf i (Nat.le_refl _) hin
    have hinj := fun j (hj : j < n) => @ord_inj n j i hn hj hin
    have hb : p * n + i < n * 16 := by
      have : p * n ≤ 15 * n := Nat.mul_le_mul_right _ (by omega)
      omega
    simp only [volutelaw07_SchedAll.l0]
    rw [if_pos (by omega), if_pos (by omega), if_pos (by omega), ord_rd hn hin]
    have hat := at_pass n p i h1 hn hp hin
    have hpl := place_pass n p i h1 hn hp hin
    generalize (ord n).getD i 0 = v at *
    obtain ⟨u, rfl⟩ := Int.eq_ofNat_of_zero_le r0
    rw [if_neg (by omega), if_neg (by omega), if_pos (by omega), if_pos (by omega)]
    have hsee : rdOf false seen ((u : Nat) : Int) = false := by simpa [rdOf] using hfi
    rw [hsee]
    simp only [volutelaw07_SchedAll.j2]
    rw [if_neg (by simp), if_pos (by omega), if_pos (by omega), ord_rd hn hin]
    have ev : (ord n).getD i 0 = (u : Int) := by
      have h := hat
      have h2 := at_pass n p i h1 hn hp hin
      rw [h] at h2
      simp only [Option.some.injEq, Prod.mk.injEq] at h2
      exact h2.1.symm
    have ew : wrap64 (wrap64 ((p : Int) * (n : Int)) + (i : Int)) = ((p * n + i : Nat) : Int) := by
      have hm : ((p * n : Nat) : Int) = (p : Int) * (n : Int) := by push_cast; rfl
      rw [← hm, w64 (x := ((p * n : Nat) : Int)) (by omega) (by omega), w64 (by omega) (by omega)]
      push_cast; rfl
    rw [ev, ew, if_pos (by omega), if_pos (by omega), hat, hpl, Option.bind_some, Option.bind_some]
    dsimp only
    clear ev ew hat hpl
    have e1 : wrap64 ((i : Int) + 1) = ((i + 1 : Nat) : Int) := by
      clear ih hf hinj hsee
      unfold wrap64
      omega
    rewrite [if_pos rfl, if_pos rfl, if_pos rfl, if_pos rfl, if_pos rfl]
    refine (congrArg (fun z => volutelaw07_SchedAll.l0 k (n : Int) (p : Int) (ord n) (seen.set (u : Int).toNat true) z) e1).trans ?_
    clear e1
    refine ih k (i + 1) _ (by omega) (by omega) (by simpa using hs) ?_ (by omega)
    intro j hj hjn
    have hne : ((ord n).getD j 0).toNat ≠ u := by
      intro e
      have r := (ord_rng n hn j hjn).1
      have h2 : (ord n).getD j 0 = (u : Int) := by
        generalize (ord n).getD j 0 = z at *
        omega
      have h3 := hinj j hjn h2
      clear h2 r e
      omega
    have := hf j (by omega) hjn
    simp only [Int.toNat_natCast]
    rw [List.getD_eq_getElem?_getD, List.getElem?_set_ne (by omega)]
    rw [List.getD_eq_getElem?_getD] at this
    exact this

theorem SchedAll : volutelaw07_SchedAll.Pure := by
  intro a0 a1 _ _
  refine ⟨300, ?_⟩
  unfold volutelaw07_SchedAll.f
  obtain ⟨h0, h1⟩ := umod a0 64 (by omega) (by omega)
  generalize wrap64 (Int.tmod (IntKind.u64.wrap a0) 64) = x at *
  obtain ⟨m, rfl⟩ := Int.eq_ofNat_of_zero_le h0
  obtain ⟨g0, g1⟩ := umod a1 16 (by omega) (by omega)
  generalize wrap64 (Int.tmod (IntKind.u64.wrap a1) 16) = y at *
  obtain ⟨p, rfl⟩ := Int.eq_ofNat_of_zero_le g0
  rw [w64 (x := 1 + (m : Int)) (by omega) (by omega)]
  obtain ⟨n, hn⟩ : ∃ n, n = 1 + m := ⟨_, rfl⟩
  have en : 1 + (m : Int) = (n : Int) := by omega
  rw [en]
  have hl := ord_len n (by omega)
  have ho : sched_Order.f (n : Int) = some (ord n, 0) := by unfold sched_Order.f; rw [if_pos (by omega)]; simp
  rw [ho]
  rw [Option.bind_some]
  dsimp only
  rw [if_pos rfl, hl, bne_self_eq_false]
  simp only [volutelaw07_SchedAll.j0]
  rw [if_neg (by simp), if_pos (by omega), if_pos (by omega)]
  exact all_loop n p (by omega) (by omega) (by omega) n 299 0 _ (by omega) (by omega) (by simp) (fun j _ hj => by
    simp only [Int.toNat_natCast]
    rw [List.getD_eq_getElem?_getD, List.getElem?_replicate]
    split <;> rfl) (by omega)
end Go.Proofs.Ytmihnicknicckaa.Pure
