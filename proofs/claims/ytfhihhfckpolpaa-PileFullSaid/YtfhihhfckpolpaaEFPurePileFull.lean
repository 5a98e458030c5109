/- What the law's proof needs: PurePileFull. -/
import Derived.Test.YtfhihhfckpolpaaEFPxVolutelaw09Pilefull
import Derived.Test.YtfhihhfckpolpaaEFPileMore
namespace Go.Proofs.Ytfhihhfckpolpaa.Pure
open Go.RowKit Go.Proofs.Ytfhihhfckpolpaa.P Go.Proofs.YtfhihhfckpolpaaW.PrintWords Go.Proofs.YtfhihhfckpolpaaW.PrintLast Go.Proofs.YtfhihhfckpolpaaW.PrintMore
set_option linter.unusedVariables false
set_option linter.unusedSimpArgs false
theorem full_l0 (n p : Nat) (a2 : Int) (hn : 1 ≤ n ∧ n ≤ 30) (hp : 1 ≤ p ∧ p ≤ 8) (M : Nat) (hM : n * p = M) (hM2 : 1 ≤ M ∧ M ≤ 240) (d : Nat) : ∀ (k j : Nat) (l : List Sy), j ≤ M → M - j = d → d + 1200 < k → pileB n p l = true → l.length = j → (∀ s ∈ l, s.f0 < j) → (∀ i : Int, 0 ≤ i → i < j → ∃ s ∈ l, s.f0 = i) →
    volutelaw09_PileFull.l0 k (n : Int) (p : Int) a2 (j : Int) (n : Int) (p : Int) l = some true := by
  have hMi : (n : Int) * (p : Int) = (M : Int) := by rw [← hM]; simp
  have hw : wrap64 ((n : Int) * (p : Int)) = (M : Int) := by rw [hMi]; exact wnat M (by omega)
  induction d with
  | zero =>
    intro k j l hj hd hk hpl hlen hlt hall
    obtain ⟨k, rfl⟩ : ∃ m, k = m + 1 := ⟨k - 1, by omega⟩
    obtain rfl : j = M := by omega
    have hpb := hpl
    simp only [pileB, Bool.and_eq_true] at hpb
    have ew5 : IntKind.u64.wrap (wrap64 ((j : Int) + 5)) = (j : Int) + 5 := by rw [w64 (by omega) (by omega)]; exact u64_id (by omega) (by omega)
    have hx := umod a2 ((j : Int) + 5) (by omega) (by omega)
    rw [volutelaw09_PileFull.l0, hw, if_neg (by omega), ew5, if_neg (by omega)]
    obtain ⟨x, hxe⟩ : ∃ x, x = wrap64 (Int.tmod (IntKind.u64.wrap a2) ((j : Int) + 5)) := ⟨_, rfl⟩
    rw [← hxe] at hx ⊢
    have hf : freshB ((n : Int) * (p : Int)) x l = false := by
      unfold freshB
      by_cases c : x < (j : Int)
      · have : hasB x l = true := (has_mem l _ hpb.2 x).2 (hall x hx.1 c)
        rw [this]; rfl
      · rw [hMi, decide_eq_false c, Bool.and_false]
    have hput := put_f hpl x 3 ⟨hx.1, by omega⟩ rfl k (by omega)
    rw [hf, if_neg (by decide)] at hput
    rw [hput, Option.bind_some]
    dsimp only
    rw [if_pos rfl, if_neg (by decide), keepPile _ _ l (by omega) k (by omega), Option.bind_some, if_pos rfl, if_pos (by omega), check_f _ _ l (by omega) k (by omega), hpl, Option.bind_some, if_pos rfl, if_pos rfl, wakes09 k (by omega)]
    rfl
  | succ d ih =>
    intro k j l hj hd hk hpl hlen hlt hall
    obtain ⟨k, rfl⟩ : ∃ m, k = m + 1 := ⟨k - 1, by omega⟩
    have hpb := hpl
    simp only [pileB, Bool.and_eq_true] at hpb
    have hv := umod (wrap64 (a2 + (j : Int))) 256 (by omega) (by omega)
    obtain ⟨v, hve⟩ : ∃ v, v = wrap64 (Int.tmod (IntKind.u64.wrap (wrap64 (a2 + (j : Int)))) 256) := ⟨_, rfl⟩
    rw [volutelaw09_PileFull.l0, hw, if_pos (by omega), ← hve]
    rw [← hve] at hv
    have hbv : byteV v = true := by unfold byteV; rw [decide_eq_true hv.1, decide_eq_true (show v ≤ 255 by omega)]; rfl
    have hno : hasB (j : Int) l = false := by
      cases hb : hasB (j : Int) l with
      | false => rfl
      | true =>
        obtain ⟨s, hs, e⟩ := (has_mem l _ hpb.2 _).1 hb
        have := hlt s hs
        omega
    have hf : freshB ((n : Int) * (p : Int)) (j : Int) l = true := by
      unfold freshB
      rw [hno, hMi, decide_eq_true (by omega)]; rfl
    have hput := put_f hpl (j : Int) v ⟨by omega, by omega⟩ hbv k (by omega)
    rw [hf, if_pos rfl] at hput
    rw [hput, Option.bind_some]
    dsimp only
    rw [if_pos rfl, if_pos rfl, wadd1 j (by omega)]
    refine ih k (j + 1) (ins j v l) (by omega) (by omega) (by omega) (pile_ins hpl _ _ (by omega) hbv hf) (by rw [ins_length, hlen]) ?_ ?_
    · intro s hs
      rcases (mem_ins _ _ l s).1 hs with rfl | hs
      · show (j : Int) < ((j + 1 : Nat) : Int); omega
      · have := hlt s hs
        omega
    · intro i h0 h1
      by_cases c : i < (j : Int)
      · obtain ⟨s, hs, e⟩ := hall i h0 c
        exact ⟨s, (mem_ins _ _ l s).2 (.inr hs), e⟩
      · exact ⟨⟨(j : Int), v⟩, (mem_ins _ _ l _).2 (.inl rfl), by show (j : Int) = i; omega⟩
theorem PileFull : volutelaw09_PileFull.Pure := by
  intro a0 a1 a2 h0 h1 h2
  refine ⟨2000, ?_⟩
  have hn := umod a0 30 (by omega) (by omega)
  have hp := umod a1 8 (by omega) (by omega)
  unfold volutelaw09_PileFull.f
  obtain ⟨x, hx⟩ : ∃ x, x = wrap64 (Int.tmod (IntKind.u64.wrap a0) 30) := ⟨_, rfl⟩
  obtain ⟨y, hy⟩ : ∃ y, y = wrap64 (Int.tmod (IntKind.u64.wrap a1) 8) := ⟨_, rfl⟩
  rw [← hx] at hn ⊢
  rw [← hy] at hp ⊢
  obtain ⟨x, rfl⟩ := Int.eq_ofNat_of_zero_le hn.1
  obtain ⟨y, rfl⟩ := Int.eq_ofNat_of_zero_le hp.1
  have ex : wrap64 (1 + (x : Int)) = ((1 + x : Nat) : Int) := wadd 1 x (by omega)
  have ey : wrap64 (1 + (y : Int)) = ((1 + y : Nat) : Int) := wadd 1 y (by omega)
  rw [ex, ey]
  have hmay : mayB ((1 + x : Nat) : Int) ((1 + y : Nat) : Int) = true := by
    unfold mayB
    rw [decide_eq_true (by omega), decide_eq_true (by omega), decide_eq_true (by omega), decide_eq_true (by omega)]; rfl
  have hM := Nat.mul_le_mul (show 1 + x ≤ 30 by omega) (show 1 + y ≤ 8 by omega)
  have hM1 := Nat.mul_le_mul (show 1 ≤ 1 + x by omega) (show 1 ≤ 1 + y by omega)
  rw [new_f _ _ hmay, Option.bind_some]
  dsimp only
  rw [if_pos rfl]
  exact full_l0 (1 + x) (1 + y) a2 (by omega) (by omega) _ rfl ⟨by omega, by omega⟩ _ 2000 0 [] (by omega) rfl (by omega) (by unfold pileB; rw [hmay]; rfl) rfl (by intro s hs; cases hs) (by intro i h1 h2; omega)
end Go.Proofs.Ytfhihhfckpolpaa.Pure
