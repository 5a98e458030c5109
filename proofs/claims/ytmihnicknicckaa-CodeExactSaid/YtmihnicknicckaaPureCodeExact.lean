/- The symbols of any block, from any place on, are the reference's; the block stays; no conditions. -/
import Derived.Test.YtmihnicknicckaaPxVolutelaw08Codeexact
import Derived.Test.YtmihnicknicckaaRefCode
namespace Go.Proofs.Ytmihnicknicckaa.Pure
open Go.RowKit Go.Proofs.Ytmihnicknicckaa.P Go.Proofs.YtmihnicknicckaaW.PrintWords Go.Proofs.YtmihnicknicckaaW.PrintLast Go.Proofs.YtmihnicknicckaaW.PrintMore
set_option linter.unusedVariables false
set_option linter.unusedSimpArgs false

theorem ce_j4 (k : Nat) (hk : 1500 ≤ k) (b x8 : List Int) (a c x9 : Int) (bb : Bool) (hx : (bb = true ∧ x9 = 1 ∧ x8 = []) ∨ (bb = false ∧ x9 = 0 ∧ x8.length ≤ 1100 ∧ ∀ k, 1200 ≤ k → voluteref04_Encode.f k b a c = some x8)) :
    volutelaw08_CodeExact.j4 k b a c x8 x9 bb = some true := by
  obtain ⟨k, rfl⟩ : ∃ m, k = m + 1 := ⟨k - 1, by omega⟩
  rcases hx with ⟨rfl, rfl, rfl⟩ | ⟨rfl, rfl, hl, hr⟩
  · rw [volutelaw08_CodeExact.j4, if_pos rfl, if_pos rfl, if_pos (by simp), wakes08 k (by omega)]; rfl
  · rw [volutelaw08_CodeExact.j4, if_neg (by simp), if_pos rfl, hr k (by omega), Option.bind_some, bytes_f _ _ (by omega) k (by omega), Option.bind_some, if_pos (by simp), wakes08 k (by omega)]; rfl
theorem ce_j3 (k : Nat) (hk : 1501 ≤ k) (b x8 : List Int) (hb : byteB b = true) (hb2 : b.length ≤ 100) (a c x9 : Int) (ha : -9223372036854775808 ≤ a ∧ a ≤ 9223372036854775807) (he : code_Encode.f 1600 b a c = some (x8, x9)) (bb : Bool) (hbb : bb = decide (b.length < 1 ∨ 32 < b.length)) :
    volutelaw08_CodeExact.j3 k b a c x8 x9 ((2 * b.length : Nat) : Int) bb = some true := by
  obtain ⟨k, rfl⟩ : ∃ m, k = m + 1 := ⟨k - 1, by omega⟩
  by_cases h : b.length < 1 ∨ 32 < b.length
  · rw [encode_len b h] at he
    simp only [Option.some.injEq, Prod.mk.injEq] at he
    obtain ⟨rfl, rfl⟩ := he
    rw [volutelaw08_CodeExact.j3, hbb, if_pos (by simpa using h), if_pos rfl, if_pos (by simp), wakes08 k (by omega)]; rfl
  · rw [volutelaw08_CodeExact.j3, hbb, if_neg (by simpa using h)]
    have hm := most_f (2 * b.length) (by omega)
    by_cases hc : a < 0 ∨ c < 0 ∨ a > 2 * b.length * 16 ∨ c > 2 * b.length * 16 - a
    · rw [encode_arg b (by omega) (by omega) a c ha hc] at he
      simp only [Option.some.injEq, Prod.mk.injEq] at he
      obtain ⟨rfl, rfl⟩ := he
      have hj : ∀ bb, bb = true → volutelaw08_CodeExact.j4 k b a c [] 1 bb = some true := fun bb e => ce_j4 k (by omega) b [] a c 1 bb (.inl ⟨e, rfl, rfl⟩)
      by_cases c1 : a < 0
      · rw [if_pos c1]; exact hj _ rfl
      · rw [if_neg c1]
        by_cases c2 : c < 0
        · rw [if_pos c2]; exact hj _ rfl
        · rw [if_neg c2, hm, Option.bind_some]
          by_cases c3 : a > ((2 * b.length * 16 : Nat) : Int)
          · rw [if_pos c3]; exact hj _ rfl
          · rw [if_neg c3, Option.bind_some, w64 (x := ((2 * b.length * 16 : Nat) : Int) - a) (by omega) (by omega)]
            exact hj _ (by simp; omega)
    · obtain ⟨a, rfl⟩ := Int.eq_ofNat_of_zero_le (show 0 ≤ a by omega)
      obtain ⟨c, rfl⟩ := Int.eq_ofNat_of_zero_le (show 0 ≤ c by omega)
      rw [encode_ok b hb (by omega) (by omega) a c (by omega) 1600 (by omega)] at he
      simp only [Option.some.injEq, Prod.mk.injEq] at he
      obtain ⟨rfl, rfl⟩ := he
      rw [if_neg (by omega), if_neg (by omega), hm, Option.bind_some, if_neg (by omega), Option.bind_some, w64 (x := ((2 * b.length * 16 : Nat) : Int) - (a : Int)) (by omega) (by omega)]
      exact ce_j4 k (by omega) b _ _ _ _ _ (.inr ⟨by simp; omega, rfl, by rw [encI_length]; omega, fun k hk => rencode_ok b hb (by omega) (by omega) a c (by omega) k hk⟩)
theorem ce_j2 (k : Nat) (hk : 1502 ≤ k) (b x8 : List Int) (hb : byteB b = true) (hb2 : b.length ≤ 100) (a c x9 : Int) (ha : -9223372036854775808 ≤ a ∧ a ≤ 9223372036854775807) (he : code_Encode.f 1600 b a c = some (x8, x9)) :
    volutelaw08_CodeExact.j2 k b a c x8 x9 ((2 * b.length : Nat) : Int) false = some true := by
  obtain ⟨k, rfl⟩ : ∃ m, k = m + 1 := ⟨k - 1, by omega⟩
  rw [volutelaw08_CodeExact.j2, if_neg (by simp)]
  by_cases c1 : (b.length : Int) < 1
  · rw [if_pos c1]; exact ce_j3 k (by omega) b x8 hb hb2 a c x9 ha he _ (decide_eq_true (by omega)).symm
  · rw [if_neg c1]; exact ce_j3 k (by omega) b x8 hb hb2 a c x9 ha he _ (by
      apply decide_eq_decide.2; omega)
theorem ce_j1 (k : Nat) (hk : 1503 ≤ k) (b x8 : List Int) (hb : byteB b = true) (hb2 : b.length ≤ 100) (a c x9 s : Int) (ha : -9223372036854775808 ≤ a ∧ a ≤ 9223372036854775807) (he : code_Encode.f 1600 b a c = some (x8, x9)) (hs : code_Segs.f a = some s) :
    volutelaw08_CodeExact.j1 k b a c b x8 x9 ((2 * b.length : Nat) : Int) s = some true := by
  obtain ⟨k, rfl⟩ : ∃ m, k = m + 1 := ⟨k - 1, by omega⟩
  rw [volutelaw08_CodeExact.j1, bytes_f b b (by omega) k (by omega), Option.bind_some, if_pos (by simp), hs, Option.bind_some, bne_self_eq_false]
  exact ce_j2 k (by omega) b x8 hb hb2 a c x9 ha he
theorem CodeExact : volutelaw08_CodeExact.Pure := by
  intro b a c hm hl hw wa wc
  have ha := wf64 wa
  have hb := byteB_of hw
  refine ⟨1600, ?_⟩
  unfold volutelaw08_CodeExact.f
  by_cases h100 : (b.length : Int) > 100
  · rw [if_pos h100]
  · rw [if_neg h100, twin_f b (by omega), Option.bind_some]
    obtain ⟨⟨x8, x9⟩, he⟩ : ∃ x, code_Encode.f 1600 b a c = some x := by
      by_cases h : b.length < 1 ∨ 32 < b.length
      · exact ⟨_, encode_len b h a c 1600⟩
      · by_cases hc : a < 0 ∨ c < 0 ∨ a > 2 * b.length * 16 ∨ c > 2 * b.length * 16 - a
        · exact ⟨_, encode_arg b (by omega) (by omega) a c ha hc 1600⟩
        · obtain ⟨a, rfl⟩ := Int.eq_ofNat_of_zero_le (show 0 ≤ a by omega)
          obtain ⟨c, rfl⟩ := Int.eq_ofNat_of_zero_le (show 0 ≤ c by omega)
          exact ⟨_, encode_ok b hb (by omega) (by omega) a c (by omega) 1600 (by omega)⟩
    rw [he, Option.bind_some]
    dsimp only
    have e2 : wrap64 (2 * (b.length : Int)) = ((2 * b.length : Nat) : Int) := by unfold wrap64; omega
    rw [e2]
    have hj0 : ∀ bb, bb = decide (0 ≤ a ∧ a ≤ 32) → volutelaw08_CodeExact.j0 1600 b a c b x8 x9 ((2 * b.length : Nat) : Int) 0 bb = some true := by
      rintro bb rfl
      by_cases h : 0 ≤ a ∧ a ≤ 32
      · have hs : code_Segs.f a = some (wrap64 (2 * a)) := by
          unfold code_Segs.f; rw [if_neg (by omega), if_neg (by omega)]
        rw [volutelaw08_CodeExact.j0, if_pos (by simpa using h)]
        exact ce_j1 1599 (by omega) b x8 hb (by omega) a c x9 _ ha he hs
      · have hs : code_Segs.f a = some 0 := segs_f0 a (by omega)
        rw [volutelaw08_CodeExact.j0, if_neg (by simpa using h)]
        exact ce_j1 1599 (by omega) b x8 hb (by omega) a c x9 _ ha he hs
    by_cases c1 : a ≥ 0
    · rw [if_pos c1]; exact hj0 _ (by apply decide_eq_decide.2; omega)
    · rw [if_neg c1]; exact hj0 _ (by simp; omega)
end Go.Proofs.Ytmihnicknicckaa.Pure
