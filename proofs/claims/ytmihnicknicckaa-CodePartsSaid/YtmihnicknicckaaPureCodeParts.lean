/- Parts of a row, one behind the other, are the row; nothing is asked, nothing told; for every block and every cuts; no conditions. -/
import Derived.Test.YtmihnicknicckaaPxVolutelaw08Codeparts
import Derived.Test.YtmihnicknicckaaCodeFacts
namespace Go.Proofs.Ytmihnicknicckaa.Pure
open Go.RowKit Go.Proofs.Ytmihnicknicckaa.P Go.Proofs.YtmihnicknicckaaW.PrintWords Go.Proofs.YtmihnicknicckaaW.PrintLast Go.Proofs.YtmihnicknicckaaW.PrintMore
set_option linter.unusedVariables false
set_option linter.unusedSimpArgs false

theorem cp_l0 (b cuts : List Int) (hb : byteB b = true) (h1 : 1 ≤ b.length) (h2 : b.length ≤ 32) (hc : cuts.length ≤ 20) (d : Nat) : ∀ (k at_ i : Nat), i ≤ cuts.length → cuts.length - i = d → at_ ≤ 2 * b.length * 16 → d + 1300 < k →
    volutelaw08_CodeParts.l0 k b cuts ((2 * b.length * 16 : Nat) : Int) (encI (blockI b) (2 * b.length) 0 (2 * b.length * 16)) (at_ : Int) (i : Int) = some true := by
  induction d with
  | zero =>
    intro k at_ i hi hd ha hk
    obtain ⟨k, rfl⟩ : ∃ m, k = m + 1 := ⟨k - 1, by omega⟩
    have he : code_Encode.f k b (at_ : Int) 0 = some (encI (blockI b) (2 * b.length) at_ 0, 0) := encode_ok b hb h1 h2 at_ 0 (by omega) k (by omega)
    rw [volutelaw08_CodeParts.l0, if_neg (by omega), he, Option.bind_some]
    dsimp only
    rw [if_pos rfl, encI_length, if_pos (by rfl), wakes08 k (by omega)]; rfl
  | succ d ih =>
    intro k at_ i hi hd ha hk
    obtain ⟨k, rfl⟩ : ∃ m, k = m + 1 := ⟨k - 1, by omega⟩
    have e1 : IntKind.u64.wrap (wrap64 (wrap64 (((2 * b.length * 16 : Nat) : Int) - (at_ : Int)) + 1)) = ((2 * b.length * 16 - at_ + 1 : Nat) : Int) := by
      rw [wsub _ _ ha (by omega), wadd1 _ (by omega), u64_nat _ (by omega)]
    have hm := umod (rd cuts (i : Int)) ((2 * b.length * 16 - at_ + 1 : Nat) : Int) (by clear e1; omega) (by clear e1; omega)
    rw [volutelaw08_CodeParts.l0, if_pos (by clear e1 hm; omega), if_pos (by clear e1 hm; omega), e1, if_neg (by clear e1 hm; omega)]
    clear e1
    generalize wrap64 (Int.tmod (IntKind.u64.wrap (rd cuts (i : Int))) ((2 * b.length * 16 - at_ + 1 : Nat) : Int)) = y at *
    obtain ⟨g0, g1⟩ := hm
    obtain ⟨n, rfl⟩ := Int.eq_ofNat_of_zero_le g0
    have he := encode_ok b hb h1 h2 at_ n (by omega) k (by omega)
    have hp := encI_part (blockI b) (2 * b.length) at_ n (2 * b.length * 16) (by omega)
    rw [he, Option.bind_some]
    dsimp only
    rw [if_pos rfl, encI_length, if_pos rfl, if_pos (by omega), wadd _ _ (by omega), if_pos (by omega), encI_length, if_pos (by omega), Int.toNat_natCast, Int.toNat_natCast, hp, bytes_f _ _ (by rw [encI_length]; omega) k (by rw [encI_length]; omega), Option.bind_some, if_pos (by simp)]
    clear hp he
    rw [wsucc i (by omega)]
    exact ih k (at_ + n) (i + 1) (by omega) (by omega) (by omega) (by omega)
theorem CodeParts : volutelaw08_CodeParts.Pure := by
  intro b cuts hm hl hw hm2 hl2 hw2
  have hb := byteB_of hw
  refine ⟨1600, ?_⟩
  have hj0 : ∀ bb, bb = decide (b.length < 1 ∨ 32 < b.length ∨ 20 < cuts.length) → volutelaw08_CodeParts.j0 1600 b cuts bb = some true := by
    rintro bb rfl
    by_cases h : b.length < 1 ∨ 32 < b.length ∨ 20 < cuts.length
    · rw [volutelaw08_CodeParts.j0, if_pos (by simpa using h)]
    · rw [volutelaw08_CodeParts.j0, if_neg (by simpa using h)]
      have e2 : wrap64 (2 * (b.length : Int)) = ((2 * b.length : Nat) : Int) := by unfold wrap64; omega
      have he := encode_ok b hb (by omega) (by omega) 0 (2 * b.length * 16) (by omega) 1599 (by omega)
      have he' : code_Encode.f 1599 b 0 (((2 * b.length * 16 : Nat) : Int)) = some (encI (blockI b) (2 * b.length) 0 (2 * b.length * 16), 0) := he
      rw [e2, most_f _ (by omega), Option.bind_some, he', Option.bind_some]
      dsimp only
      rw [if_pos rfl, encI_length, bne_self_eq_false, volutelaw08_CodeParts.j1, if_neg (by simp)]
      exact cp_l0 b cuts hb (by omega) (by omega) (by omega) cuts.length 1598 0 0 (by omega) (by omega) (by omega) (by omega)
  unfold volutelaw08_CodeParts.f
  by_cases c1 : (b.length : Int) < 1
  · rw [if_pos c1]; exact hj0 _ (decide_eq_true (by omega)).symm
  · rw [if_neg c1]
    by_cases c2 : (b.length : Int) > 32
    · rw [if_pos c2]; exact hj0 _ (decide_eq_true (by omega)).symm
    · rw [if_neg c2]; exact hj0 _ (decide_eq_decide.2 (by omega))
end Go.Proofs.Ytmihnicknicckaa.Pure
