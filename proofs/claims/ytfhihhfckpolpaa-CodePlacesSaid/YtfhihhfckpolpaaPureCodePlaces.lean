/- Each symbol is that of its index, of the state behind its segment; unlike blocks of as many bytes have an unlike symbol in the first four passes; no conditions. -/
import Derived.Test.YtfhihhfckpolpaaPxVolutelaw08Codeplaces
import Derived.Test.YtfhihhfckpolpaaPlaceFacts
namespace Go.Proofs.Ytfhihhfckpolpaa.Pure
open Go.RowKit Go.Proofs.Ytfhihhfckpolpaa.P Go.Proofs.YtfhihhfckpolpaaW.PrintWords Go.Proofs.YtfhihhfckpolpaaW.PrintLast Go.Proofs.YtfhihhfckpolpaaW.PrintMore
set_option linter.unusedVariables false
set_option linter.unusedSimpArgs false

theorem pl_j3 (b c : List Int) (hb : byteB b = true) (hc : byteB c = true) (hl : c.length = b.length) (h1 : 1 ≤ b.length) (h2 : b.length ≤ 32) (k : Nat) (hk : 1300 ≤ k) :
    volutelaw08_CodePlaces.j3 k b c ((2 * b.length : Nat) : Int) false = some true := by
  obtain ⟨k, rfl⟩ : ∃ m, k = m + 1 := ⟨k - 1, by omega⟩
  have ew : wrap64 (4 * ((2 * b.length : Nat) : Int)) = ((4 * (2 * b.length) : Nat) : Int) := wmul 4 (2 * b.length) (by omega)
  have he : code_Encode.f k b 0 ((4 * (2 * b.length) : Nat) : Int) = some (encI (blockI b) (2 * b.length) 0 (4 * (2 * b.length)), 0) := encode_ok b hb h1 h2 0 _ (by omega) k (by omega)
  have hf : code_Encode.f k c 0 ((4 * (2 * b.length) : Nat) : Int) = some (encI (blockI c) (2 * b.length) 0 (4 * (2 * b.length)), 0) := by
    have := encode_ok c hc (by omega) (by omega) 0 (4 * (2 * b.length)) (by omega) k (by omega)
    rw [hl] at this; exact this
  rw [volutelaw08_CodePlaces.j3, if_neg (by simp), ew, he, Option.bind_some, hf, Option.bind_some]
  clear ew
  dsimp only
  rw [if_pos rfl, if_pos rfl, encI_length, if_pos rfl, bytes_f _ _ (by rw [encI_length]; omega) k (by rw [encI_length]; omega), Option.bind_some, bytes_f b c (by omega) k (by omega), Option.bind_some]
  have hd : (decide (encI (blockI b) (2 * b.length) 0 (4 * (2 * b.length)) = encI (blockI c) (2 * b.length) 0 (4 * (2 * b.length))) == decide (b = c)) = true := by
    rw [beq_iff_eq]
    exact decide_eq_decide.2 ⟨enc_inj hb hc hl h1 h2, fun e => by rw [e]⟩
  rw [hd, if_pos rfl, wakes08 k (by omega)]; rfl
theorem pl_j0 (b c : List Int) (hb : byteB b = true) (hc : byteB c = true) (hl : c.length = b.length) (h1 : 1 ≤ b.length) (h2 : b.length ≤ 32) (x2 : Int) (k : Nat) (hk : 1400 ≤ k) :
    volutelaw08_CodePlaces.j0 k b c x2 false = some true := by
  obtain ⟨k, rfl⟩ : ∃ m, k = m + 3 := ⟨k - 3, by omega⟩
  have e2 : wrap64 (2 * (b.length : Int)) = ((2 * b.length : Nat) : Int) := wmul 2 b.length (by omega)
  have hm := umod x2 ((2 * b.length * 16 : Nat) : Int) (by omega) (by omega)
  rw [volutelaw08_CodePlaces.j0, if_neg (by simp), e2, most_f _ (by omega), Option.bind_some, u64_nat _ (by clear e2 hm; omega), if_neg (by clear e2 hm; omega)]
  clear e2
  generalize wrap64 (Int.tmod (IntKind.u64.wrap x2) ((2 * b.length * 16 : Nat) : Int)) = y at *
  obtain ⟨g0, g1⟩ := hm
  obtain ⟨a, rfl⟩ := Int.eq_ofNat_of_zero_le g0
  have ha : a < 2 * b.length * 16 := by omega
  have he : code_Encode.f (k + 2) b (a : Int) 1 = some (encI (blockI b) (2 * b.length) a 1, 0) := encode_ok b hb h1 h2 a 1 (by omega) (k + 2) (by omega)
  have hat := at_place (2 * b.length) a (by omega) (by omega) ha
  have hnb : bit_Nibbles.f b = some (nibs b, 0) := by unfold bit_Nibbles.f; rw [if_pos (by omega), if_pos hb]
  have hq : a / (2 * b.length) < 16 := Nat.div_lt_of_lt_mul ha
  have hml : a % (2 * b.length) < 2 * b.length := Nat.mod_lt _ (by omega)
  obtain ⟨r0, r1⟩ := ord_rng (2 * b.length) (by omega) _ hml
  have hen : encI (blockI b) (2 * b.length) a 1 = [symI ((blockI b).getD ((ord (2 * b.length)).getD (a % (2 * b.length)) 0).toNat 0) ((a / (2 * b.length) : Nat) : Int) % 256] := by simp [encI]
  rw [he, Option.bind_some, hat, Option.bind_some, hnb, Option.bind_some, hen]
  clear he hat hnb hen
  dsimp only
  generalize (ord (2 * b.length)).getD (a % (2 * b.length)) 0 = v at *
  generalize a / (2 * b.length) = q at *
  obtain ⟨u, rfl⟩ := Int.eq_ofNat_of_zero_le r0
  have hu : u < 2 * b.length := by omega
  have hst := states_f (nibs b) (nibs_nib hb) (by rw [nibs_length]; omega) k (by omega)
  rw [if_pos rfl, if_pos rfl, if_pos rfl, if_pos (by rfl), nibs_length, if_pos rfl, if_neg (by omega)]
  have hd : decide ((u : Int) ≥ ((2 * b.length : Nat) : Int)) = false := decide_eq_false (by omega)
  have hst1 := states_f (nibs b) (nibs_nib hb) (by rw [nibs_length]; omega) (k + 1) (by omega)
  rw [hd, volutelaw08_CodePlaces.j1, if_neg (by simp), hst1, Option.bind_some]
  clear hst hst1 hd
  dsimp only
  have hsl : ((stsI beginI (nibs b)).length : Int) = ((2 * b.length : Nat) : Int) := by rw [stsI_length, nibs_length]
  rw [if_pos rfl, hsl, bne_self_eq_false, volutelaw08_CodePlaces.j2, if_neg (by simp), if_pos (by clear hsl; omega), hsl, if_pos (by clear hsl; omega)]
  clear hsl
  rw [of_f _ _ (by omega) (by omega) k (by omega), Option.bind_some]
  dsimp only
  have e : rd (stsI beginI (nibs b)) ((u : Nat) : Int) = (blockI b).getD u 0 := by simp [rd, blockI]
  rw [if_pos rfl, if_pos (by simp), e]
  have hs := block_st hb u hu
  obtain ⟨y0, y1⟩ := symI_byte hs q
  have e3 : ((wrap64 (rd [symI ((blockI b).getD ((u : Int)).toNat 0) (q : Int) % 256] 0)) != symI ((blockI b).getD u 0) (q : Int)) = false := by
    have e4 : rd [symI ((blockI b).getD ((u : Int)).toNat 0) (q : Int) % 256] 0 = symI ((blockI b).getD u 0) (q : Int) % 256 := by simp [rd]
    rw [e4]
    generalize symI ((blockI b).getD u 0) (q : Int) = z at *
    rw [w64 (by omega) (by omega)]
    simp; omega
  rw [e3]
  exact pl_j3 b c hb hc hl h1 h2 k (by omega)
theorem CodePlaces : volutelaw08_CodePlaces.Pure := by
  intro b c x2 hm hl hw hm2 hl2 hw2 w2
  have hb := byteB_of hw
  have hc := byteB_of hw2
  refine ⟨1600, ?_⟩
  have hj0 : ∀ bb, bb = decide (b.length < 1 ∨ 32 < b.length ∨ c.length ≠ b.length) → volutelaw08_CodePlaces.j0 1600 b c x2 bb = some true := by
    rintro bb rfl
    by_cases h : b.length < 1 ∨ 32 < b.length ∨ c.length ≠ b.length
    · rw [volutelaw08_CodePlaces.j0, if_pos (decide_eq_true h)]
    · rw [decide_eq_false h]
      exact pl_j0 b c hb hc (by omega) (by omega) (by omega) x2 1600 (by omega)
  unfold volutelaw08_CodePlaces.f
  by_cases c1 : (b.length : Int) < 1
  · rw [if_pos c1]; exact hj0 _ (decide_eq_true (by omega)).symm
  · rw [if_neg c1]
    by_cases c2 : (b.length : Int) > 32
    · rw [if_pos c2]; exact hj0 _ (decide_eq_true (by omega)).symm
    · rw [if_neg c2]
      refine hj0 _ ?_
      by_cases c3 : c.length = b.length
      · rw [c3, bne_self_eq_false]; exact (decide_eq_false (by omega)).symm
      · rw [bne_iff_ne.2 (show (c.length : Int) ≠ (b.length : Int) by omega)]; exact (decide_eq_true (by omega)).symm
end Go.Proofs.Ytfhihhfckpolpaa.Pure
