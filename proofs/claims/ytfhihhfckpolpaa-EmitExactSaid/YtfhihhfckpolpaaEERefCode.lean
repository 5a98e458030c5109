/- What the law's proof needs: RefCode. -/
import Derived.Test.YtfhihhfckpolpaaEEPxVoluteref04
import Derived.Test.YtfhihhfckpolpaaEEPxVoluteref01
import Derived.Test.YtfhihhfckpolpaaEECodeFacts
namespace Go.Proofs.Ytfhihhfckpolpaa.Pure
open Go.RowKit Go.Proofs.Ytfhihhfckpolpaa.P Go.Proofs.YtfhihhfckpolpaaW.PrintWords Go.Proofs.YtfhihhfckpolpaaW.PrintLast Go.Proofs.YtfhihhfckpolpaaW.PrintMore
set_option linter.unusedVariables false
set_option linter.unusedSimpArgs false
theorem ref_order65 : ∀ n : Nat, n < 65 → 1 ≤ n → voluteref04_Order.f 100 (n : Int) = some (ord n) := by decide +kernel
theorem ref_ord (n k : Nat) (hn : n < 65) (h1 : 1 ≤ n) (hk : 100 ≤ k) : voluteref04_Order.f k (n : Int) = some (ord n) :=
  at_rounds (voluteref04_Order.mono (n : Int)) hk (ref_order65 n hn h1)
theorem rmix_f (a : Int) : voluteref04_Mix.f a = some (mixI a) := rfl
theorem rstep_f (s x : Int) : voluteref04_Step.f s x = some (stI s x) := rfl
theorem rstates_l0 (l : List Int) (hl : l.length ≤ 4096) (d : Nat) : ∀ (k i : Nat) (acc : List Int) (s : Int), i ≤ l.length → l.length - i = d → acc.length ≤ i → d < k →
    voluteref04_States.l0 k l s acc (i : Int) = some (acc ++ stsI s (l.drop i)) := by
  induction d with
  | zero =>
    intro k i acc s hi hd ha hk
    obtain ⟨k, rfl⟩ : ∃ m, k = m + 1 := ⟨k - 1, by omega⟩
    rw [voluteref04_States.l0, if_neg (by omega), List.drop_of_length_le (by omega)]
    simp [stsI]
  | succ d ih =>
    intro k i acc s hi hd ha hk
    obtain ⟨k, rfl⟩ : ∃ m, k = m + 1 := ⟨k - 1, by omega⟩
    have h1 : i < l.length := by omega
    rw [voluteref04_States.l0, if_pos (by omega), if_pos (by omega), rd_get l i h1, rstep_f, Option.bind_some, if_pos (by omega), wsucc i (by omega), ih k (i + 1) _ _ (by omega) (by omega) (by simp; omega) (by omega), List.drop_eq_getElem_cons h1]
    simp [stsI]
theorem rstates_f (l : List Int) (hl : l.length ≤ 4096) (k : Nat) (hk : l.length < k) : voluteref04_States.f k l = some (stsI beginI l) := by
  unfold voluteref04_States.f voluteref04_Begin.f
  rw [Option.bind_some]
  have := rstates_l0 l hl l.length k 0 [] beginI (by omega) (by omega) (by simp) (by omega)
  unfold beginI at this ⊢
  simpa using this
theorem and15 : ∀ c : Nat, c < 256 → Go.bits .and .u8 (c : Int) 15 = (c : Int) % 16 := by decide +kernel
theorem rnib_l0 (l : List Int) (hb : byteB l = true) (hl : l.length ≤ 4096) (d : Nat) : ∀ (k i : Nat) (acc : List Int), i ≤ l.length → l.length - i = d → acc.length ≤ 2 * i → d < k →
    voluteref01_Nibbles.l0 k l acc (i : Int) = some (acc ++ nibs (l.drop i)) := by
  induction d with
  | zero =>
    intro k i acc hi hd ha hk
    obtain ⟨k, rfl⟩ : ∃ m, k = m + 1 := ⟨k - 1, by omega⟩
    rw [voluteref01_Nibbles.l0, if_neg (by omega), List.drop_of_length_le (by omega)]
    simp [nibs]
  | succ d ih =>
    intro k i acc hi hd ha hk
    obtain ⟨k, rfl⟩ : ∃ m, k = m + 1 := ⟨k - 1, by omega⟩
    have h1 : i < l.length := by omega
    obtain ⟨b0, b1⟩ := byteB_get hb i h1
    have e1 : wrap64 (l[i] / 16) = l[i] / 16 := by unfold wrap64; omega
    have e2 : wrap64 (Go.bits .and .u8 l[i] 15) = l[i] % 16 := by
      obtain ⟨n, hn⟩ := Int.eq_ofNat_of_zero_le b0
      rw [hn, and15 n (by omega)]; unfold wrap64; omega
    rw [voluteref01_Nibbles.l0, if_pos (by omega), if_pos (by omega), rd_get l i h1, e1, e2, Option.bind_some, if_pos (by simp; omega), wsucc i (by omega), ih k (i + 1) _ (by omega) (by omega) (by simp; omega) (by omega), List.drop_eq_getElem_cons h1]
    simp only [nibs, List.flatMap_cons, List.append_assoc]
theorem rnib_f (l : List Int) (hb : byteB l = true) (hl : l.length ≤ 4096) (k : Nat) (hk : l.length < k) : voluteref01_Nibbles.f k l = some (nibs l) := by
  unfold voluteref01_Nibbles.f
  have := rnib_l0 l hb hl l.length k 0 [] (by omega) (by omega) (by simp) (by omega)
  simpa using this
theorem rsym_f (s i : Int) (h0 : 0 ≤ i) (h1 : i ≤ 255) : voluteref04_Symbol.f s i = some (symI s i) := by
  unfold voluteref04_Symbol.f symI
  by_cases c : i < 4
  · have e : IntKind.u64.wrap (wrap64 (8 * i)) = wrap64 (8 * i) := by rw [w64 (by omega) (by omega), u64_id (by omega) (by omega)]
    rw [if_pos c, if_pos c, e, if_pos (by rw [w64 (by omega) (by omega)]; omega)]
  · rw [if_neg c, if_neg c, rmix_f]; rfl
theorem renc_l0 (n : Nat) (h1 : 1 ≤ n) (hn : n < 65) (st : List Int) (hst : st.length = n) (a c : Nat) (hac : a + c ≤ n * 16) (d : Nat) : ∀ (k j : Nat), j ≤ c → c - j = d → d + 2 < k →
    voluteref04_Encode.l0 k (a : Int) (c : Int) st (ord n) (encI st n a j) ((a + j : Nat) : Int) = some (encI st n a c) := by
  induction d with
  | zero =>
    intro k j hj hd hk
    obtain ⟨k, rfl⟩ : ∃ m, k = m + 1 := ⟨k - 1, by omega⟩
    obtain rfl : j = c := by omega
    have ew : wrap64 (((a + j : Nat) : Int) - (a : Int)) = (j : Int) := by unfold wrap64; omega
    rw [voluteref04_Encode.l0, ew, if_neg (by omega)]
  | succ d ih =>
    intro k j hj hd hk
    obtain ⟨k, rfl⟩ : ∃ m, k = m + 1 := ⟨k - 1, by omega⟩
    have ew : wrap64 (((a + j : Nat) : Int) - (a : Int)) = (j : Int) := by unfold wrap64; omega
    have ew2 : wrap64 (((a + j : Nat) : Int) + 1) = ((a + (j + 1) : Nat) : Int) := by unfold wrap64; omega
    have hq : (a + j) / n < 16 := Nat.div_lt_of_lt_mul (by omega)
    have hm : (a + j) % n < n := Nat.mod_lt _ (by omega)
    obtain ⟨r0, r1⟩ := ord_rng n hn _ hm
    have hs := encI_succ st n a j
    have hle := encI_length st n a j
    have em : Int.tmod ((a + j : Nat) : Int) (n : Int) = (((a + j) % n : Nat) : Int) := by rw [Int.tmod_eq_emod_of_nonneg (by omega)]; simp
    have ed : wrap64 (Int.tdiv ((a + j : Nat) : Int) (n : Int)) = (((a + j) / n : Nat) : Int) := by
      rw [Int.tdiv_eq_ediv_of_nonneg (by omega), ← Int.natCast_ediv]
      generalize (a + j) / n = z at *
      exact w64 (by omega) (by omega)
    have er := @ord_rd n ((a + j) % n) hn hm
    rw [voluteref04_Encode.l0, ew, if_pos (by clear er em ed ew2 hs; omega), hst, if_neg (by clear er em ed ew2 hs ew; omega), em, ed, er, ord_len n hn]
    clear er em ed ew
    generalize (ord n).getD ((a + j) % n) 0 = v at *
    generalize (a + j) / n = q at *
    generalize (a + j) % n = z at *
    obtain ⟨u, rfl⟩ := Int.eq_ofNat_of_zero_le r0
    rw [if_pos (by omega), if_pos (by omega), if_pos (by omega), if_pos (by omega), rsym_f _ _ (by omega) (by omega), Option.bind_some, if_pos (by omega), ew2]
    have e : rd st ((u : Nat) : Int) = st.getD ((u : Int)).toNat 0 := by simp [rd]
    rw [e, ← hs]
    exact ih k (j + 1) (by omega) (by omega) (by omega)
theorem rencode_ok (b : List Int) (hb : byteB b = true) (h1 : 1 ≤ b.length) (h2 : b.length ≤ 32) (a c : Nat) (hac : a + c ≤ 2 * b.length * 16) (k : Nat) (hk : 1200 ≤ k) :
    voluteref04_Encode.f k b (a : Int) (c : Int) = some (encI (blockI b) (2 * b.length) a c) := by
  have hnl := nibs_length b
  have hbl := blockI_length b
  have hbl' : ((stsI beginI (nibs b)).length : Int) = ((2 * b.length : Nat) : Int) := by rw [← hbl]; rfl
  unfold voluteref04_Encode.f
  rw [rnib_f b hb (by omega) k (by omega), Option.bind_some, rstates_f _ (by omega) k (by omega), Option.bind_some, hbl', ref_ord (2 * b.length) k (by omega) (by omega) (by omega), Option.bind_some]
  exact renc_l0 (2 * b.length) (by omega) (by omega) (blockI b) hbl a c hac c k 0 (by omega) (by omega) (by omega)
end Go.Proofs.Ytfhihhfckpolpaa.Pure
