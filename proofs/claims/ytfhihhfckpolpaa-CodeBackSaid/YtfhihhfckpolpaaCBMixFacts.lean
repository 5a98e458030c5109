/- What the law's proof needs: MixFacts. -/
import Derived.Test.YtfhihhfckpolpaaCBCodeFacts
namespace Go.Proofs.Ytfhihhfckpolpaa.Pure
open Go.RowKit Go.Proofs.Ytfhihhfckpolpaa.P Go.Proofs.YtfhihhfckpolpaaW.PrintWords Go.Proofs.YtfhihhfckpolpaaW.PrintLast Go.Proofs.YtfhihhfckpolpaaW.PrintMore
set_option linter.unusedVariables false
set_option linter.unusedSimpArgs false
theorem xor32 (a b : Nat) (ha : a < 4294967296) (hb : b < 4294967296) : Go.bits .xor .u32 (a : Int) (b : Int) = ((a ^^^ b : Nat) : Int) := by
  have h1 : a % 2 ^ IntKind.u32.bits = a := Nat.mod_eq_of_lt ha
  have h2 : b % 2 ^ IntKind.u32.bits = b := Nat.mod_eq_of_lt hb
  have h3 : a ^^^ b < 2 ^ 32 := Nat.xor_lt_two_pow ha hb
  simp only [Go.bits, BitVec.ofInt_natCast, BitVec.toNat_xor, BitVec.toNat_ofNat, h1, h2]
  rw [IntKind.wrap_u32]
  have h4 : ((a ^^^ b : Nat) : Int) < 4294967296 := Int.ofNat_lt.2 h3
  exact Int.emod_eq_of_lt (Int.natCast_nonneg _) h4
theorem and255 (a : Nat) (ha : a < 4294967296) : Go.bits .and .u32 (a : Int) 255 = ((a % 256 : Nat) : Int) := by
  have h := bits_mask .u32 32 (by decide) (fun n h0 h1 => by rw [IntKind.wrap_u32]; exact Int.emod_eq_of_lt h0 h1) 8 (by decide) (a : Int) (Int.natCast_nonneg _) (Int.ofNat_lt.2 ha)
  have h' : Go.bits .and .u32 (a : Int) 255 = (a : Int) % 256 := h
  rw [h']; simp
def xs16 (a : Nat) : Nat := a ^^^ (a / 65536)
def xs15 (a : Nat) : Nat := a ^^^ (a / 32768)
theorem xs16_lt (a : Nat) (h : a < 4294967296) : xs16 a < 4294967296 := Nat.xor_lt_two_pow (n := 32) h (by omega)
theorem xs15_lt (a : Nat) (h : a < 4294967296) : xs15 a < 4294967296 := Nat.xor_lt_two_pow (n := 32) h (by omega)
theorem div_xor (a b k : Nat) : (a ^^^ b) / 2 ^ k = (a / 2 ^ k) ^^^ (b / 2 ^ k) := by
  simp only [← Nat.shiftRight_eq_div_pow, Nat.shiftRight_xor_distrib]
theorem xs16_back (a : Nat) (h : a < 4294967296) : xs16 (xs16 a) = a := by
  unfold xs16
  have e : (a ^^^ (a / 65536)) / 65536 = (a / 65536) ^^^ (a / 65536 / 65536) := div_xor a (a / 65536) 16
  have e0 : a / 65536 / 65536 = 0 := by omega
  rw [e, e0, Nat.xor_zero, Nat.xor_assoc, Nat.xor_self, Nat.xor_zero]
theorem xs15_back (a : Nat) (h : a < 4294967296) : xs15 a ^^^ (xs15 a / 32768) ^^^ (xs15 a / 32768 / 32768) = a := by
  unfold xs15
  have e : (a ^^^ (a / 32768)) / 32768 = (a / 32768) ^^^ (a / 32768 / 32768) := div_xor a (a / 32768) 15
  have e2 : ((a / 32768) ^^^ (a / 32768 / 32768)) / 32768 = (a / 32768 / 32768) ^^^ (a / 32768 / 32768 / 32768) := div_xor (a / 32768) (a / 32768 / 32768) 15
  have e0 : a / 32768 / 32768 / 32768 = 0 := by omega
  rw [e, e2, e0, Nat.xor_zero]
  generalize a / 32768 / 32768 = z
  generalize a / 32768 = y
  rw [Nat.xor_assoc a y, ← Nat.xor_assoc y y z, Nat.xor_self, Nat.zero_xor, Nat.xor_assoc, Nat.xor_self, Nat.xor_zero]
def mixN (a : Nat) : Nat := xs16 (xs15 (xs16 a * 2146121005 % 4294967296) * 2221713035 % 4294967296)
theorem mixN_lt (a : Nat) : mixN a < 4294967296 := xs16_lt _ (Nat.mod_lt _ (by omega))
theorem xs16_int (a : Nat) (h : a < 4294967296) : Go.bits .xor .u32 (a : Int) ((a : Int) / 65536) = ((xs16 a : Nat) : Int) := by
  have e : (a : Int) / 65536 = ((a / 65536 : Nat) : Int) := by simp
  rw [e, xor32 _ _ h (by omega)]; rfl
theorem xs15_int (a : Nat) (h : a < 4294967296) : Go.bits .xor .u32 (a : Int) ((a : Int) / 32768) = ((xs15 a : Nat) : Int) := by
  have e : (a : Int) / 32768 = ((a / 32768 : Nat) : Int) := by simp
  rw [e, xor32 _ _ h (by omega)]; rfl
theorem mul32 (a c : Nat) : ((a : Int) * (c : Int)) % 4294967296 = ((a * c % 4294967296 : Nat) : Int) := by simp
theorem mixI_nat (a : Nat) (h : a < 4294967296) : mixI (a : Int) = ((mixN a : Nat) : Int) := by
  have l1 := fun x : Nat => Nat.mod_lt x (show 0 < 4294967296 by omega)
  unfold mixI mix_Mix.f
  rw [Option.getD_some, xs16_int a h]
  have m1 : ((xs16 a : Nat) : Int) * 2146121005 % 4294967296 = ((xs16 a * 2146121005 % 4294967296 : Nat) : Int) := mul32 _ 2146121005
  rw [m1, xs15_int _ (l1 _)]
  have m2 : ((xs15 (xs16 a * 2146121005 % 4294967296) : Nat) : Int) * 2221713035 % 4294967296 = ((xs15 (xs16 a * 2146121005 % 4294967296) * 2221713035 % 4294967296 : Nat) : Int) := mul32 _ 2221713035
  rw [m2, xs16_int _ (l1 _)]; rfl
def St (s : Int) : Prop := 0 ≤ s ∧ s < 4294967296
theorem stI_nat (s x : Nat) (hs : s < 4294967296) (hx : x < 16) : stI (s : Int) (x : Int) = ((mixN (s ^^^ x) : Nat) : Int) := by
  unfold stI
  have e : (x : Int) % 4294967296 = (x : Int) := by omega
  rw [e, xor32 s x hs (by omega), mixI_nat _ (Nat.xor_lt_two_pow (n := 32) hs (by omega))]
theorem stI_st {s x : Int} (hs : St s) (hx : nibB x) : St (stI s x) := by
  obtain ⟨s, rfl⟩ := Int.eq_ofNat_of_zero_le hs.1
  obtain ⟨x, rfl⟩ := Int.eq_ofNat_of_zero_le hx.1
  rw [stI_nat s x (by have := hs.2; omega) (by have := hx.2; omega)]
  have := mixN_lt (s ^^^ x)
  exact ⟨Int.natCast_nonneg _, Int.ofNat_lt.2 this⟩
theorem begin_st : St beginI := by unfold St beginI; omega
theorem stsI_st (l : List Int) (hn : ∀ x ∈ l, nibB x) : ∀ s, St s → ∀ t ∈ stsI s l, St t := by
  induction l with
  | nil => intro s hs t ht; simp [stsI] at ht
  | cons a l ih =>
    intro s hs t ht
    have ha := hn a (by simp)
    simp only [stsI, List.mem_cons] at ht
    rcases ht with rfl | ht
    · exact stI_st hs ha
    · exact ih (fun x hx => hn x (by simp [hx])) _ (stI_st hs ha) t ht
theorem symI_nat (s i : Nat) (hs : s < 4294967296) (hi : i < 4) : symI (s : Int) (i : Int) = ((s / 2 ^ (8 * i) % 256 : Nat) : Int) := by
  unfold symI
  have hw : wrap64 (8 * (i : Int)) = ((8 * i : Nat) : Int) := by unfold wrap64; omega
  have hsh : shr .u32 (s : Int) ((8 * i : Nat) : Int) = ((s / 2 ^ (8 * i) : Nat) : Int) := by
    unfold shr
    have : min ((8 * i : Nat) : Int).toNat IntKind.u32.bits = 8 * i := by
      simp only [IntKind.bits, Int.toNat_natCast]; omega
    rw [this]; simp
  have hlt : s / 2 ^ (8 * i) < 4294967296 := Nat.lt_of_le_of_lt (Nat.div_le_self _ _) hs
  rw [if_pos (by omega), hw, hsh, and255 _ hlt]
  have : s / 2 ^ (8 * i) % 256 < 256 := Nat.mod_lt _ (by omega)
  generalize s / 2 ^ (8 * i) % 256 = z at *
  exact w64 (by omega) (by omega)
theorem symI_rng {s : Int} (hs : St s) (i : Nat) (hi : i < 4) : symI s (i : Int) % 256 = symI s (i : Int) := by
  obtain ⟨s, rfl⟩ := Int.eq_ofNat_of_zero_le hs.1
  rw [symI_nat s i (by have := hs.2; omega) hi]
  have : s / 2 ^ (8 * i) % 256 < 256 := Nat.mod_lt _ (by omega)
  generalize s / 2 ^ (8 * i) % 256 = z at *
  omega
theorem symI_byte {s : Int} (hs : St s) (i : Nat) : 0 ≤ symI s (i : Int) ∧ symI s (i : Int) < 256 := by
  obtain ⟨s, rfl⟩ := Int.eq_ofNat_of_zero_le hs.1
  have hs2 : s < 4294967296 := by have := hs.2; omega
  by_cases hi : i < 4
  · rw [symI_nat s i hs2 hi]
    have : s / 2 ^ (8 * i) % 256 < 256 := Nat.mod_lt _ (by omega)
    generalize s / 2 ^ (8 * i) % 256 = z at *
    omega
  · unfold symI
    rw [if_neg (by omega)]
    have h0 : 0 ≤ ((s : Int) + ((((i : Int) % 4294967296) * 2654435769) % 4294967296)) % 4294967296 := Int.emod_nonneg _ (by omega)
    have h1 : ((s : Int) + ((((i : Int) % 4294967296) * 2654435769) % 4294967296)) % 4294967296 < 4294967296 := Int.emod_lt_of_pos _ (by omega)
    generalize ((s : Int) + ((((i : Int) % 4294967296) * 2654435769) % 4294967296)) % 4294967296 = z at *
    obtain ⟨z, rfl⟩ := Int.eq_ofNat_of_zero_le h0
    rw [mixI_nat z (by omega), and255 _ (mixN_lt z)]
    have : mixN z % 256 < 256 := Nat.mod_lt _ (by omega)
    generalize mixN z % 256 = y at *
    rw [w64 (by omega) (by omega)]
    omega
end Go.Proofs.Ytfhihhfckpolpaa.Pure
