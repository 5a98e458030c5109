/- What the law's proof needs: BackFacts. -/
import Derived.Test.YtfhihhfckpolpaaCBPlaceFacts
import Derived.Test.YtfhihhfckpolpaaCBState
import Derived.Test.YtfhihhfckpolpaaCBJoinDef
namespace Go.Proofs.Ytfhihhfckpolpaa.Pure
open Go.RowKit Go.Proofs.Ytfhihhfckpolpaa.P Go.Proofs.YtfhihhfckpolpaaW.PrintWords Go.Proofs.YtfhihhfckpolpaaW.PrintLast Go.Proofs.YtfhihhfckpolpaaW.PrintMore
set_option linter.unusedVariables false
set_option linter.unusedSimpArgs false
theorem join_nibs (b : List Int) (hb : byteB b = true) : joinL (nibs b) = b := by
  induction b with
  | nil => rfl
  | cons c r ih =>
    have h : (decide (0 ≤ c) && decide (c < 256)) = true ∧ byteB r = true := by
      unfold byteB at hb ⊢
      rw [List.all_cons, Bool.and_eq_true] at hb
      exact hb
    obtain ⟨h1, h2⟩ := h
    simp only [Bool.and_eq_true, decide_eq_true_eq] at h1
    have e : nibs (c :: r) = c / 16 :: c % 16 :: nibs r := rfl
    rw [e, joinL, ih h2]
    congr 1
    omega
theorem join_f (b : List Int) (hb : byteB b = true) (h : b.length ≤ 16384) : bit_Join.f (nibs b) = some (b, 0) := by
  have hl := nibs_length b
  have ha : (nibs b).any notNib = false := by
    rw [List.any_eq_false]
    intro x hx
    have := nibs_nib hb x hx
    unfold nibB at this
    unfold notNib
    simp; omega
  unfold bit_Join.f
  rw [if_pos (by omega), ha, if_neg (by decide), join_nibs b hb]
theorem inv_two (k : Nat) (hk : 6 ≤ k) : mix_inverse.f k 2221713035 = some 1124208931 := at_rounds (g := fun k => mix_inverse.f k 2221713035) (mix_inverse.mono 2221713035) hk (by decide +kernel)
theorem inv_one (k : Nat) (hk : 6 ≤ k) : mix_inverse.f k 2146121005 = some 493478565 := at_rounds (g := fun k => mix_inverse.f k 2146121005) (mix_inverse.mono 2146121005) hk (by decide +kernel)
theorem mul_back (c d : Nat) (hcd : c * d % 4294967296 = 1) (x : Nat) (hx : x < 4294967296) : x * c % 4294967296 * d % 4294967296 = x := by
  rw [Nat.mod_mul_mod, Nat.mul_assoc, Nat.mul_mod, hcd, Nat.mul_one, Nat.mod_mod, Nat.mod_eq_of_lt hx]
theorem back_f (a : Nat) (ha : a < 4294967296) (k : Nat) (hk : 6 ≤ k) : mix_Back.f k ((mixN a : Nat) : Int) = some (a : Int) := by
  have l1 := fun x : Nat => Nat.mod_lt x (show 0 < 4294967296 by omega)
  unfold mix_Back.f
  rw [inv_two k hk, Option.bind_some, inv_one k hk, Option.bind_some, xs16_int _ (mixN_lt a)]
  have e1 : xs16 (mixN a) = xs15 (xs16 a * 2146121005 % 4294967296) * 2221713035 % 4294967296 := xs16_back _ (l1 _)
  obtain ⟨z, hz⟩ : ∃ z, z = xs16 a * 2146121005 % 4294967296 := ⟨_, rfl⟩
  have hzl : z < 4294967296 := hz ▸ l1 _
  obtain ⟨y, hy⟩ : ∃ y, y = xs15 z := ⟨_, rfl⟩
  have hyl : y < 4294967296 := hy ▸ xs15_lt z hzl
  rw [← hz, ← hy] at e1
  have m1 : ((xs16 (mixN a) : Nat) : Int) * 1124208931 % 4294967296 = (y : Int) := by
    rw [e1]
    have := mul32 (y * 2221713035 % 4294967296) 1124208931
    rw [mul_back 2221713035 1124208931 (by decide) y hyl] at this
    exact this
  rw [m1]
  have d1 : (y : Int) / 32768 = ((y / 32768 : Nat) : Int) := by simp
  have d2 : (y : Int) / 1073741824 = ((y / 32768 / 32768 : Nat) : Int) := by rw [Nat.div_div_eq_div_mul]; simp
  have x1 : Go.bits .xor .u32 ((y : Int) / 32768) ((y : Int) / 1073741824) = ((y / 32768 ^^^ y / 32768 / 32768 : Nat) : Int) := by rw [d1, d2]; exact xor32 _ _ (by omega) (by omega)
  have hx2 : (y / 32768 ^^^ y / 32768 / 32768) < 4294967296 := Nat.xor_lt_two_pow (n := 32) (by omega) (by omega)
  have x2 : Go.bits .xor .u32 (y : Int) (Go.bits .xor .u32 ((y : Int) / 32768) ((y : Int) / 1073741824)) = (z : Int) := by
    rw [x1, xor32 _ _ hyl hx2, ← Nat.xor_assoc, hy, xs15_back z hzl]
  rw [x2]
  have m2 : (z : Int) * 493478565 % 4294967296 = ((xs16 a : Nat) : Int) := by
    have := mul32 (xs16 a * 2146121005 % 4294967296) 493478565
    rw [mul_back 2146121005 493478565 (by decide) _ (xs16_lt a ha), ← hz] at this
    exact this
  rw [m2, xs16_int _ (xs16_lt a ha), xs16_back a ha]
theorem nibble_f (s x : Int) (hs : St s) (hx : nibB x) (k : Nat) (hk : 6 ≤ k) : spine_Nibble.f k s (stI s x) = some (x, true) := by
  obtain ⟨a, rfl⟩ := Int.eq_ofNat_of_zero_le hs.1
  obtain ⟨c, rfl⟩ := Int.eq_ofNat_of_zero_le hx.1
  have ha : a < 4294967296 := by have := hs.2; omega
  have hc : c < 16 := by have := hx.2; omega
  have hxl : a ^^^ c < 4294967296 := Nat.xor_lt_two_pow (n := 32) ha (by omega)
  have e : Go.bits .xor .u32 ((a ^^^ c : Nat) : Int) (a : Int) = (c : Int) := by
    rw [xor32 _ _ hxl ha, Nat.xor_comm a c, Nat.xor_assoc, Nat.xor_self, Nat.xor_zero]
  unfold spine_Nibble.f
  rw [stI_nat a c ha hc, back_f _ hxl k hk, Option.bind_some, e, if_neg (by omega), wnat c (by omega)]
theorem or32 (a b : Nat) (ha : a < 4294967296) (hb : b < 4294967296) : Go.bits .or .u32 (a : Int) (b : Int) = ((a ||| b : Nat) : Int) := by
  have h1 : a % 2 ^ IntKind.u32.bits = a := Nat.mod_eq_of_lt ha
  have h2 : b % 2 ^ IntKind.u32.bits = b := Nat.mod_eq_of_lt hb
  have h3 : a ||| b < 2 ^ 32 := Nat.or_lt_two_pow ha hb
  simp only [Go.bits, BitVec.ofInt_natCast, BitVec.toNat_or, BitVec.toNat_ofNat, h1, h2]
  rw [IntKind.wrap_u32]
  have h4 : ((a ||| b : Nat) : Int) < 4294967296 := Int.ofNat_lt.2 h3
  exact Int.emod_eq_of_lt (Int.natCast_nonneg _) h4
theorem acc_step (t k : Nat) (hk : k < 4) (ht : t < 4294967296) : Go.bits .or .u32 ((t % 2 ^ (8 * k) : Nat) : Int) (shl .u32 (((t / 2 ^ (8 * k) % 256 : Nat) : Int) % 4294967296) (wrap64 (8 * (k : Int)))) = ((t % 2 ^ (8 * (k + 1)) : Nat) : Int) := by
  have hw : wrap64 (8 * (k : Int)) = ((8 * k : Nat) : Int) := wmul 8 k (by omega)
  have hb : t / 2 ^ (8 * k) % 256 < 256 := Nat.mod_lt _ (by omega)
  have hsh : shl .u32 (((t / 2 ^ (8 * k) % 256 : Nat) : Int) % 4294967296) (wrap64 (8 * (k : Int))) = ((2 ^ (8 * k) * (t / 2 ^ (8 * k) % 256) : Nat) : Int) := by
    rw [hw]
    have : k = 0 ∨ k = 1 ∨ k = 2 ∨ k = 3 := by omega
    rcases this with rfl | rfl | rfl | rfl <;> (unfold shl; rw [IntKind.wrap_u32]; simp [IntKind.bits]; omega)
  have hlt : 2 ^ (8 * k) * (t / 2 ^ (8 * k) % 256) < 4294967296 := by
    have : k = 0 ∨ k = 1 ∨ k = 2 ∨ k = 3 := by omega
    rcases this with rfl | rfl | rfl | rfl <;> omega
  have hm : t % 2 ^ (8 * k) < 2 ^ (8 * k) := Nat.mod_lt _ (Nat.two_pow_pos _)
  have hm2 : t % 2 ^ (8 * k) < 4294967296 := Nat.lt_of_le_of_lt (Nat.mod_le _ _) ht
  rw [hsh, or32 _ _ hm2 hlt, Nat.or_comm, ← Nat.two_pow_add_eq_or_of_lt hm]
  have : k = 0 ∨ k = 1 ∨ k = 2 ∨ k = 3 := by omega
  rcases this with rfl | rfl | rfl | rfl <;> (congr 1; omega)
theorem state_f (t : Int) (ht : St t) (l : List Int) (hl : l.length = 4) (h : ∀ k : Nat, k < 4 → l.getD k 0 = symI t (k : Int)) : symbol_State.f l = some (t, 0) := by
  obtain ⟨a, rfl⟩ := Int.eq_ofNat_of_zero_le ht.1
  have ha : a < 4294967296 := by have := ht.2; omega
  have hacc : ∀ k : Nat, k ≤ 4 → accSt l k = ((a % 2 ^ (8 * k) : Nat) : Int) := by
    intro k
    induction k with
    | zero => intro _; simp [accSt, Nat.mod_one]
    | succ k ih =>
      intro hk
      rw [accSt, ih (by omega), h k (by omega), symI_nat a k ha (by omega)]
      exact acc_step a k (by omega) ha
  have hany : l.any notByte = false := by
    rw [List.any_eq_false]
    intro x hx
    obtain ⟨k, hk, rfl⟩ := List.mem_iff_getElem.1 hx
    have e := h k (by omega)
    rw [List.getD_eq_getElem?_getD, List.getElem?_eq_getElem hk, Option.getD_some] at e
    have := symI_byte ht k
    rw [e]
    unfold notByte
    simp; omega
  unfold symbol_State.f
  rw [if_pos hl, hany, if_neg (by decide), hacc 4 (by omega)]
  have : a % 2 ^ (8 * 4) = a := Nat.mod_eq_of_lt ha
  rw [this]
end Go.Proofs.Ytfhihhfckpolpaa.Pure
