/- What the law's proof needs: ReadFacts. -/
import Derived.Test.YtlolfijadcflaaaEtPackFacts
namespace Go.Proofs.Ytlolfijadcflaaa.Pure
open Go.RowKit Go.Proofs.Ytlolfijadcflaaa.P Go.Proofs.YtlolfijadcflaaaW.PrintWords Go.Proofs.YtlolfijadcflaaaW.PrintLast Go.Proofs.YtlolfijadcflaaaW.PrintMore
set_option linter.unusedVariables false
set_option linter.unusedSimpArgs false
theorem or64 (a b : Nat) (ha : a < 4294967296) (hb : b < 4294967296) : Go.bits .or .i64 (a : Int) (b : Int) = ((a ||| b : Nat) : Int) := by
  have h1 : a % 2 ^ IntKind.i64.bits = a := Nat.mod_eq_of_lt (Nat.lt_of_lt_of_le ha (by decide))
  have h2 : b % 2 ^ IntKind.i64.bits = b := Nat.mod_eq_of_lt (Nat.lt_of_lt_of_le hb (by decide))
  have h3 : a ||| b < 2 ^ 32 := Nat.or_lt_two_pow (n := 32) ha hb
  simp only [Go.bits, BitVec.ofInt_natCast, BitVec.toNat_or, BitVec.toNat_ofNat, h1, h2]
  rw [IntKind.wrap_i64]
  have h4 : ((a ||| b : Nat) : Int) < 4294967296 := Int.ofNat_lt.2 h3
  have h5 : (0 : Int) ≤ ((a ||| b : Nat) : Int) := Int.natCast_nonneg _
  generalize ((a ||| b : Nat) : Int) = q at h4 h5
  clear h1 h2 h3
  omega
theorem or_byte (a c : Nat) (ha : a < 16777216) (hc : c < 256) : Go.bits .or .i64 (wrap64 ((a : Int) * 256)) (wrap64 (c : Int)) = ((a * 256 + c : Nat) : Int) := by
  have e1 : wrap64 ((a : Int) * 256) = ((a * 256 : Nat) : Int) := wmul a 256 (by omega)
  rw [e1, wnat c (by omega), or64 _ _ (by omega) (by omega)]
  have h := Nat.two_pow_add_eq_or_of_lt (i := 8) (b := c) (by simpa using hc) a
  rw [Nat.mul_comm, ← h]
def valN (a : Nat) (l : List Int) : Nat := l.foldl (fun a c => a * 256 + c.toNat) a
theorem get_l0 (xs : List Int) (hb : byteB xs = true) (h4 : xs.length ≤ 4) : ∀ (d i a k : Nat), i + d = xs.length → a < 256 ^ i → d < k → bit_Get.l0 k (a : Int) xs (xs.length : Int) (i : Int) = some (((valN a (xs.drop i) : Nat) : Int), 0) := by
  intro d
  induction d with
  | zero =>
    intro i a k hi ha hk
    obtain ⟨k, rfl⟩ : ∃ m, k = m + 1 := ⟨k - 1, by omega⟩
    rw [bit_Get.l0, if_neg (by omega), List.drop_of_length_le (by omega)]
    rfl
  | succ d ih =>
    intro i a k hi ha hk
    obtain ⟨k, rfl⟩ : ∃ m, k = m + 1 := ⟨k - 1, by omega⟩
    have hil : i < xs.length := by omega
    obtain ⟨c, hc, hce⟩ := byte_nat hb i hil
    have ha2 : a < 16777216 := Nat.lt_of_lt_of_le ha (Nat.le_trans (Nat.pow_le_pow_right (by decide) (show i ≤ 3 by omega)) (by decide))
    rw [bit_Get.l0, if_pos (by omega), if_pos (by omega), if_pos (by omega), rd_get xs i hil, hce, or_byte a c ha2 hc, wadd1 i (by omega)]
    have hlt : a * 256 + c < 256 ^ (i + 1) := by rw [Nat.pow_succ]; have := Nat.mul_le_mul_right 256 (Nat.succ_le_of_lt ha); omega
    rw [ih (i + 1) (a * 256 + c) k (by omega) hlt (by omega), List.drop_eq_getElem_cons hil, hce]
    rfl
theorem beL_nat (n : Nat) (hn : n < 4294967296) : ∀ j, j ≤ 4 → ∀ a, valN a (beL (n : Int) j) = a * 256 ^ j + n % 256 ^ j
  | 0, _, a => by simp [beL, valN, Nat.mod_one]
  | j + 1, hj, a => by
    have h := beL_nat n hn j (by omega) (a * 256 + n / 256 ^ j % 256)
    have e : (shr .i64 (n : Int) (8 * (j : Int)) % 256).toNat = n / 256 ^ j % 256 := by
      clear h
      have hj4 : j = 0 ∨ j = 1 ∨ j = 2 ∨ j = 3 := by omega
      have b8 : min 8 IntKind.i64.bits = 8 := rfl
      have b16 : min 16 IntKind.i64.bits = 16 := rfl
      have b24 : min 24 IntKind.i64.bits = 24 := rfl
      rcases hj4 with rfl | rfl | rfl | rfl <;> simp [shr, b8, b16, b24] <;> omega
    have h2 : valN a (beL (n : Int) (j + 1)) = valN (a * 256 + n / 256 ^ j % 256) (beL (n : Int) j) := by
      show valN (a * 256 + (shr .i64 (n : Int) (8 * (j : Int)) % 256).toNat) (beL (n : Int) j) = _
      rw [e]
    rw [h2, h, Nat.pow_succ, Nat.mod_mul, Nat.add_mul, Nat.mul_assoc, Nat.mul_comm 256 (256 ^ j)]
    have : n / 256 ^ j % 256 * 256 ^ j = 256 ^ j * (n / 256 ^ j % 256) := Nat.mul_comm _ _
    omega
theorem get_f (pre post : List Int) (n : Nat) (j : Nat) (h1 : 1 ≤ j) (h4 : j ≤ 4) (hn : n < 256 ^ j) (hl : pre.length + post.length ≤ 1000) (k : Nat) (hk : 10 ≤ k) :
    bit_Get.f k (pre ++ beL (n : Int) j ++ post) (pre.length : Int) (j : Int) = some ((n : Int), 0) := by
  obtain ⟨k, rfl⟩ : ∃ m, k = m + 1 := ⟨k - 1, by omega⟩
  have hlen : (pre ++ beL (n : Int) j ++ post).length = pre.length + j + post.length := by simp [beL_length]; omega
  have hn4 : n < 4294967296 := Nat.lt_of_lt_of_le hn (Nat.le_trans (Nat.pow_le_pow_right (by decide) h4) (by decide))
  have e1 : wrap64 ((pre.length : Int) + (j : Int)) = ((pre.length + j : Nat) : Int) := wadd _ _ (by omega)
  have e2 : wrap64 (((pre ++ beL (n : Int) j ++ post).length : Int) - (pre.length : Int)) = ((j + post.length : Nat) : Int) := by
    rw [hlen, wsub _ _ (by omega) (by omega)]; congr 1; omega
  have e3 : ((pre ++ beL (n : Int) j ++ post).take (pre.length + j)).drop pre.length = beL (n : Int) j := by
    have h : (pre ++ beL (n : Int) j).length = pre.length + j := by simp [beL_length]
    rw [← h, List.take_left', List.drop_left']
    · rfl
    · rfl
  unfold bit_Get.f
  rw [if_neg (by omega), if_neg (by omega), if_neg (by omega), decide_eq_false (by rw [hlen]; omega), bit_Get.j0, if_neg (by decide), e2, if_neg (by omega), if_pos (by omega), e1, if_pos (by omega), if_pos (by rw [hlen]; omega), Int.toNat_natCast, Int.toNat_natCast, e3]
  have hg := get_l0 (beL (n : Int) j) (beL_byte _ _) (by rw [beL_length]; exact h4) j 0 0 k (by rw [beL_length]; omega) (by simp) (by omega)
  rw [List.drop_zero, beL_nat n hn4 j h4] at hg
  rw [Nat.zero_mul, Nat.zero_add, Nat.mod_eq_of_lt hn] at hg
  exact hg
theorem read_pkt (seq round frm : Nat) (syms : List Int) (hs : seq < 1073741824) (hr : round ≤ 255) (hf : frm ≤ 65535) (hl : 1 ≤ syms.length ∧ syms.length ≤ 64) (k : Nat) (hk : 5001 ≤ k) :
    data_Read.f k (pktI (seq : Int) (round : Int) (frm : Int) syms) = some ((seq : Int), (round : Int), (frm : Int), syms, 0) := by
  obtain ⟨k, rfl⟩ : ∃ m, k = m + 1 := ⟨k - 1, by omega⟩
  have hlen := pktI_length (seq : Int) (round : Int) (frm : Int) syms
  have hhb := headI_byte (seq : Int) (round : Int) (frm : Int) (syms.length : Int)
  have hcr := crcI_lt _ hhb
  obtain ⟨c, hc⟩ := Int.eq_ofNat_of_zero_le hcr.1
  have et : (pktI (seq : Int) (round : Int) (frm : Int) syms).take 9 = headI (seq : Int) (round : Int) (frm : Int) (syms.length : Int) := by
    unfold pktI
    rw [List.append_assoc, List.take_left' (headI_length _ _ _ _)]
  have ed : (pktI (seq : Int) (round : Int) (frm : Int) syms).drop 11 = syms := by
    unfold pktI
    exact List.drop_left' (by rw [List.length_append, headI_length, beL_length])
  have g1 : bit_Get.f k (pktI (seq : Int) (round : Int) (frm : Int) syms) 9 2 = some (crcI (headI (seq : Int) (round : Int) (frm : Int) (syms.length : Int)), 0) := by
    unfold pktI
    rw [hc]
    have := get_f (headI (seq : Int) (round : Int) (frm : Int) (syms.length : Int)) syms c 2 (by omega) (by omega) (by omega) (by rw [headI_length]; omega) k (by omega)
    rw [headI_length] at this
    exact this
  have g2 : bit_Get.f k (pktI (seq : Int) (round : Int) (frm : Int) syms) 1 4 = some ((seq : Int), 0) := by
    have e : pktI (seq : Int) (round : Int) (frm : Int) syms = [68] ++ beL (seq : Int) 4 ++ (beL (round : Int) 1 ++ (beL (frm : Int) 2 ++ (beL (syms.length : Int) 1 ++ (beL (crcI (headI (seq : Int) (round : Int) (frm : Int) (syms.length : Int))) 2 ++ syms)))) := by
      unfold pktI; generalize crcI (headI (seq : Int) (round : Int) (frm : Int) (syms.length : Int)) = q; unfold headI
      simp only [List.append_assoc]
    rw [e]
    exact get_f [68] _ seq 4 (by omega) (by omega) (by omega) (by simp [beL_length]; omega) k (by omega)
  have g3 : bit_Get.f k (pktI (seq : Int) (round : Int) (frm : Int) syms) 6 2 = some ((frm : Int), 0) := by
    have e : pktI (seq : Int) (round : Int) (frm : Int) syms = ([68] ++ beL (seq : Int) 4 ++ beL (round : Int) 1) ++ beL (frm : Int) 2 ++ (beL (syms.length : Int) 1 ++ (beL (crcI (headI (seq : Int) (round : Int) (frm : Int) (syms.length : Int))) 2 ++ syms)) := by
      unfold pktI; generalize crcI (headI (seq : Int) (round : Int) (frm : Int) (syms.length : Int)) = q; unfold headI
      simp only [List.append_assoc]
    rw [e]
    have := get_f ([68] ++ beL (seq : Int) 4 ++ beL (round : Int) 1) (beL (syms.length : Int) 1 ++ (beL (crcI (headI (seq : Int) (round : Int) (frm : Int) (syms.length : Int))) 2 ++ syms)) frm 2 (by omega) (by omega) (by omega) (by simp [beL_length]; omega) k (by omega)
    have hl6 : ([68] ++ beL (seq : Int) 4 ++ beL (round : Int) 1).length = 6 := by simp [beL_length]
    rw [hl6] at this
    exact this
  have r0 : rd (pktI (seq : Int) (round : Int) (frm : Int) syms) 0 = 68 := rfl
  have r5 : rd (pktI (seq : Int) (round : Int) (frm : Int) syms) 5 = (round : Int) := by
    have : rd (pktI (seq : Int) (round : Int) (frm : Int) syms) 5 = (beL (round : Int) 1).getD 0 0 := rfl
    rw [this, be1]
    show (round : Int) % 256 = round
    omega
  have r8 : rd (pktI (seq : Int) (round : Int) (frm : Int) syms) 8 = (syms.length : Int) := by
    have : rd (pktI (seq : Int) (round : Int) (frm : Int) syms) 8 = (beL (syms.length : Int) 1).getD 0 0 := rfl
    rw [this, be1]
    show (syms.length : Int) % 256 = syms.length
    omega
  unfold data_Read.f
  rw [if_neg (by rw [hlen]; omega), decide_eq_false (by rw [hlen]; omega), data_Read.j0, if_neg (by decide), if_pos (by rw [hlen]; omega), r0, if_pos rfl, if_pos (by rw [hlen]; omega), et, sum16_f _ hhb (by rw [headI_length]; omega) k (by omega), Option.bind_some, g1, Option.bind_some, g2, Option.bind_some, g3, Option.bind_some]
  dsimp only
  rw [if_pos rfl, if_neg (by omega), if_pos (by rw [hlen]; omega), r8, hlen, wnat _ (by omega), show wrap64 (((11 + syms.length : Nat) : Int) - 11) = ((11 + syms.length - 11 : Nat) : Int) from wsub (11 + syms.length) 11 (by omega) (by omega), if_pos (by omega), if_pos (by omega), if_pos (by omega), ed, clone_f syms (by omega), Option.bind_some, r5, wnat round (by omega)]
end Go.Proofs.Ytlolfijadcflaaa.Pure
