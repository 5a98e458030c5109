/- What the law's proof needs: Base. -/
import Derived.Test.YtlolfijadcflaaaBfPx0
import Derived.Test.YtlolfijadcflaaaBfSched
import Derived.Test.YtlolfijadcflaaaBfPxVolutekeep
import Derived.Test.YtlolfijadcflaaaBfPxCode
section
namespace Go.Proofs.Ytlolfijadcflaaa.Pure
open Go.RowKit Go.Proofs.YtlolfijadcflaaaW.PrintWords Go.Proofs.YtlolfijadcflaaaW.PrintLast Go.Proofs.YtlolfijadcflaaaW.PrintMore
set_option linter.unusedVariables false
set_option linter.unusedSimpArgs false
theorem w64 {x : Int} (h : -9223372036854775808 ≤ x) (h2 : x ≤ 9223372036854775807) : wrap64 x = x := by unfold wrap64; omega
theorem u64_nn (a : Int) : 0 ≤ IntKind.u64.wrap a := by
  simp only [IntKind.wrap, IntKind.signed, IntKind.bits, Bool.false_and, Bool.false_eq_true, if_false]
  omega
theorem umod (a m : Int) (h : 0 < m) (hm : m ≤ 4611686018427387904) : 0 ≤ wrap64 (Int.tmod (IntKind.u64.wrap a) m) ∧ wrap64 (Int.tmod (IntKind.u64.wrap a) m) < m := by
  have h0 : 0 ≤ IntKind.u64.wrap a := u64_nn a
  rw [Int.tmod_eq_emod_of_nonneg h0]
  generalize IntKind.u64.wrap a = x at *
  have h1 := Int.emod_nonneg x (by omega : m ≠ 0)
  have h2 := Int.emod_lt_of_pos x (by omega : 0 < m)
  rw [w64 (by omega) (by omega)]
  exact ⟨h1, h2⟩
theorem wsub (a b : Nat) (h : b ≤ a) (ha : a < 4611686018427387904) : wrap64 ((a : Int) - (b : Int)) = ((a - b : Nat) : Int) := by unfold wrap64; omega
theorem wadd1 (a : Nat) (h : a < 4611686018427387904) : wrap64 ((a : Int) + 1) = ((a + 1 : Nat) : Int) := by unfold wrap64; omega
theorem rd_get (xs : List Int) (i : Nat) (h : i < xs.length) : rd xs (i : Int) = xs[i] := by
  simp [rd, h]
end Go.Proofs.Ytlolfijadcflaaa.Pure
end
section
namespace Go.Proofs.Ytlolfijadcflaaa.Pure
open Go.RowKit Go.Proofs.Ytlolfijadcflaaa.P Go.Proofs.YtlolfijadcflaaaW.PrintWords Go.Proofs.YtlolfijadcflaaaW.PrintLast Go.Proofs.YtlolfijadcflaaaW.PrintMore
set_option linter.unusedVariables false
set_option linter.unusedSimpArgs false
theorem ord_len : ∀ n : Nat, n < 65 → (ord n).length = n := by decide +kernel
theorem ord_rng : ∀ n : Nat, n < 65 → ∀ i : Nat, i < n → 0 ≤ (ord n).getD i 0 ∧ (ord n).getD i 0 < n := by decide +kernel
theorem at_pass (n p i : Nat) (h1 : 1 ≤ n) (hn : n < 65) (hp : p < 16) (hi : i < n) :
    sched_At.f (n : Int) (((p * n + i : Nat) : Int)) = some ((ord n).getD i 0, (p : Int), 0) := by
  have hb : p * n + i < n * 16 := by
    have : p * n ≤ 15 * n := Nat.mul_le_mul_right _ (by omega)
    omega
  unfold sched_At.f
  rw [if_pos ⟨by omega, by omega, by omega, by omega⟩]
  have e1 : (((p * n + i : Nat) : Int) % (n : Int)).toNat = i := by
    rw [← Int.natCast_emod, Nat.mul_add_mod_self_right, Nat.mod_eq_of_lt hi]; rfl
  have e2 : ((p * n + i : Nat) : Int) / (n : Int) = p := by
    rw [← Int.natCast_ediv]
    congr 1
    rw [Nat.mul_comm, Nat.mul_add_div (by omega), Nat.div_eq_of_lt hi]; rfl
  rw [e1, e2]; simp
end Go.Proofs.Ytlolfijadcflaaa.Pure
end
section
namespace Go.Proofs.Ytlolfijadcflaaa.Pure
open Go.RowKit Go.Proofs.Ytlolfijadcflaaa.P Go.Proofs.YtlolfijadcflaaaW.PrintWords Go.Proofs.YtlolfijadcflaaaW.PrintLast Go.Proofs.YtlolfijadcflaaaW.PrintMore
set_option linter.unusedVariables false
set_option linter.unusedSimpArgs false
theorem wsucc (i : Nat) (h : i < 4611686018427387904) : wrap64 ((i : Int) + 1) = ((i + 1 : Nat) : Int) := by unfold wrap64; omega
theorem ints_l0 (a b : List Int) (hl : a.length = b.length) (hb : a.length < 4611686018427387904) (d : Nat) : ∀ (k i : Nat), i ≤ a.length → a.length - i = d → d < k →
    volutekeep_Ints.l0 k a b (i : Int) = some (decide (a.drop i = b.drop i)) := by
  induction d with
  | zero =>
    intro k i hi hd hk
    obtain ⟨k, rfl⟩ : ∃ m, k = m + 1 := ⟨k - 1, by omega⟩
    rw [volutekeep_Ints.l0, if_neg (by omega), List.drop_of_length_le (by omega), List.drop_of_length_le (by omega)]
    simp
  | succ d ih =>
    intro k i hi hd hk
    obtain ⟨k, rfl⟩ : ∃ m, k = m + 1 := ⟨k - 1, by omega⟩
    have h1 : i < a.length := by omega
    have h2 : i < b.length := by omega
    rw [volutekeep_Ints.l0, if_pos (by omega), if_pos (by omega), if_pos (by omega), rd_get a i h1, rd_get b i h2, wsucc i (by omega)]
    rw [List.drop_eq_getElem_cons h1, List.drop_eq_getElem_cons h2]
    by_cases e : a[i] = b[i]
    · rw [if_pos e, ih k (i + 1) (by omega) (by omega) (by omega), e]
      exact congrArg some (decide_eq_decide.2 ⟨fun h => by rw [h], fun h => (List.cons.inj h).2⟩)
    · rw [if_neg e]
      exact congrArg some (decide_eq_false (fun h => e (List.cons.inj h).1)).symm
theorem ints_f (a b : List Int) (hb : a.length < 4611686018427387904) (k : Nat) (hk : a.length < k) : volutekeep_Ints.f k a b = some (decide (a = b)) := by
  unfold volutekeep_Ints.f
  by_cases hl : a.length = b.length
  · rw [if_pos (by omega)]
    have := ints_l0 a b hl hb a.length k 0 (by omega) (by omega) hk
    simpa using this
  · rw [if_neg (by omega)]
    have : a ≠ b := fun e => hl (by rw [e])
    simp [this]
end Go.Proofs.Ytlolfijadcflaaa.Pure
end
section
namespace Go.Proofs.Ytlolfijadcflaaa.Pure
open Go.RowKit Go.Proofs.Ytlolfijadcflaaa.P Go.Proofs.YtlolfijadcflaaaW.PrintWords Go.Proofs.YtlolfijadcflaaaW.PrintLast Go.Proofs.YtlolfijadcflaaaW.PrintMore
set_option linter.unusedVariables false
set_option linter.unusedSimpArgs false
def mixI (a : Int) : Int := (mix_Mix.f a).getD 0
theorem mix_f (a : Int) : mix_Mix.f a = some (mixI a) := rfl
def stI (s x : Int) : Int := mixI (Go.bits .xor .u32 s (x % 4294967296))
def stsI : Int → List Int → List Int
  | _, [] => []
  | s, x :: l => stI s x :: stsI (stI s x) l
theorem stsI_length (l : List Int) : ∀ s, (stsI s l).length = l.length := by
  induction l with
  | nil => intro s; rfl
  | cons a l ih => intro s; simp [stsI, ih]
def nibB (x : Int) : Prop := 0 ≤ x ∧ x < 16
theorem step_f (s x : Int) (h : nibB x) : spine_Step.f s x = some (stI s x, 0) := by
  unfold spine_Step.f; rw [if_neg (by have := h.1; omega), if_neg (by have := h.2; omega), mix_f]; rfl
theorem states_l0 (l : List Int) (hn : ∀ x ∈ l, nibB x) (hl : l.length ≤ 64) (d : Nat) : ∀ (k i : Nat) (acc : List Int) (s : Int), i ≤ l.length → l.length - i = d → acc.length ≤ i → d < k →
    spine_States.l0 k acc s l (l.length : Int) (i : Int) = some (acc ++ stsI s (l.drop i), 0) := by
  induction d with
  | zero =>
    intro k i acc s hi hd ha hk
    obtain ⟨k, rfl⟩ : ∃ m, k = m + 1 := ⟨k - 1, by omega⟩
    rw [spine_States.l0, if_neg (by omega), List.drop_of_length_le (by omega)]
    simp [stsI]
  | succ d ih =>
    intro k i acc s hi hd ha hk
    obtain ⟨k, rfl⟩ : ∃ m, k = m + 1 := ⟨k - 1, by omega⟩
    have h1 : i < l.length := by omega
    rw [spine_States.l0, if_pos (by omega), if_pos (by omega), if_pos (by omega), rd_get l i h1, step_f _ _ (hn _ (List.getElem_mem h1)), Option.bind_some]
    dsimp only
    rw [if_pos rfl, if_pos (by omega), wsucc i (by omega), ih k (i + 1) _ _ (by omega) (by omega) (by simp; omega) (by omega), List.drop_eq_getElem_cons h1]
    simp [stsI]
def beginI : Int := 2654435769
theorem states_f (l : List Int) (hn : ∀ x ∈ l, nibB x) (hl : l.length ≤ 64) (k : Nat) (hk : 65 ≤ k) : spine_States.f k l = some (stsI beginI l, 0) := by
  unfold spine_States.f spine_Begin.f
  rw [if_neg (by omega), Option.bind_some]
  have := states_l0 l hn hl l.length k 0 [] beginI (by omega) (by omega) (by simp) (by omega)
  unfold beginI at this ⊢
  simpa using this
def symI (s i : Int) : Int := if i < 4 then wrap64 (Go.bits .and .u32 (shr .u32 s (wrap64 (8 * i))) 255) else wrap64 (Go.bits .and .u32 (mixI ((s + (((i % 4294967296) * 2654435769) % 4294967296)) % 4294967296)) 255)
theorem of_f (s i : Int) (h0 : 0 ≤ i) (h1 : i ≤ 255) (k : Nat) (hk : 1 ≤ k) : symbol_Of.f k s i = some (symI s i, 0) := by
  obtain ⟨k, rfl⟩ : ∃ m, k = m + 1 := ⟨k - 1, by omega⟩
  have hb : decide (i > 255) = false := by simp; omega
  unfold symbol_Of.f symI
  rw [if_neg (by omega), hb, symbol_Of.j0, if_neg (by simp)]
  by_cases c : i < 4
  · rw [if_pos c, if_pos c, if_pos (by rw [w64 (by omega) (by omega)]; omega)]
  · rw [if_neg c, if_neg c, mix_f]; rfl
def encI (st : List Int) (n : Nat) (a : Nat) (count : Nat) : List Int :=
  (List.range count).map fun j => symI (st.getD ((ord n).getD ((a + j) % n) 0).toNat 0) (((a + j) / n : Nat) : Int) % 256
theorem encI_length (st : List Int) (n a count : Nat) : (encI st n a count).length = count := by simp [encI]
theorem encI_succ (st : List Int) (n a j : Nat) : encI st n a (j + 1) = encI st n a j ++ [symI (st.getD ((ord n).getD ((a + j) % n) 0).toNat 0) (((a + j) / n : Nat) : Int) % 256] := by
  simp [encI, List.range_succ]
theorem at_place (n a : Nat) (h1 : 1 ≤ n) (hn : n < 65) (ha : a < n * 16) : sched_At.f (n : Int) (a : Int) = some ((ord n).getD (a % n) 0, ((a / n : Nat) : Int), 0) := by
  have h := at_pass n (a / n) (a % n) h1 hn (Nat.div_lt_of_lt_mul ha) (Nat.mod_lt _ (by omega))
  rwa [Nat.div_add_mod'] at h
theorem nibs_nib {l : List Int} (h : byteB l = true) : ∀ x ∈ nibs l, nibB x := by
  intro x hx
  unfold nibs at hx
  rw [List.mem_flatMap] at hx
  obtain ⟨c, hc, hx⟩ := hx
  have hb := List.all_eq_true.1 h c hc
  simp only [Bool.and_eq_true, decide_eq_true_eq] at hb
  simp only [List.mem_cons, List.not_mem_nil, or_false] at hx
  unfold nibB
  rcases hx with rfl | rfl <;> omega
theorem enc_l0 (n : Nat) (h1 : 1 ≤ n) (hn : n < 65) (st : List Int) (hst : st.length = n) (a c : Nat) (hac : a + c ≤ n * 16) (d : Nat) : ∀ (k j : Nat), j ≤ c → c - j = d → d + 2 < k →
    code_Encode.l0 k (a : Int) (n : Int) st (encI st n a j) (c : Int) (j : Int) = some (encI st n a c, 0) := by
  induction d with
  | zero =>
    intro k j hj hd hk
    obtain ⟨k, rfl⟩ : ∃ m, k = m + 1 := ⟨k - 1, by omega⟩
    obtain rfl : j = c := by omega
    rw [code_Encode.l0, if_neg (by omega)]
  | succ d ih =>
    intro k j hj hd hk
    obtain ⟨k, rfl⟩ : ∃ m, k = m + 1 := ⟨k - 1, by omega⟩
    have ew : wrap64 ((a : Int) + (j : Int)) = ((a + j : Nat) : Int) := by unfold wrap64; omega
    have hq : (a + j) / n < 16 := Nat.div_lt_of_lt_mul (by omega)
    have hm : (a + j) % n < n := Nat.mod_lt _ (by omega)
    obtain ⟨r0, r1⟩ := ord_rng n hn _ hm
    have hs := encI_succ st n a j
    have hle := encI_length st n a j
    rw [code_Encode.l0, if_pos (by omega), ew, at_place n (a + j) h1 hn (by omega), Option.bind_some]
    dsimp only
    generalize (ord n).getD ((a + j) % n) 0 = v at *
    generalize (a + j) / n = q at *
    obtain ⟨u, rfl⟩ := Int.eq_ofNat_of_zero_le r0
    have hu : u < st.length := by omega
    rw [if_pos rfl, if_pos (by omega), if_pos (by omega), of_f _ _ (by omega) (by omega) k (by omega), Option.bind_some]
    dsimp only
    rw [if_pos rfl, if_pos (by omega), wsucc j (by omega)]
    have e : rd st ((u : Nat) : Int) = st.getD ((u : Int)).toNat 0 := by simp [rd]
    rw [e, ← hs]
    exact ih k (j + 1) (by omega) (by omega) (by omega)
theorem segs_f (n : Nat) (h : n ≤ 32) : code_Segs.f (n : Int) = some ((2 * n : Nat) : Int) := by
  unfold code_Segs.f; rw [if_neg (by omega), if_neg (by omega), w64 (by omega) (by omega)]; simp
def blockI (b : List Int) : List Int := stsI beginI (nibs b)
theorem blockI_length (b : List Int) : (blockI b).length = 2 * b.length := by rw [blockI, stsI_length, nibs_length]
theorem encode_ok (b : List Int) (hb : byteB b = true) (h1 : 1 ≤ b.length) (h2 : b.length ≤ 32) (a c : Nat) (hac : a + c ≤ 2 * b.length * 16) (k : Nat) (hk : 1200 ≤ k) :
    code_Encode.f k b (a : Int) (c : Int) = some (encI (blockI b) (2 * b.length) a c, 0) := by
  have hnl := nibs_length b
  unfold code_Encode.f
  rw [segs_f _ h2, Option.bind_some, if_neg (by omega), if_neg (by omega), if_neg (by omega)]
  have ew : wrap64 (((2 * b.length : Nat) : Int) * 16) = ((2 * b.length * 16 : Nat) : Int) := by unfold wrap64; omega
  have ew2 : wrap64 (((2 * b.length * 16 : Nat) : Int) - (a : Int)) = ((2 * b.length * 16 : Nat) : Int) - (a : Int) := by unfold wrap64; omega
  rw [ew, if_neg (by omega), ew2, if_neg (by omega)]
  unfold bit_Nibbles.f
  rw [if_pos (by omega), if_pos hb, Option.bind_some]
  dsimp only
  rw [if_pos rfl, states_f _ (nibs_nib hb) (by omega) k (by omega), Option.bind_some]
  dsimp only
  rw [if_pos rfl]
  exact enc_l0 (2 * b.length) (by omega) (by omega) (blockI b) (blockI_length b) a c hac c k 0 (by omega) (by omega) (by omega)
end Go.Proofs.Ytlolfijadcflaaa.Pure
end
section
namespace Go.Proofs.Ytlolfijadcflaaa.Pure
open Go.RowKit Go.Proofs.Ytlolfijadcflaaa.P Go.Proofs.YtlolfijadcflaaaW.PrintWords Go.Proofs.YtlolfijadcflaaaW.PrintLast Go.Proofs.YtlolfijadcflaaaW.PrintMore
set_option linter.unusedVariables false
set_option linter.unusedSimpArgs false
theorem xor32 (a b : Nat) (ha : a < 4294967296) (hb : b < 4294967296) : Go.bits .xor .u32 (a : Int) (b : Int) = ((a ^^^ b : Nat) : Int) := by
  have h1 : a % 2 ^ IntKind.u32.bits = a := Nat.mod_eq_of_lt ha
  have h2 : b % 2 ^ IntKind.u32.bits = b := Nat.mod_eq_of_lt hb
  have h3 : a ^^^ b < 2 ^ 32 := Nat.xor_lt_two_pow ha hb
  simp only [Go.bits, BitVec.ofInt_natCast, BitVec.toNat_xor, BitVec.toNat_ofNat, h1, h2]
  rw [IntKind.wrap_u32]
  have h4 : ((a ^^^ b : Nat) : Int) < 4294967296 := Int.ofNat_lt.2 h3
  exact Int.emod_eq_of_lt (Int.natCast_nonneg _) h4
theorem and255 (a : Nat) (ha : a < 4294967296) : Go.bits .and .u32 (a : Int) 255 = ((a % 256 : Nat) : Int) := by
  have h := bits_mask .u32 32 (by decide) (fun n h0 h1 => by rw [IntKind.wrap_u32]; exact Int.emod_eq_of_lt h0 h1) 8 (by decide) (a : Int) (Int.natCast_nonneg _) (Int.ofNat_lt.2 ha)
  have h' : Go.bits .and .u32 (a : Int) 255 = (a : Int) % 256 := h
  rw [h']; simp
def xs16 (a : Nat) : Nat := a ^^^ (a / 65536)
def xs15 (a : Nat) : Nat := a ^^^ (a / 32768)
theorem xs16_lt (a : Nat) (h : a < 4294967296) : xs16 a < 4294967296 := Nat.xor_lt_two_pow (n := 32) h (by omega)
theorem xs15_lt (a : Nat) (h : a < 4294967296) : xs15 a < 4294967296 := Nat.xor_lt_two_pow (n := 32) h (by omega)
theorem div_xor (a b k : Nat) : (a ^^^ b) / 2 ^ k = (a / 2 ^ k) ^^^ (b / 2 ^ k) := by
  simp only [← Nat.shiftRight_eq_div_pow, Nat.shiftRight_xor_distrib]
theorem xs16_back (a : Nat) (h : a < 4294967296) : xs16 (xs16 a) = a := by
  unfold xs16
  have e : (a ^^^ (a / 65536)) / 65536 = (a / 65536) ^^^ (a / 65536 / 65536) := div_xor a (a / 65536) 16
  have e0 : a / 65536 / 65536 = 0 := by omega
  rw [e, e0, Nat.xor_zero, Nat.xor_assoc, Nat.xor_self, Nat.xor_zero]
theorem xs15_back (a : Nat) (h : a < 4294967296) : xs15 a ^^^ (xs15 a / 32768) ^^^ (xs15 a / 32768 / 32768) = a := by
  unfold xs15
  have e : (a ^^^ (a / 32768)) / 32768 = (a / 32768) ^^^ (a / 32768 / 32768) := div_xor a (a / 32768) 15
  have e2 : ((a / 32768) ^^^ (a / 32768 / 32768)) / 32768 = (a / 32768 / 32768) ^^^ (a / 32768 / 32768 / 32768) := div_xor (a / 32768) (a / 32768 / 32768) 15
  have e0 : a / 32768 / 32768 / 32768 = 0 := by omega
  rw [e, e2, e0, Nat.xor_zero]
  generalize a / 32768 / 32768 = z
  generalize a / 32768 = y
  rw [Nat.xor_assoc a y, ← Nat.xor_assoc y y z, Nat.xor_self, Nat.zero_xor, Nat.xor_assoc, Nat.xor_self, Nat.xor_zero]
theorem mul_inj (c d : Nat) (hcd : c * d % 4294967296 = 1) (a b : Nat) (ha : a < 4294967296) (hb : b < 4294967296) (h : a * c % 4294967296 = b * c % 4294967296) : a = b := by
  have key : ∀ x : Nat, x < 4294967296 → x * c % 4294967296 * d % 4294967296 = x := by
    intro x hx
    rw [Nat.mod_mul_mod, Nat.mul_assoc, Nat.mul_mod, hcd, Nat.mul_one, Nat.mod_mod, Nat.mod_eq_of_lt hx]
  rw [← key a ha, h, key b hb]
def mixN (a : Nat) : Nat := xs16 (xs15 (xs16 a * 2146121005 % 4294967296) * 2221713035 % 4294967296)
theorem mixN_lt (a : Nat) : mixN a < 4294967296 := xs16_lt _ (Nat.mod_lt _ (by omega))
theorem mixN_inj (a b : Nat) (ha : a < 4294967296) (hb : b < 4294967296) (h : mixN a = mixN b) : a = b := by
  unfold mixN at h
  have l1 := fun x : Nat => Nat.mod_lt x (show 0 < 4294967296 by omega)
  have h1 := congrArg xs16 h
  rw [xs16_back _ (l1 _), xs16_back _ (l1 _)] at h1
  have h2 := mul_inj 2221713035 1124208931 (by decide) _ _ (xs15_lt _ (l1 _)) (xs15_lt _ (l1 _)) h1
  have h3 := congrArg (fun z => z ^^^ (z / 32768) ^^^ (z / 32768 / 32768)) h2
  simp only [xs15_back _ (l1 _)] at h3
  have h4 := mul_inj 2146121005 493478565 (by decide) _ _ (xs16_lt _ ha) (xs16_lt _ hb) h3
  have h5 := congrArg xs16 h4
  rwa [xs16_back _ ha, xs16_back _ hb] at h5
theorem xs16_int (a : Nat) (h : a < 4294967296) : Go.bits .xor .u32 (a : Int) ((a : Int) / 65536) = ((xs16 a : Nat) : Int) := by
  have e : (a : Int) / 65536 = ((a / 65536 : Nat) : Int) := by simp
  rw [e, xor32 _ _ h (by omega)]; rfl
theorem xs15_int (a : Nat) (h : a < 4294967296) : Go.bits .xor .u32 (a : Int) ((a : Int) / 32768) = ((xs15 a : Nat) : Int) := by
  have e : (a : Int) / 32768 = ((a / 32768 : Nat) : Int) := by simp
  rw [e, xor32 _ _ h (by omega)]; rfl
theorem mul32 (a c : Nat) : ((a : Int) * (c : Int)) % 4294967296 = ((a * c % 4294967296 : Nat) : Int) := by simp
theorem mixI_nat (a : Nat) (h : a < 4294967296) : mixI (a : Int) = ((mixN a : Nat) : Int) := by
  have l1 := fun x : Nat => Nat.mod_lt x (show 0 < 4294967296 by omega)
  unfold mixI mix_Mix.f
  rw [Option.getD_some, xs16_int a h]
  have m1 : ((xs16 a : Nat) : Int) * 2146121005 % 4294967296 = ((xs16 a * 2146121005 % 4294967296 : Nat) : Int) := mul32 _ 2146121005
  rw [m1, xs15_int _ (l1 _)]
  have m2 : ((xs15 (xs16 a * 2146121005 % 4294967296) : Nat) : Int) * 2221713035 % 4294967296 = ((xs15 (xs16 a * 2146121005 % 4294967296) * 2221713035 % 4294967296 : Nat) : Int) := mul32 _ 2221713035
  rw [m2, xs16_int _ (l1 _)]; rfl
def St (s : Int) : Prop := 0 ≤ s ∧ s < 4294967296
theorem stI_nat (s x : Nat) (hs : s < 4294967296) (hx : x < 16) : stI (s : Int) (x : Int) = ((mixN (s ^^^ x) : Nat) : Int) := by
  unfold stI
  have e : (x : Int) % 4294967296 = (x : Int) := by omega
  rw [e, xor32 s x hs (by omega), mixI_nat _ (Nat.xor_lt_two_pow (n := 32) hs (by omega))]
theorem stI_st {s x : Int} (hs : St s) (hx : nibB x) : St (stI s x) := by
  obtain ⟨s, rfl⟩ := Int.eq_ofNat_of_zero_le hs.1
  obtain ⟨x, rfl⟩ := Int.eq_ofNat_of_zero_le hx.1
  rw [stI_nat s x (by have := hs.2; omega) (by have := hx.2; omega)]
  have := mixN_lt (s ^^^ x)
  exact ⟨Int.natCast_nonneg _, Int.ofNat_lt.2 this⟩
theorem stI_inj {s x y : Int} (hs : St s) (hx : nibB x) (hy : nibB y) (h : stI s x = stI s y) : x = y := by
  obtain ⟨s, rfl⟩ := Int.eq_ofNat_of_zero_le hs.1
  obtain ⟨x, rfl⟩ := Int.eq_ofNat_of_zero_le hx.1
  obtain ⟨y, rfl⟩ := Int.eq_ofNat_of_zero_le hy.1
  have hs2 : s < 4294967296 := by have := hs.2; omega
  have hx2 : x < 16 := by have := hx.2; omega
  have hy2 : y < 16 := by have := hy.2; omega
  rw [stI_nat s x hs2 hx2, stI_nat s y hs2 hy2] at h
  have h1 : mixN (s ^^^ x) = mixN (s ^^^ y) := by exact_mod_cast h
  have h2 := mixN_inj _ _ (Nat.xor_lt_two_pow (n := 32) hs2 (by omega)) (Nat.xor_lt_two_pow (n := 32) hs2 (by omega)) h1
  have h3 := congrArg (fun z => s ^^^ z) h2
  simp only [← Nat.xor_assoc, Nat.xor_self, Nat.zero_xor] at h3
  rw [h3]
theorem begin_st : St beginI := by unfold St beginI; omega
theorem stsI_st (l : List Int) (hn : ∀ x ∈ l, nibB x) : ∀ s, St s → ∀ t ∈ stsI s l, St t := by
  induction l with
  | nil => intro s hs t ht; simp [stsI] at ht
  | cons a l ih =>
    intro s hs t ht
    have ha := hn a (by simp)
    simp only [stsI, List.mem_cons] at ht
    rcases ht with rfl | ht
    · exact stI_st hs ha
    · exact ih (fun x hx => hn x (by simp [hx])) _ (stI_st hs ha) t ht
theorem symI_nat (s i : Nat) (hs : s < 4294967296) (hi : i < 4) : symI (s : Int) (i : Int) = ((s / 2 ^ (8 * i) % 256 : Nat) : Int) := by
  unfold symI
  have hw : wrap64 (8 * (i : Int)) = ((8 * i : Nat) : Int) := by unfold wrap64; omega
  have hsh : shr .u32 (s : Int) ((8 * i : Nat) : Int) = ((s / 2 ^ (8 * i) : Nat) : Int) := by
    unfold shr
    have : min ((8 * i : Nat) : Int).toNat IntKind.u32.bits = 8 * i := by
      simp only [IntKind.bits, Int.toNat_natCast]; omega
    rw [this]; simp
  have hlt : s / 2 ^ (8 * i) < 4294967296 := Nat.lt_of_le_of_lt (Nat.div_le_self _ _) hs
  rw [if_pos (by omega), hw, hsh, and255 _ hlt]
  have : s / 2 ^ (8 * i) % 256 < 256 := Nat.mod_lt _ (by omega)
  generalize s / 2 ^ (8 * i) % 256 = z at *
  exact w64 (by omega) (by omega)
theorem state_of_syms {s t : Int} (hs : St s) (ht : St t) (h : ∀ i : Nat, i < 4 → symI s (i : Int) = symI t (i : Int)) : s = t := by
  obtain ⟨s, rfl⟩ := Int.eq_ofNat_of_zero_le hs.1
  obtain ⟨t, rfl⟩ := Int.eq_ofNat_of_zero_le ht.1
  have hs2 : s < 4294967296 := by have := hs.2; omega
  have ht2 : t < 4294967296 := by have := ht.2; omega
  have h0 := h 0 (by omega)
  have h1 := h 1 (by omega)
  have h2 := h 2 (by omega)
  have h3 := h 3 (by omega)
  rw [symI_nat _ _ hs2 (by omega), symI_nat _ _ ht2 (by omega)] at h0 h1 h2 h3
  have g0 : s % 256 = t % 256 := by have : s / 2 ^ (8 * 0) % 256 = t / 2 ^ (8 * 0) % 256 := by exact_mod_cast h0
                                    simpa using this
  have g1 : s / 256 % 256 = t / 256 % 256 := by have : s / 2 ^ (8 * 1) % 256 = t / 2 ^ (8 * 1) % 256 := by exact_mod_cast h1
                                                simpa using this
  have g2 : s / 65536 % 256 = t / 65536 % 256 := by have : s / 2 ^ (8 * 2) % 256 = t / 2 ^ (8 * 2) % 256 := by exact_mod_cast h2
                                                    simpa using this
  have g3 : s / 16777216 % 256 = t / 16777216 % 256 := by have : s / 2 ^ (8 * 3) % 256 = t / 2 ^ (8 * 3) % 256 := by exact_mod_cast h3
                                                          simpa using this
  have : s = t := by clear h h0 h1 h2 h3; omega
  rw [this]
theorem symI_rng {s : Int} (hs : St s) (i : Nat) (hi : i < 4) : symI s (i : Int) % 256 = symI s (i : Int) := by
  obtain ⟨s, rfl⟩ := Int.eq_ofNat_of_zero_le hs.1
  rw [symI_nat s i (by have := hs.2; omega) hi]
  have : s / 2 ^ (8 * i) % 256 < 256 := Nat.mod_lt _ (by omega)
  generalize s / 2 ^ (8 * i) % 256 = z at *
  omega
theorem symI_byte {s : Int} (hs : St s) (i : Nat) : 0 ≤ symI s (i : Int) ∧ symI s (i : Int) < 256 := by
  obtain ⟨s, rfl⟩ := Int.eq_ofNat_of_zero_le hs.1
  have hs2 : s < 4294967296 := by have := hs.2; omega
  by_cases hi : i < 4
  · rw [symI_nat s i hs2 hi]
    have : s / 2 ^ (8 * i) % 256 < 256 := Nat.mod_lt _ (by omega)
    generalize s / 2 ^ (8 * i) % 256 = z at *
    omega
  · unfold symI
    rw [if_neg (by omega)]
    have h0 : 0 ≤ ((s : Int) + ((((i : Int) % 4294967296) * 2654435769) % 4294967296)) % 4294967296 := Int.emod_nonneg _ (by omega)
    have h1 : ((s : Int) + ((((i : Int) % 4294967296) * 2654435769) % 4294967296)) % 4294967296 < 4294967296 := Int.emod_lt_of_pos _ (by omega)
    generalize ((s : Int) + ((((i : Int) % 4294967296) * 2654435769) % 4294967296)) % 4294967296 = z at *
    obtain ⟨z, rfl⟩ := Int.eq_ofNat_of_zero_le h0
    rw [mixI_nat z (by omega), and255 _ (mixN_lt z)]
    have : mixN z % 256 < 256 := Nat.mod_lt _ (by omega)
    generalize mixN z % 256 = y at *
    rw [w64 (by omega) (by omega)]
    omega
end Go.Proofs.Ytlolfijadcflaaa.Pure
end
