/- What the law's proof needs: CodeFacts. -/
import Derived.Test.YtlolfijadcflaaaEtPxCode
import Derived.Test.YtlolfijadcflaaaEtOrdFacts
import Derived.Test.YtlolfijadcflaaaEtKeepFacts
namespace Go.Proofs.Ytlolfijadcflaaa.Pure
open Go.RowKit Go.Proofs.Ytlolfijadcflaaa.P Go.Proofs.YtlolfijadcflaaaW.PrintWords Go.Proofs.YtlolfijadcflaaaW.PrintLast Go.Proofs.YtlolfijadcflaaaW.PrintMore
set_option linter.unusedVariables false
set_option linter.unusedSimpArgs false
def mixI (a : Int) : Int := (mix_Mix.f a).getD 0
theorem mix_f (a : Int) : mix_Mix.f a = some (mixI a) := rfl
def stI (s x : Int) : Int := mixI (Go.bits .xor .u32 s (x % 4294967296))
def stsI : Int → List Int → List Int
  | _, [] => []
  | s, x :: l => stI s x :: stsI (stI s x) l
theorem stsI_length (l : List Int) : ∀ s, (stsI s l).length = l.length := by
  induction l with
  | nil => intro s; rfl
  | cons a l ih => intro s; simp [stsI, ih]
def nibB (x : Int) : Prop := 0 ≤ x ∧ x < 16
theorem step_f (s x : Int) (h : nibB x) : spine_Step.f s x = some (stI s x, 0) := by
  unfold spine_Step.f; rw [if_neg (by have := h.1; omega), if_neg (by have := h.2; omega), mix_f]; rfl
theorem states_l0 (l : List Int) (hn : ∀ x ∈ l, nibB x) (hl : l.length ≤ 64) (d : Nat) : ∀ (k i : Nat) (acc : List Int) (s : Int), i ≤ l.length → l.length - i = d → acc.length ≤ i → d < k →
    spine_States.l0 k acc s l (l.length : Int) (i : Int) = some (acc ++ stsI s (l.drop i), 0) := by
  induction d with
  | zero =>
    intro k i acc s hi hd ha hk
    obtain ⟨k, rfl⟩ : ∃ m, k = m + 1 := ⟨k - 1, by omega⟩
    rw [spine_States.l0, if_neg (by omega), List.drop_of_length_le (by omega)]
    simp [stsI]
  | succ d ih =>
    intro k i acc s hi hd ha hk
    obtain ⟨k, rfl⟩ : ∃ m, k = m + 1 := ⟨k - 1, by omega⟩
    have h1 : i < l.length := by omega
    rw [spine_States.l0, if_pos (by omega), if_pos (by omega), if_pos (by omega), rd_get l i h1, step_f _ _ (hn _ (List.getElem_mem h1)), Option.bind_some]
    dsimp only
    rw [if_pos rfl, if_pos (by omega), wsucc i (by omega), ih k (i + 1) _ _ (by omega) (by omega) (by simp; omega) (by omega), List.drop_eq_getElem_cons h1]
    simp [stsI]
def beginI : Int := 2654435769
theorem states_f (l : List Int) (hn : ∀ x ∈ l, nibB x) (hl : l.length ≤ 64) (k : Nat) (hk : 65 ≤ k) : spine_States.f k l = some (stsI beginI l, 0) := by
  unfold spine_States.f spine_Begin.f
  rw [if_neg (by omega), Option.bind_some]
  have := states_l0 l hn hl l.length k 0 [] beginI (by omega) (by omega) (by simp) (by omega)
  unfold beginI at this ⊢
  simpa using this
def symI (s i : Int) : Int := if i < 4 then wrap64 (Go.bits .and .u32 (shr .u32 s (wrap64 (8 * i))) 255) else wrap64 (Go.bits .and .u32 (mixI ((s + (((i % 4294967296) * 2654435769) % 4294967296)) % 4294967296)) 255)
theorem of_f (s i : Int) (h0 : 0 ≤ i) (h1 : i ≤ 255) (k : Nat) (hk : 1 ≤ k) : symbol_Of.f k s i = some (symI s i, 0) := by
  obtain ⟨k, rfl⟩ : ∃ m, k = m + 1 := ⟨k - 1, by omega⟩
  have hb : decide (i > 255) = false := by simp; omega
  unfold symbol_Of.f symI
  rw [if_neg (by omega), hb, symbol_Of.j0, if_neg (by simp)]
  by_cases c : i < 4
  · rw [if_pos c, if_pos c, if_pos (by rw [w64 (by omega) (by omega)]; omega)]
  · rw [if_neg c, if_neg c, mix_f]; rfl
def encI (st : List Int) (n : Nat) (a : Nat) (count : Nat) : List Int :=
  (List.range count).map fun j => symI (st.getD ((ord n).getD ((a + j) % n) 0).toNat 0) (((a + j) / n : Nat) : Int) % 256
theorem encI_length (st : List Int) (n a count : Nat) : (encI st n a count).length = count := by simp [encI]
theorem encI_succ (st : List Int) (n a j : Nat) : encI st n a (j + 1) = encI st n a j ++ [symI (st.getD ((ord n).getD ((a + j) % n) 0).toNat 0) (((a + j) / n : Nat) : Int) % 256] := by
  simp [encI, List.range_succ]
theorem at_place (n a : Nat) (h1 : 1 ≤ n) (hn : n < 65) (ha : a < n * 16) : sched_At.f (n : Int) (a : Int) = some ((ord n).getD (a % n) 0, ((a / n : Nat) : Int), 0) := by
  have h := at_pass n (a / n) (a % n) h1 hn (Nat.div_lt_of_lt_mul ha) (Nat.mod_lt _ (by omega))
  rwa [Nat.div_add_mod'] at h
theorem nibs_nib {l : List Int} (h : byteB l = true) : ∀ x ∈ nibs l, nibB x := by
  intro x hx
  unfold nibs at hx
  rw [List.mem_flatMap] at hx
  obtain ⟨c, hc, hx⟩ := hx
  have hb := List.all_eq_true.1 h c hc
  simp only [Bool.and_eq_true, decide_eq_true_eq] at hb
  simp only [List.mem_cons, List.not_mem_nil, or_false] at hx
  unfold nibB
  rcases hx with rfl | rfl <;> omega
theorem byteB_of {l : List Int} (h : ∀ x ∈ l, (Lit.int .u8 x).wf = true) : byteB l = true := by
  unfold byteB
  rw [List.all_eq_true]
  intro c hc
  have := h c hc
  simp only [Lit.wf, IntKind.min, IntKind.max, IntKind.signed, IntKind.bits, Bool.and_eq_true, decide_eq_true_eq, if_true, Bool.false_eq_true, if_false] at this
  simp only [Bool.and_eq_true, decide_eq_true_eq]
  omega
theorem enc_l0 (n : Nat) (h1 : 1 ≤ n) (hn : n < 65) (st : List Int) (hst : st.length = n) (a c : Nat) (hac : a + c ≤ n * 16) (d : Nat) : ∀ (k j : Nat), j ≤ c → c - j = d → d + 2 < k →
    code_Encode.l0 k (a : Int) (n : Int) st (encI st n a j) (c : Int) (j : Int) = some (encI st n a c, 0) := by
  induction d with
  | zero =>
    intro k j hj hd hk
    obtain ⟨k, rfl⟩ : ∃ m, k = m + 1 := ⟨k - 1, by omega⟩
    obtain rfl : j = c := by omega
    rw [code_Encode.l0, if_neg (by omega)]
  | succ d ih =>
    intro k j hj hd hk
    obtain ⟨k, rfl⟩ : ∃ m, k = m + 1 := ⟨k - 1, by omega⟩
    have ew : wrap64 ((a : Int) + (j : Int)) = ((a + j : Nat) : Int) := by unfold wrap64; omega
    have hq : (a + j) / n < 16 := Nat.div_lt_of_lt_mul (by omega)
    have hm : (a + j) % n < n := Nat.mod_lt _ (by omega)
    obtain ⟨r0, r1⟩ := ord_rng n hn _ hm
    have hs := encI_succ st n a j
    have hle := encI_length st n a j
    rw [code_Encode.l0, if_pos (by omega), ew, at_place n (a + j) h1 hn (by omega), Option.bind_some]
    dsimp only
    generalize (ord n).getD ((a + j) % n) 0 = v at *
    generalize (a + j) / n = q at *
    obtain ⟨u, rfl⟩ := Int.eq_ofNat_of_zero_le r0
    have hu : u < st.length := by omega
    rw [if_pos rfl, if_pos (by omega), if_pos (by omega), of_f _ _ (by omega) (by omega) k (by omega), Option.bind_some]
    dsimp only
    rw [if_pos rfl, if_pos (by omega), wsucc j (by omega)]
    have e : rd st ((u : Nat) : Int) = st.getD ((u : Int)).toNat 0 := by simp [rd]
    rw [e, ← hs]
    exact ih k (j + 1) (by omega) (by omega) (by omega)
theorem segs_f (n : Nat) (h : n ≤ 32) : code_Segs.f (n : Int) = some ((2 * n : Nat) : Int) := by
  unfold code_Segs.f; rw [if_neg (by omega), if_neg (by omega), w64 (by omega) (by omega)]; simp
def blockI (b : List Int) : List Int := stsI beginI (nibs b)
theorem blockI_length (b : List Int) : (blockI b).length = 2 * b.length := by rw [blockI, stsI_length, nibs_length]
theorem encode_ok (b : List Int) (hb : byteB b = true) (h1 : 1 ≤ b.length) (h2 : b.length ≤ 32) (a c : Nat) (hac : a + c ≤ 2 * b.length * 16) (k : Nat) (hk : 1200 ≤ k) :
    code_Encode.f k b (a : Int) (c : Int) = some (encI (blockI b) (2 * b.length) a c, 0) := by
  have hnl := nibs_length b
  unfold code_Encode.f
  rw [segs_f _ h2, Option.bind_some, if_neg (by omega), if_neg (by omega), if_neg (by omega)]
  have ew : wrap64 (((2 * b.length : Nat) : Int) * 16) = ((2 * b.length * 16 : Nat) : Int) := by unfold wrap64; omega
  have ew2 : wrap64 (((2 * b.length * 16 : Nat) : Int) - (a : Int)) = ((2 * b.length * 16 : Nat) : Int) - (a : Int) := by unfold wrap64; omega
  rw [ew, if_neg (by omega), ew2, if_neg (by omega)]
  unfold bit_Nibbles.f
  rw [if_pos (by omega), if_pos hb, Option.bind_some]
  dsimp only
  rw [if_pos rfl, states_f _ (nibs_nib hb) (by omega) k (by omega), Option.bind_some]
  dsimp only
  rw [if_pos rfl]
  exact enc_l0 (2 * b.length) (by omega) (by omega) (blockI b) (blockI_length b) a c hac c k 0 (by omega) (by omega) (by omega)
end Go.Proofs.Ytlolfijadcflaaa.Pure
