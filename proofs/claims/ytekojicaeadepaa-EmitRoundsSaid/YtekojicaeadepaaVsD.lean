/- A part of the proof that EmitRoundsSaid of the given program holds (VsD); no conditions but the statement's own. -/
import Derived.Test.YtekojicaeadepaaVsC
namespace Go.Proofs.Ytekojicaeadepaa.Vm
open Go.Vm Go.Proofs
set_option linter.unusedSimpArgs false
-- short

def encI (st : List Int) (n a c : Nat) : List Int := (List.range c).map fun j => IntKind.u8.wrap (symI (st.getD ((P.ord n).getD ((a + j) % n) 0).toNat 0) (((a + j) / n : Nat) : Int))
theorem encI_len (st : List Int) (n a c : Nat) : (encI st n a c).length = c := by simp [encI]
theorem encI_succ (st : List Int) (n a c : Nat) : encI st n a (c + 1) = encI st n a c ++ [IntKind.u8.wrap (symI (st.getD ((P.ord n).getD ((a + c) % n) 0).toNat 0) (((a + c) / n : Nat) : Int))] := by
  simp [encI, List.range_succ]
theorem ord_lt : ∀ n, n < 65 → ∀ x ∈ P.ord n, 0 ≤ x ∧ x < n := by decide
theorem nibs_nib {l : List Int} (h : byteL l) : ∀ x ∈ P.nibs l, nibB x := by
  intro x hx
  obtain ⟨c, hc, hx⟩ := List.mem_flatMap.1 hx
  have := h c hc
  unfold nibB
  simp at hx
  omega
def blockI (b : List Int) : List Int := stsI beginI (P.nibs b)
theorem blockI_len (b : List Int) : (blockI b).length = 2 * b.length := by rw [blockI, stsI_len, P.nibs_length]
def symsI (b : List Int) (a c : Nat) : List Int := encI (blockI b) (2 * b.length) a c
theorem symsI_len (b : List Int) (a c : Nat) : (symsI b a c).length = c := encI_len _ _ _ _

theorem symsI_zero (b : List Int) (a : Nat) : ints .u8 (symsI b a 0) = [] := rfl
theorem symsI_succ (b : List Int) (a c : Nat) {q : Nat} {g : Int} (hq : q = (a + c) / (2 * b.length)) (hg : g = (P.ord (2 * b.length)).getD ((a + c) % (2 * b.length)) 0) : symsI b a (c + 1) = symsI b a c ++ [IntKind.u8.wrap (symI ((blockI b).getD g.toNat 0) (q : Int))] := by
  rw [symsI, encI_succ, ← hq, ← hg]
  rfl
set_option maxHeartbeats 1000000 in
set_option maxRecDepth 10000 in
theorem Encode_fn {b : List Int} (hb : byteL b) (h1 : 1 ≤ b.length) (h2 : b.length ≤ 32) {a c : Nat} (hac : a + c ≤ 2 * b.length * 16) :
    Does Try.prog 11 [.sl (ints .u8 b), .int .i64 a, .int .i64 c] (.tup [.ref 0 0, .int .i64 0]) [.row 5 0 (ints .u8 (symsI b a c))] := by
  refine Does.of Try.func11 rfl Try.ntmps11 fun C hC => ?_
  refine vx (hq := ?_)
  refine o_step (Stp.call (hF := Segs_fn (n := ((ints .u8 b).length : Nat)) (by omega) (by simp; omega))) (h := ?_)
  rw [ints_len]
  refine vx (hq := ?_)
  refine go_cond (fun hc => ?_) (fun hc => ?_)
  · simp at hc
    omega
  refine vx (hq := ?_)
  rw [show decide ((a : Int) < 0) = false by simp]
  refine vx (hq := ?_)
  rw [show decide ((c : Int) < 0) = false by simp]
  refine vx (hq := ?_)
  rw [wrap_le (n := 2 * (b.length : Int) * 16) (by omega) (by omega), show decide ((a : Int) > 2 * (b.length : Int) * 16) = false by simp; omega]
  refine vx (hq := ?_)
  rw [wrap_le (n := 2 * (b.length : Int) * 16) (by omega) (by omega), wrap_le (n := 2 * (b.length : Int) * 16 - (a : Int)) (by omega) (by omega), show decide ((c : Int) > 2 * (b.length : Int) * 16 - (a : Int)) = false by simp; omega]
  refine vx (hq := ?_)
  refine o_stepH (Stp.callv (hF := Nibbles_sl hb (by omega))) (h := ?_)
  refine vx (hq := ?_)
  refine o_stepH (Stp.callv (hF := States_sl (l := P.nibs b) (by rw [P.nibs_length]; omega) (nibs_nib hb))) (h := ?_)
  refine vx (hq := ?_)
  rw [show stsI beginI (P.nibs b) = blockI b from rfl]
  refine go_loop (ι := { k : Nat // k ≤ c }) (fun k => ⟨[.undef, .int .i64 (a : Nat), .undef, .undef, .undef, .undef, .undef, .undef, .int .i64 (2 * (b.length : Int)), .undef, .undef, .sl (ints .u32 (blockI b)), .ref 0 0, .undef, .undef, .undef, .undef, .undef, .undef, .undef, .undef, .undef, .undef, .undef, .undef, .undef, .undef, .undef, .undef, .undef, .undef, .undef, .undef, .undef, .undef, .undef, .undef, .undef, .undef, .undef, .undef, .undef, .undef, .undef, .undef, .undef, .undef, .undef, .undef, .undef, .undef, .undef, .undef, .undef, .undef, .undef, .undef, .undef, .undef, .undef, .undef, .int .i64 (c : Nat), .int .i64 (k.1 : Nat), .undef, .undef, .undef, .undef, .undef, .undef, .undef, .undef, .undef, .undef, .undef, .undef, .undef, .undef, .undef, .undef, .undef, .undef, .undef, .undef, .undef, .undef, .undef, .undef, .undef, .undef, .undef, .undef, .undef, .undef, .undef, .undef, .undef], [.row 5 0 (ints .u8 (symsI b a k.1))]⟩) (fun k => c - k.1) ⟨0, Nat.zero_le _⟩ ?_ ?_
  · exact Le.ofs hC [none] (by decide) (by simp [VOs, VO, names, symsI_zero]; rfl) (by simp [V2s, V2, V1, VC, names, symsI_zero])
  · rintro ⟨k, hk⟩
    refine vx (hq := ?_)
    refine go_cond (fun hc => ?_) (fun hc => ?_)
    · have hlt : k < c := by simpa using hc
      refine vx (hq := ?_)
      rw [show IntKind.i64.wrap ((a : Int) + (k : Int)) = ((a + k : Nat) : Int) by rw [wrap_le (by omega) (by omega)]; simp, show 2 * (b.length : Int) = ((2 * b.length : Nat) : Int) by simp]
      have hin : (a + k) % (2 * b.length) < (P.ord (2 * b.length)).length := by rw [P.ord_length _ (by omega)]; exact Nat.mod_lt _ (by omega)
      have ho := mem_getD hin (ord_lt (2 * b.length) (by omega))
      refine o_step (Stp.call (hF := At_fn (n := 2 * b.length) (k := a + k) (by omega) (by omega) (by omega))) (h := ?_)
      have hq : (a + k) / (2 * b.length) < 16 := by
        rw [Nat.div_lt_iff_lt_mul (by omega)]
        omega
      obtain ⟨q, hqe⟩ : ∃ q, q = (a + k) / (2 * b.length) := ⟨_, rfl⟩
      obtain ⟨sg, hse⟩ : ∃ sg, sg = (P.ord (2 * b.length)).getD ((a + k) % (2 * b.length)) 0 := ⟨_, rfl⟩
      rw [← hqe] at hq ⊢
      rw [← hse] at ho ⊢
      refine vx (hq := ?_)
      have hsl : sg.toNat < (blockI b).length := by rw [blockI_len]; omega
      refine o_step (Stp.index (h0 := ho.1) (h1 := by rw [ints_len, blockI_len]; exact ho.2) (hr := by simp only [indexA, ints_get _ (blockI b) sg.toNat hsl]; rfl)) (h := ?_)
      refine vx (hq := ?_)
      refine o_step (Stp.call (hF := Of_fn _ (i := (q : Int)) (by omega) (by omega))) (h := ?_)
      refine vx (hq := ?_)
      refine o_stepH (Stp.append (hys := by simp) (hb := by simp [symsI_len]; omega) (h63 := by simp [maxLen, symsI_len]; omega)) (h := ?_)
      refine vx (hq := ?_)
      refine ⟨⟨k + 1, hlt⟩, ?_, ?_⟩
      · show c - (k + 1) < c - k
        omega
      · refine Le.ofs hC [some 0] (by decide) ?_ ?_
        · rw [symsI_succ b a k hqe hse, ← ints_snoc]
          exact ⟨⟨rfl, _, rfl⟩, trivial⟩
        · simp [V2s, V2, V1, VC, names]
          exact wrap_le (by omega) (by omega)
    · have hge : k = c := by
        simp at hc
        omega
      subst hge
      refine vx (hq := ?_)
      exact Out.th [some 0] (by decide) rfl (by simp [VOs, VO, names])
end Go.Proofs.Ytekojicaeadepaa.Vm
