/- A part of a proof that statements of this seat hold of the given program; no conditions but the statements' own. -/
import Derived.Test.YtekojicaeadepaaZbadba3fcab
import Derived.Test.YtekojicaeadepaaSched
import Derived.Test.YtekojicaeadepaaNib
import Derived.Test.YtekojicaeadepaaZ8651976f7b
set_option linter.unusedVariables false
set_option linter.unusedSimpArgs false
namespace Go.Proofs.Ytekojicaeadepaa.Vm
open Go.Vm Go.Proofs Go.RowKit Go.Proofs.YtekojicaeadepaaW.PrintWords
set_option linter.unusedSimpArgs false
-- quick

theorem vals1 {R : A → Value → Prop} {vs : Array Value} {x : A} (hl : vs.toList.length = [x].length) (ha : ∀ (j : Nat) (y : A), [x][j]? = some y → ∃ u, vs.toList[j]? = some u ∧ R y u) : ∃ u, vs = #[u] ∧ R x u := by
  obtain ⟨u, h1, h2⟩ := ha 0 x rfl
  obtain ⟨v, hv⟩ : ∃ v, vs.toList = [v] := List.length_eq_one_iff.1 hl
  rw [hv] at h1
  obtain rfl : v = u := by simpa using h1
  exact ⟨v, Array.ext' hv, h2⟩
theorem vals2 {R : A → Value → Prop} {vs : Array Value} {x z : A} (hl : vs.toList.length = [x, z].length) (ha : ∀ (j : Nat) (y : A), [x, z][j]? = some y → ∃ u, vs.toList[j]? = some u ∧ R y u) : ∃ u v, vs = #[u, v] ∧ R x u ∧ R z v := by
  obtain ⟨u, h1, h2⟩ := ha 0 x rfl
  obtain ⟨v, h3, h4⟩ := ha 1 z rfl
  match hv : vs.toList, hl with
  | [p, q], _ =>
    rw [hv] at h1 h3
    obtain rfl : p = u := by simpa using h1
    obtain rfl : q = v := by simpa using h3
    exact ⟨p, q, Array.ext' hv, h2, h4⟩

theorem kd_C {Z : Nat → Prop} {w : World} {k : IntKind} {l : List Int} {v : Value} (h : IV Z w (.sl (ints k l)) v) (hl : l.length ≤ 9223372036854775807) :
    ∃ ad c, v = .slice ad l.length c ∧ l.length ≤ c ∧ Kd.C (Kd.int k) w ad l.length l := by
  obtain ⟨ad, c, e, hc, h⟩ := iv_ints h
  refine ⟨ad, c, e, hc, rfl, hl, fun h0 => ?_⟩
  obtain ⟨x, rfl, hx⟩ := h h0
  refine ⟨x, rfl, fun j p hj => ⟨[.int k p], rfl, rfl, fun i u hi => ?_⟩⟩
  match i, hi with
  | 0, hi =>
    obtain rfl := Option.some.inj hi
    have : j * (Kd.int k).sz + 0 = j := Nat.mul_one j
    rw [this]
    exact hx j p hj
  | i + 1, hi => simp at hi

theorem kd_R {w w' : World} {t : TypeId} {k : IntKind} {ok : Nat → Prop} {v : Value} {r : List Int} (h : Kd.R (Kd.int k) t w' w.heap.size ok v r) : w'.ownsRow w.heap.size t 1 v r.length (r.map (Value.int k)) := by
  obtain ⟨_, inner, ho, hr, hat⟩ := h
  have hi : inner = r.map (Value.int k) := by
    apply List.ext_getElem?
    intro j
    rcases Nat.lt_or_ge j r.length with hj | hj
    · have h1 := hat j r[j] (List.getElem?_eq_getElem hj)
      have h2 : (inner.drop (j * (Kd.int k).sz)).take (Kd.int k).sz = [Value.int k r[j]] := h1
      have h3 : (inner.drop (j * 1)).take 1 = [Value.int k r[j]] := h2
      rw [Nat.mul_one] at h3
      have h4 : ((inner.drop j).take 1)[0]? = some (Value.int k r[j]) := by rw [h3]; rfl
      rw [List.getElem?_take, if_pos (by decide), List.getElem?_drop, Nat.add_zero] at h4
      rw [h4, List.getElem?_map, List.getElem?_eq_getElem hj]
      rfl
    · have h1 : inner.length = r.length := by
        have h2 : inner.length = r.length * 1 := hr
        omega
      rw [List.getElem?_eq_none (by omega), List.getElem?_eq_none (by simp; omega)]
  exact hi ▸ ho

theorem At_fn {n k : Nat} (h1 : 1 ≤ n) (h2 : n ≤ 64) (h3 : k < n * 16) : Does Try.prog 40 [.int .i64 n, .int .i64 k] (.tup [.int .i64 ((P.ord n).getD (k % n) 0), .int .i64 ((k / n : Nat) : Int), .int .i64 0]) [] := by
  intro Z w vs hZ hl ha
  obtain ⟨u, v, rfl, hu, hv⟩ := vals2 (R := TR Try.prog [] noMu Z w) hl ha
  have hu : IV Z w (.int .i64 (n : Int)) u := hu
  have hv : IV Z w (.int .i64 (k : Int)) v := hv
  cases hu
  cases hv
  refine Calls.mono (P.at_yes n k h1 h2 h3 w) ?_
  rintro e w' ⟨rfl, hb⟩
  refine ⟨_, noMu, Z, rfl, hr_none hZ hb, _, rfl, rfl, fun j x hj => ?_⟩
  match j, hj with
  | 0, hj => cases hj; exact ⟨_, rfl, IV.int _ _⟩
  | 1, hj => cases hj; exact ⟨_, rfl, IV.int _ _⟩
  | 2, hj => cases hj; exact ⟨_, rfl, IV.int _ _⟩
  | j + 3, hj => simp at hj

def byteL (l : List Int) : Prop := ∀ x ∈ l, 0 ≤ x ∧ x < 256
theorem Nibbles_fn {l : List Int} (hb : byteL l) (hl : l.length ≤ 4096) : Does Try.prog 38 [.sl (ints .u8 l)] (.tup [.ref 0 0, .int .i64 0]) [.row 3 0 (ints .i64 (P.nibs l))] := by
  intro Z w vs hZ hl' ha
  obtain ⟨u, rfl, hu⟩ := vals1 (R := TR Try.prog [] noMu Z w) hl' ha
  obtain ⟨ad, c, rfl, hc, hC⟩ := kd_C (show IV Z w (.sl (ints .u8 l)) u from hu) (by omega)
  refine Calls.mono (P.bit_Nibbles.calls ad c l (P.nibs l) 0 w hC hc ?_) ?_
  · rw [P.bit_Nibbles.f, if_pos hl, if_pos]
    simp only [P.byteB, List.all_eq_true, Bool.and_eq_true, decide_eq_true_eq]
    exact hb
  rintro e w' ⟨v, rfl, hR, hbel⟩
  obtain ⟨μ, H, hcr⟩ := hr_owned hZ hbel (Sz.h : szOf Try.prog 3 = some 1) (kd_R hR)
  refine ⟨_, μ, Z, rfl, H, _, rfl, rfl, fun j x hj => ?_⟩
  match j, hj with
  | 0, hj => cases hj; exact ⟨_, rfl, hcr⟩
  | 1, hj => cases hj; exact ⟨_, rfl, IV.int _ _⟩
  | j + 2, hj => simp at hj
theorem Nibbles_sl {l : List Int} (hb : byteL l) (hl : l.length ≤ 4096) : Does Try.prog 38 [.sl (ints .u8 l)] (.tup [.sl (ints .i64 (P.nibs l)), .int .i64 0]) [] := (Nibbles_fn hb hl).sl
theorem States_sl {l : List Int} (hl : l.length ≤ 64) (hn : ∀ x ∈ l, nibB x) : Does Try.prog 39 [.sl (ints .i64 l)] (.tup [.sl (ints .u32 (stsI beginI l)), .int .i64 0]) [] := (States_fn hl hn).sl
end Go.Proofs.Ytekojicaeadepaa.Vm
namespace Go.Proofs.Ytekojicaeadepaa.Vm
open Go.Vm Go.Proofs
set_option linter.unusedSimpArgs false
-- quick

def encI (st : List Int) (n a c : Nat) : List Int := (List.range c).map fun j => IntKind.u8.wrap (symI (st.getD ((P.ord n).getD ((a + j) % n) 0).toNat 0) (((a + j) / n : Nat) : Int))
theorem encI_len (st : List Int) (n a c : Nat) : (encI st n a c).length = c := by simp [encI]
theorem encI_succ (st : List Int) (n a c : Nat) : encI st n a (c + 1) = encI st n a c ++ [IntKind.u8.wrap (symI (st.getD ((P.ord n).getD ((a + c) % n) 0).toNat 0) (((a + c) / n : Nat) : Int))] := by
  simp [encI, List.range_succ]
theorem ord_lt : ∀ n, n < 65 → ∀ x ∈ P.ord n, 0 ≤ x ∧ x < n := by decide
theorem nibs_nib {l : List Int} (h : byteL l) : ∀ x ∈ P.nibs l, nibB x := by
  intro x hx
  obtain ⟨c, hc, hx⟩ := List.mem_flatMap.1 hx
  have := h c hc
  unfold nibB
  simp at hx
  omega
def blockI (b : List Int) : List Int := stsI beginI (P.nibs b)
theorem blockI_len (b : List Int) : (blockI b).length = 2 * b.length := by rw [blockI, stsI_len, P.nibs_length]
def symsI (b : List Int) (a c : Nat) : List Int := encI (blockI b) (2 * b.length) a c
theorem symsI_len (b : List Int) (a c : Nat) : (symsI b a c).length = c := encI_len _ _ _ _

theorem symsI_zero (b : List Int) (a : Nat) : ints .u8 (symsI b a 0) = [] := rfl
theorem symsI_succ (b : List Int) (a c : Nat) {q : Nat} {g : Int} (hq : q = (a + c) / (2 * b.length)) (hg : g = (P.ord (2 * b.length)).getD ((a + c) % (2 * b.length)) 0) : symsI b a (c + 1) = symsI b a c ++ [IntKind.u8.wrap (symI ((blockI b).getD g.toNat 0) (q : Int))] := by
  rw [symsI, encI_succ, ← hq, ← hg]
  rfl
set_option maxHeartbeats 1000000 in
set_option maxRecDepth 10000 in
theorem Encode_fn {b : List Int} (hb : byteL b) (h1 : 1 ≤ b.length) (h2 : b.length ≤ 32) {a c : Nat} (hac : a + c ≤ 2 * b.length * 16) :
    Does Try.prog 11 [.sl (ints .u8 b), .int .i64 a, .int .i64 c] (.tup [.ref 0 0, .int .i64 0]) [.row 5 0 (ints .u8 (symsI b a c))] := by
  refine Does.of Try.func11 rfl Try.ntmps11 fun C hC => ?_
  refine zx (hq := ?_)
  refine o_step (Stp.call (hF := Segs_fn (n := ((ints .u8 b).length : Nat)) (by omega) (by simp; omega))) (h := ?_)
  rw [ints_len]
  refine zx (hq := ?_)
  refine go_cond (fun hc => ?_) (fun hc => ?_)
  · simp at hc
    omega
  refine zx (hq := ?_)
  rw [show decide ((a : Int) < 0) = false by simp]
  refine zx (hq := ?_)
  rw [show decide ((c : Int) < 0) = false by simp]
  refine zx (hq := ?_)
  rw [wrap_le (n := 2 * (b.length : Int) * 16) (by omega) (by omega), show decide ((a : Int) > 2 * (b.length : Int) * 16) = false by simp; omega]
  refine zx (hq := ?_)
  rw [wrap_le (n := 2 * (b.length : Int) * 16) (by omega) (by omega), wrap_le (n := 2 * (b.length : Int) * 16 - (a : Int)) (by omega) (by omega), show decide ((c : Int) > 2 * (b.length : Int) * 16 - (a : Int)) = false by simp; omega]
  refine zx (hq := ?_)
  refine o_stepH (Stp.callv (hF := Nibbles_sl hb (by omega))) (h := ?_)
  refine zx (hq := ?_)
  refine o_stepH (Stp.callv (hF := States_sl (l := P.nibs b) (by rw [P.nibs_length]; omega) (nibs_nib hb))) (h := ?_)
  refine zx (hq := ?_)
  rw [show stsI beginI (P.nibs b) = blockI b from rfl]
  refine go_loop (ι := { k : Nat // k ≤ c }) (fun k => ⟨[.undef, .int .i64 (a : Nat), .undef, .undef, .undef, .undef, .undef, .undef, .int .i64 (2 * (b.length : Int)), .undef, .undef, .sl (ints .u32 (blockI b)), .ref 0 0, .undef, .undef, .undef, .undef, .undef, .undef, .undef, .undef, .undef, .undef, .undef, .undef, .undef, .undef, .undef, .undef, .undef, .undef, .undef, .undef, .undef, .undef, .undef, .undef, .undef, .undef, .undef, .undef, .undef, .undef, .undef, .undef, .undef, .undef, .undef, .undef, .undef, .undef, .undef, .undef, .undef, .undef, .undef, .undef, .undef, .undef, .undef, .undef, .int .i64 (c : Nat), .int .i64 (k.1 : Nat), .undef, .undef, .undef, .undef, .undef, .undef, .undef, .undef, .undef, .undef, .undef, .undef, .undef, .undef, .undef, .undef, .undef, .undef, .undef, .undef, .undef, .undef, .undef, .undef, .undef, .undef, .undef, .undef, .undef, .undef, .undef, .undef, .undef], [.row 5 0 (ints .u8 (symsI b a k.1))]⟩) (fun k => c - k.1) ⟨0, Nat.zero_le _⟩ ?_ ?_
  · exact Le.ofs hC [none] (by decide) (by simp [VOs, VO, names, symsI_zero]; rfl) (by simp [V2s, V2, V1, VC, names, symsI_zero])
  · rintro ⟨k, hk⟩
    refine zx (hq := ?_)
    refine go_cond (fun hc => ?_) (fun hc => ?_)
    · have hlt : k < c := by simpa using hc
      refine zx (hq := ?_)
      rw [show IntKind.i64.wrap ((a : Int) + (k : Int)) = ((a + k : Nat) : Int) by rw [wrap_le (by omega) (by omega)]; simp, show 2 * (b.length : Int) = ((2 * b.length : Nat) : Int) by simp]
      have hin : (a + k) % (2 * b.length) < (P.ord (2 * b.length)).length := by rw [P.ord_length _ (by omega)]; exact Nat.mod_lt _ (by omega)
      have ho := mem_getD hin (ord_lt (2 * b.length) (by omega))
      refine o_step (Stp.call (hF := At_fn (n := 2 * b.length) (k := a + k) (by omega) (by omega) (by omega))) (h := ?_)
      have hq : (a + k) / (2 * b.length) < 16 := by
        rw [Nat.div_lt_iff_lt_mul (by omega)]
        omega
      obtain ⟨q, hqe⟩ : ∃ q, q = (a + k) / (2 * b.length) := ⟨_, rfl⟩
      obtain ⟨sg, hse⟩ : ∃ sg, sg = (P.ord (2 * b.length)).getD ((a + k) % (2 * b.length)) 0 := ⟨_, rfl⟩
      rw [← hqe] at hq ⊢
      rw [← hse] at ho ⊢
      refine zx (hq := ?_)
      have hsl : sg.toNat < (blockI b).length := by rw [blockI_len]; omega
      refine o_step (Stp.index (h0 := ho.1) (h1 := by rw [ints_len, blockI_len]; exact ho.2) (hr := by simp only [indexA, ints_get _ (blockI b) sg.toNat hsl]; rfl)) (h := ?_)
      refine zx (hq := ?_)
      refine o_step (Stp.call (hF := Of_fn _ (i := (q : Int)) (by omega) (by omega))) (h := ?_)
      refine zx (hq := ?_)
      refine o_stepH (Stp.append (hys := by simp) (hb := by simp [symsI_len]; omega) (h63 := by simp [maxLen, symsI_len]; omega)) (h := ?_)
      refine zx (hq := ?_)
      refine ⟨⟨k + 1, hlt⟩, ?_, ?_⟩
      · show c - (k + 1) < c - k
        omega
      · refine Le.ofs hC [some 0] (by decide) ?_ ?_
        · rw [symsI_succ b a k hqe hse, ← ints_snoc]
          exact ⟨⟨rfl, _, rfl⟩, trivial⟩
        · simp [V2s, V2, V1, VC, names]
          exact wrap_le (by omega) (by omega)
    · have hge : k = c := by
        simp at hc
        omega
      subst hge
      refine zx (hq := ?_)
      exact Out.th [some 0] (by decide) rfl (by simp [VOs, VO, names])
end Go.Proofs.Ytekojicaeadepaa.Vm
namespace Go.Proofs.Ytekojicaeadepaa.Vm
open Go.Vm Go.Proofs
set_option linter.unusedSimpArgs false
-- quick

structure Cfg where
  (bytes beam depth window qs qr batch passes msg seqs : Int)
def Cfg.A (c : Cfg) : List A := [.int .i64 c.bytes, .int .i64 c.beam, .int .i64 c.depth, .int .i64 c.window, .int .i64 c.qs, .int .i64 c.qr, .int .i64 c.batch, .int .i64 c.passes, .int .i64 c.msg, .int .i64 c.seqs]
def inB (n a b : Int) : Bool := decide (a ≤ n) && decide (n ≤ b)
theorem inB_iff {n a b : Int} : inB n a b = true ↔ a ≤ n ∧ n ≤ b := by simp [inB]
def cfgB (c : Cfg) : Bool := inB c.bytes 1 16 && inB c.beam 1 16 && inB c.depth 1 3 && inB c.window 1 16 && inB c.qs 1 16 && inB c.qr 1 16 && inB c.batch 1 64 && inB c.passes 4 16 && inB c.msg 0 200 && inB c.seqs 0 1073741824
instance In_fn (n a b : Int) : Fu Try.prog 71 [.int .i64 n, .int .i64 a, .int .i64 b] (.bool (inB n a b)) := ⟨by
  refine Does.of Try.func71 rfl Try.ntmps71 fun C hC => ?_
  refine zx (hq := ?_)
  cases h : decide (n ≥ a)
  · refine zx (hq := ?_)
    exact Out.o0 rfl (by simp at h; simp [V1, VC, Vm.pick, inB]; omega)
  · refine zx (hq := ?_)
    exact Out.o0 rfl (by simp at h; simp [V1, VC, Vm.pick, inB]; omega)⟩
set_option maxHeartbeats 1000000 in
theorem Check_fn (c : Cfg) : Fu Try.prog 42 [.agg c.A] (.int .i64 (if cfgB c then 0 else 1)) := ⟨by
  refine Does.of Try.func42 rfl Try.ntmps42 fun C hC => ?_
  refine zx (hq := ?_)
  cases h0 : inB c.bytes 1 16
  · refine zx (hq := ?_)
    exact Out.o0 rfl ⟨rfl, by simp [cfgB, h0]⟩
  refine zx (hq := ?_)
  cases h1 : inB c.beam 1 16
  · refine zx (hq := ?_)
    exact Out.o0 rfl ⟨rfl, by simp [cfgB, h1]⟩
  refine zx (hq := ?_)
  cases h2 : inB c.depth 1 3
  · refine zx (hq := ?_)
    exact Out.o0 rfl ⟨rfl, by simp [cfgB, h2]⟩
  refine zx (hq := ?_)
  cases h3 : inB c.window 1 16
  · refine zx (hq := ?_)
    exact Out.o0 rfl ⟨rfl, by simp [cfgB, h3]⟩
  refine zx (hq := ?_)
  cases h4 : inB c.qs 1 16
  · refine zx (hq := ?_)
    exact Out.o0 rfl ⟨rfl, by simp [cfgB, h4]⟩
  refine zx (hq := ?_)
  cases h5 : inB c.qr 1 16
  · refine zx (hq := ?_)
    exact Out.o0 rfl ⟨rfl, by simp [cfgB, h5]⟩
  refine zx (hq := ?_)
  cases h6 : inB c.batch 1 64
  · refine zx (hq := ?_)
    exact Out.o0 rfl ⟨rfl, by simp [cfgB, h6]⟩
  refine zx (hq := ?_)
  cases h7 : inB c.passes 4 16
  · refine zx (hq := ?_)
    exact Out.o0 rfl ⟨rfl, by simp [cfgB, h7]⟩
  refine zx (hq := ?_)
  cases h8 : inB c.msg 0 200
  · refine zx (hq := ?_)
    exact Out.o0 rfl ⟨rfl, by simp [cfgB, h8]⟩
  refine zx (hq := ?_)
  cases h9 : inB c.seqs 0 1073741824
  · refine zx (hq := ?_)
    exact Out.o0 rfl ⟨rfl, by simp [cfgB, h9]⟩
  refine zx (hq := ?_)
  exact Out.o0 rfl ⟨rfl, by simp [cfgB, h0, h1, h2, h3, h4, h5, h6, h7, h8, h9]⟩⟩
end Go.Proofs.Ytekojicaeadepaa.Vm
/- A machine of values: whole numbers' bits, told by natural numbers. -/
namespace Go.Vm
theorem wrap_u8 (n : Int) : IntKind.u8.wrap n = n % 256 := by simp [IntKind.wrap, IntKind.bits, IntKind.signed]
theorem wrap_u32 (n : Int) : IntKind.u32.wrap n = n % 4294967296 := by simp [IntKind.wrap, IntKind.bits, IntKind.signed]
theorem wrap_u64 (n : Int) : IntKind.u64.wrap n = n % 18446744073709551616 := by simp [IntKind.wrap, IntKind.bits, IntKind.signed]
theorem wrap_le' {n : Int} (h0 : -9223372036854775808 ≤ n) (h : n < 9223372036854775808) : IntKind.i64.wrap n = n := by
  rw [IntKind.wrap_i64]
  omega
theorem bv_i64 (a : Nat) (h : a < 9223372036854775808) : (BitVec.ofInt IntKind.i64.bits (a : Int)).toNat = a := by
  simp [IntKind.bits]
  omega
theorem bv_u32 (a : Nat) (h : a < 4294967296) : (BitVec.ofInt IntKind.u32.bits (a : Int)).toNat = a := by
  simp [IntKind.bits]
  omega
theorem xor_i64 (a b : Nat) (ha : a < 9223372036854775808) (hb : b < 9223372036854775808) : xorI .i64 (a : Int) (b : Int) = ((a ^^^ b : Nat) : Int) := by
  unfold xorI
  rw [BitVec.toNat_xor, bv_i64 a ha, bv_i64 b hb]
  have : a ^^^ b < 2 ^ 63 := Nat.xor_lt_two_pow ha hb
  exact wrap_le (by omega) (by omega)
theorem and_i64 (a b : Nat) (ha : a < 9223372036854775808) (hb : b < 9223372036854775808) : andI .i64 (a : Int) (b : Int) = ((a &&& b : Nat) : Int) := by
  unfold andI
  rw [BitVec.toNat_and, bv_i64 a ha, bv_i64 b hb]
  have : a &&& b ≤ a := Nat.and_le_left
  exact wrap_le (by omega) (by omega)
theorem or_i64 (a b : Nat) (ha : a < 9223372036854775808) (hb : b < 9223372036854775808) : orI .i64 (a : Int) (b : Int) = ((a ||| b : Nat) : Int) := by
  unfold orI
  rw [BitVec.toNat_or, bv_i64 a ha, bv_i64 b hb]
  have : a ||| b < 2 ^ 63 := Nat.or_lt_two_pow ha hb
  exact wrap_le (by omega) (by omega)
theorem and_u32 (a b : Nat) (ha : a < 4294967296) (hb : b < 4294967296) : andI .u32 (a : Int) (b : Int) = ((a &&& b : Nat) : Int) := by
  unfold andI
  rw [BitVec.toNat_and, bv_u32 a ha, bv_u32 b hb, wrap_u32]
  have : a &&& b ≤ a := Nat.and_le_left
  omega
theorem shr_nat {k : IntKind} (a n : Nat) (h : n < k.bits) : shrI k (a : Int) (n : Int) = ((a / 2 ^ n : Nat) : Int) := by
  unfold shrI
  rw [Int.toNat_natCast, Nat.min_eq_left (Nat.le_of_lt h), Int.fdiv_eq_ediv_of_nonneg _ (by exact Int.le_of_lt (Int.pow_pos (by decide)))]
  simp
theorem shl_i64 (a n : Nat) (h : n < 64) (hb : a * 2 ^ n < 9223372036854775808) : shlI .i64 (a : Int) (n : Int) = ((a * 2 ^ n : Nat) : Int) := by
  unfold shlI
  rw [Int.toNat_natCast, Nat.min_eq_left (show n ≤ IntKind.i64.bits from Nat.le_of_lt h)]
  have : (a : Int) * 2 ^ n = ((a * 2 ^ n : Nat) : Int) := by simp
  rw [this]
  exact wrap_le (by omega) (by omega)
theorem or_mul (a c : Nat) (hc : c < 256) : a * 256 ||| c = a * 256 + c := by
  have := Nat.two_pow_add_eq_or_of_lt (i := 8) hc a
  rw [Nat.mul_comm a 256]
  exact this.symm
end Go.Vm
namespace Go.Proofs.Ytekojicaeadepaa.Vm
open Go.Vm Go.Proofs
set_option linter.unusedSimpArgs false
-- quick

theorem nil_of {α : Type} {l : List α} {b : Bool} (hb : b = true → l.length = 0) (hc : b = true) : l = [] := List.eq_nil_of_length_eq_zero (hb hc)
set_option maxRecDepth 10000 in
theorem Clone_fn (l : List Int) (h : l.length ≤ 140737488355328) : Does Try.prog 46 [.sl (ints .u8 l)] (.ref 0 0) [.row 5 0 (ints .u8 l)] := by
  refine Does.of Try.func46 rfl Try.ntmps46 fun C hC => ?_
  refine zx (hq := ?_)
  refine o_eqnil (h := fun b hb => ?_)
  refine zx (hq := ?_)
  refine go_cond (fun hc => ?_) (fun hc => ?_)
  · have hl : l = [] := nil_of (fun e => by simpa using hb e) hc
    subst hl
    refine zx (hq := ?_)
    exact Out.oh [none] (by decide) rfl (by simp [VOs, VO, names, ints, (inferInstance : Sz Try.prog 5 1).h]) (by simp [V1, names, VC, ints])
  · refine zx (hq := ?_)
    refine o_stepH (Stp.append (hys := ints_one _ _) (hb := by simp; omega) (h63 := by simp [maxLen]; omega)) (h := ?_)
    refine zx (hq := ?_)
    exact Out.oh [some 0]
theorem Clone_sl (l : List Int) (h : l.length ≤ 140737488355328) : Does Try.prog 46 [.sl (ints .u8 l)] (.sl (ints .u8 l)) [] := (Clone_fn l h).sl

class CfgOk (c : Cfg) : Prop where h : cfgB c = true
theorem CfgOk.nums (c : Cfg) [h : CfgOk c] : (1 ≤ c.bytes ∧ c.bytes ≤ 16) ∧ (1 ≤ c.beam ∧ c.beam ≤ 16) ∧ (1 ≤ c.depth ∧ c.depth ≤ 3) ∧ (1 ≤ c.window ∧ c.window ≤ 16) ∧ (1 ≤ c.qs ∧ c.qs ≤ 16) ∧ (1 ≤ c.qr ∧ c.qr ≤ 16) ∧ (1 ≤ c.batch ∧ c.batch ≤ 64) ∧ (4 ≤ c.passes ∧ c.passes ≤ 16) ∧ (0 ≤ c.msg ∧ c.msg ≤ 200) ∧ (0 ≤ c.seqs ∧ c.seqs ≤ 1073741824) := by
  have := h.h
  simp only [cfgB, Bool.and_eq_true, inB_iff] at this
  obtain ⟨⟨⟨⟨⟨⟨⟨⟨⟨h0, h1⟩, h2⟩, h3⟩, h4⟩, h5⟩, h6⟩, h7⟩, h8⟩, h9⟩ := this
  exact ⟨h0, h1, h2, h3, h4, h5, h6, h7, h8, h9⟩
instance Check_ok (c : Cfg) [h : CfgOk c] : Fu Try.prog 42 [.agg c.A] (.int .i64 0) := ⟨by
  have := (Check_fn c).h
  rwa [if_pos h.h] at this⟩
instance SegsC_fn (c : Cfg) [h : CfgOk c] : Fu Try.prog 43 [.agg c.A] (.int .i64 (2 * (c.bytes + 10))) := ⟨by
  have hn := (CfgOk.nums c).1
  have hw : IntKind.i64.wrap (c.bytes + 10) = c.bytes + 10 := wrap_le (by omega) (by omega)
  refine Does.of Try.func43 rfl Try.ntmps43 fun C hC => ?_
  refine zx (hq := ?_)
  rw [hw]
  refine o_step (Stp.call (hF := Segs_fn (n := c.bytes + 10) (by omega) (by omega))) (h := ?_)
  refine zx (hq := ?_)
  exact Out.o0⟩
def mostI (c : Cfg) : Int := 2 * (c.bytes + 10) * c.passes
theorem mul_small {a b : Int} (ha : 1 ≤ a ∧ a ≤ 16) (hb : 4 ≤ b ∧ b ≤ 16) : 88 ≤ 2 * (a + 10) * b ∧ 2 * (a + 10) * b ≤ 832 := by
  have h1 : 2 * (a + 10) * 4 ≤ 2 * (a + 10) * b := Int.mul_le_mul_of_nonneg_left hb.1 (by omega)
  have h2 : 2 * (a + 10) * b ≤ 2 * (a + 10) * 16 := Int.mul_le_mul_of_nonneg_left hb.2 (by omega)
  omega
theorem most_le (c : Cfg) [h : CfgOk c] : 88 ≤ mostI c ∧ mostI c ≤ 832 := by
  obtain ⟨h0, _, _, _, _, _, _, h7, _⟩ := CfgOk.nums c
  exact mul_small h0 h7
instance Most_fn (c : Cfg) [h : CfgOk c] : Fu Try.prog 12 [.agg c.A] (.int .i64 (mostI c)) := ⟨by
  have hm := most_le c
  have hw : IntKind.i64.wrap (2 * (c.bytes + 10) * c.passes) = mostI c := wrap_le (by unfold mostI at hm; omega) (by unfold mostI at hm; omega)
  refine Does.of Try.func12 rfl Try.ntmps12 fun C hC => ?_
  refine zx (hq := ?_)
  refine go_draw0 (by kernel_rfl) (by kernel_rfl) ?_
  refine zd (hq := ?_)
  refine zx (hq := ?_)
  rw [hw]
  exact Out.o0⟩
end Go.Proofs.Ytekojicaeadepaa.Vm
namespace Go.Proofs.Ytekojicaeadepaa.Vm
open Go.Vm Go.Proofs
set_option linter.unusedSimpArgs false
-- quick

/-- the first k of sz bytes of a number, the highest first -/
def beP (n sz k : Nat) : List Int := (List.range k).map fun i => ((n / 256 ^ (sz - 1 - i) % 256 : Nat) : Int)
def beL (n sz : Nat) : List Int := beP n sz sz
theorem beP_len (n sz k : Nat) : (beP n sz k).length = k := by simp [beP]
theorem beL_len (n sz : Nat) : (beL n sz).length = sz := beP_len _ _ _
theorem beP_succ (n sz k : Nat) : beP n sz (k + 1) = beP n sz k ++ [((n / 256 ^ (sz - 1 - k) % 256 : Nat) : Int)] := by simp [beP, List.range_succ]
theorem beL_byte (n sz : Nat) : byteL (beL n sz) := by
  intro x hx
  obtain ⟨i, _, rfl⟩ := List.mem_map.1 hx
  omega
theorem byte_at (n j : Nat) (hj : j ≤ 3) : IntKind.u8.wrap ((n : Int).fdiv (2 ^ min (8 * (j : Int)).toNat IntKind.i64.bits)) = ((n / 256 ^ j % 256 : Nat) : Int) := by
  have h1 : min (8 * (j : Int)).toNat IntKind.i64.bits = 8 * j := by
    have : IntKind.i64.bits = 64 := rfl
    omega
  have h := shr_nat (k := .i64) n (8 * j) (by show 8 * j < 64; omega)
  unfold shrI at h
  rw [Int.toNat_natCast] at h
  have h2 : min (8 * j) IntKind.i64.bits = 8 * j := by
    have : IntKind.i64.bits = 64 := rfl
    omega
  rw [h2] at h
  rw [h1, h, wrap_u8, Nat.pow_mul]
  simp

set_option maxRecDepth 10000 in
theorem Put_fn {b : List Int} {n sz : Nat} (h1 : 1 ≤ sz) (h4 : sz ≤ 4) (hn : n < 256 ^ sz) (hb : b.length + sz ≤ 4096) :
    Does Try.prog 55 [.sl (ints .u8 b), .int .i64 n, .int .i64 sz] (.tup [.ref 0 0, .int .i64 0]) [.row 5 0 (ints .u8 (b ++ beL n sz))] := by
  have hp : n ≤ 4294967295 := by
    have : 256 ^ sz ≤ 256 ^ 4 := Nat.pow_le_pow_right (by decide) h4
    omega
  have hs : 0 ≤ IntKind.i64.wrap (8 * (sz : Int)) := by rw [wrap_le (n := 8 * (sz : Int)) (by omega) (by omega)]; omega
  refine Does.of Try.func55 rfl Try.ntmps55 fun C hC => ?_
  refine zx (hq := ?_)
  rw [show decide ((sz : Int) < 1) = false by simp; omega]
  refine zx (hq := ?_)
  rw [show decide ((sz : Int) > 4) = false by simp; omega]
  refine zx (hq := ?_)
  rw [show decide ((n : Int) < 0) = false by simp]
  refine zx (hq := ?_)
  have hsh : decide ((n : Int) ≥ IntKind.i64.wrap (1 * 2 ^ min (IntKind.i64.wrap (8 * (sz : Int))).toNat IntKind.i64.bits)) = false := by
    have : sz = 1 ∨ sz = 2 ∨ sz = 3 ∨ sz = 4 := by omega
    rcases this with rfl | rfl | rfl | rfl <;> simp [IntKind.wrap, IntKind.bits, IntKind.signed] <;> omega
  rw [hsh]
  refine zx (hq := ?_)
  rw [ints_len, wrap_le (n := 4096 - (sz : Int)) (by omega) (by omega), show decide ((b.length : Int) > 4096 - (sz : Int)) = false by simp; omega]
  refine zx (hq := ?_)
  refine o_stepH (Stp.callr (hF := Clone_fn b (by omega))) (h := ?_)
  refine zx (hq := ?_)
  rw [wrap_le' (n := (sz : Int) - 1) (by omega) (by omega)]
  refine go_loop (ι := { k : Nat // k ≤ sz }) (fun k => ⟨[.undef, .int .i64 (n : Nat), .int .i64 (sz : Nat), .undef, .undef, .undef, .undef, .undef, .ref 0 0, .int .i64 ((sz : Int) - 1 - (k.1 : Int)), .undef, .undef, .undef, .undef, .undef, .undef, .undef, .undef, .undef, .undef, .undef, .undef, .undef, .undef, .undef, .undef, .undef, .undef, .undef, .undef, .undef, .undef, .undef, .undef, .undef, .undef, .undef, .undef, .undef, .undef, .undef, .undef, .undef, .undef, .undef, .undef, .undef, .undef, .undef, .undef, .undef, .undef], [.row 5 0 (ints .u8 (b ++ beP n sz k.1))]⟩) (fun k => sz - k.1) ⟨0, Nat.zero_le _⟩ ?_ ?_
  · exact Le.ofs hC [some 0] (by decide) (by simp [VOs, VO, names, beP])
  · rintro ⟨k, hk⟩
    refine zx (hq := ?_)
    refine go_cond (fun hc => ?_) (fun hc => ?_)
    · have hlt : k < sz := by simp at hc; omega
      obtain ⟨j, hj⟩ : ∃ j, j = sz - 1 - k := ⟨_, rfl⟩
      have hj1 : (sz : Int) - 1 - (k : Int) = (j : Int) := by omega
      have hj2 : 0 ≤ IntKind.i64.wrap (8 * (j : Int)) := by rw [wrap_le (n := 8 * (j : Int)) (by omega) (by omega)]; omega
      simp only [hj1]
      refine zx (hq := ?_)
      rw [wrap_le (n := 8 * (j : Int)) (by omega) (by omega), byte_at n j (by omega)]
      refine o_stepH (Stp.append (hys := by simp) (hb := by simp [beP_len]; omega) (h63 := by simp [maxLen, beP_len]; omega)) (h := ?_)
      refine zx (hq := ?_)
      refine ⟨⟨k + 1, hlt⟩, ?_, ?_⟩
      · show sz - (k + 1) < sz - k
        omega
      · refine Le.ofs hC [some 0] (by decide) ?_ ?_
        · rw [beP_succ, ← List.append_assoc, ← ints_snoc, ← hj]
          exact ⟨⟨rfl, _, rfl⟩, trivial⟩
        · simp [V2s, V2, V1, VC, names]
          rw [wrap_le' (by omega) (by omega)]
          omega
    · have hge : k = sz := by
        simp at hc
        omega
      subst hge
      refine zx (hq := ?_)
      refine o_stepH (Stp.callr (hF := Clone_fn (b ++ beP n k k) (by simp [beP_len]; omega))) (h := ?_)
      refine zx (hq := ?_)
      exact Out.th [some 1] (by decide) rfl (by simp [VOs, VO, names, beL])

def valN (l : List Int) : Nat := l.foldl (fun a c => a * 256 + c.toNat) 0
theorem valN_snoc (l : List Int) (c : Int) : valN (l ++ [c]) = valN l * 256 + c.toNat := by simp [valN]
theorem valA_lt : ∀ (l : List Int) (a : Nat), byteL l → l.foldl (fun a c => a * 256 + c.toNat) a < (a + 1) * 256 ^ l.length
  | [], a, _ => by simp
  | c :: l, a, h => by
    have h1 := valA_lt l (a * 256 + c.toNat) (fun x hx => h x (by simp [hx]))
    have h2 := h c (by simp)
    have h3 : (a * 256 + c.toNat + 1) * 256 ^ l.length ≤ (a + 1) * 256 * 256 ^ l.length := Nat.mul_le_mul_right _ (by omega)
    rw [List.foldl_cons, List.length_cons, Nat.pow_succ, Nat.mul_comm (256 ^ l.length), ← Nat.mul_assoc]
    omega
theorem valN_lt (l : List Int) (h : byteL l) : valN l < 256 ^ l.length := by
  have := valA_lt l 0 h
  simpa [valN] using this

set_option maxRecDepth 10000 in
theorem Get_fn {b : List Int} {at_ sz : Nat} (h1 : 1 ≤ sz) (h4 : sz ≤ 4) (hb : byteL b) (hl : at_ + sz ≤ b.length) (hm : b.length ≤ 140737488355328) :
    Does Try.prog 49 [.sl (ints .u8 b), .int .i64 at_, .int .i64 sz] (.tup [.int .i64 (valN ((b.take (at_ + sz)).drop at_)), .int .i64 0]) [] := by
  refine Does.of Try.func49 rfl Try.ntmps49 fun C hC => ?_
  refine zx (hq := ?_)
  rw [show decide ((sz : Int) < 1) = false by simp; omega]
  refine zx (hq := ?_)
  rw [show decide ((sz : Int) > 4) = false by simp; omega]
  refine zx (hq := ?_)
  rw [show decide ((at_ : Int) < 0) = false by simp]
  refine zx (hq := ?_)
  rw [show decide ((at_ : Int) > (((ints .u8 b).length : Nat) : Int)) = false by simp; omega]
  refine zx (hq := ?_)
  rw [ints_len, wrap_le (n := (b.length : Int) - (at_ : Int)) (by omega) (by omega), show decide ((b.length : Int) - (at_ : Int) < (sz : Int)) = false by simp; omega]
  refine zx (hq := ?_)
  rw [wrap_le (n := (at_ : Int) + (sz : Int)) (by omega) (by omega), show (at_ : Int) + (sz : Int) = ((at_ + sz : Nat) : Int) by simp]
  refine o_step (Stp.slice (h0 := by omega) (h1 := by omega) (h2 := by simp; omega) (hs := by exact ints_one _ _)) (h := ?_)
  simp only [Int.toNat_natCast, ints_take, ints_drop]
  obtain ⟨m, hme⟩ : ∃ m, m = (b.take (at_ + sz)).drop at_ := ⟨_, rfl⟩
  rw [← hme]
  have hml : m.length = sz := by rw [hme]; simp; omega
  have hmb : byteL m := fun x hx => hb x (by rw [hme] at hx; exact List.mem_of_mem_take (List.mem_of_mem_drop hx))
  refine zx (hq := ?_)
  refine go_loop (ι := { k : Nat // k ≤ sz }) (fun k => ⟨[.undef, .undef, .undef, .undef, .undef, .undef, .undef, .undef, .int .i64 (valN (m.take k.1) : Nat), .undef, .undef, .undef, .undef, .undef, .undef, .undef, .undef, .undef, .undef, .undef, .undef, .undef, .undef, .undef, .undef, .undef, .undef, .undef, .undef, .undef, .undef, .undef, .undef, .undef, .undef, .undef, .undef, .undef, .undef, .undef, .sl (ints .u8 m), .int .i64 (sz : Nat), .int .i64 (k.1 : Nat), .undef, .undef, .undef, .undef, .undef, .undef, .undef, .undef, .undef, .undef], []⟩) (fun k => sz - k.1) ⟨0, Nat.zero_le _⟩ ?_ ?_
  · exact Le.ofs hC [] (by decide) trivial (by simp [V2s, V2, V1, VC, names, valN, hml])
  · rintro ⟨k, hk⟩
    refine zx (hq := ?_)
    refine go_cond (fun hc => ?_) (fun hc => ?_)
    · have hlt : k < sz := by simpa using hc
      have hlm : k < m.length := by omega
      obtain ⟨c0, c1⟩ := mem_getD hlm hmb
      refine zx (hq := ?_)
      refine o_step (Stp.index (h0 := by simp) (h1 := by simp; omega) (hr := by simp only [indexA, Int.toNat_natCast, ints_get _ m k hlm]; rfl)) (h := ?_)
      refine zx (hq := ?_)
      have hv : valN (m.take k) < 16777216 := by
        have := valN_lt (m.take k) (fun x hx => hmb x (List.mem_of_mem_take hx))
        rw [List.length_take] at this
        have h3 : 256 ^ min k m.length ≤ 256 ^ 3 := Nat.pow_le_pow_right (by decide) (by omega)
        omega
      have key : orI .i64 (shlI .i64 (valN (m.take k) : Nat) 8) (IntKind.i64.wrap (m.getD k 0)) = ((valN (m.take (k + 1)) : Nat) : Int) := by
        obtain ⟨x, hx⟩ := Int.eq_ofNat_of_zero_le c0
        rw [wrap_le (n := m.getD k 0) c0 (by omega), take_getD m 0 k hlm, valN_snoc, hx, show shlI .i64 (valN (m.take k) : Nat) 8 = ((valN (m.take k) * 256 : Nat) : Int) from shl_i64 _ 8 (by decide) (by omega),
          or_i64 _ _ (by omega) (by omega), or_mul _ _ (by omega), Int.toNat_natCast]
      unfold orI shlI at key
      rw [key]
      refine ⟨⟨k + 1, hlt⟩, ?_, ?_⟩
      · show sz - (k + 1) < sz - k
        omega
      · refine Le.ofs hC [] (by decide) trivial ?_
        simp [V2s, V2, V1, VC, names]
        exact wrap_le (by omega) (by omega)
    · have hge : k = sz := by
        simp at hc
        omega
      subst hge
      refine zx (hq := ?_)
      exact Out.t0 rfl ⟨⟨rfl, by rw [List.take_of_length_le (by show m.length ≤ k; omega)]⟩, ⟨rfl, rfl⟩, trivial⟩
end Go.Proofs.Ytekojicaeadepaa.Vm
namespace Go.Proofs.Ytekojicaeadepaa.Vm
open Go.Vm Go.Proofs
set_option linter.unusedSimpArgs false
-- quick

def st16 (r : Nat) : Nat := if 2 * r > 65535 then (2 * r &&& 65535) ^^^ 4129 else 2 * r
theorem st16_lt {r : Nat} (h : r < 65536) : st16 r < 65536 := by
  unfold st16
  split
  · exact Nat.xor_lt_two_pow (n := 16) (Nat.lt_of_le_of_lt Nat.and_le_right (by decide)) (by decide)
  · omega
def it16 : Nat → Nat → Nat
  | 0, r => r
  | k + 1, r => st16 (it16 k r)
theorem it16_lt {r : Nat} (h : r < 65536) : ∀ k, it16 k r < 65536
  | 0 => h
  | k + 1 => st16_lt (it16_lt h k)
def tb16 (n : Nat) : List Int := (List.range n).map fun i => ((it16 8 (256 * i) : Nat) : Int)
theorem tb16_len (n : Nat) : (tb16 n).length = n := by simp [tb16]
theorem tb16_succ (n : Nat) : tb16 (n + 1) = tb16 n ++ [((it16 8 (256 * n) : Nat) : Int)] := by simp [tb16, List.range_succ]
theorem tb16_at (i : Nat) (h : i < 256) : (tb16 256).getD i 0 = ((it16 8 (256 * i) : Nat) : Int) := by
  rw [List.getD_eq_getElem?_getD, tb16, List.getElem?_map, List.getElem?_range h]
  rfl

set_option maxRecDepth 10000 in
theorem Table16_fn : Does Try.prog 73 [] (.ref 0 0) [.row 3 0 (ints .i64 (tb16 256))] := by
  refine Does.of Try.func73 rfl Try.ntmps73 fun C hC => ?_
  refine zx (hq := ?_)
  refine go_loop (ι := { k : Nat // k ≤ 256 }) (fun k => ⟨[.undef, .ref 0 0, .undef, .undef, .int .i64 (k.1 : Nat), .undef, .undef, .undef, .undef, .undef, .undef, .undef, .undef, .undef, .undef, .undef, .undef, .undef, .undef, .undef, .undef, .undef, .undef, .undef, .undef], [.row 3 0 (ints .i64 (tb16 k.1))]⟩) (fun k => 256 - k.1) ⟨0, Nat.zero_le _⟩ ?_ ?_
  · exact Le.ofs hC [none] (by decide) ⟨⟨rfl, rfl, by rfl⟩, trivial⟩ (by simp [V2s, V2, V1, VC, names]; rfl)
  · rintro ⟨k, hk⟩
    refine zx (hq := ?_)
    refine go_cond (fun hc => ?_) (fun hc => ?_)
    · have hlt : k < 256 := by simp at hc; omega
      refine zx (hq := ?_)
      rw [show IntKind.i64.wrap ((k : Int) * 2 ^ min (Int.toNat 8) IntKind.i64.bits) = ((256 * k : Nat) : Int) by
        have := shl_i64 k 8 (by decide) (by omega)
        unfold shlI at this
        rw [Nat.mul_comm]
        exact this]
      refine go_loop (ι := { j : Nat // j ≤ 8 }) (fun j => ⟨[.undef, .ref 0 0, .undef, .int .i64 (it16 j.1 (256 * k) : Nat), .int .i64 (k : Nat), .undef, .undef, .undef, .undef, .int .i64 (j.1 : Nat), .undef, .undef, .undef, .undef, .undef, .undef, .undef, .undef, .undef, .undef, .undef, .undef, .undef, .undef, .undef], [.row 3 0 (ints .i64 (tb16 k))]⟩) (fun j => 8 - j.1) ⟨0, Nat.zero_le _⟩ ?_ ?_
      · exact Le.ofs hC [some 0] (by decide) (by simp [VOs, VO, names]) (by simp [V2s, V2, V1, VC, names, it16])
      · rintro ⟨j, hj⟩
        have hb : it16 j (256 * k) < 65536 := it16_lt (by omega) j
        obtain ⟨r, hr⟩ : ∃ r, r = it16 j (256 * k) := ⟨_, rfl⟩
        simp only [← hr] at hb ⊢
        refine zx (hq := ?_)
        refine go_cond (fun hc => ?_) (fun hc => ?_)
        · have hlt' : j < 8 := by simp at hc; omega
          refine zx (hq := ?_)
          rw [show IntKind.i64.wrap ((r : Int) * 2 ^ min (Int.toNat 1) IntKind.i64.bits) = ((2 * r : Nat) : Int) by
            have := shl_i64 r 1 (by decide) (by omega)
            unfold shlI at this
            rw [Nat.mul_comm]
            exact this]
          refine go_cond (fun hc => ?_) (fun hc => ?_)
          · have h2 : 2 * r > 65535 := by simp at hc; omega
            refine zx (hq := ?_)
            have key : xorI .i64 (andI .i64 ((2 * r : Nat) : Int) 65535) 4129 = ((it16 (j + 1) (256 * k) : Nat) : Int) := by
              have ha : 2 * r &&& 65535 ≤ 65535 := Nat.and_le_right
              rw [show andI .i64 ((2 * r : Nat) : Int) 65535 = ((2 * r &&& 65535 : Nat) : Int) from and_i64 _ 65535 (by omega) (by decide),
                show xorI .i64 ((2 * r &&& 65535 : Nat) : Int) 4129 = (((2 * r &&& 65535) ^^^ 4129 : Nat) : Int) from xor_i64 _ 4129 (by omega) (by decide), it16, ← hr, st16, if_pos h2]
            unfold xorI andI at key
            rw [key]
            refine ⟨⟨j + 1, hlt'⟩, by show 8 - (j + 1) < 8 - j; omega, ?_⟩
            refine Le.ofs hC [some 0] (by decide) (by simp [VOs, VO, names]) ?_
            simp [V2s, V2, V1, VC, names]
            exact wrap_le (by omega) (by omega)
          · have h2 : ¬ 2 * r > 65535 := by simp at hc; omega
            refine zx (hq := ?_)
            refine ⟨⟨j + 1, hlt'⟩, by show 8 - (j + 1) < 8 - j; omega, ?_⟩
            refine Le.ofs hC [some 0] (by decide) (by simp [VOs, VO, names]) ?_
            simp [V2s, V2, V1, VC, names, it16, ← hr, st16, h2]
            exact wrap_le (by omega) (by omega)
        · have hge : j = 8 := by simp at hc; omega
          subst hge
          refine zx (hq := ?_)
          refine o_stepH (Stp.append (hys := by simp) (hb := by simp [tb16_len]; omega) (h63 := by simp [maxLen, tb16_len]; omega)) (h := ?_)
          refine zx (hq := ?_)
          refine ⟨⟨k + 1, hlt⟩, by show 256 - (k + 1) < 256 - k; omega, ?_⟩
          refine Le.ofs hC [some 0] (by decide) ?_ ?_
          · rw [tb16_succ, ← ints_snoc, ← hr]
            exact ⟨⟨rfl, _, rfl⟩, trivial⟩
          · simp [V2s, V2, V1, VC, names]
            exact wrap_le (by omega) (by omega)
    · have hge : k = 256 := by simp at hc; omega
      subst hge
      refine zx (hq := ?_)
      exact Out.oh [some 0]
theorem Table16_sl : Does Try.prog 73 [] (.sl (ints .i64 (tb16 256))) [] := Table16_fn.sl

def stp16 (r : Nat) (c : Int) : Nat := (256 * r &&& 65535) ^^^ it16 8 (256 * (r / 256 ^^^ c.toNat))
def sum16 (l : List Int) : Nat := l.foldl stp16 65535
theorem sum16_snoc (l : List Int) (c : Int) : sum16 (l ++ [c]) = stp16 (sum16 l) c := by simp [sum16]
theorem stp16_lt {r : Nat} {c : Int} (hr : r < 65536) (h0 : 0 ≤ c) (h1 : c < 256) : stp16 r c < 65536 := by
  have h : r / 256 ^^^ c.toNat < 256 := Nat.xor_lt_two_pow (n := 8) (by omega) (by omega)
  exact Nat.xor_lt_two_pow (n := 16) (Nat.lt_of_le_of_lt Nat.and_le_right (by decide)) (it16_lt (by omega) 8)
theorem sum16_lt : ∀ (l : List Int), byteL l → ∀ r, r < 65536 → l.foldl stp16 r < 65536
  | [], _, r, h => h
  | c :: l, hb, r, h => sum16_lt l (fun x hx => hb x (by simp [hx])) _ (stp16_lt h (hb c (by simp)).1 (hb c (by simp)).2)

set_option maxRecDepth 10000 in
theorem Sum16_fn {b : List Int} (hb : byteL b) (hl : b.length ≤ 4096) : Does Try.prog 48 [.sl (ints .u8 b)] (.tup [.int .i64 (sum16 b : Nat), .int .i64 0]) [] := by
  refine Does.of Try.func48 rfl Try.ntmps48 fun C hC => ?_
  refine zx (hq := ?_)
  rw [ints_len, show decide ((b.length : Int) > 4096) = false by simp; omega]
  refine zx (hq := ?_)
  refine o_stepH (Stp.callv (hF := Table16_sl)) (h := ?_)
  refine zx (hq := ?_)
  refine go_loop (ι := { k : Nat // k ≤ b.length }) (fun k => ⟨[.undef, .undef, .undef, .undef, .sl (ints .i64 (tb16 256)), .int .i64 (sum16 (b.take k.1) : Nat), .undef, .undef, .undef, .undef, .undef, .undef, .sl (ints .u8 b), .int .i64 (b.length : Nat), .int .i64 (k.1 : Nat), .undef, .undef, .undef, .undef, .undef, .undef, .undef, .undef, .undef, .undef, .undef, .undef, .undef, .undef, .undef, .undef, .undef], []⟩) (fun k => b.length - k.1) ⟨0, Nat.zero_le _⟩ ?_ ?_
  · exact Le.ofs hC [] (by decide) trivial (by simp [V2s, V2, V1, VC, names, sum16])
  · rintro ⟨k, hk⟩
    have hr : sum16 (b.take k) < 65536 := sum16_lt _ (fun x hx => hb x (List.mem_of_mem_take hx)) _ (by decide)
    refine zx (hq := ?_)
    refine go_cond (fun hc => ?_) (fun hc => ?_)
    · have hlt : k < b.length := by simpa using hc
      obtain ⟨c0, c1⟩ := mem_getD hlt hb
      refine zx (hq := ?_)
      refine o_step (Stp.index (h0 := by simp) (h1 := by simp; omega) (hr := by simp only [indexA, Int.toNat_natCast, ints_get _ b k hlt]; rfl)) (h := ?_)
      refine zx (hq := ?_)
      have hsn : sum16 (b.take (k + 1)) = stp16 (sum16 (b.take k)) (b.getD k 0) := by rw [take_getD b 0 k hlt, sum16_snoc]
      obtain ⟨x, hx⟩ := Int.eq_ofNat_of_zero_le c0
      obtain ⟨r, hre⟩ : ∃ r, r = sum16 (b.take k) := ⟨_, rfl⟩
      simp only [← hre] at hr hsn ⊢
      have hi : r / 256 ^^^ x < 256 := Nat.xor_lt_two_pow (n := 8) (by omega) (by omega)
      have k1 : xorI .i64 (shrI .i64 (r : Nat) 8) (IntKind.i64.wrap (b.getD k 0)) = ((r / 256 ^^^ x : Nat) : Int) := by
        rw [hx, wrap_le (n := (x : Int)) (by omega) (by omega), show shrI .i64 (r : Nat) 8 = ((r / 256 : Nat) : Int) from shr_nat r 8 (by decide), xor_i64 _ _ (by omega) (by omega)]
      unfold xorI shrI at k1
      rw [k1]
      refine o_step (Stp.index (h0 := by omega) (h1 := by simp [tb16_len]; omega) (hr := by simp only [indexA, Int.toNat_natCast, ints_get _ (tb16 256) (r / 256 ^^^ x) (by rw [tb16_len]; exact hi), tb16_at _ hi]; rfl)) (h := ?_)
      refine zx (hq := ?_)
      have k2 : xorI .i64 (andI .i64 (shlI .i64 (r : Nat) 8) 65535) ((it16 8 (256 * (r / 256 ^^^ x)) : Nat) : Int) = ((stp16 r (b.getD k 0) : Nat) : Int) := by
        have ha : 256 * r &&& 65535 ≤ 65535 := Nat.and_le_right
        have hb : it16 8 (256 * (r / 256 ^^^ x)) < 65536 := it16_lt (by omega) 8
        rw [show shlI .i64 (r : Nat) 8 = ((256 * r : Nat) : Int) by rw [Nat.mul_comm]; exact shl_i64 r 8 (by decide) (by omega), show andI .i64 ((256 * r : Nat) : Int) 65535 = ((256 * r &&& 65535 : Nat) : Int) from and_i64 _ 65535 (by omega) (by decide),
          xor_i64 _ _ (by omega) (by omega), stp16, hx, Int.toNat_natCast]
      unfold xorI andI shlI at k2
      rw [k2]
      refine ⟨⟨k + 1, hlt⟩, by show b.length - (k + 1) < b.length - k; omega, ?_⟩
      refine Le.ofs hC [] (by decide) trivial ?_
      simp only [hsn]
      simp [V2s, V2, V1, VC, names]
      exact wrap_le (by omega) (by omega)
    · have hge : k = b.length := by simp at hc; omega
      subst hge
      refine zx (hq := ?_)
      exact Out.t0 rfl ⟨⟨rfl, by rw [List.take_of_length_le (Nat.le_refl _)]⟩, ⟨rfl, rfl⟩, trivial⟩
end Go.Proofs.Ytekojicaeadepaa.Vm
namespace Go.Proofs.Ytekojicaeadepaa.Vm
open Go.Vm Go.Proofs
set_option linter.unusedSimpArgs false
-- quick

def headN (seq round frm len : Nat) : List Int := [68] ++ beL seq 4 ++ beL round 1 ++ beL frm 2 ++ beL len 1
def pktN (seq round frm : Nat) (syms : List Int) : List Int := headN seq round frm syms.length ++ beL (sum16 (headN seq round frm syms.length)) 2 ++ syms
theorem headN_len (a b c d : Nat) : (headN a b c d).length = 9 := rfl
theorem pktN_len (a b c : Nat) (l : List Int) : (pktN a b c l).length = 11 + l.length := by simp [pktN, headN_len, beL_len]; omega
theorem byteL_app {a b : List Int} (ha : byteL a) (hb : byteL b) : byteL (a ++ b) := fun x hx => (List.mem_append.1 hx).elim (ha x) (hb x)
theorem headN_byte (a b c d : Nat) : byteL (headN a b c d) :=
  byteL_app (byteL_app (byteL_app (byteL_app (fun x hx => by simp at hx; omega) (beL_byte _ _)) (beL_byte _ _)) (beL_byte _ _)) (beL_byte _ _)
theorem pktN_byte (a b c : Nat) {l : List Int} (h : byteL l) : byteL (pktN a b c l) := byteL_app (byteL_app (headN_byte _ _ _ _) (beL_byte _ _)) h
theorem sum16_head (a b c d : Nat) : sum16 (headN a b c d) < 65536 := sum16_lt _ (headN_byte a b c d) _ (by decide)

set_option maxHeartbeats 1000000 in
set_option maxRecDepth 10000 in
theorem Make_fn {seq round frm : Nat} {syms : List Int} (h1 : seq < 1073741824) (h2 : round < 256) (h3 : frm < 65536) (h4 : 1 ≤ syms.length ∧ syms.length ≤ 64) :
    Does Try.prog 47 [.agg [.int .i64 seq, .int .i64 round, .int .i64 frm, .sl (ints .u8 syms)]] (.tup [.ref 0 0, .int .i64 0]) [.row 5 0 (ints .u8 (pktN seq round frm syms))] := by
  refine Does.of Try.func47 rfl Try.ntmps47 fun C hC => ?_
  refine zx (hq := ?_)
  rw [show decide ((seq : Int) < 0) = false by simp]
  refine zx (hq := ?_)
  rw [show decide ((seq : Int) ≥ 1073741824) = false by simp; omega]
  refine zx (hq := ?_)
  rw [show decide ((round : Int) < 0) = false by simp]
  refine zx (hq := ?_)
  rw [show decide ((round : Int) > 255) = false by simp; omega]
  refine zx (hq := ?_)
  rw [show decide ((frm : Int) < 0) = false by simp]
  refine zx (hq := ?_)
  rw [show decide ((frm : Int) > 65535) = false by simp; omega]
  refine zx (hq := ?_)
  rw [ints_len, show decide ((syms.length : Int) < 1) = false by simp; omega]
  refine zx (hq := ?_)
  rw [ints_len, show decide ((syms.length : Int) > 64) = false by simp; omega]
  refine zx (hq := ?_)
  refine o_stepH (Stp.callr (hF := Put_fn (b := [68]) (n := seq) (sz := 4) (by decide) (by decide) (by omega) (by decide))) (h := ?_)
  refine zx (hq := ?_)
  refine o_stepH (Stp.callr (hF := Put_fn (b := [68] ++ beL seq 4) (n := round) (sz := 1) (by decide) (by decide) (by omega) (by simp [beL_len]))) (h := ?_)
  refine zx (hq := ?_)
  refine o_stepH (Stp.callr (hF := Put_fn (b := [68] ++ beL seq 4 ++ beL round 1) (n := frm) (sz := 2) (by decide) (by decide) (by omega) (by simp [beL_len]))) (h := ?_)
  refine zx (hq := ?_)
  rw [ints_len]
  refine o_stepH (Stp.callr (hF := Put_fn (b := [68] ++ beL seq 4 ++ beL round 1 ++ beL frm 2) (n := syms.length) (sz := 1) (by decide) (by decide) (by omega) (by simp [beL_len]))) (h := ?_)
  refine zx (hq := ?_)
  rw [show 68 :: (beL seq 4 ++ beL round 1 ++ beL frm 2 ++ beL syms.length 1) = headN seq round frm syms.length from rfl]
  refine o_stepH (Stp.callv (hF := Sum16_fn (headN_byte seq round frm syms.length) (by rw [headN_len]; decide))) (h := ?_)
  refine zx (hq := ?_)
  refine o_stepH (Stp.callr (hF := Put_fn (b := headN seq round frm syms.length) (n := sum16 (headN seq round frm syms.length)) (sz := 2) (by decide) (by decide) (sum16_head _ _ _ _) (by rw [headN_len]; decide))) (h := ?_)
  refine zx (hq := ?_)
  refine o_stepH (Stp.append (hys := ints_one _ _) (hb := by simp [headN_len, beL_len]; omega) (h63 := by simp [maxLen, headN_len, beL_len]; omega)) (h := ?_)
  refine zx (hq := ?_)
  exact Out.th [some 6] (by decide) rfl (by simp [VOs, VO, names, pktN, ints_app])
theorem Make_sl {seq round frm : Nat} {syms : List Int} (h1 : seq < 1073741824) (h2 : round < 256) (h3 : frm < 65536) (h4 : 1 ≤ syms.length ∧ syms.length ≤ 64) :
    Does Try.prog 47 [.agg [.int .i64 seq, .int .i64 round, .int .i64 frm, .sl (ints .u8 syms)]] (.tup [.sl (ints .u8 (pktN seq round frm syms)), .int .i64 0]) [] := (Make_fn h1 h2 h3 h4).sl

theorem val1 (n : Nat) (h : n < 256) : valN (beL n 1) = n := by
  show (0 * 256 + ((n / 1 % 256 : Nat) : Int).toNat) = n
  omega
theorem val2 (n : Nat) (h : n < 65536) : valN (beL n 2) = n := by
  show (0 * 256 + ((n / 256 % 256 : Nat) : Int).toNat) * 256 + ((n / 1 % 256 : Nat) : Int).toNat = n
  omega
theorem val4 (n : Nat) (h : n < 4294967296) : valN (beL n 4) = n := by
  show (((0 * 256 + ((n / 16777216 % 256 : Nat) : Int).toNat) * 256 + ((n / 65536 % 256 : Nat) : Int).toNat) * 256 + ((n / 256 % 256 : Nat) : Int).toNat) * 256 + ((n / 1 % 256 : Nat) : Int).toNat = n
  omega
theorem pkt_get0 (a b c : Nat) (l : List Int) : (pktN a b c l).getD 0 0 = 68 := rfl
theorem pkt_get5 (a b c : Nat) (l : List Int) (h : b < 256) : (pktN a b c l).getD 5 0 = (b : Int) := by
  show ((b / 1 % 256 : Nat) : Int) = b
  omega
theorem pkt_get8 (a b c : Nat) (l : List Int) (h : l.length < 256) : (pktN a b c l).getD 8 0 = (l.length : Int) := by
  show ((l.length / 1 % 256 : Nat) : Int) = l.length
  omega
theorem pkt_head (a b c : Nat) (l : List Int) : ((pktN a b c l).take 9).drop 0 = headN a b c l.length := rfl
theorem pkt_seq (a b c : Nat) (l : List Int) : ((pktN a b c l).take (1 + 4)).drop 1 = beL a 4 := rfl
theorem pkt_frm (a b c : Nat) (l : List Int) : ((pktN a b c l).take (6 + 2)).drop 6 = beL c 2 := rfl
theorem pkt_sum (a b c : Nat) (l : List Int) : ((pktN a b c l).take (9 + 2)).drop 9 = beL (sum16 (headN a b c l.length)) 2 := rfl
theorem pkt_syms (a b c : Nat) (l : List Int) : (pktN a b c l).drop 11 = l := rfl

theorem slice_tail {k : IntKind} {l : List Int} {a : Nat} : sliceA (.sl (ints k l)) a (((ints k l).length : Nat) : Int).toNat = some (.sl (ints k (l.drop a))) := by
  rw [Int.toNat_natCast]
  simp only [sliceA, List.take_length, ints_drop]
set_option maxHeartbeats 1000000 in
set_option maxRecDepth 10000 in
theorem Read_fn {seq round frm : Nat} {syms : List Int} (h1 : seq < 1073741824) (h2 : round < 256) (h3 : frm < 65536) (h4 : 1 ≤ syms.length ∧ syms.length ≤ 64) (hb : byteL syms) :
    Does Try.prog 16 [.sl (ints .u8 (pktN seq round frm syms))] (.tup [.agg [.int .i64 seq, .int .i64 round, .int .i64 frm, .sl (ints .u8 syms)], .int .i64 0]) [] := by
  have hl := pktN_len seq round frm syms
  have hpb := pktN_byte seq round frm hb
  have e9 : (ints .u8 (pktN seq round frm syms)).length = 11 + syms.length := by rw [ints_len, hl]
  refine Does.of Try.func16 rfl Try.ntmps16 fun C hC => ?_
  refine zx (hq := ?_)
  rw [e9, show decide (((11 + syms.length : Nat) : Int) ≤ 11) = false by simp; omega]
  refine zx (hq := ?_)
  rw [e9, show decide (((11 + syms.length : Nat) : Int) > 75) = false by simp; omega]
  refine zx (hq := ?_)
  refine o_step (Stp.index (h0 := by decide) (h1 := by rw [e9]; omega) (hr := by simp only [indexA, Int.toNat_zero, ints_get _ (pktN seq round frm syms) 0 (by omega), pkt_get0]; rfl)) (h := ?_)
  refine zx (hq := ?_)
  refine o_step (Stp.slice (h0 := by decide) (h1 := by decide) (h2 := by rw [e9]; omega) (hs := by exact ints_one _ _)) (h := ?_)
  rw [show (List.drop (Int.toNat 0) (List.take (Int.toNat 9) (ints .u8 (pktN seq round frm syms)))) = ints .u8 (headN seq round frm syms.length) from rfl]
  refine o_stepH (Stp.callv (hF := Sum16_fn (headN_byte seq round frm syms.length) (by rw [headN_len]; decide))) (h := ?_)
  refine zx (hq := ?_)
  refine o_stepH (Stp.callv (hF := Get_fn (b := pktN seq round frm syms) (at_ := 9) (sz := 2) (by decide) (by decide) hpb (by omega) (by omega))) (h := ?_)
  rw [pkt_sum, val2 _ (sum16_head _ _ _ _)]
  refine zx (hq := ?_)
  refine o_stepH (Stp.callv (hF := Get_fn (b := pktN seq round frm syms) (at_ := 1) (sz := 4) (by decide) (by decide) hpb (by omega) (by omega))) (h := ?_)
  rw [pkt_seq, val4 _ (by omega)]
  refine zx (hq := ?_)
  refine o_stepH (Stp.callv (hF := Get_fn (b := pktN seq round frm syms) (at_ := 6) (sz := 2) (by decide) (by decide) hpb (by omega) (by omega))) (h := ?_)
  rw [pkt_frm, val2 _ h3]
  refine zx (hq := ?_)
  refine go_f ?_ (hb := by simp)
  refine zx (hq := ?_)
  refine go_f ?_ (hb := by simp; omega)
  refine zx (hq := ?_)
  refine o_step (Stp.index (h0 := by decide) (h1 := by rw [e9]; omega) (hr := by simp only [indexA, show Int.toNat 8 = 8 from rfl, ints_get _ (pktN seq round frm syms) 8 (by omega), pkt_get8 _ _ _ _ (show syms.length < 256 by omega)]; rfl)) (h := ?_)
  refine zx (hq := ?_)
  rw [e9, wrap_le (n := (syms.length : Int)) (by omega) (by omega), wrap_le (n := ((11 + syms.length : Nat) : Int) - 11) (by omega) (by omega)]
  refine go_f ?_ (hb := by simp; omega)
  refine zx (hq := ?_)
  refine go_draw (Hs := [[.box 36 [.int .i64 0, .int .i64 0, .int .i64 0, .nil]], [.box 36 [.int .i64 seq, .int .i64 round, .int .i64 frm, .sl (ints .u8 syms)]]])
    (eff := [false, false, false, false, false, false, false, false, false, false, true, false]) (R := [[0], [0], [0], [0], [0], [0], [0], [0], [0], [0], [0], [1]]) (Mixed.h) (by kernel_rfl) (by kernel_rfl) rfl rfl ?_
  refine d_step (s := Stp.move) (h := ?_)
  refine d_step (s := Stp.move) (h := ?_)
  refine d_step (s := Stp.index (h0 := by decide) (h1 := by rw [e9]; omega) (hr := by simp only [indexA, show Int.toNat 5 = 5 from rfl, ints_get _ (pktN seq round frm syms) 5 (by omega), pkt_get5 _ _ _ _ h2]; rfl)) (h := ?_)
  refine d_step (s := Stp.load) (h := ?_)
  refine d_step (s := Stp.conv) (h := ?_)
  refine d_step (s := Stp.move) (h := ?_)
  refine d_step (s := Stp.move) (h := ?_)
  refine d_step (s := Stp.slice (h0 := by decide) (h1 := by rw [e9]; omega) (h2 := by omega) (hs := by exact ints_one _ _) (hr := slice_tail)) (h := ?_)
  refine d_step (s := Stp.callv (hF := Clone_sl syms (by omega))) (h := ?_)
  refine d_step (s := Stp.build) (h := ?_)
  refine d_stepH (s := Stp.store) (h2 := by simp only [wrap_le (n := (round : Int)) (by omega) (by omega)]; rfl) (h := ?_)
  refine d_step (s := Stp.assign) (h := ?_)
  refine d_nil ?_
  refine zx (hq := ?_)
  exact Out.t0
end Go.Proofs.Ytekojicaeadepaa.Vm
namespace Go.Proofs.Ytekojicaeadepaa.Vm
open Go.Vm Go.Proofs
set_option linter.unusedSimpArgs false
set_option maxRecDepth 10000
-- quick

/-- the same state, told otherwise -/
theorem chp {P : Program} {C : Ctx} {c : Code} {K : Exit → St → Prop} {tm : List A} {hp : List Ob} (hp' : List Ob) (h : CodeS P C c ⟨tm, hp'⟩ K) (e : hp = hp' := by rfl) : CodeS P C c ⟨tm, hp⟩ K := e ▸ h
/-- two ways come together -/
theorem go_join {P : Program} {C : Ctx} {c rest : Code} {K : Exit → St → Prop} {st : St} (M : St) (h : CodeS P C c st (Kseq K (fun st' => Le P C st' M))) (hr : CodeS P C rest M K) : CodeS P C c st (Kseq K (fun st => CodeS P C rest st K)) :=
  h.mono fun e st' hk => by
    cases e <;> first | exact CodeS.le hk hr | exact hk
structure Em where
  (seq round frm : Nat) (acked : Bool) (bytes : List Int)
def Em.A (e : Em) : List A := [.int .i64 e.seq, .int .i64 e.round, .int .i64 e.frm, .bool e.acked, .sl (ints .u8 e.bytes)]
def mostN (c : Cfg) : Nat := (mostI c).toNat
theorem mostN_eq (c : Cfg) [CfgOk c] : (mostN c : Int) = mostI c := by
  have := most_le c
  unfold mostN
  omega
class EmOk (c : Cfg) (e : Em) : Prop where
  len : (e.bytes.length : Int) = c.bytes + 10
  byte : byteL e.bytes
  seq : e.seq < 1073741824
  round : e.round < 256
  frm : e.frm ≤ mostN c

set_option maxHeartbeats 1000000 in
instance Right_fn (c : Cfg) (e : Em) [hc : CfgOk c] [he : EmOk c e] : Fu Try.prog 72 [.agg c.A, .agg e.A] (.bool true) := ⟨by
  have hn := (CfgOk.nums c).1
  have h1 := he.len
  have h2 := he.seq
  have h3 := he.round
  have h4 := he.frm
  have hm := mostN_eq c
  have hw : IntKind.i64.wrap (c.bytes + 10) = c.bytes + 10 := wrap_le (by omega) (by omega)
  refine Does.of Try.func72 rfl Try.ntmps72 fun C hC => ?_
  refine zx (hq := ?_)
  refine go_draw0 (by kernel_rfl) (by kernel_rfl) ?_
  generalize hM : (1073741824 : Int) = M
  generalize hM2 : (256 : Int) = M2
  refine zd (hq := ?_)
  rw [hw, ints_len, h1, show ((c.bytes + 10) == (c.bytes + 10)) = true by simp]
  refine zd (hq := ?_)
  rw [show decide ((e.seq : Int) ≥ 0) = true by simp]
  refine zd (hq := ?_)
  rw [show decide ((e.seq : Int) < M) = true by simp; omega]
  refine zd (hq := ?_)
  rw [show decide ((e.round : Int) ≥ 0) = true by simp]
  refine zd (hq := ?_)
  rw [show decide ((e.round : Int) < M2) = true by simp; omega]
  refine zd (hq := ?_)
  rw [show decide ((e.frm : Int) ≥ 0) = true by simp]
  refine zd (hq := ?_)
  rw [show decide ((e.frm : Int) ≤ mostI c) = true by simp; omega]
  refine zx (hq := ?_)
  exact Out.o0⟩
instance ECheck_fn (c : Cfg) (e : Em) [hc : CfgOk c] [he : EmOk c e] : Fu Try.prog 45 [.agg c.A, .agg e.A] (.int .i64 0) := ⟨by
  refine Does.of Try.func45 rfl Try.ntmps45 fun C hC => ?_
  refine zx (hq := ?_)
  exact Out.o0⟩
theorem New_fn {c : Cfg} [hc : CfgOk c] {seq : Nat} {b : List Int} (h1 : (b.length : Int) = c.bytes + 10) (h2 : byteL b) (h3 : seq < 1073741824) :
    Does Try.prog 50 [.agg c.A, .int .i64 seq, .sl (ints .u8 b)] (.tup [.agg (Em.mk seq 0 0 false b).A, .int .i64 0]) [] := by
  have hn := (CfgOk.nums c).1
  haveI : EmOk c (Em.mk seq 0 0 false b) := ⟨h1, h2, h3, Nat.zero_lt_succ _, Nat.zero_le _⟩
  refine Does.of Try.func50 rfl Try.ntmps50 fun C hC => ?_
  refine zx (hq := ?_)
  refine o_stepH (Stp.callv (hF := Clone_sl b (by omega))) (h := ?_)
  refine zx (hq := ?_)
  refine o_step (Stp.callv (hF := (ECheck_fn c (Em.mk seq 0 0 false b)).h)) (h := ?_)
  refine zx (hq := ?_)
  exact Out.t0

def goE (c : Cfg) (e : Em) : Em := if e.frm = mostN c then { e with round := (e.round + 1) % 256, frm := 0 } else e
def goN (c : Cfg) (e : Em) : Nat := min c.batch.toNat (mostN c - (goE c e).frm)
def tickE (c : Cfg) (e : Em) : Em := if e.acked then e else { goE c e with frm := (goE c e).frm + goN c e }
def tickP (c : Cfg) (e : Em) : List Int := if e.acked then [] else pktN e.seq (goE c e).round (goE c e).frm (symsI e.bytes (goE c e).frm (goN c e))

theorem goE_ok (c : Cfg) (e : Em) [he : EmOk c e] [hc : CfgOk c] : (goE c e).round < 256 ∧ (goE c e).frm < mostN c ∧ (goE c e).seq = e.seq ∧ (goE c e).bytes = e.bytes ∧ (goE c e).acked = e.acked := by
  have h1 := he.round
  have h2 := he.frm
  have h3 := mostN_eq c
  have h4 := most_le c
  unfold goE
  split
  · refine ⟨?_, ?_, rfl, rfl, rfl⟩
    · show (e.round + 1) % 256 < 256
      omega
    · show 0 < mostN c
      omega
  · exact ⟨h1, by omega, rfl, rfl, rfl⟩
theorem goN_ok (c : Cfg) (e : Em) [he : EmOk c e] [hc : CfgOk c] : 1 ≤ goN c e ∧ goN c e ≤ 64 ∧ (goE c e).frm + goN c e ≤ mostN c := by
  have h1 := (goE_ok c e).2.1
  have h2 := (CfgOk.nums c).2.2.2.2.2.2.1
  unfold goN
  omega
theorem encI_byte (st : List Int) (n a c : Nat) : byteL (encI st n a c) := by
  intro x hx
  obtain ⟨j, _, rfl⟩ := List.mem_map.1 hx
  rw [wrap_u8]
  omega
theorem symsI_byte (b : List Int) (a c : Nat) : byteL (symsI b a c) := encI_byte _ _ _ _

theorem Encode_sl {b : List Int} (hb : byteL b) (h1 : 1 ≤ b.length) (h2 : b.length ≤ 32) {a c : Nat} (hac : a + c ≤ 2 * b.length * 16) :
    Does Try.prog 11 [.sl (ints .u8 b), .int .i64 a, .int .i64 c] (.tup [.sl (ints .u8 (symsI b a c)), .int .i64 0]) [] := (Encode_fn hb h1 h2 hac).sl
set_option maxHeartbeats 1000000 in
theorem Tick_fn (c : Cfg) (e : Em) [hc : CfgOk c] [he : EmOk c e] : Does Try.prog 15 [.agg c.A, .agg e.A] (.tup [.agg (tickE c e).A, .sl (ints .u8 (tickP c e)), .int .i64 0]) [] := by
  have hn := (CfgOk.nums c).1
  have hb := (CfgOk.nums c).2.2.2.2.2.2.1
  have hp := (CfgOk.nums c).2.2.2.2.2.2.2.1
  have h1 := he.len
  have h2 := he.byte
  have hm := mostN_eq c
  have hm2 := most_le c
  obtain ⟨g1, g2, g3, g4, g5⟩ := goE_ok c e
  obtain ⟨n1, n2, n3⟩ := goN_ok c e
  have hmo : mostN c ≤ 2 * e.bytes.length * 16 := by
    have : mostI c ≤ 2 * (c.bytes + 10) * 16 := Int.mul_le_mul_of_nonneg_left hp.2 (by omega)
    omega
  refine Does.of Try.func15 rfl Try.ntmps15 fun C hC => ?_
  refine zx (hq := ?_)
  refine o_stepH (Stp.callv (hF := Clone_sl e.bytes (by omega))) (h := ?_)
  refine zx (hq := ?_)
  refine chp [.box 23 c.A, .box 28 e.A, .box 28 e.A] ?_
  cases hk : e.acked
  · rw [show tickE c e = { goE c e with frm := (goE c e).frm + goN c e } by simp [tickE, hk], show tickP c e = pktN e.seq (goE c e).round (goE c e).frm (symsI e.bytes (goE c e).frm (goN c e)) by simp [tickP, hk]]
    refine zx (hq := ?_)
    refine go_join ⟨[.undef, .undef, .ptr 0 0 0 0, .undef, .ptr 2 0 0 0, .undef, .undef, .int .i64 (mostI c), .undef, .undef, .undef, .undef, .undef, .undef, .undef, .undef, .undef, .undef, .undef, .undef, .undef, .undef, .undef, .undef, .undef, .undef, .undef, .undef, .undef, .undef, .undef, .undef, .undef, .undef, .undef, .undef, .undef, .undef, .undef, .undef, .undef, .undef, .undef, .undef, .undef, .undef, .undef, .undef, .undef, .undef, .undef, .undef, .undef, .undef, .undef, .undef, .undef, .undef, .undef, .undef, .undef, .undef, .undef, .undef, .undef, .undef, .undef, .undef, .undef, .undef, .undef, .undef, .undef, .undef, .undef, .undef, .undef, .undef, .undef, .undef], [.box 23 c.A, .box 28 e.A, .box 28 (goE c e).A]⟩ ?_ ?_
    · refine go_cond (fun hc => ?_) (fun hc => ?_)
      · have hq : e.frm = mostN c := by
          have : (e.frm : Int) = mostI c := by simpa using hc
          omega
        have hr := he.round
        refine zx (hq := ?_)
        rw [wrap_le (n := (e.round : Int) + 1) (by omega) (by omega), show ((e.round : Int) + 1).tmod 256 = (((e.round + 1) % 256 : Nat) : Int) by rw [Int.tmod_eq_emod_of_nonneg (by omega)]; omega]
        refine Le.ofs hC [some 0, some 1, some 2] (by decide) ?_ (by simp [V2s, V2, V1, VC, names])
        rw [show goE c e = { e with round := (e.round + 1) % 256, frm := 0 } by unfold goE; rw [if_pos hq]]
        simp [VOs, VO, names, VCs, VC, Em.A, Cfg.A]
      · have hq : ¬ e.frm = mostN c := by
          have : ¬ (e.frm : Int) = mostI c := by simpa using hc
          omega
        refine zx (hq := ?_)
        refine Le.ofs hC [some 0, some 1, some 2] (by decide) ?_ (by simp [V2s, V2, V1, VC, names])
        rw [show goE c e = e by unfold goE; rw [if_neg hq]]
        simp [VOs, VO, names, VCs, VC, Em.A, Cfg.A]
    · have hmin : (if mostI c - ((goE c e).frm : Int) < c.batch then mostI c - ((goE c e).frm : Int) else c.batch) = (goN c e : Int) := by
        unfold goN
        split <;> omega
      obtain ⟨n, hne⟩ : ∃ n, n = goN c e := ⟨_, rfl⟩
      rw [← hne] at hmin n1 n2 n3 ⊢
      obtain ⟨g, hge⟩ : ∃ g, g = goE c e := ⟨_, rfl⟩
      rw [← hge] at hmin g1 g2 g3 g4 g5 n3 ⊢
      refine zx (hq := ?_)
      rw [wrap_le (n := mostI c - (g.frm : Int)) (by omega) (by omega), hmin]
      refine o_stepH (Stp.callv (hF := Encode_sl (b := g.bytes) (a := g.frm) (c := n) (g4 ▸ h2) (by rw [g4]; omega) (by rw [g4]; omega) (by rw [g4]; omega))) (h := ?_)
      refine zx (hq := ?_)
      refine o_stepH (Stp.callv (hF := Make_sl (seq := g.seq) (round := g.round) (frm := g.frm) (syms := symsI g.bytes g.frm n) (by rw [g3]; exact he.seq) g1 (by omega) (by rw [symsI_len]; exact ⟨n1, n2⟩))) (h := ?_)
      refine zx (hq := ?_)
      rw [wrap_le (n := (g.frm : Int) + (n : Int)) (by omega) (by omega), ← g3, ← g4]
      exact Out.t0
  · rw [show tickE c e = e by simp [tickE, hk], show tickP c e = [] by simp [tickP, hk]]
    refine zx (hq := ?_)
    exact Out.t0
end Go.Proofs.Ytekojicaeadepaa.Vm
namespace Go.Proofs.Ytekojicaeadepaa.Vm
open Go.Vm Go.Proofs
set_option linter.unusedSimpArgs false
set_option maxRecDepth 10000
-- quick

def st32 (r : Nat) : Nat := if r &&& 1 = 1 then r / 2 ^^^ 3988292384 else r / 2
theorem st32_lt {r : Nat} (h : r < 4294967296) : st32 r < 4294967296 := by
  unfold st32
  split
  · exact Nat.xor_lt_two_pow (n := 32) (by omega) (by decide)
  · omega
def it32 : Nat → Nat → Nat
  | 0, r => r
  | k + 1, r => st32 (it32 k r)
theorem it32_lt {r : Nat} (h : r < 4294967296) : ∀ k, it32 k r < 4294967296
  | 0 => h
  | k + 1 => st32_lt (it32_lt h k)
def tb32 (n : Nat) : List Int := (List.range n).map fun i => ((it32 8 i : Nat) : Int)
theorem tb32_len (n : Nat) : (tb32 n).length = n := by simp [tb32]
theorem tb32_succ (n : Nat) : tb32 (n + 1) = tb32 n ++ [((it32 8 n : Nat) : Int)] := by simp [tb32, List.range_succ]
theorem tb32_at (i : Nat) (h : i < 256) : (tb32 256).getD i 0 = ((it32 8 i : Nat) : Int) := by
  rw [List.getD_eq_getElem?_getD, tb32, List.getElem?_map, List.getElem?_range h]
  rfl
theorem shr1 (r : Nat) : (r : Int).fdiv (2 ^ min (Int.toNat 1) IntKind.i64.bits) = ((r / 2 : Nat) : Int) := shr_nat (k := .i64) r 1 (by decide)
theorem shr8 (r : Nat) : (r : Int).fdiv (2 ^ min (Int.toNat 8) IntKind.i64.bits) = ((r / 256 : Nat) : Int) := shr_nat (k := .i64) r 8 (by decide)

theorem Table32_fn : Does Try.prog 88 [] (.ref 0 0) [.row 3 0 (ints .i64 (tb32 256))] := by
  refine Does.of Try.func88 rfl Try.ntmps88 fun C hC => ?_
  refine zx (hq := ?_)
  refine go_loop (ι := { k : Nat // k ≤ 256 }) (fun k => ⟨[.undef, .ref 0 0, .undef, .undef, .undef, .int .i64 (k.1 : Nat), .undef, .undef, .undef, .undef, .undef, .undef, .undef, .undef, .undef, .undef, .undef, .undef, .undef, .undef, .undef, .undef, .undef, .undef, .undef, .undef], [.row 3 0 (ints .i64 (tb32 k.1))]⟩) (fun k => 256 - k.1) ⟨0, Nat.zero_le _⟩ ?_ ?_
  · exact Le.ofs hC [none] (by decide) ⟨⟨rfl, rfl, by rfl⟩, trivial⟩ (by simp [V2s, V2, V1, VC, names]; rfl)
  · rintro ⟨k, hk⟩
    refine zx (hq := ?_)
    refine go_cond (fun hc => ?_) (fun hc => ?_)
    · have hlt : k < 256 := by simp at hc; omega
      refine zx (hq := ?_)
      refine go_loop (ι := { j : Nat // j ≤ 8 }) (fun j => ⟨[.undef, .ref 0 0, .undef, .int .i64 (it32 j.1 k : Nat), .undef, .int .i64 (k : Nat), .undef, .undef, .undef, .int .i64 (j.1 : Nat), .undef, .undef, .undef, .undef, .undef, .undef, .undef, .undef, .undef, .undef, .undef, .undef, .undef, .undef, .undef, .undef], [.row 3 0 (ints .i64 (tb32 k))]⟩) (fun j => 8 - j.1) ⟨0, Nat.zero_le _⟩ ?_ ?_
      · exact Le.ofs hC [some 0] (by decide) (by simp [VOs, VO, names]) (by simp [V2s, V2, V1, VC, names, it32])
      · rintro ⟨j, hj⟩
        have hb : it32 j k < 4294967296 := it32_lt (by omega) j
        obtain ⟨r, hr⟩ : ∃ r, r = it32 j k := ⟨_, rfl⟩
        simp only [← hr] at hb ⊢
        refine zx (hq := ?_)
        refine go_cond (fun hc => ?_) (fun hc => ?_)
        · have hlt' : j < 8 := by simp at hc; omega
          have ka : andI .i64 (r : Int) 1 = ((r &&& 1 : Nat) : Int) := and_i64 r 1 (by omega) (by decide)
          unfold andI at ka
          refine zx (hq := ?_)
          rw [ka, shr1]
          refine go_cond (fun hc => ?_) (fun hc => ?_)
          · have h2 : r &&& 1 = 1 := by
              have : ((r &&& 1 : Nat) : Int) = 1 := by simpa using hc
              omega
            refine zx (hq := ?_)
            have key : xorI .i64 ((r / 2 : Nat) : Int) 3988292384 = ((it32 (j + 1) k : Nat) : Int) := by
              rw [show xorI .i64 ((r / 2 : Nat) : Int) 3988292384 = ((r / 2 ^^^ 3988292384 : Nat) : Int) from xor_i64 _ 3988292384 (by omega) (by decide), it32, ← hr, st32, if_pos h2]
            unfold xorI at key
            rw [key]
            refine ⟨⟨j + 1, hlt'⟩, by show 8 - (j + 1) < 8 - j; omega, ?_⟩
            refine Le.ofs hC [some 0] (by decide) (by simp [VOs, VO, names]) ?_
            simp [V2s, V2, V1, VC, names]
            exact wrap_le (by omega) (by omega)
          · have h2 : ¬ r &&& 1 = 1 := by
              have : ¬ ((r &&& 1 : Nat) : Int) = 1 := by simpa using hc
              omega
            refine zx (hq := ?_)
            refine ⟨⟨j + 1, hlt'⟩, by show 8 - (j + 1) < 8 - j; omega, ?_⟩
            refine Le.ofs hC [some 0] (by decide) (by simp [VOs, VO, names]) ?_
            have key : it32 (j + 1) k = r / 2 := by rw [it32, ← hr, st32, if_neg h2]
            simp only [key]
            simp [V2s, V2, V1, VC, names]
            exact wrap_le (by omega) (by omega)
        · have hge : j = 8 := by simp at hc; omega
          subst hge
          refine zx (hq := ?_)
          refine o_stepH (Stp.append (hys := by simp) (hb := by simp [tb32_len]; omega) (h63 := by simp [maxLen, tb32_len]; omega)) (h := ?_)
          refine zx (hq := ?_)
          refine ⟨⟨k + 1, hlt⟩, by show 256 - (k + 1) < 256 - k; omega, ?_⟩
          refine Le.ofs hC [some 0] (by decide) ?_ ?_
          · rw [tb32_succ, ← ints_snoc, ← hr]
            exact ⟨⟨rfl, _, rfl⟩, trivial⟩
          · simp [V2s, V2, V1, VC, names]
            exact wrap_le (by omega) (by omega)
    · have hge : k = 256 := by simp at hc; omega
      subst hge
      refine zx (hq := ?_)
      exact Out.oh [some 0]
theorem Table32_sl : Does Try.prog 88 [] (.sl (ints .i64 (tb32 256))) [] := Table32_fn.sl

def stp32 (r : Nat) (c : Int) : Nat := r / 256 ^^^ it32 8 (r &&& 255 ^^^ c.toNat)
def run32 (l : List Int) : Nat := l.foldl stp32 4294967295
def sum32 (l : List Int) : Nat := run32 l ^^^ 4294967295
theorem run32_snoc (l : List Int) (c : Int) : run32 (l ++ [c]) = stp32 (run32 l) c := by simp [run32]
theorem idx32 {r : Nat} {c : Nat} (h1 : c < 256) : r &&& 255 ^^^ c < 256 := Nat.xor_lt_two_pow (n := 8) (Nat.lt_of_le_of_lt Nat.and_le_right (by decide)) h1
theorem stp32_lt {r : Nat} {c : Int} (hr : r < 4294967296) (h0 : 0 ≤ c) (h1 : c < 256) : stp32 r c < 4294967296 :=
  Nat.xor_lt_two_pow (n := 32) (by omega) (it32_lt (Nat.lt_trans (idx32 (by omega)) (by decide)) 8)
theorem run32_lt : ∀ (l : List Int), byteL l → ∀ r, r < 4294967296 → l.foldl stp32 r < 4294967296
  | [], _, r, h => h
  | c :: l, hb, r, h => run32_lt l (fun x hx => hb x (by simp [hx])) _ (stp32_lt h (hb c (by simp)).1 (hb c (by simp)).2)
theorem sum32_lt (l : List Int) (h : byteL l) : sum32 l < 4294967296 := Nat.xor_lt_two_pow (n := 32) (run32_lt l h _ (by decide)) (by decide)

theorem Sum32_fn {b : List Int} (hb : byteL b) (hl : b.length ≤ 4096) : Does Try.prog 79 [.sl (ints .u8 b)] (.tup [.int .i64 (sum32 b : Nat), .int .i64 0]) [] := by
  refine Does.of Try.func79 rfl Try.ntmps79 fun C hC => ?_
  refine zx (hq := ?_)
  rw [ints_len, show decide ((b.length : Int) > 4096) = false by simp; omega]
  refine zx (hq := ?_)
  refine o_stepH (Stp.callv (hF := Table32_sl)) (h := ?_)
  refine zx (hq := ?_)
  refine go_loop (ι := { k : Nat // k ≤ b.length }) (fun k => ⟨[.undef, .undef, .undef, .undef, .sl (ints .i64 (tb32 256)), .int .i64 (run32 (b.take k.1) : Nat), .undef, .undef, .undef, .undef, .undef, .undef, .sl (ints .u8 b), .int .i64 (b.length : Nat), .int .i64 (k.1 : Nat), .undef, .undef, .undef, .undef, .undef, .undef, .undef, .undef, .undef, .undef, .undef, .undef, .undef, .undef, .undef, .undef, .undef], []⟩) (fun k => b.length - k.1) ⟨0, Nat.zero_le _⟩ ?_ ?_
  · exact Le.ofs hC [] (by decide) trivial (by simp [V2s, V2, V1, VC, names, run32])
  · rintro ⟨k, hk⟩
    have hr : run32 (b.take k) < 4294967296 := run32_lt _ (fun x hx => hb x (List.mem_of_mem_take hx)) _ (by decide)
    refine zx (hq := ?_)
    refine go_cond (fun hc => ?_) (fun hc => ?_)
    · have hlt : k < b.length := by simpa using hc
      obtain ⟨c0, c1⟩ := mem_getD hlt hb
      refine zx (hq := ?_)
      refine o_step (Stp.index (h0 := by simp) (h1 := by simp; omega) (hr := by simp only [indexA, Int.toNat_natCast, ints_get _ b k hlt]; rfl)) (h := ?_)
      refine zx (hq := ?_)
      have hsn : run32 (b.take (k + 1)) = stp32 (run32 (b.take k)) (b.getD k 0) := by rw [take_getD b 0 k hlt, run32_snoc]
      obtain ⟨x, hx⟩ := Int.eq_ofNat_of_zero_le c0
      obtain ⟨r, hre⟩ : ∃ r, r = run32 (b.take k) := ⟨_, rfl⟩
      simp only [← hre] at hr hsn ⊢
      have hi : r &&& 255 ^^^ x < 256 := idx32 (by omega)
      have ha : r &&& 255 ≤ 255 := Nat.and_le_right
      have k1 : xorI .i64 (andI .i64 (r : Nat) 255) (IntKind.i64.wrap (b.getD k 0)) = ((r &&& 255 ^^^ x : Nat) : Int) := by
        rw [hx, wrap_le (n := (x : Int)) (by omega) (by omega), show andI .i64 (r : Nat) 255 = ((r &&& 255 : Nat) : Int) from and_i64 r 255 (by omega) (by decide), xor_i64 _ _ (by omega) (by omega)]
      unfold xorI andI at k1
      rw [k1, shr8]
      refine o_step (Stp.index (h0 := by omega) (h1 := by simp [tb32_len]; omega) (hr := by simp only [indexA, Int.toNat_natCast, ints_get _ (tb32 256) (r &&& 255 ^^^ x) (by rw [tb32_len]; exact hi), tb32_at _ hi]; rfl)) (h := ?_)
      refine zx (hq := ?_)
      have k2 : xorI .i64 ((r / 256 : Nat) : Int) ((it32 8 (r &&& 255 ^^^ x) : Nat) : Int) = ((stp32 r (b.getD k 0) : Nat) : Int) := by
        have hb : it32 8 (r &&& 255 ^^^ x) < 4294967296 := it32_lt (by omega) 8
        rw [xor_i64 _ _ (by omega) (by omega), stp32, hx, Int.toNat_natCast]
      unfold xorI at k2
      rw [k2]
      refine ⟨⟨k + 1, hlt⟩, by show b.length - (k + 1) < b.length - k; omega, ?_⟩
      refine Le.ofs hC [] (by decide) trivial ?_
      simp only [hsn]
      simp [V2s, V2, V1, VC, names]
      exact wrap_le (by omega) (by omega)
    · have hge : k = b.length := by simp at hc; omega
      subst hge
      simp only [List.take_length] at hr ⊢
      refine zx (hq := ?_)
      have k3 : xorI .i64 (run32 b : Nat) 4294967295 = ((sum32 b : Nat) : Int) := xor_i64 _ 4294967295 (by omega) (by decide)
      unfold xorI at k3
      rw [k3]
      exact Out.t0

/-- j bytes of a number, the lowest first -/
def leL (n : Nat) : Nat → List Int
  | 0 => []
  | j + 1 => leL n j ++ [((n / 256 ^ j % 256 : Nat) : Int)]
theorem leL_len (n : Nat) : ∀ j, (leL n j).length = j
  | 0 => rfl
  | j + 1 => by simp [leL, leL_len n j]
theorem leL_byte (n : Nat) : ∀ j, byteL (leL n j)
  | 0 => fun x h => by simp [leL] at h
  | j + 1 => fun x h => by
    rcases List.mem_append.1 h with h | h
    · exact leL_byte n j x h
    · simp at h
      omega
def sealN (b : List Int) : List Int := b ++ leL (sum32 b) 4
theorem sealN_len (b : List Int) : (sealN b).length = b.length + 4 := by simp [sealN, leL_len]
theorem sealN_byte {b : List Int} (h : byteL b) : byteL (sealN b) := byteL_app h (leL_byte _ _)
theorem Seal_fn {b : List Int} (hb : byteL b) (hl : b.length ≤ 4092) : Does Try.prog 56 [.sl (ints .u8 b)] (.tup [.ref 0 0, .int .i64 0]) [.row 5 0 (ints .u8 (sealN b))] := by
  have hs := sum32_lt b hb
  refine Does.of Try.func56 rfl Try.ntmps56 fun C hC => ?_
  refine zx (hq := ?_)
  rw [ints_len, show decide ((b.length : Int) > 4092) = false by simp; omega]
  refine zx (hq := ?_)
  refine o_stepH (Stp.callv (hF := Sum32_fn hb (by omega))) (h := ?_)
  refine zx (hq := ?_)
  refine o_stepH (Stp.callr (hF := Clone_fn b (by omega))) (h := ?_)
  refine zx (hq := ?_)
  refine go_loop (ι := { k : Nat // k ≤ 4 }) (fun k => ⟨[.undef, .undef, .undef, .undef, .int .i64 (sum32 b / 256 ^ k.1 : Nat), .undef, .ref 0 0, .undef, .undef, .undef, .undef, .undef, .undef, .undef, .undef, .undef, .undef, .undef, .undef, .undef, .int .i64 (k.1 : Nat), .undef, .undef, .undef, .undef, .undef, .undef, .undef, .undef, .undef, .undef, .undef], [.row 5 0 (ints .u8 (b ++ leL (sum32 b) k.1))]⟩) (fun k => 4 - k.1) ⟨0, Nat.zero_le _⟩ ?_ ?_
  · exact Le.ofs hC [some 0] (by decide) (by simp [VOs, VO, names, leL]) (by simp [V2s, V2, V1, VC, names])
  · rintro ⟨k, hk⟩
    refine zx (hq := ?_)
    refine go_cond (fun hc => ?_) (fun hc => ?_)
    · have hlt : k < 4 := by simp at hc; omega
      refine zx (hq := ?_)
      refine o_stepH (Stp.append (hys := by simp) (hb := by simp [leL_len]; omega) (h63 := by simp [maxLen, leL_len]; omega)) (h := ?_)
      refine zx (hq := ?_)
      rw [shr8, wrap_u8]
      refine ⟨⟨k + 1, hlt⟩, by show 4 - (k + 1) < 4 - k; omega, ?_⟩
      refine Le.ofs hC [some 0] (by decide) ?_ ?_
      · rw [leL, ← List.append_assoc, ← ints_snoc]
        exact ⟨⟨rfl, _, rfl⟩, trivial⟩
      · simp only [Nat.pow_succ, ← Nat.div_div_eq_div_mul]
        simp [V2s, V2, V1, VC, names]
        exact wrap_le (by omega) (by omega)
    · have hge : k = 4 := by simp at hc; omega
      subst hge
      refine zx (hq := ?_)
      refine o_stepH (Stp.callr (hF := Clone_fn (sealN b) (by rw [sealN_len]; omega))) (h := ?_)
      refine zx (hq := ?_)
      exact Out.th [some 1]
theorem Seal_sl {b : List Int} (hb : byteL b) (hl : b.length ≤ 4092) : Does Try.prog 56 [.sl (ints .u8 b)] (.tup [.sl (ints .u8 (sealN b)), .int .i64 0]) [] := (Seal_fn hb hl).sl
end Go.Proofs.Ytekojicaeadepaa.Vm
namespace Go.Proofs.Ytekojicaeadepaa.Vm
open Go.Vm Go.Proofs
set_option linter.unusedSimpArgs false
set_option maxRecDepth 10000
-- quick

theorem Equal_fn (a b : List Int) (ha : a.length ≤ 140737488355328) : Does Try.prog 89 [.sl (ints .u8 a), .sl (ints .u8 b)] (.bool (decide (a = b))) [] := by
  refine Does.of Try.func89 rfl Try.ntmps89 fun C hC => ?_
  refine zx (hq := ?_)
  refine go_cond (fun hc => ?_) (fun hc => ?_)
  · have hne : a.length ≠ b.length := by
      simp at hc
      omega
    refine zx (hq := ?_)
    exact Out.o0 rfl (by rw [show decide (a = b) = false from decide_eq_false (fun e => hne (by rw [e]))]; exact rfl)
  · have hlen : a.length = b.length := by
      have := hc
      simp at this
      omega
    refine zx (hq := ?_)
    refine go_loop (ι := { k : Nat // k ≤ a.length ∧ a.take k = b.take k }) (fun k => ⟨[.sl (ints .u8 a), .sl (ints .u8 b), .undef, .undef, .undef, .undef, .undef, .undef, .undef, .undef, .undef, .undef, .int .i64 (a.length : Nat), .int .i64 (k.1 : Nat), .undef, .undef, .undef, .undef, .undef, .undef, .undef, .undef, .undef, .undef, .undef, .undef], []⟩) (fun k => a.length - k.1) ⟨0, Nat.zero_le _, rfl⟩ ?_ ?_
    · exact Le.ofs hC []
    · rintro ⟨k, hk, hpre⟩
      refine zx (hq := ?_)
      refine go_cond (fun hc => ?_) (fun hc => ?_)
      · have hlt : k < a.length := by simpa using hc
        refine zx (hq := ?_)
        refine go_draw0 (by kernel_rfl) (by kernel_rfl) ?_
        refine zd (hq := ?_)
        refine d_step0 (Stp.index (h0 := by simp) (h1 := by simpa using hlt) (hr := by simp only [indexA, Int.toNat_natCast, ints_get _ a k hlt]; rfl)) (h := ?_)
        refine zd (hq := ?_)
        refine d_step0 (Stp.index (h0 := by simp) (h1 := by simp; omega) (hr := by simp only [indexA, Int.toNat_natCast, ints_get _ b k (hlen ▸ hlt)]; rfl)) (h := ?_)
        refine zd (hq := ?_)
        refine zx (hq := ?_)
        refine go_cond (fun hx => ?_) (fun hx => ?_)
        · have hne : a.getD k 0 ≠ b.getD k 0 := by simpa using hx
          refine zx (hq := ?_)
          exact Out.o0 rfl (by rw [show decide (a = b) = false from decide_eq_false (fun e => hne (by rw [e]))]; exact rfl)
        · have he : a.getD k 0 = b.getD k 0 := by simpa using hx
          refine zx (hq := ?_)
          refine ⟨⟨k + 1, hlt, take_eq_succ hlt (hlen ▸ hlt) hpre he⟩, by show a.length - (k + 1) < a.length - k; omega, ?_⟩
          refine Le.ofs hC [] (by decide) trivial ?_
          simp [V2s, V2, V1, VC, names]
          exact wrap_le (by omega) (by omega)
      · have hge : k = a.length := by
          simp at hc
          omega
        subst hge
        have hab : a = b := by
          have h1 := hpre
          rw [List.take_length, hlen, List.take_length] at h1
          exact h1
        refine zx (hq := ?_)
        exact Out.o0 rfl (by rw [show decide (a = b) = true from decide_eq_true hab]; exact rfl)

theorem slice_head {k : IntKind} {l : List Int} {e : Nat} : sliceA (.sl (ints k l)) (Int.toNat 0) ((e : Nat) : Int).toNat = some (.sl (ints k (l.take e))) := by
  rw [Int.toNat_natCast]
  simp only [sliceA, Int.toNat_zero, List.drop_zero, ints_take]
theorem Sealed_fn {b : List Int} (hb : byteL b) (h4 : 4 ≤ b.length) (hl : b.length ≤ 4096) : Does Try.prog 80 [.sl (ints .u8 b)] (.tup [.bool (decide (sealN (b.take (b.length - 4)) = b)), .int .i64 0]) [] := by
  refine Does.of Try.func80 rfl Try.ntmps80 fun C hC => ?_
  refine zx (hq := ?_)
  rw [ints_len, show decide ((b.length : Int) > 4096) = false by simp; omega]
  refine zx (hq := ?_)
  rw [ints_len, show decide ((b.length : Int) < 4) = false by simp; omega]
  refine zx (hq := ?_)
  rw [ints_len, wrap_le (n := (b.length : Int) - 4) (by omega) (by omega), show (b.length : Int) - 4 = ((b.length - 4 : Nat) : Int) by omega]
  refine o_step (Stp.slice (h0 := by decide) (h1 := by omega) (h2 := by rw [ints_len]; omega) (hs := by exact ints_one _ _) (hr := slice_head)) (h := ?_)
  refine o_stepH (Stp.callv (hF := Seal_sl (b := b.take (b.length - 4)) (fun x hx => hb x (List.mem_of_mem_take hx)) (by simp; omega))) (h := ?_)
  refine zx (hq := ?_)
  refine o_stepH (Stp.callv (hF := Equal_fn (sealN (b.take (b.length - 4))) b (by rw [sealN_len]; simp; omega))) (h := ?_)
  refine zx (hq := ?_)
  exact Out.t0

def ackN (next bits : Nat) : List Int := sealN ([65] ++ beL next 4 ++ beL bits 4)
theorem ackN_len (next bits : Nat) : (ackN next bits).length = 13 := by rw [ackN, sealN_len]; rfl
theorem ackB_byte (next bits : Nat) : byteL ([65] ++ beL next 4 ++ beL bits 4) := byteL_app (byteL_app (fun x hx => by simp at hx; omega) (beL_byte _ _)) (beL_byte _ _)
theorem ackN_byte (next bits : Nat) : byteL (ackN next bits) := sealN_byte (ackB_byte _ _)
theorem AMake_fn {next bits : Nat} (h1 : next ≤ 1073741824) (h2 : bits < 4294967296) : Does Try.prog 23 [.agg [.int .i64 next, .int .u32 bits]] (.tup [.sl (ints .u8 (ackN next bits)), .int .i64 0]) [] := by
  refine Does.of Try.func23 rfl Try.ntmps23 fun C hC => ?_
  refine zx (hq := ?_)
  rw [show decide ((next : Int) < 0) = false by simp]
  refine zx (hq := ?_)
  rw [show decide ((next : Int) > 1073741824) = false by simp; omega]
  refine zx (hq := ?_)
  refine o_stepH (Stp.callr (hF := Put_fn (b := [65]) (n := next) (sz := 4) (by decide) (by decide) (by omega) (by decide))) (h := ?_)
  refine zx (hq := ?_)
  rw [wrap_le (n := (bits : Int)) (by omega) (by omega)]
  refine o_stepH (Stp.callr (hF := Put_fn (b := [65] ++ beL next 4) (n := bits) (sz := 4) (by decide) (by decide) (by omega) (by simp [beL_len]))) (h := ?_)
  refine zx (hq := ?_)
  refine o_stepH (Stp.callv (hF := Seal_sl (b := [65] ++ beL next 4 ++ beL bits 4) (ackB_byte _ _) (by simp [beL_len]))) (h := ?_)
  refine zx (hq := ?_)
  exact Out.t0

def readA (b : List Int) : (Nat × Nat) × Int :=
  if b.length ≠ 13 then ((0, 0), 2) else if b.getD 0 0 ≠ 65 then ((0, 0), 12) else if sealN (b.take 9) ≠ b then ((0, 0), 4)
  else if valN ((b.take (1 + 4)).drop 1) > 1073741824 then ((0, 0), 1) else ((valN ((b.take (1 + 4)).drop 1), valN ((b.take (5 + 4)).drop 5)), 0)
theorem readA_ack {next bits : Nat} (h1 : next ≤ 1073741824) (h2 : bits < 4294967296) : readA (ackN next bits) = ((next, bits), 0) := by
  have e1 : ((ackN next bits).take (1 + 4)).drop 1 = beL next 4 := rfl
  have e2 : ((ackN next bits).take (5 + 4)).drop 5 = beL bits 4 := rfl
  have e3 : sealN ((ackN next bits).take 9) = ackN next bits := rfl
  have e4 : (ackN next bits).getD 0 0 = 65 := rfl
  unfold readA
  rw [ackN_len, e1, e2, e3, e4, val4 _ (by omega), val4 _ h2]
  simp
  omega
theorem ARead_fn {b : List Int} (hb : byteL b) (hl : b.length ≤ 140737488355328) : Does Try.prog 57 [.sl (ints .u8 b)] (.tup [.agg [.int .i64 (readA b).1.1, .int .u32 (readA b).1.2], .int .i64 (readA b).2]) [] := by
  refine Does.of Try.func57 rfl Try.ntmps57 fun C hC => ?_
  refine zx (hq := ?_)
  rw [ints_len]
  refine go_cond (fun hc => ?_) (fun hc => ?_)
  · have h1 : b.length ≠ 13 := by simp at hc; omega
    rw [show readA b = ((0, 0), 2) by unfold readA; rw [if_pos h1]]
    refine zx (hq := ?_)
    exact Out.t0
  have h1 : b.length = 13 := by simp at hc; omega
  refine zx (hq := ?_)
  refine o_step (Stp.index (h0 := by decide) (h1 := by rw [ints_len]; omega) (hr := by simp only [indexA, Int.toNat_zero, ints_get _ b 0 (by omega)]; rfl)) (h := ?_)
  refine zx (hq := ?_)
  refine go_cond (fun hc => ?_) (fun hc => ?_)
  · have h2 : b.getD 0 0 ≠ 65 := by simpa using hc
    rw [show readA b = ((0, 0), 12) by unfold readA; rw [if_neg (by omega), if_pos h2]]
    refine zx (hq := ?_)
    exact Out.t0
  have h2 : b.getD 0 0 = 65 := by simpa using hc
  refine zx (hq := ?_)
  refine o_stepH (Stp.callv (hF := Sealed_fn hb (by omega) (by omega))) (h := ?_)
  rw [show b.length - 4 = 9 by omega]
  refine zx (hq := ?_)
  cases h3 : decide (sealN (b.take 9) = b)
  · have h3' : sealN (b.take 9) ≠ b := by simpa using h3
    rw [show readA b = ((0, 0), 4) by unfold readA; rw [if_neg (by omega), if_neg (by simpa using h2), if_pos h3']]
    refine zx (hq := ?_)
    exact Out.t0
  have h3' : sealN (b.take 9) = b := by simpa using h3
  refine zx (hq := ?_)
  refine o_stepH (Stp.callv (hF := Get_fn (b := b) (at_ := 1) (sz := 4) (by decide) (by decide) hb (by omega) (by omega))) (h := ?_)
  refine zx (hq := ?_)
  refine o_stepH (Stp.callv (hF := Get_fn (b := b) (at_ := 5) (sz := 4) (by decide) (by decide) hb (by omega) (by omega))) (h := ?_)
  refine zx (hq := ?_)
  have v1 : valN ((b.take (5 + 4)).drop 5) < 4294967296 := by
    have := valN_lt ((b.take (5 + 4)).drop 5) (fun x hx => hb x (List.mem_of_mem_take (List.mem_of_mem_drop hx)))
    rw [show ((b.take (5 + 4)).drop 5).length = 4 by simp; omega] at this
    exact this
  obtain ⟨x, hx⟩ : ∃ x, x = valN ((b.take (5 + 4)).drop 5) := ⟨_, rfl⟩
  obtain ⟨y, hy⟩ : ∃ y, y = valN ((b.take (1 + 4)).drop 1) := ⟨_, rfl⟩
  rw [← hx] at v1 ⊢
  rw [← hy]
  refine go_cond (fun hc => ?_) (fun hc => ?_)
  · have h4 : y > 1073741824 := by simp at hc; omega
    rw [show readA b = ((0, 0), 1) by unfold readA; rw [if_neg (by omega), if_neg (by simpa using h2), if_neg (by simpa using h3'), ← hy, if_pos h4]]
    refine zx (hq := ?_)
    exact Out.t0
  · have h4 : ¬ y > 1073741824 := by simp at hc; omega
    rw [show readA b = ((y, x), 0) by unfold readA; rw [if_neg (by omega), if_neg (by simpa using h2), if_neg (by simpa using h3'), ← hy, if_neg h4, ← hx]]
    refine zx (hq := ?_)
    rw [wrap_u32, show (x : Int) % 4294967296 = (x : Int) by omega]
    exact Out.t0
end Go.Proofs.Ytekojicaeadepaa.Vm
