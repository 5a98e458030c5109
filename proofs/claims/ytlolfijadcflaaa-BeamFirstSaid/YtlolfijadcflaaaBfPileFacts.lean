/- What the law's proof needs: PileFacts. -/
import Derived.Test.YtlolfijadcflaaaBfPxPile
import Derived.Test.YtlolfijadcflaaaBfBase
import Derived.Test.YtlolfijadcflaaaBfBeamWalk
section
namespace Go.Proofs.Ytlolfijadcflaaa.Pure
open Go.RowKit Go.Proofs.Ytlolfijadcflaaa.P Go.Proofs.YtlolfijadcflaaaW.PrintWords Go.Proofs.YtlolfijadcflaaaW.PrintLast Go.Proofs.YtlolfijadcflaaaW.PrintMore
set_option linter.unusedVariables false
set_option linter.unusedSimpArgs false
abbrev Sy := S132
theorem rdS (pre : List Sy) (s : Sy) (r : List Sy) : rd_T132 (pre ++ s :: r) (pre.length : Int) = s := by
  unfold rd_T132
  simp
theorem rdSget (l : List Sy) (i : Nat) (h : i < l.length) : rd_T132 l (i : Int) = l[i] := by
  unfold rd_T132
  simp [h]
def byteV (v : Int) : Bool := decide (0 ≤ v) && decide (v ≤ 255)
def mayB (n p : Int) : Bool := decide (1 ≤ n) && (decide (n ≤ 64) && (decide (1 ≤ p) && decide (p ≤ 16)))
def chkB (m : Int) : Int → List Sy → Bool
  | _, [] => true
  | last, s :: r => decide (last < s.f0) && (decide (s.f0 < m) && (byteV s.f1 && chkB m s.f0 r))
def pileB (n p : Int) (l : List Sy) : Bool := mayB n p && chkB (n * p) (-1) l
theorem may_f (n p : Int) : pile_may.f n p = some (mayB n p) := by
  unfold pile_may.f mayB
  by_cases c1 : n ≥ 1
  · rw [if_pos c1, decide_eq_true (show 1 ≤ n by omega), Bool.true_and]
    by_cases c2 : n ≤ 64
    · rw [if_pos c2, decide_eq_true c2, Bool.true_and]
      by_cases c3 : p ≥ 1
      · rw [if_pos c3, decide_eq_true (show 1 ≤ p by omega), Bool.true_and]
      · rw [if_neg c3, decide_eq_false (show ¬ 1 ≤ p by omega), Bool.false_and]
    · rw [if_neg c2, decide_eq_false c2, Bool.false_and]
  · rw [if_neg c1, decide_eq_false (show ¬ 1 ≤ n by omega), Bool.false_and]
theorem value_f (v : Int) : pile_value.f v = some (byteV v) := by
  unfold pile_value.f byteV
  by_cases c1 : v ≥ 0
  · rw [if_pos c1, decide_eq_true (show 0 ≤ v by omega), Bool.true_and]
  · rw [if_neg c1, decide_eq_false (show ¬ 0 ≤ v by omega), Bool.false_and]
theorem may_nums {n p : Int} (h : mayB n p = true) : (1 ≤ n ∧ n ≤ 64) ∧ (1 ≤ p ∧ p ≤ 16) ∧ 1 ≤ n * p ∧ n * p ≤ 1024 := by
  simp only [mayB, Bool.and_eq_true, decide_eq_true_eq] at h
  obtain ⟨h1, h2, h3, h4⟩ := h
  refine ⟨⟨h1, h2⟩, ⟨h3, h4⟩, ?_, ?_⟩
  · have := Int.mul_le_mul h1 h3 (by omega) (by omega)
    omega
  · have := Int.mul_le_mul h2 h4 (by omega) (by omega)
    omega
theorem check_l0 (n p : Int) (l : List Sy) (hm : wrap64 (n * p) = n * p) (hl : l.length < 4611686018427387904) (l2 : List Sy) : ∀ (rest pre : List Sy), l = pre ++ rest → ∀ (last : Int) (k : Nat), rest.length < k →
    pile_Check.l0 k last l (l.length : Int) (pre.length : Int) n p l2 = some (if chkB (n * p) last rest = true then 0 else 1) := by
  intro rest
  induction rest with
  | nil =>
    intro pre e last k hk
    obtain ⟨k, rfl⟩ : ∃ m, k = m + 1 := ⟨k - 1, by simp at hk; omega⟩
    have hlp : l.length = pre.length := by rw [e]; simp
    rw [pile_Check.l0, if_neg (by omega)]
    rfl
  | cons s r ih =>
    intro pre e last k hk
    simp only [List.length_cons] at hk
    obtain ⟨k, rfl⟩ : ∃ m, k = m + 1 := ⟨k - 1, by omega⟩
    have hlp : l.length = pre.length + (r.length + 1) := by rw [e]; simp
    have hrd : rd_T132 l (pre.length : Int) = s := by rw [e]; exact rdS pre s r
    rw [pile_Check.l0, if_pos (by omega), if_pos (by omega), if_pos (by omega), hrd, hm]
    unfold chkB
    by_cases c1 : s.f0 ≤ last
    · rw [if_pos c1, decide_eq_false (by omega), Bool.false_and]; rfl
    · rw [if_neg c1, decide_eq_true (show last < s.f0 by omega), Bool.true_and]
      by_cases c2 : s.f0 ≥ n * p
      · rw [if_pos c2, decide_eq_false (by omega), Bool.false_and]; rfl
      · rw [if_neg c2, decide_eq_true (show s.f0 < n * p by omega), Bool.true_and, value_f, Option.bind_some]
        cases byteV s.f1 with
        | false => rfl
        | true =>
          rw [if_pos rfl, Bool.true_and, wadd1 _ (by omega)]
          have := ih (pre ++ [s]) (by rw [e]; simp) s.f0 k (by omega)
          rw [List.length_append] at this
          exact this
theorem check_f (n p : Int) (l : List Sy) (hl : l.length < 4611686018427387904) (k : Nat) (hk : l.length < k) : pile_Check.f k n p l = some (if pileB n p l = true then 0 else 1) := by
  unfold pile_Check.f pileB
  rw [may_f, Option.bind_some]
  cases hm : mayB n p with
  | false => rfl
  | true =>
    obtain ⟨_, _, h1, h2⟩ := may_nums hm
    rw [if_pos rfl, Bool.true_and]
    exact check_l0 n p l (w64 (by omega) (by omega)) hl l l [] rfl (-1) k hk
theorem chk_gt {m : Int} (l : List Sy) : ∀ last, chkB m last l = true → ∀ s ∈ l, last < s.f0 ∧ s.f0 < m ∧ byteV s.f1 = true := by
  induction l with
  | nil => intro last _ s hs; cases hs
  | cons x r ih =>
    intro last h s hs
    simp only [chkB, Bool.and_eq_true, decide_eq_true_eq] at h
    obtain ⟨h1, h2, h3, h4⟩ := h
    rcases List.mem_cons.1 hs with rfl | hs
    · exact ⟨h1, h2, h3⟩
    · obtain ⟨a, b, c⟩ := ih _ h4 s hs
      exact ⟨by omega, b, c⟩
theorem chk_len {m : Int} (l : List Sy) : ∀ last, chkB m last l = true → last < m → (l.length : Int) < m - last := by
  induction l with
  | nil => intro last _ h; simp; omega
  | cons x r ih =>
    intro last h hlt
    simp only [chkB, Bool.and_eq_true, decide_eq_true_eq] at h
    obtain ⟨h1, h2, h3, h4⟩ := h
    have := ih _ h4 h2
    simp only [List.length_cons]
    omega
def cnt (a : Int) : List Sy → Nat
  | [] => 0
  | s :: r => if s.f0 < a then cnt a r + 1 else 0
def hasB (a : Int) : List Sy → Bool
  | [] => false
  | s :: r => if s.f0 < a then hasB a r else s.f0 == a
theorem cnt_le (a : Int) (l : List Sy) : cnt a l ≤ l.length := by
  induction l with
  | nil => simp [cnt]
  | cons s r ih => unfold cnt; split <;> simp; omega
theorem cnt_iff {m : Int} (a : Int) (l : List Sy) : ∀ last, chkB m last l = true → ∀ j (h : j < l.length), (l[j].f0 < a ↔ j < cnt a l) := by
  induction l with
  | nil => intro last _ j h; simp at h
  | cons s r ih =>
    intro last h j hj
    simp only [chkB, Bool.and_eq_true, decide_eq_true_eq] at h
    obtain ⟨h1, h2, h3, h4⟩ := h
    unfold cnt
    by_cases c : s.f0 < a
    · rw [if_pos c]
      cases j with
      | zero => simp [c]
      | succ j =>
        have := ih _ h4 j (by simpa using hj)
        simp only [List.getElem_cons_succ]
        omega
    · rw [if_neg c]
      cases j with
      | zero => simp; omega
      | succ j =>
        have hj' : j < r.length := by simpa using hj
        have := (chk_gt r _ h4 r[j] (List.getElem_mem hj')).1
        simp only [List.getElem_cons_succ]
        omega
theorem has_eq (a : Int) (l : List Sy) : hasB a l = (decide (cnt a l < l.length) && ((rd_T132 l (cnt a l : Int)).f0 == a)) := by
  induction l with
  | nil => simp [hasB, cnt]
  | cons s r ih =>
    unfold hasB cnt
    by_cases c : s.f0 < a
    · rw [if_pos c, if_pos c, ih]
      unfold rd_T132
      simp
    · rw [if_neg c, if_neg c]
      unfold rd_T132
      simp
theorem bs_cnt (l : List Sy) (a : Int) (c : Nat) (hQ : ∀ j (h : j < l.length), (wrap64 (l[j].f0 - a) < 0 ↔ j < c)) : ∀ (g lo hi : Nat), lo ≤ c → c ≤ hi → hi ≤ l.length → hi - lo < g → bsL l a g lo hi = c := by
  intro g
  induction g with
  | zero => intro lo hi _ _ _ h; omega
  | succ g ih =>
    intro lo hi h1 h2 h3 h4
    rw [bsL]
    by_cases hlt : lo < hi
    · have hmid : (lo + hi) / 2 < l.length := by omega
      have hq := hQ ((lo + hi) / 2) hmid
      rw [if_pos hlt, rdSget l _ hmid]
      by_cases hc : wrap64 (l[(lo + hi) / 2].f0 - a) < 0
      · rw [if_pos hc]
        have := hq.1 hc
        exact ih _ _ (by omega) h2 h3 (by omega)
      · rw [if_neg hc]
        have : ¬ (lo + hi) / 2 < c := fun h => hc (hq.2 h)
        exact ih _ _ h1 (by omega) (by omega) (by omega)
    · rw [if_neg hlt]
      omega
def ins (a v : Int) (l : List Sy) : List Sy := l.take (cnt a l) ++ [⟨a, v⟩] ++ l.drop (cnt a l)
def freshB (m a : Int) (l : List Sy) : Bool := !hasB a l && decide (a < m)
theorem put_f {n p : Int} {l : List Sy} (h : pileB n p l = true) (a v : Int) (ha : 0 ≤ a ∧ a ≤ 9223372036854775807) (hv : byteV v = true) (k : Nat) (hk : 1100 ≤ k) :
    pile_Put.f k n p l a v = some (n, p, (if freshB (n * p) a l = true then ins a v l else l), freshB (n * p) a l, 0) := by
  have h0 := h
  simp only [pileB, Bool.and_eq_true] at h
  obtain ⟨hm, hc⟩ := h
  obtain ⟨_, _, h1, h2⟩ := may_nums hm
  have hl := chk_len l _ hc (by omega)
  have hlen : l.length ≤ 1024 := by omega
  obtain ⟨k, rfl⟩ : ∃ j, k = j + 1 := ⟨k - 1, by omega⟩
  unfold pile_Put.f
  rw [check_f n p l (by omega) (k + 1) (by omega), h0, Option.bind_some, if_pos rfl, if_pos rfl, if_neg (by omega), value_f, hv, Option.bind_some]
  have hcl : Clone_syms.f l = some l := by unfold Clone_syms.f; rw [if_pos (by omega)]
  have hQ : ∀ j (h : j < l.length), (wrap64 (l[j].f0 - a) < 0 ↔ j < cnt a l) := fun j hj => by
    have g := chk_gt l _ hc l[j] (List.getElem_mem hj)
    have e : wrap64 (l[j].f0 - a) = l[j].f0 - a := w64 (by omega) (by omega)
    rw [e, ← cnt_iff a l _ hc j hj]
    omega
  have hbs := bs_cnt l a (cnt a l) hQ (l.length + 1) 0 l.length (by omega) (cnt_le a l) (by omega) (by omega)
  have hsf : BinarySearchFunc_syms.f l a = some ((cnt a l : Int), hasB a l) := by
    unfold BinarySearchFunc_syms.f
    rw [if_pos (by omega), hbs, has_eq]
    congr 2
    by_cases c : cnt a l < l.length
    · rw [decide_eq_true c, Bool.true_and, Bool.true_and, rdSget l _ c]
      have g := chk_gt l _ hc l[cnt a l] (List.getElem_mem c)
      have e : wrap64 (l[cnt a l].f0 - a) = l[cnt a l].f0 - a := w64 (by omega) (by omega)
      rw [e, Bool.eq_iff_iff, beq_iff_eq, beq_iff_eq]
      omega
    · rw [decide_eq_false c, Bool.false_and, Bool.false_and]
  have hin : Insert_syms.f l (cnt a l : Int) [⟨a, v⟩] = some (ins a v l) := by
    have := cnt_le a l
    unfold Insert_syms.f
    rw [if_pos ⟨rfl, by omega, by omega, by omega⟩]
    rfl
  have hw : wrap64 (n * p) = n * p := w64 (by omega) (by omega)
  rw [pile_Put.j0, if_neg (by decide), hcl, Option.bind_some, hsf, Option.bind_some]
  unfold freshB
  dsimp only
  cases hasB a l with
  | true => rfl
  | false =>
    rw [if_neg (by decide), hw]
    by_cases c : a ≥ n * p
    · rw [if_pos c, decide_eq_false (by omega)]; rfl
    · rw [if_neg c, hin, Option.bind_some, decide_eq_true (show a < n * p by omega)]; rfl
theorem chk_ins {m : Int} (a v : Int) (hv : byteV v = true) (ham : a < m) (l : List Sy) : ∀ last, last < a → chkB m last l = true → hasB a l = false → chkB m last (ins a v l) = true := by
  induction l with
  | nil =>
    intro last h1 _ _
    have e : ins a v [] = [⟨a, v⟩] := rfl
    rw [e]
    simp only [chkB, hv, Bool.and_eq_true, decide_eq_true_eq]
    exact ⟨h1, ham, trivial, trivial⟩
  | cons s r ih =>
    intro last h1 h h3
    have hh := h
    simp only [chkB, Bool.and_eq_true, decide_eq_true_eq] at h
    obtain ⟨g1, g2, g3, g4⟩ := h
    unfold hasB at h3
    by_cases c : s.f0 < a
    · rw [if_pos c] at h3
      have e : ins a v (s :: r) = s :: ins a v r := by simp [ins, cnt, c]
      rw [e]
      have := ih _ c g4 h3
      simp only [chkB, Bool.and_eq_true, decide_eq_true_eq]
      exact ⟨g1, g2, g3, this⟩
    · rw [if_neg c] at h3
      have hne : s.f0 ≠ a := by simpa using h3
      have e : ins a v (s :: r) = ⟨a, v⟩ :: s :: r := by simp [ins, cnt, c]
      rw [e]
      simp only [chkB, Bool.and_eq_true, decide_eq_true_eq]
      exact ⟨h1, ham, hv, by omega, g2, g3, g4⟩
theorem pile_ins {n p : Int} {l : List Sy} (h : pileB n p l = true) (a v : Int) (ha : 0 ≤ a) (hv : byteV v = true) (hf : freshB (n * p) a l = true) : pileB n p (ins a v l) = true := by
  simp only [pileB, Bool.and_eq_true] at h ⊢
  simp only [freshB, Bool.and_eq_true, Bool.not_eq_true', decide_eq_true_eq] at hf
  exact ⟨h.1, chk_ins a v hv hf.2 l (-1) (by omega) h.2 hf.1⟩
end Go.Proofs.Ytlolfijadcflaaa.Pure
end
section
namespace Go.Proofs.Ytlolfijadcflaaa.Pure
open Go.RowKit Go.Proofs.Ytlolfijadcflaaa.P Go.Proofs.YtlolfijadcflaaaW.PrintWords Go.Proofs.YtlolfijadcflaaaW.PrintLast Go.Proofs.YtlolfijadcflaaaW.PrintMore
set_option linter.unusedVariables false
set_option linter.unusedSimpArgs false
def Sm (x : Sy) : Prop := (0 ≤ x.f0 ∧ x.f0 ≤ 255) ∧ 0 ≤ x.f1 ∧ x.f1 ≤ 255
theorem one256 : ∀ n : Nat, n < 256 → (match bit_Ones.f (n : Int) with | some r => decide (0 ≤ r) && decide (r ≤ 8) | none => false) = true := by decide +kernel
def oneI (v : Int) : Int := (bit_Ones.f v).getD 0
theorem one_f (v : Int) (h0 : 0 ≤ v) (h1 : v < 256) : bit_Ones.f v = some (oneI v) ∧ 0 ≤ oneI v ∧ oneI v ≤ 8 := by
  obtain ⟨n, rfl⟩ := Int.eq_ofNat_of_zero_le h0
  have h := one256 n (by omega)
  unfold oneI
  cases e : bit_Ones.f (n : Int) with
  | none => rw [e] at h; cases h
  | some r =>
    rw [e] at h
    simp only [Bool.and_eq_true, decide_eq_true_eq] at h
    exact ⟨rfl, h⟩
theorem xor8 (a b : Int) (ha : 0 ≤ a ∧ a < 256) (hb : 0 ≤ b ∧ b < 256) : 0 ≤ Go.bits .xor .i64 a b ∧ Go.bits .xor .i64 a b < 256 := by
  obtain ⟨n, rfl⟩ := Int.eq_ofNat_of_zero_le ha.1
  obtain ⟨m, rfl⟩ := Int.eq_ofNat_of_zero_le hb.1
  have h1 : n % 2 ^ IntKind.i64.bits = n := Nat.mod_eq_of_lt (Nat.lt_of_lt_of_le (show n < 256 by omega) (by decide))
  have h2 : m % 2 ^ IntKind.i64.bits = m := Nat.mod_eq_of_lt (Nat.lt_of_lt_of_le (show m < 256 by omega) (by decide))
  have h3 : n ^^^ m < 2 ^ 8 := Nat.xor_lt_two_pow (by omega) (by omega)
  simp only [Go.bits, BitVec.ofInt_natCast, BitVec.toNat_xor, BitVec.toNat_ofNat, h1, h2]
  have e : IntKind.i64.wrap ((n ^^^ m : Nat) : Int) = ((n ^^^ m : Nat) : Int) := by
    have := i64_w ((n ^^^ m : Nat) : Int)
    rw [this]; unfold wrap64; omega
  rw [e]; omega
def c1 (s : Int) (x : Sy) : Int := oneI (Go.bits .xor .i64 (symI s x.f0) x.f1)
theorem c1_rng {s : Int} (hs : St s) {x : Sy} (hx : Sm x) : bit_Ones.f (Go.bits .xor .i64 (symI s x.f0) x.f1) = some (c1 s x) ∧ 0 ≤ c1 s x ∧ c1 s x ≤ 8 := by
  obtain ⟨⟨h0, h1⟩, h2, h3⟩ := hx
  obtain ⟨i, hi⟩ := Int.eq_ofNat_of_zero_le h0
  have hb := symI_byte hs i
  rw [← hi] at hb
  have := xor8 _ _ hb ⟨h2, by omega⟩
  exact one_f _ this.1 this.2
def cst (s : Int) : List Sy → Int
  | [] => 0
  | x :: r => c1 s x + cst s r
theorem cst_rng {s : Int} (hs : St s) : ∀ l : List Sy, (∀ x ∈ l, Sm x) → 0 ≤ cst s l ∧ cst s l ≤ 8 * l.length
  | [], _ => ⟨Int.le_refl _, by simp [cst]⟩
  | x :: r, h => by
    have h1 := (c1_rng hs (h x List.mem_cons_self)).2
    have h2 := cst_rng hs r (fun y hy => h y (List.mem_cons_of_mem _ hy))
    simp only [cst, List.length_cons]
    push_cast
    omega
theorem cost_l0 {s : Int} (hs : St s) (l : List Sy) (hl : l.length ≤ 100000) (hm : ∀ x ∈ l, Sm x) : ∀ (rest pre : List Sy) (a : Int) (k : Nat), l = pre ++ rest → 0 ≤ a → a ≤ 8 * pre.length → rest.length + 1 < k →
    cost_Sum.l0 k s a l l.length pre.length = some (a + cst s rest) := by
  intro rest
  induction rest with
  | nil =>
    intro pre a k e ha ha2 hk
    obtain ⟨k, rfl⟩ : ∃ m, k = m + 1 := ⟨k - 1, by omega⟩
    have : l.length = pre.length := by rw [e]; simp
    rw [cost_Sum.l0, if_neg (by omega)]; simp [cst]
  | cons x r ih =>
    intro pre a k e ha ha2 hk
    obtain ⟨k, rfl⟩ : ∃ m, k = m + 1 := ⟨k - 1, by omega⟩
    have hlen : l.length = pre.length + (r.length + 1) := by rw [e]; simp
    have hx : rd_T132 l (pre.length : Int) = x := by rw [e]; exact rdS pre x r
    have hxm : Sm x := hm x (by rw [e]; simp)
    have h1 := c1_rng hs hxm
    rw [cost_Sum.l0, if_pos (by omega), if_pos (by omega), if_pos (by omega), hx, of_f s x.f0 hxm.1.1 hxm.1.2 k (by simp at hk; omega), Option.bind_some]
    dsimp only
    rw [h1.1, Option.bind_some, w64 (by omega) (by omega), wadd1 _ (by omega)]
    have := ih (pre ++ [x]) (a + c1 s x) k (by rw [e]; simp) (by omega) (by simp; omega) (by simp at hk ⊢; omega)
    rw [List.length_append] at this
    refine this.trans ?_
    simp only [cst]; congr 1; omega
theorem costP_cst {s : Int} (hs : St s) (l : List Sy) (hl : l.length ≤ 100000) (hm : ∀ x ∈ l, Sm x) : costP s l = cst s l := by
  have h : cost_Sum.f (l.length + 2) s l = some (0 + cst s l) := cost_l0 hs l hl hm l [] 0 (l.length + 2) rfl (Int.le_refl _) (by simp) (by omega)
  have h2 := atK_of (f := fun k => cost_Sum.f k s l) (cost_Sum.mono s l) h
  unfold costP
  rw [h2]; simp
theorem stepP_stI {s x : Int} (h : nibB x) : stepP s x = stI s x := by
  unfold stepP; rw [step_f s x h]; rfl
def TreeOk (t : List (List Sy)) : Prop := ∀ i : Nat, (t.getD i []).length ≤ 1024 ∧ ∀ x ∈ t.getD i [], Sm x
def cs (t : List (List Sy)) (s : Int) (dep x : Nat) : Int := cst (stI s (x : Int)) (t.getD dep [])
theorem nib_nat {x : Nat} (h : x < 16) : nibB (x : Int) := by unfold nibB; omega
theorem cs_rng {t : List (List Sy)} (ht : TreeOk t) {s : Int} (hs : St s) (dep : Nat) {x : Nat} (hx : x < 16) : 0 ≤ cs t s dep x ∧ cs t s dep x ≤ 8192 := by
  have h := cst_rng (stI_st hs (nib_nat hx)) (t.getD dep []) (ht dep).2
  have := (ht dep).1
  unfold cs; omega
theorem kids_eq {t : List (List Sy)} (ht : TreeOk t) {s : Int} (hs : St s) (dep : Nat) : kids t s dep = (List.range 16).map fun x : Nat => (stI s (x : Int), cs t s dep x) := by
  unfold kids
  refine List.map_congr_left (fun x hx => ?_)
  have hx16 : x < 16 := List.mem_range.1 hx
  rw [stepP_stI (nib_nat hx16), costP_cst (stI_st hs (nib_nat hx16)) _ (by have := (ht dep).1; omega) (ht dep).2]; rfl
def min16 (f : Nat → Int) : Int := (List.range 16).foldl (fun b x => min b (f x)) (f 0)
theorem foldl_min (f : Nat → Int) : ∀ (l : List Nat) (b c : Int), l.foldl (fun b x => min b (f x)) (min b c) = min b (l.foldl (fun b x => min b (f x)) c)
  | [], _, _ => rfl
  | x :: r, b, c => by
    rw [List.foldl_cons, List.foldl_cons, ← foldl_min f r b (min c (f x))]
    congr 1; omega
theorem foldl_head (f : Nat → Int) (b : Int) : (List.range 16).foldl (fun b x => min b (f x)) b = (List.range 16).foldl (fun b x => min b (f x)) (min b (f 0)) := by
  have e : List.range 16 = 0 :: [1, 2, 3, 4, 5, 6, 7, 8, 9, 10, 11, 12, 13, 14, 15] := by decide
  have e2 : min (min b (f 0)) (f 0) = min b (f 0) := by omega
  rw [e]
  simp only [List.foldl_cons, e2]
theorem min16_le (f : Nat → Int) {x : Nat} (hx : x < 16) : min16 f ≤ f x := by
  have key : ∀ (l : List Nat) (c : Int), l.foldl (fun b x => min b (f x)) c ≤ c ∧ ∀ x ∈ l, l.foldl (fun b x => min b (f x)) c ≤ f x := by
    intro l
    induction l with
    | nil => intro c; exact ⟨Int.le_refl _, fun x h => by cases h⟩
    | cons y r ih =>
      intro c
      rw [List.foldl_cons]
      obtain ⟨h1, h2⟩ := ih (min c (f y))
      refine ⟨by omega, fun x hx => ?_⟩
      rcases List.mem_cons.1 hx with rfl | hx
      · omega
      · exact h2 x hx
  exact (key (List.range 16) (f 0)).2 x (List.mem_range.2 hx)
theorem min16_at (f : Nat → Int) : ∃ x, x < 16 ∧ min16 f = f x := by
  have key : ∀ (l : List Nat) (c : Int), l.foldl (fun b x => min b (f x)) c = c ∨ ∃ x ∈ l, l.foldl (fun b x => min b (f x)) c = f x := by
    intro l
    induction l with
    | nil => intro c; exact .inl rfl
    | cons y r ih =>
      intro c
      rw [List.foldl_cons]
      rcases ih (min c (f y)) with h | ⟨x, hx, h⟩
      · by_cases hc : c ≤ f y
        · exact .inl (by rw [h]; omega)
        · exact .inr ⟨y, List.mem_cons_self, by rw [h]; omega⟩
      · exact .inr ⟨x, List.mem_cons_of_mem _ hx, h⟩
  rcases key (List.range 16) (f 0) with h | ⟨x, hx, h⟩
  · exact ⟨0, by omega, h⟩
  · exact ⟨x, List.mem_range.1 hx, h⟩
def minL (t : List (List Sy)) : Nat → Int → Nat → Int → Int
  | 0, _, _, m => m
  | lv + 1, s, dep, m => if dep = t.length then m else min16 fun x => minL t lv (stI s (x : Int)) (dep + 1) (m + cs t s dep x)
theorem minL_ge {t : List (List Sy)} (ht : TreeOk t) : ∀ (lv : Nat) (s : Int) (dep : Nat) (m : Int), St s → m ≤ minL t lv s dep m
  | 0, _, _, _, _ => Int.le_refl _
  | lv + 1, s, dep, m, hs => by
    rw [minL]
    by_cases h : dep = t.length
    · rw [if_pos h]; exact Int.le_refl _
    · rw [if_neg h]
      obtain ⟨x, hx, e⟩ := min16_at fun x => minL t lv (stI s (x : Int)) (dep + 1) (m + cs t s dep x)
      rw [e]
      have h1 := minL_ge ht lv (stI s (x : Int)) (dep + 1) (m + cs t s dep x) (stI_st hs (nib_nat hx))
      have h2 := (cs_rng ht hs dep hx).1
      omega
theorem leastF_eq {t : List (List Sy)} (ht : TreeOk t) : ∀ (lv : Nat) (s : Int) (dep : Nat) (m b : Int), St s → 0 ≤ m → m + 8192 * lv ≤ 4611686018427387904 → leastF t lv s dep m b = min b (minL t lv s dep m)
  | 0, s, dep, m, b, _, _, _ => by
    rw [leastF, minL]; split <;> omega
  | lv + 1, s, dep, m, b, hs, h0, h1 => by
    have hge := minL_ge ht (lv + 1) s dep m hs
    rw [leastF]
    by_cases hmb : m ≥ b
    · rw [if_pos hmb]; omega
    · rw [if_neg hmb, minL]
      by_cases hd : dep = t.length
      · rw [if_pos hd, if_pos hd]; omega
      · rw [if_neg hd, if_neg hd, kids_eq ht hs dep, List.foldl_map]
        have hw : ∀ x, x < 16 → wrap64 (m + cs t s dep x) = m + cs t s dep x := fun x hx => by
          have := cs_rng ht hs dep hx
          push_cast at h1
          exact w64 (by omega) (by omega)
        have step : ∀ (l : List Nat) (b : Int), (∀ x ∈ l, x < 16) → l.foldl (fun (b : Int) (x : Nat) => leastF t lv (stI s (x : Int)) (dep + 1) (wrap64 (m + cs t s dep x)) b) b = l.foldl (fun (b : Int) (x : Nat) => min b (minL t lv (stI s (x : Int)) (dep + 1) (m + cs t s dep x))) b := by
          intro l
          induction l with
          | nil => intro b _; rfl
          | cons x r ih =>
            intro b hl
            have hx := hl x List.mem_cons_self
            have hc := cs_rng ht hs dep hx
            push_cast at h1
            rw [List.foldl_cons, List.foldl_cons, ih _ (fun y hy => hl y (List.mem_cons_of_mem _ hy)), hw x hx,
              leastF_eq ht lv (stI s (x : Int)) (dep + 1) (m + cs t s dep x) b (stI_st hs (nib_nat hx)) (by omega) (by omega)]
        rw [step _ _ (fun x hx => List.mem_range.1 hx)]
        have hf := foldl_min (fun x => minL t lv (stI s (x : Int)) (dep + 1) (m + cs t s dep x)) (List.range 16) b (minL t lv (stI s ((0 : Nat) : Int)) (dep + 1) (m + cs t s dep 0))
        unfold min16
        exact (foldl_head (fun x => minL t lv (stI s (x : Int)) (dep + 1) (m + cs t s dep x)) b).trans hf
end Go.Proofs.Ytlolfijadcflaaa.Pure
end
