/- What the law's proof needs: PileFacts. -/
import Derived.Test.YtfhihhfckpolpaaEXPxPile
import Derived.Test.YtfhihhfckpolpaaEXBase
namespace Go.Proofs.Ytfhihhfckpolpaa.Pure
open Go.RowKit Go.Proofs.Ytfhihhfckpolpaa.P Go.Proofs.YtfhihhfckpolpaaW.PrintWords Go.Proofs.YtfhihhfckpolpaaW.PrintLast Go.Proofs.YtfhihhfckpolpaaW.PrintMore
set_option linter.unusedVariables false
set_option linter.unusedSimpArgs false
abbrev Sy := S88
theorem rdS (pre : List Sy) (s : Sy) (r : List Sy) : rd_T88 (pre ++ s :: r) (pre.length : Int) = s := by
  unfold rd_T88
  simp
theorem rdSget (l : List Sy) (i : Nat) (h : i < l.length) : rd_T88 l (i : Int) = l[i] := by
  unfold rd_T88
  simp [h]
def byteV (v : Int) : Bool := decide (0 ≤ v) && decide (v ≤ 255)
def mayB (n p : Int) : Bool := decide (1 ≤ n) && (decide (n ≤ 64) && (decide (1 ≤ p) && decide (p ≤ 16)))
def chkB (m : Int) : Int → List Sy → Bool
  | _, [] => true
  | last, s :: r => decide (last < s.f0) && (decide (s.f0 < m) && (byteV s.f1 && chkB m s.f0 r))
def pileB (n p : Int) (l : List Sy) : Bool := mayB n p && chkB (n * p) (-1) l
theorem may_f (n p : Int) : pile_may.f n p = some (mayB n p) := by
  unfold pile_may.f mayB
  by_cases c1 : n ≥ 1
  · rw [if_pos c1, decide_eq_true (show 1 ≤ n by omega), Bool.true_and]
    by_cases c2 : n ≤ 64
    · rw [if_pos c2, decide_eq_true c2, Bool.true_and]
      by_cases c3 : p ≥ 1
      · rw [if_pos c3, decide_eq_true (show 1 ≤ p by omega), Bool.true_and]
      · rw [if_neg c3, decide_eq_false (show ¬ 1 ≤ p by omega), Bool.false_and]
    · rw [if_neg c2, decide_eq_false c2, Bool.false_and]
  · rw [if_neg c1, decide_eq_false (show ¬ 1 ≤ n by omega), Bool.false_and]
theorem value_f (v : Int) : pile_value.f v = some (byteV v) := by
  unfold pile_value.f byteV
  by_cases c1 : v ≥ 0
  · rw [if_pos c1, decide_eq_true (show 0 ≤ v by omega), Bool.true_and]
  · rw [if_neg c1, decide_eq_false (show ¬ 0 ≤ v by omega), Bool.false_and]
theorem may_nums {n p : Int} (h : mayB n p = true) : (1 ≤ n ∧ n ≤ 64) ∧ (1 ≤ p ∧ p ≤ 16) ∧ 1 ≤ n * p ∧ n * p ≤ 1024 := by
  simp only [mayB, Bool.and_eq_true, decide_eq_true_eq] at h
  obtain ⟨h1, h2, h3, h4⟩ := h
  refine ⟨⟨h1, h2⟩, ⟨h3, h4⟩, ?_, ?_⟩
  · have := Int.mul_le_mul h1 h3 (by omega) (by omega)
    omega
  · have := Int.mul_le_mul h2 h4 (by omega) (by omega)
    omega
theorem check_l0 (n p : Int) (l : List Sy) (hm : wrap64 (n * p) = n * p) (hl : l.length < 4611686018427387904) (l2 : List Sy) : ∀ (rest pre : List Sy), l = pre ++ rest → ∀ (last : Int) (k : Nat), rest.length < k →
    pile_Check.l0 k last l (l.length : Int) (pre.length : Int) n p l2 = some (if chkB (n * p) last rest = true then 0 else 1) := by
  intro rest
  induction rest with
  | nil =>
    intro pre e last k hk
    obtain ⟨k, rfl⟩ : ∃ m, k = m + 1 := ⟨k - 1, by simp at hk; omega⟩
    have hlp : l.length = pre.length := by rw [e]; simp
    rw [pile_Check.l0, if_neg (by omega)]
    rfl
  | cons s r ih =>
    intro pre e last k hk
    simp only [List.length_cons] at hk
    obtain ⟨k, rfl⟩ : ∃ m, k = m + 1 := ⟨k - 1, by omega⟩
    have hlp : l.length = pre.length + (r.length + 1) := by rw [e]; simp
    have hrd : rd_T88 l (pre.length : Int) = s := by rw [e]; exact rdS pre s r
    rw [pile_Check.l0, if_pos (by omega), if_pos (by omega), if_pos (by omega), hrd, hm]
    unfold chkB
    by_cases c1 : s.f0 ≤ last
    · rw [if_pos c1, decide_eq_false (by omega), Bool.false_and]; rfl
    · rw [if_neg c1, decide_eq_true (show last < s.f0 by omega), Bool.true_and]
      by_cases c2 : s.f0 ≥ n * p
      · rw [if_pos c2, decide_eq_false (by omega), Bool.false_and]; rfl
      · rw [if_neg c2, decide_eq_true (show s.f0 < n * p by omega), Bool.true_and, value_f, Option.bind_some]
        cases byteV s.f1 with
        | false => rfl
        | true =>
          rw [if_pos rfl, Bool.true_and, wadd1 _ (by omega)]
          have := ih (pre ++ [s]) (by rw [e]; simp) s.f0 k (by omega)
          rw [List.length_append] at this
          exact this
theorem check_f (n p : Int) (l : List Sy) (hl : l.length < 4611686018427387904) (k : Nat) (hk : l.length < k) : pile_Check.f k n p l = some (if pileB n p l = true then 0 else 1) := by
  unfold pile_Check.f pileB
  rw [may_f, Option.bind_some]
  cases hm : mayB n p with
  | false => rfl
  | true =>
    obtain ⟨_, _, h1, h2⟩ := may_nums hm
    rw [if_pos rfl, Bool.true_and]
    exact check_l0 n p l (w64 (by omega) (by omega)) hl l l [] rfl (-1) k hk
theorem chk_gt {m : Int} (l : List Sy) : ∀ last, chkB m last l = true → ∀ s ∈ l, last < s.f0 ∧ s.f0 < m ∧ byteV s.f1 = true := by
  induction l with
  | nil => intro last _ s hs; cases hs
  | cons x r ih =>
    intro last h s hs
    simp only [chkB, Bool.and_eq_true, decide_eq_true_eq] at h
    obtain ⟨h1, h2, h3, h4⟩ := h
    rcases List.mem_cons.1 hs with rfl | hs
    · exact ⟨h1, h2, h3⟩
    · obtain ⟨a, b, c⟩ := ih _ h4 s hs
      exact ⟨by omega, b, c⟩
theorem chk_len {m : Int} (l : List Sy) : ∀ last, chkB m last l = true → last < m → (l.length : Int) < m - last := by
  induction l with
  | nil => intro last _ h; simp; omega
  | cons x r ih =>
    intro last h hlt
    simp only [chkB, Bool.and_eq_true, decide_eq_true_eq] at h
    obtain ⟨h1, h2, h3, h4⟩ := h
    have := ih _ h4 h2
    simp only [List.length_cons]
    omega
def cnt (a : Int) : List Sy → Nat
  | [] => 0
  | s :: r => if s.f0 < a then cnt a r + 1 else 0
def hasB (a : Int) : List Sy → Bool
  | [] => false
  | s :: r => if s.f0 < a then hasB a r else s.f0 == a
theorem cnt_le (a : Int) (l : List Sy) : cnt a l ≤ l.length := by
  induction l with
  | nil => simp [cnt]
  | cons s r ih => unfold cnt; split <;> simp; omega
theorem cnt_iff {m : Int} (a : Int) (l : List Sy) : ∀ last, chkB m last l = true → ∀ j (h : j < l.length), (l[j].f0 < a ↔ j < cnt a l) := by
  induction l with
  | nil => intro last _ j h; simp at h
  | cons s r ih =>
    intro last h j hj
    simp only [chkB, Bool.and_eq_true, decide_eq_true_eq] at h
    obtain ⟨h1, h2, h3, h4⟩ := h
    unfold cnt
    by_cases c : s.f0 < a
    · rw [if_pos c]
      cases j with
      | zero => simp [c]
      | succ j =>
        have := ih _ h4 j (by simpa using hj)
        simp only [List.getElem_cons_succ]
        omega
    · rw [if_neg c]
      cases j with
      | zero => simp; omega
      | succ j =>
        have hj' : j < r.length := by simpa using hj
        have := (chk_gt r _ h4 r[j] (List.getElem_mem hj')).1
        simp only [List.getElem_cons_succ]
        omega
theorem has_eq (a : Int) (l : List Sy) : hasB a l = (decide (cnt a l < l.length) && ((rd_T88 l (cnt a l : Int)).f0 == a)) := by
  induction l with
  | nil => simp [hasB, cnt]
  | cons s r ih =>
    unfold hasB cnt
    by_cases c : s.f0 < a
    · rw [if_pos c, if_pos c, ih]
      unfold rd_T88
      simp
    · rw [if_neg c, if_neg c]
      unfold rd_T88
      simp
theorem bs_cnt (l : List Sy) (a : Int) (c : Nat) (hQ : ∀ j (h : j < l.length), (wrap64 (l[j].f0 - a) < 0 ↔ j < c)) : ∀ (g lo hi : Nat), lo ≤ c → c ≤ hi → hi ≤ l.length → hi - lo < g → bsL l a g lo hi = c := by
  intro g
  induction g with
  | zero => intro lo hi _ _ _ h; omega
  | succ g ih =>
    intro lo hi h1 h2 h3 h4
    rw [bsL]
    by_cases hlt : lo < hi
    · have hmid : (lo + hi) / 2 < l.length := by omega
      have hq := hQ ((lo + hi) / 2) hmid
      rw [if_pos hlt, rdSget l _ hmid]
      by_cases hc : wrap64 (l[(lo + hi) / 2].f0 - a) < 0
      · rw [if_pos hc]
        have := hq.1 hc
        exact ih _ _ (by omega) h2 h3 (by omega)
      · rw [if_neg hc]
        have : ¬ (lo + hi) / 2 < c := fun h => hc (hq.2 h)
        exact ih _ _ h1 (by omega) (by omega) (by omega)
    · rw [if_neg hlt]
      omega
def ins (a v : Int) (l : List Sy) : List Sy := l.take (cnt a l) ++ [⟨a, v⟩] ++ l.drop (cnt a l)
theorem ins_length (a v : Int) (l : List Sy) : (ins a v l).length = l.length + 1 := by
  have := cnt_le a l
  simp only [ins, List.length_append, List.length_take, List.length_drop, List.length_singleton]; omega
def freshB (m a : Int) (l : List Sy) : Bool := !hasB a l && decide (a < m)
theorem put_f {n p : Int} {l : List Sy} (h : pileB n p l = true) (a v : Int) (ha : 0 ≤ a ∧ a ≤ 9223372036854775807) (hv : byteV v = true) (k : Nat) (hk : 1100 ≤ k) :
    pile_Put.f k n p l a v = some (n, p, (if freshB (n * p) a l = true then ins a v l else l), freshB (n * p) a l, 0) := by
  have h0 := h
  simp only [pileB, Bool.and_eq_true] at h
  obtain ⟨hm, hc⟩ := h
  obtain ⟨_, _, h1, h2⟩ := may_nums hm
  have hl := chk_len l _ hc (by omega)
  have hlen : l.length ≤ 1024 := by omega
  obtain ⟨k, rfl⟩ : ∃ j, k = j + 1 := ⟨k - 1, by omega⟩
  unfold pile_Put.f
  rw [check_f n p l (by omega) (k + 1) (by omega), h0, Option.bind_some, if_pos rfl, if_pos rfl, if_neg (by omega), value_f, hv, Option.bind_some]
  have hcl : Clone_syms.f l = some l := by unfold Clone_syms.f; rw [if_pos (by omega)]
  have hQ : ∀ j (h : j < l.length), (wrap64 (l[j].f0 - a) < 0 ↔ j < cnt a l) := fun j hj => by
    have g := chk_gt l _ hc l[j] (List.getElem_mem hj)
    have e : wrap64 (l[j].f0 - a) = l[j].f0 - a := w64 (by omega) (by omega)
    rw [e, ← cnt_iff a l _ hc j hj]
    omega
  have hbs := bs_cnt l a (cnt a l) hQ (l.length + 1) 0 l.length (by omega) (cnt_le a l) (by omega) (by omega)
  have hsf : BinarySearchFunc_syms.f l a = some ((cnt a l : Int), hasB a l) := by
    unfold BinarySearchFunc_syms.f
    rw [if_pos (by omega), hbs, has_eq]
    congr 2
    by_cases c : cnt a l < l.length
    · rw [decide_eq_true c, Bool.true_and, Bool.true_and, rdSget l _ c]
      have g := chk_gt l _ hc l[cnt a l] (List.getElem_mem c)
      have e : wrap64 (l[cnt a l].f0 - a) = l[cnt a l].f0 - a := w64 (by omega) (by omega)
      rw [e, Bool.eq_iff_iff, beq_iff_eq, beq_iff_eq]
      omega
    · rw [decide_eq_false c, Bool.false_and, Bool.false_and]
  have hin : Insert_syms.f l (cnt a l : Int) [⟨a, v⟩] = some (ins a v l) := by
    have := cnt_le a l
    unfold Insert_syms.f
    rw [if_pos ⟨rfl, by omega, by omega, by omega⟩]
    rfl
  have hw : wrap64 (n * p) = n * p := w64 (by omega) (by omega)
  rw [pile_Put.j0, if_neg (by decide), hcl, Option.bind_some, hsf, Option.bind_some]
  unfold freshB
  dsimp only
  cases hasB a l with
  | true => rfl
  | false =>
    rw [if_neg (by decide), hw]
    by_cases c : a ≥ n * p
    · rw [if_pos c, decide_eq_false (by omega)]; rfl
    · rw [if_neg c, hin, Option.bind_some, decide_eq_true (show a < n * p by omega)]; rfl
theorem put_bad {n p : Int} {l : List Sy} (a v : Int) (h : pileB n p l = false ∨ a < 0 ∨ byteV v = false) (hl : l.length < 4611686018427387904) (k : Nat) (hk : l.length + 1 < k) : pile_Put.f k n p l a v = some (0, 0, [], false, 1) := by
  obtain ⟨k, rfl⟩ : ∃ j, k = j + 1 := ⟨k - 1, by omega⟩
  unfold pile_Put.f
  rw [check_f n p l hl (k + 1) (by omega), Option.bind_some]
  cases hp : pileB n p l with
  | false => rfl
  | true =>
    rw [if_pos rfl, if_pos rfl]
    by_cases c : a < 0
    · rw [if_pos c]; rfl
    · rw [if_neg c, value_f, Option.bind_some]
      rcases h with h | h | h
      · rw [hp] at h; cases h
      · omega
      · rw [h]; rfl
end Go.Proofs.Ytfhihhfckpolpaa.Pure
