/- What the law's proof needs: PurePileExact. -/
import Derived.Test.YtfhihhfckpolpaaEXPxVolutelaw09Pileexact
import Derived.Test.YtfhihhfckpolpaaEXPileMore
import Derived.Test.YtfhihhfckpolpaaEXOrdFacts
namespace Go.Proofs.Ytfhihhfckpolpaa.Pure
open Go.RowKit Go.Proofs.Ytfhihhfckpolpaa.P Go.Proofs.YtfhihhfckpolpaaW.PrintWords Go.Proofs.YtfhihhfckpolpaaW.PrintLast Go.Proofs.YtfhihhfckpolpaaW.PrintMore
set_option linter.unusedVariables false
set_option linter.unusedSimpArgs false
theorem pile_order65 : ∀ n : Nat, n < 65 → 1 ≤ n → voluteref04_Order.f 100 (n : Int) = some (ord n) := by decide +kernel
theorem pile_order (n k : Nat) (hn : n < 65) (h1 : 1 ≤ n) (hk : 100 ≤ k) : voluteref04_Order.f k (n : Int) = some (ord n) := at_rounds (voluteref04_Order.mono (n : Int)) hk (pile_order65 n hn h1)
theorem pile_at (n a : Nat) (h1 : 1 ≤ n) (hn : n < 65) (ha : a < n * 16) : sched_At.f (n : Int) (a : Int) = some ((ord n).getD (a % n) 0, ((a / n : Nat) : Int), 0) := by
  have hd : a / n < 16 := Nat.div_lt_of_lt_mul ha
  have h := at_pass n (a / n) (a % n) h1 hn hd (Nat.mod_lt _ (by omega))
  rw [Nat.div_add_mod'] at h
  exact h
theorem cnt_pre (a : Int) (pre rest : List Sy) (h : ∀ s ∈ pre, s.f0 < a) : cnt a (pre ++ rest) = pre.length + cnt a rest := by
  induction pre with
  | nil => simp
  | cons s r ih =>
    have h1 := h s (by simp)
    have h2 := ih (fun x hx => h x (by simp [hx]))
    simp only [List.cons_append, cnt, if_pos h1, h2, List.length_cons]
    omega
theorem has_pre (a : Int) (pre rest : List Sy) (h : ∀ s ∈ pre, s.f0 < a) : hasB a (pre ++ rest) = hasB a rest := by
  induction pre with
  | nil => simp
  | cons s r ih =>
    have h1 := h s (by simp)
    have h2 := ih (fun x hx => h x (by simp [hx]))
    simp only [List.cons_append, hasB, if_pos h1, h2]
theorem refput_l0 (n p a v : Int) (l : List Sy) (hl : l.length ≤ 5000) : ∀ (rest pre : List Sy) (k : Nat), l = pre ++ rest → (∀ s ∈ pre, s.f0 < a) → rest.length < k →
    voluteref04_Put.l0 k a v (pre.length : Int) n p l = some (n, p, (if hasB a l = true then l else ins a v l), !hasB a l, 0) := by
  have hstop : ∀ (pre rest : List Sy), l = pre ++ rest → (∀ s ∈ pre, s.f0 < a) → cnt a rest = 0 → l.take pre.length ++ [(⟨a, v⟩ : Sy)] ++ l.drop pre.length = ins a v l := by
    intro pre rest e hp h0
    have : cnt a l = pre.length := by rw [e, cnt_pre a pre rest hp, h0]; omega
    unfold ins
    rw [this]
  intro rest
  induction rest with
  | nil =>
    intro pre k e hp hk
    obtain ⟨k, rfl⟩ : ∃ m, k = m + 1 := ⟨k - 1, by simp at hk; omega⟩
    have hlp : l.length = pre.length := by rw [e]; simp
    have hh : hasB a l = false := by rw [e, has_pre a pre [] hp]; rfl
    have hs := hstop pre [] e hp rfl
    rw [voluteref04_Put.l0, if_neg (by omega), if_pos (by omega), if_pos (by omega), Option.bind_some, Int.toNat_natCast, if_pos (by simp; omega), Option.bind_some, List.nil_append, if_pos (by rw [List.length_take]; omega), Option.bind_some, Option.bind_some, if_pos (by simp only [List.length_append, List.length_take, List.length_drop, List.length_singleton]; omega), hs, hh]
    rfl
  | cons s r ih =>
    intro pre k e hp hk
    simp only [List.length_cons] at hk
    obtain ⟨k, rfl⟩ : ∃ m, k = m + 1 := ⟨k - 1, by omega⟩
    have hlp : l.length = pre.length + (r.length + 1) := by rw [e]; simp
    have hrd : rd_T88 l (pre.length : Int) = s := by rw [e]; exact rdS pre s r
    rw [voluteref04_Put.l0, if_pos (by omega), if_pos (by omega), hrd]
    by_cases c : s.f0 < a
    · rw [if_pos c, wadd1 _ (by omega)]
      have := ih (pre ++ [s]) k (by rw [e]; simp) (by
        intro x hx
        rcases List.mem_append.1 hx with hx | hx
        · exact hp x hx
        · rw [List.mem_singleton] at hx; subst hx; exact c) (by omega)
      rw [List.length_append] at this
      exact this
    · rw [if_neg c]
      have hh : hasB a l = (s.f0 == a) := by rw [e, has_pre a pre _ hp, hasB, if_neg c]
      by_cases c2 : s.f0 = a
      · rw [if_pos c2, hh, c2]
        simp
      · have hb : (s.f0 == a) = false := by simpa using c2
        have hs := hstop pre (s :: r) e hp (by rw [cnt, if_neg c])
        rw [if_neg c2, if_pos (by omega), Option.bind_some, Int.toNat_natCast, if_pos (by simp; omega), Option.bind_some, List.nil_append, if_pos (by rw [List.length_take]; omega), Option.bind_some, Option.bind_some, if_pos (by simp only [List.length_append, List.length_take, List.length_drop, List.length_singleton]; omega), hs, hh, hb]
        rfl
theorem twinPile (n p : Int) (l : List Sy) (hl : l.length ≤ 5000) : volutekeep_TwinPile.f n p l = some (n, p, l) := by
  unfold volutekeep_TwinPile.f volutekeep_TwinSyms.f
  rw [if_pos (by simp; omega), List.nil_append]; rfl
theorem refput_f {n p : Int} {l : List Sy} (h : pileB n p l = true) (a v : Int) (ha : 0 ≤ a) (hv : byteV v = true) (k : Nat) (hk : 1100 ≤ k) :
    voluteref04_Put.f k n p l a v = some (n, p, (if freshB (n * p) a l = true then ins a v l else l), freshB (n * p) a l, 0) := by
  simp only [pileB, Bool.and_eq_true] at h
  obtain ⟨hm, hc⟩ := h
  obtain ⟨_, _, h1, h2⟩ := may_nums hm
  have hl := chk_len l _ hc (by omega)
  have hv2 := hv
  simp only [byteV, Bool.and_eq_true, decide_eq_true_eq] at hv2
  obtain ⟨k, rfl⟩ : ∃ j, k = j + 1 := ⟨k - 1, by omega⟩
  have hw : wrap64 (n * p) = n * p := w64 (by omega) (by omega)
  unfold voluteref04_Put.f
  rw [if_neg (by omega), if_neg (by omega), decide_eq_false (by omega), voluteref04_Put.j0, if_neg (by decide), twinPile n p l (by omega), Option.bind_some, hw]
  dsimp only
  unfold freshB
  by_cases c : a ≥ n * p
  · rw [if_pos c, decide_eq_false (by omega), Bool.and_false, if_neg (by decide)]
  · have := refput_l0 n p a v l (by omega) l [] k rfl (by intro s hs; cases hs) (by omega)
    rw [if_neg c, decide_eq_true (show a < n * p by omega), Bool.and_true]
    refine this.trans ?_
    cases hasB a l <;> rfl
theorem refput_bad (n p : Int) (l : List Sy) (a v : Int) (h : a < 0 ∨ byteV v = false) (k : Nat) (hk : 1 ≤ k) : voluteref04_Put.f k n p l a v = some (0, 0, [], false, 1) := by
  obtain ⟨k, rfl⟩ : ∃ j, k = j + 1 := ⟨k - 1, by omega⟩
  unfold voluteref04_Put.f
  by_cases c : a < 0
  · rw [if_pos c]; rfl
  · rw [if_neg c]
    by_cases c2 : v < 0
    · rw [if_pos c2]; rfl
    · rw [if_neg c2]
      have : v > 255 := by
        rcases h with h | h
        · omega
        · simp only [byteV, Bool.and_eq_false_iff, decide_eq_false_iff_not] at h
          omega
      rw [decide_eq_true this]; rfl
theorem refpile_l0 (n p : Int) (hm : wrap64 (n * p) = n * p) (l : List Sy) (hl : l.length ≤ 5000) : ∀ (rest pre : List Sy) (last : Int) (k : Nat), l = pre ++ rest → rest.length < k → (pre = [] ∧ last = -1 ∨ 0 ≤ last ∧ pre.length ≠ 0 ∧ (rd_T88 l ((pre.length - 1 : Nat) : Int)).f0 = last) →
    voluteref04_Pile.l0 k (pre.length : Int) n p l = some (chkB (n * p) last rest) := by
  intro rest
  induction rest with
  | nil =>
    intro pre last k e hk _
    obtain ⟨k, rfl⟩ : ∃ m, k = m + 1 := ⟨k - 1, by simp at hk; omega⟩
    have hlp : l.length = pre.length := by rw [e]; simp
    rw [voluteref04_Pile.l0, if_neg (by omega)]
    rfl
  | cons s r ih =>
    intro pre last k e hk hlast
    simp only [List.length_cons] at hk
    obtain ⟨k, rfl⟩ : ∃ m, k = m + 1 := ⟨k - 1, by omega⟩
    have hlp : l.length = pre.length + (r.length + 1) := by rw [e]; simp
    have hrd : rd_T88 l (pre.length : Int) = s := by rw [e]; exact rdS pre s r
    have hnext : 0 ≤ s.f0 → voluteref04_Pile.l0 k ((pre.length + 1 : Nat) : Int) n p l = some (chkB (n * p) s.f0 r) := by
      intro h0
      have := ih (pre ++ [s]) s.f0 k (by rw [e]; simp) (by omega) (.inr ⟨h0, by simp, by rw [List.length_append, List.length_singleton, Nat.add_sub_cancel, hrd]⟩)
      rw [List.length_append] at this
      exact this
    rw [voluteref04_Pile.l0, if_pos (by omega), if_pos (by omega), hrd, hm]
    unfold chkB byteV
    by_cases c1 : s.f0 < 0
    · rw [if_pos c1]
      have : ¬ last < s.f0 := by
        rcases hlast with ⟨_, h⟩ | ⟨h, _⟩ <;> omega
      rw [decide_eq_false this, Bool.false_and]
    · rw [if_neg c1]
      by_cases c2 : s.f0 ≥ n * p
      · rw [if_pos c2, decide_eq_false (show ¬ s.f0 < n * p by omega), Bool.false_and, Bool.and_false]
      · rw [if_neg c2, decide_eq_true (show s.f0 < n * p by omega), Bool.true_and]
        by_cases c3 : s.f1 < 0
        · rw [if_pos c3, decide_eq_false (show ¬ 0 ≤ s.f1 by omega), Bool.false_and, Bool.false_and, Bool.and_false]
        · rw [if_neg c3, decide_eq_true (show 0 ≤ s.f1 by omega), Bool.true_and]
          by_cases c4 : s.f1 > 255
          · rw [if_pos c4, decide_eq_false (show ¬ s.f1 ≤ 255 by omega), Bool.false_and, Bool.and_false]
          · rw [if_neg c4, decide_eq_true (show s.f1 ≤ 255 by omega), Bool.true_and]
            rcases hlast with ⟨h, h2⟩ | ⟨h, h2, h3⟩
            · subst h h2
              rw [if_neg (by simp), decide_eq_true (show (-1 : Int) < s.f0 by omega), Bool.true_and, wadd1 _ (by omega)]
              exact hnext (by omega)
            · have e1 : wrap64 ((pre.length : Int) - 1) = ((pre.length - 1 : Nat) : Int) := wsub pre.length 1 (by omega) (by omega)
              rw [if_pos (by omega), e1, if_pos (by omega), if_pos (by omega), h3]
              by_cases c5 : s.f0 ≤ last
              · rw [if_pos c5, decide_eq_false (show ¬ last < s.f0 by omega), Bool.false_and]
              · rw [if_neg c5, decide_eq_true (show last < s.f0 by omega), Bool.true_and, wadd1 _ (by omega)]
                exact hnext (by omega)
theorem refN_f (n : Int) : voluteref04_N.f n = some (decide (1 ≤ n) && decide (n ≤ 64)) := by
  unfold voluteref04_N.f
  by_cases c : n ≥ 1
  · rw [if_pos c, decide_eq_true (show 1 ≤ n by omega), Bool.true_and]
  · rw [if_neg c, decide_eq_false (show ¬ 1 ≤ n by omega), Bool.false_and]
theorem refpile_f (n p : Int) (l : List Sy) (hl : l.length ≤ 5000) (k : Nat) (hk : 5002 ≤ k) : voluteref04_Pile.f k n p l = some (pileB n p l) := by
  obtain ⟨k, rfl⟩ : ∃ j, k = j + 1 := ⟨k - 1, by omega⟩
  have hj : ∀ b : Bool, (b = !mayB n p) → voluteref04_Pile.j0 (k + 1) b n p l = some (pileB n p l) := by
    rintro b rfl
    unfold pileB
    cases hm : mayB n p with
    | false => rfl
    | true =>
      obtain ⟨_, _, h1, h2⟩ := may_nums hm
      rw [voluteref04_Pile.j0, if_neg (by decide), Bool.true_and]
      exact refpile_l0 n p (w64 (by omega) (by omega)) l hl l [] (-1) k rfl (by omega) (.inl ⟨rfl, rfl⟩)
  unfold voluteref04_Pile.f
  rw [refN_f, Option.bind_some]
  unfold mayB at hj
  cases h1 : (decide (1 ≤ n) && decide (n ≤ 64)) with
  | false =>
    rw [if_neg (by decide)]
    refine hj true ?_
    rw [← Bool.and_assoc, h1]; rfl
  | true =>
    rw [if_pos rfl]
    by_cases c : p < 1
    · rw [if_pos c]
      refine hj true ?_
      rw [← Bool.and_assoc, h1, decide_eq_false (show ¬ 1 ≤ p by omega)]; rfl
    · rw [if_neg c]
      refine hj _ ?_
      rw [← Bool.and_assoc, h1, decide_eq_true (show 1 ≤ p by omega), Bool.true_and, Bool.true_and]
      by_cases c2 : p > 16
      · rw [decide_eq_true c2, decide_eq_false (show ¬ p ≤ 16 by omega)]; rfl
      · rw [decide_eq_false c2, decide_eq_true (show p ≤ 16 by omega)]; rfl
def ofL (n : Nat) (seg : Int) : List Sy → List Sy
  | [] => []
  | s :: r => if (ord n).getD (s.f0.toNat % n) 0 = seg then ⟨((s.f0.toNat / n : Nat) : Int), s.f1⟩ :: ofL n seg r else ofL n seg r
theorem ofL_length (n : Nat) (seg : Int) (l : List Sy) : (ofL n seg l).length ≤ l.length := by
  induction l with
  | nil => simp [ofL]
  | cons s r ih => unfold ofL; split <;> simp <;> omega
theorem of_l0 (n : Nat) (p seg : Int) (h1 : 1 ≤ n) (hn : n < 65) (l : List Sy) (hl : l.length ≤ 5000) (hr : ∀ s ∈ l, 0 ≤ s.f0 ∧ s.f0 < n * 16) : ∀ (rest pre acc : List Sy) (k : Nat), l = pre ++ rest → acc.length ≤ pre.length → rest.length < k →
    pile_Of.l0 k seg acc l (l.length : Int) (pre.length : Int) (n : Int) p l = some (acc ++ ofL n seg rest, 0) := by
  intro rest
  induction rest with
  | nil =>
    intro pre acc k e ha hk
    obtain ⟨k, rfl⟩ : ∃ m, k = m + 1 := ⟨k - 1, by simp at hk; omega⟩
    have hlp : l.length = pre.length := by rw [e]; simp
    rw [pile_Of.l0, if_neg (by omega)]
    simp [ofL]
  | cons s r ih =>
    intro pre acc k e ha hk
    simp only [List.length_cons] at hk
    obtain ⟨k, rfl⟩ : ∃ m, k = m + 1 := ⟨k - 1, by omega⟩
    have hlp : l.length = pre.length + (r.length + 1) := by rw [e]; simp
    have hrd : rd_T88 l (pre.length : Int) = s := by rw [e]; exact rdS pre s r
    have hs := hr s (by rw [e]; simp)
    obtain ⟨a, ha2⟩ := Int.eq_ofNat_of_zero_le hs.1
    have hat := pile_at n a h1 hn (by omega)
    rw [← ha2] at hat
    have hta : s.f0.toNat = a := by omega
    rw [pile_Of.l0, if_pos (by omega), if_pos (by omega), if_pos (by omega), hrd, hat, Option.bind_some]
    dsimp only
    rw [if_pos rfl]
    unfold ofL
    rw [hta]
    by_cases c : (ord n).getD (a % n) 0 = seg
    · rw [if_pos c, if_pos c, if_pos (by omega), wadd1 _ (by omega)]
      have := ih (pre ++ [s]) (acc ++ [⟨((a / n : Nat) : Int), s.f1⟩]) k (by rw [e]; simp) (by simp; omega) (by omega)
      rw [List.length_append, List.append_assoc] at this
      exact this
    · rw [if_neg c, if_neg c, wadd1 _ (by omega)]
      have := ih (pre ++ [s]) acc k (by rw [e]; simp) (by simp; omega) (by omega)
      rw [List.length_append] at this
      exact this
theorem refof_l0 (n : Nat) (p seg : Int) (h1 : 1 ≤ n) (hn : n < 65) (l : List Sy) (hl : l.length ≤ 5000) (hr : ∀ s ∈ l, 0 ≤ s.f0 ∧ s.f0 < n * 16) : ∀ (rest pre acc : List Sy) (k : Nat), l = pre ++ rest → acc.length ≤ pre.length → rest.length < k →
    voluteref04_Of.l0 k seg (ord n) acc (pre.length : Int) (n : Int) p l = some (acc ++ ofL n seg rest) := by
  intro rest
  induction rest with
  | nil =>
    intro pre acc k e ha hk
    obtain ⟨k, rfl⟩ : ∃ m, k = m + 1 := ⟨k - 1, by simp at hk; omega⟩
    have hlp : l.length = pre.length := by rw [e]; simp
    rw [voluteref04_Of.l0, if_neg (by omega)]
    simp [ofL]
  | cons s r ih =>
    intro pre acc k e ha hk
    simp only [List.length_cons] at hk
    obtain ⟨k, rfl⟩ : ∃ m, k = m + 1 := ⟨k - 1, by omega⟩
    have hlp : l.length = pre.length + (r.length + 1) := by rw [e]; simp
    have hrd : rd_T88 l (pre.length : Int) = s := by rw [e]; exact rdS pre s r
    have hs := hr s (by rw [e]; simp)
    obtain ⟨a, ha2⟩ := Int.eq_ofNat_of_zero_le hs.1
    have hta : s.f0.toNat = a := by omega
    have hmod : Int.tmod s.f0 (n : Int) = ((a % n : Nat) : Int) := by rw [ha2, Int.tmod_eq_emod_of_nonneg (by omega)]; simp
    have hdiv : wrap64 (Int.tdiv s.f0 (n : Int)) = ((a / n : Nat) : Int) := by
      rw [ha2, Int.tdiv_eq_ediv_of_nonneg (by omega), ← Int.natCast_ediv]
      have : a / n ≤ a := Nat.div_le_self a n
      exact wnat _ (by omega)
    have hmlt : a % n < n := Nat.mod_lt _ (by omega)
    have hol := ord_len n hn
    rw [voluteref04_Of.l0, if_pos (by omega), if_pos (by omega), hrd, if_neg (by omega), hmod, if_pos (by omega), if_pos (by omega), ord_rd hn hmlt, hdiv]
    unfold ofL
    rw [hta]
    by_cases c : (ord n).getD (a % n) 0 = seg
    · rw [if_pos c, if_pos c, if_pos (by omega), wadd1 _ (by omega)]
      have := ih (pre ++ [s]) (acc ++ [⟨((a / n : Nat) : Int), s.f1⟩]) k (by rw [e]; simp) (by simp; omega) (by omega)
      rw [List.length_append, List.append_assoc] at this
      exact this
    · rw [if_neg c, if_neg c, wadd1 _ (by omega)]
      have := ih (pre ++ [s]) acc k (by rw [e]; simp) (by simp; omega) (by omega)
      rw [List.length_append] at this
      exact this
theorem spoilSyms_l0 (d : Nat) : ∀ (k i : Nat) (a : List Sy), a.length ≤ 5000 → i ≤ a.length → a.length - i = d → d < k → ∃ r, volutekeep_SpoilSyms.l0 k a (i : Int) = some r := by
  induction d with
  | zero =>
    intro k i a hb hi hd hk
    obtain ⟨k, rfl⟩ : ∃ m, k = m + 1 := ⟨k - 1, by omega⟩
    exact ⟨a, by rw [volutekeep_SpoilSyms.l0, if_neg (by omega)]⟩
  | succ d ih =>
    intro k i a hb hi hd hk
    obtain ⟨k, rfl⟩ : ∃ m, k = m + 1 := ⟨k - 1, by omega⟩
    rw [volutekeep_SpoilSyms.l0, if_pos (by omega), if_pos (by omega), Option.bind_some, wadd1 i (by omega)]
    exact ih k (i + 1) _ (by simpa using hb) (by simp; omega) (by simp; omega) (by omega)
theorem spoilSyms (a : List Sy) (h : a.length ≤ 5000) (k : Nat) (hk : a.length < k) : ∃ r, volutekeep_SpoilSyms.f k a = some r :=
  spoilSyms_l0 a.length k 0 a h (by omega) (by omega) hk
theorem pile_rng {n p : Int} {l : List Sy} (h : pileB n p l = true) : ∃ m : Nat, n = (m : Int) ∧ 1 ≤ m ∧ m < 65 ∧ l.length ≤ 1024 ∧ ∀ s ∈ l, 0 ≤ s.f0 ∧ s.f0 < m * 16 := by
  simp only [pileB, Bool.and_eq_true] at h
  obtain ⟨hm, hc⟩ := h
  obtain ⟨g1, g2, h1, h2⟩ := may_nums hm
  have hl := chk_len l _ hc (by omega)
  obtain ⟨m, rfl⟩ := Int.eq_ofNat_of_zero_le (show 0 ≤ n by omega)
  have hle : (m : Int) * p ≤ m * 16 := Int.mul_le_mul_of_nonneg_left g2.2 (by omega)
  refine ⟨m, rfl, by omega, by omega, by omega, fun s hs => ?_⟩
  have := chk_gt l _ hc s hs
  omega
theorem of_f {n p : Int} {l : List Sy} (h : pileB n p l = true) (seg : Int) (hs : 0 ≤ seg ∧ seg < n) (k : Nat) (hk : 1100 ≤ k) : pile_Of.f k n p l seg = some (ofL n.toNat seg l, 0) := by
  obtain ⟨m, rfl, h1, hn, hl, hr⟩ := pile_rng h
  obtain ⟨k, rfl⟩ : ∃ j, k = j + 1 := ⟨k - 1, by omega⟩
  unfold pile_Of.f
  rw [check_f _ p l (by omega) (k + 1) (by omega), h, Option.bind_some, if_pos rfl, if_pos rfl, if_neg (by omega), decide_eq_false (by omega), pile_Of.j0, if_neg (by decide), Int.toNat_natCast]
  exact of_l0 m p seg h1 hn l (by omega) hr l [] [] k rfl (by simp) (by omega)
theorem of_bad (n p : Int) (l : List Sy) (seg : Int) (h : pileB n p l = false ∨ seg < 0 ∨ n ≤ seg) (hl : l.length ≤ 5000) (k : Nat) (hk : 5002 ≤ k) : pile_Of.f k n p l seg = some ([], 1) := by
  obtain ⟨k, rfl⟩ : ∃ j, k = j + 1 := ⟨k - 1, by omega⟩
  unfold pile_Of.f
  rw [check_f n p l (by omega) (k + 1) (by omega), Option.bind_some]
  cases hp : pileB n p l with
  | false => rfl
  | true =>
    rw [if_pos rfl, if_pos rfl]
    by_cases c : seg < 0
    · rw [if_pos c]; rfl
    · rw [if_neg c, decide_eq_true (show seg ≥ n by rcases h with h | h | h; (rw [hp] at h; cases h); all_goals omega)]; rfl
theorem refof_f {n p : Int} {l : List Sy} (h : pileB n p l = true) (seg : Int) (k : Nat) (hk : 1100 ≤ k) : voluteref04_Of.f k n p l seg = some (ofL n.toNat seg l) := by
  obtain ⟨m, rfl, h1, hn, hl, hr⟩ := pile_rng h
  unfold voluteref04_Of.f
  rw [pile_order m k hn h1 (by omega), Option.bind_some, Int.toNat_natCast]
  exact refof_l0 m p seg h1 hn l (by omega) hr l [] [] k rfl (by simp) (by omega)
theorem new_g (n p : Int) : pile_New.f n p = some (if mayB n p = true then (n, p, [], 0) else (0, 0, [], 1)) := by
  unfold pile_New.f
  rw [may_f, Option.bind_some]
  cases mayB n p <;> rfl
theorem j5_ok (n p : Int) (l m : List Sy) (hl : l.length ≤ 5000) (hm : m.length ≤ 5000) (k : Nat) (hk : 6000 ≤ k) : volutelaw09_PileExact.j5 (k + 1) m false n p l n p l = some true := by
  obtain ⟨r, hr⟩ := spoilSyms m hm k (by omega)
  rw [volutelaw09_PileExact.j5, if_neg (by decide), hr, Option.bind_some, keepPile n p l (by omega) k (by omega), Option.bind_some, if_pos rfl, wakes09 k (by omega)]
  rfl
theorem j3_ok {n p : Int} {l : List Sy} (h : pileB n p l = true) (seg : Int) (hseg : -9223372036854775808 ≤ seg) (x y : Int) (m : List Sy) (hm : m.length ≤ 5000) (k : Nat) (hk : 6000 ≤ k) :
    ∀ (of : List Sy) (oe : Int), pile_Of.f (k + 4) n p l seg = some (of, oe) → volutelaw09_PileExact.j3 (k + 3) seg of oe false n p l n p l x y m = some true := by
  intro of oe hof
  obtain ⟨_, _, _, _, hl, _⟩ := pile_rng h
  obtain ⟨r, hr⟩ := spoilSyms m hm (k + 2) (by omega)
  have hj4 : ∀ b, b = decide (seg < 0 ∨ n ≤ seg) → volutelaw09_PileExact.j4 (k + 2) seg of oe b n p l n p l = some true := by
    rintro b rfl
    by_cases c : seg < 0 ∨ n ≤ seg
    · rw [of_bad n p l seg (.inr c) (by omega) (k + 4) (by omega)] at hof
      simp only [Option.some.injEq, Prod.mk.injEq] at hof
      obtain ⟨rfl, rfl⟩ := hof
      rw [volutelaw09_PileExact.j4, decide_eq_true c, if_pos rfl, if_pos rfl, if_pos (by rfl), wakes09 (k + 1) (by omega)]
      rfl
    · rw [of_f h seg (by omega) (k + 4) (by omega)] at hof
      simp only [Option.some.injEq, Prod.mk.injEq] at hof
      obtain ⟨rfl, rfl⟩ := hof
      have hol := ofL_length n.toNat seg l
      rw [volutelaw09_PileExact.j4, decide_eq_false c, if_neg (by decide), if_pos rfl, refof_f h seg (k + 1) (by omega), Option.bind_some, syms_refl _ (by omega) (k + 1) (by omega), Option.bind_some]
      exact j5_ok n p l _ (by omega) (by omega) k hk
  rw [volutelaw09_PileExact.j3, if_neg (by decide), hr, Option.bind_some]
  by_cases c : seg < 0
  · rw [if_pos c]; exact hj4 _ (decide_eq_true (.inl c)).symm
  · rw [if_neg c]; exact hj4 _ (decide_eq_decide.2 (by omega))
theorem j2_ok (n p : Int) (l : List Sy) (hl : l.length ≤ 2000) (a v seg : Int) (ha : a ≤ 9223372036854775807) (hseg : -9223372036854775808 ≤ seg) (k : Nat) (hk : 6000 ≤ k) :
    volutelaw09_PileExact.j2 (k + 5) a v seg (pileB n p l) n p l n p l = some true := by
  rw [volutelaw09_PileExact.j2]
  cases hP : pileB n p l with
  | false =>
    rw [put_bad a v (.inl hP) (by omega) (k + 4) (by omega), Option.bind_some, of_bad n p l seg (.inl hP) (by omega) (k + 4) (by omega), Option.bind_some, keepPile n p l (by omega) (k + 4) (by omega), Option.bind_some, if_pos rfl, if_neg (by decide)]
    dsimp only
    rw [if_pos rfl, if_pos rfl, if_neg (by decide), if_pos (by rfl), keepPile 0 0 [] (by simp) (k + 4) (by simp), Option.bind_some, if_pos rfl, wakes09 (k + 4) (by omega)]
    rfl
  | true =>
    obtain ⟨of, oe, hof⟩ : ∃ of oe, pile_Of.f (k + 4) n p l seg = some (of, oe) := by
      by_cases c : seg < 0 ∨ n ≤ seg
      · exact ⟨_, _, of_bad n p l seg (.inr c) (by omega) (k + 4) (by omega)⟩
      · exact ⟨_, _, of_f hP seg (by omega) (k + 4) (by omega)⟩
    have hof2 := hof
    by_cases c : a < 0 ∨ byteV v = false
    · rw [put_bad a v (.inr c) (by omega) (k + 4) (by omega), Option.bind_some, hof, Option.bind_some, keepPile n p l (by omega) (k + 4) (by omega), Option.bind_some, if_pos rfl, if_pos rfl, refput_bad n p l a v c (k + 4) (by omega), Option.bind_some]
      dsimp only
      rw [if_pos rfl, if_neg (by decide), keepPile 0 0 [] (by simp) (k + 4) (by simp), Option.bind_some]
      exact j3_ok hP seg hseg 0 0 [] (by simp) (k + 1) (by omega) of oe (by
        rw [← hof2]
        by_cases c : seg < 0 ∨ n ≤ seg
        · rw [of_bad n p l seg (.inr c) (by omega) (k + 4) (by omega), of_bad n p l seg (.inr c) (by omega) (k + 1 + 4) (by omega)]
        · rw [of_f hP seg (by omega) (k + 4) (by omega), of_f hP seg (by omega) (k + 1 + 4) (by omega)])
    · have hv : byteV v = true := by cases hb : byteV v with
        | true => rfl
        | false => exact absurd (.inr hb) c
      have ha0 : 0 ≤ a := by omega
      rw [put_f hP a v ⟨ha0, ha⟩ hv (k + 4) (by omega), Option.bind_some, hof, Option.bind_some, keepPile n p l (by omega) (k + 4) (by omega), Option.bind_some, if_pos rfl, if_pos rfl, refput_f hP a v ha0 hv (k + 4) (by omega), Option.bind_some]
      have hil := ins_length a v l
      have hml : (if freshB (n * p) a l = true then ins a v l else l).length ≤ 5000 := by split <;> omega
      dsimp only
      rw [if_pos rfl, bne_self_eq_false, if_neg (by decide), keepPile n p _ (by omega) (k + 4) (by omega), Option.bind_some]
      exact j3_ok hP seg hseg n p _ hml (k + 1) (by omega) of oe (by
        rw [← hof2]
        by_cases c : seg < 0 ∨ n ≤ seg
        · rw [of_bad n p l seg (.inr c) (by omega) (k + 4) (by omega), of_bad n p l seg (.inr c) (by omega) (k + 1 + 4) (by omega)]
        · rw [of_f hP seg (by omega) (k + 4) (by omega), of_f hP seg (by omega) (k + 1 + 4) (by omega)])
theorem j0_ok (n p : Int) (l : List Sy) (hl : l.length ≤ 2000) (a v seg : Int) (ha : a ≤ 9223372036854775807) (hseg : -9223372036854775808 ≤ seg) (k : Nat) (hk : 6000 ≤ k) :
    volutelaw09_PileExact.j0 (k + 7) a v seg (pileB n p l) false n p l n p l = some true := by
  have h2 := j2_ok n p l hl a v seg ha hseg k hk
  have hj1 : ∀ b, b = mayB n p → volutelaw09_PileExact.j1 (k + 6) a v seg (pileB n p l) (if mayB n p = true then (n, p, ([] : List Sy), (0 : Int)) else (0, 0, [], 1)).2.2.2 b n p l n p l (if mayB n p = true then (n, p, ([] : List Sy), (0 : Int)) else (0, 0, [], 1)).1 (if mayB n p = true then (n, p, ([] : List Sy), (0 : Int)) else (0, 0, [], 1)).2.1 (if mayB n p = true then (n, p, ([] : List Sy), (0 : Int)) else (0, 0, [], 1)).2.2.1 = some true := by
    rintro b rfl
    cases hm : mayB n p with
    | true =>
      simp only [if_true]
      rw [volutelaw09_PileExact.j1, if_pos rfl, if_pos rfl, keepPile n p [] (by simp) (k + 5) (by simp), Option.bind_some, if_pos rfl]
      exact h2
    | false =>
      simp only [Bool.false_eq_true, if_false]
      rw [volutelaw09_PileExact.j1, if_neg (by decide), if_pos rfl, keepPile 0 0 [] (by simp) (k + 5) (by simp), Option.bind_some, if_pos rfl]
      exact h2
  rw [volutelaw09_PileExact.j0, if_neg (by decide), new_g, Option.bind_some, refN_f, Option.bind_some]
  unfold mayB at hj1 ⊢
  cases h1 : (decide (1 ≤ n) && decide (n ≤ 64)) with
  | false =>
    rw [if_neg (by decide)]
    refine hj1 false ?_
    rw [← Bool.and_assoc, h1]; rfl
  | true =>
    rw [if_pos rfl]
    by_cases c : p ≥ 1
    · rw [if_pos c]
      refine hj1 _ ?_
      rw [← Bool.and_assoc, h1, decide_eq_true (show 1 ≤ p by omega), Bool.true_and, Bool.true_and]
    · rw [if_neg c]
      refine hj1 false ?_
      rw [← Bool.and_assoc, h1, decide_eq_false (show ¬ 1 ≤ p by omega)]; rfl
theorem PileExact {Q : Prop} (n p : Int) (l : List Sy) (a v seg : Int) (h0 : (Lit.int .i64 n).wf = true) (h1 : (Lit.int .i64 p).wf = true) (_ : Q) (ha : (Lit.int .i64 a).wf = true) (hv : (Lit.int .i64 v).wf = true) (hseg : (Lit.int .i64 seg).wf = true) :
    ∃ k, volutelaw09_PileExact.f k n p l a v seg = some true := by
  refine ⟨6000 + 7, ?_⟩
  unfold volutelaw09_PileExact.f
  by_cases c : (l.length : Int) > 2000
  · rw [if_pos c]
  · have hl : l.length ≤ 2000 := by omega
    have h := j0_ok n p l hl a v seg (wf64 ha).2 (wf64 hseg).1 6000 (by omega)
    rw [if_neg c, twinPile n p l (by omega), Option.bind_some, refpile_f n p l (by omega) (6000 + 7) (by omega), Option.bind_some]
    dsimp only
    rw [check_f n p l (by omega) (6000 + 7) (by omega), Option.bind_some]
    cases hP : pileB n p l with
    | true =>
      rw [hP] at h
      rw [if_neg (by decide), if_pos rfl]
      exact h
    | false =>
      rw [hP] at h
      rw [if_neg (by decide), if_neg (by decide), Option.bind_some]
      exact h
end Go.Proofs.Ytfhihhfckpolpaa.Pure
