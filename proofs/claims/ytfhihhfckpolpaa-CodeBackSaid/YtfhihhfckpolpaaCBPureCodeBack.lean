/- What the law's proof needs: PureCodeBack. -/
import Derived.Test.YtfhihhfckpolpaaCBPxVolutelaw08Codeback
import Derived.Test.YtfhihhfckpolpaaCBBackFacts
namespace Go.Proofs.Ytfhihhfckpolpaa.Pure
open Go.RowKit Go.Proofs.Ytfhihhfckpolpaa.P Go.Proofs.YtfhihhfckpolpaaW.PrintWords Go.Proofs.YtfhihhfckpolpaaW.PrintLast Go.Proofs.YtfhihhfckpolpaaW.PrintMore
set_option linter.unusedVariables false
set_option linter.unusedSimpArgs false
theorem back_get (l : List Int) : ∀ (s : Int) (i : Nat) (h : i < l.length), (stsI s l).getD i 0 = stI (List.foldl stI s (l.take i)) l[i] := by
  induction l with
  | nil => intro s i h; simp at h
  | cons a l ih =>
    intro s i h
    cases i with
    | zero => simp [stsI]
    | succ i =>
      have := ih (stI s a) i (by simpa using h)
      simpa [stsI] using this
theorem back_fold (l : List Int) : ∀ s, St s → (∀ x ∈ l, nibB x) → St (List.foldl stI s l) := by
  induction l with
  | nil => intro s hs _; exact hs
  | cons a l ih => intro s hs hn; exact ih _ (stI_st hs (hn a (by simp))) (fun x hx => hn x (by simp [hx]))
def syms4 (t : Int) (p : Nat) : List Int := (List.range p).map (fun q : Nat => symI t (q : Int))
section
variable (b : List Int) (n : Nat) (hb : byteB b = true) (hl : b.length = n) (h1 : 1 ≤ n) (h2 : n ≤ 32)
include hb hl h1 h2
theorem back_l1 (xs : List Int) (hxs : xs = encI (blockI b) (2 * n) 0 (8 * n)) (i : Nat) (hi : i < 2 * n) (s : Int) (x7 : List Int) (d : Nat) : ∀ (k p : Nat), p ≤ 4 → 4 - p = d → d < k →
    volutelaw08_CodeBack.l1 k b ((2 * n : Nat) : Int) xs s x7 (i : Int) (syms4 ((blockI b).getD i 0) p) (p : Int) = volutelaw08_CodeBack.l1 (k - d) b ((2 * n : Nat) : Int) xs s x7 (i : Int) (syms4 ((blockI b).getD i 0) 4) 4 := by
  have hs := slot_lt (2 * n) i (by omega) hi
  have ht := block_st hb i (by omega)
  induction d with
  | zero =>
    intro k p hp hd hk
    obtain rfl : p = 4 := by omega
    rfl
  | succ d ih =>
    intro k p hp hd hk
    obtain ⟨k, rfl⟩ : ∃ m, k = m + 1 := ⟨k - 1, by omega⟩
    have hlt : p * (2 * n) + slot (2 * n) i < 8 * n := by
      have : p * (2 * n) ≤ 3 * (2 * n) := Nat.mul_le_mul_right _ (by omega)
      omega
    have gx := encI_get (blockI b) (2 * n) (8 * n) p i (by omega) hi hlt
    have hpl := place_slot (2 * n) i p (by omega) (by omega) (by omega) hi
    have e1 : k + 1 - (d + 1) = k - d := by omega
    have hxl : xs.length = 8 * n := by rw [hxs, encI_length]
    have rx : rd xs ((p * (2 * n) + slot (2 * n) i : Nat) : Int) = symI ((blockI b).getD i 0) (p : Int) := by
      rw [← symI_rng ht p (by omega), hxs, ← gx]; rfl
    have hby := symI_byte ht p
    have hsl : (syms4 ((blockI b).getD i 0) p).length = p := by simp [syms4]
    have hsn : syms4 ((blockI b).getD i 0) p ++ [symI ((blockI b).getD i 0) (p : Int)] = syms4 ((blockI b).getD i 0) (p + 1) := by
      unfold syms4; rw [List.range_succ, List.map_append]; rfl
    rw [volutelaw08_CodeBack.l1, if_pos (by omega), hpl, Option.bind_some, e1]
    dsimp only
    rw [if_pos rfl, if_neg (by omega), hxl, if_neg (by omega), if_pos (by omega), if_pos (by omega), hsl, if_pos (by omega), rx, w64 (by omega) (by omega), hsn, wadd1 p (by omega)]
    exact ih k (p + 1) (by omega) (by omega) (by omega)
theorem back_l0 (xs : List Int) (hxs : xs = encI (blockI b) (2 * n) 0 (8 * n)) (d : Nat) : ∀ (k i : Nat), i ≤ 2 * n → 2 * n - i = d → 10 * d + 1500 < k →
    volutelaw08_CodeBack.l0 k b ((2 * n : Nat) : Int) xs (List.foldl stI beginI ((nibs b).take i)) ((nibs b).take i) (i : Int) = some true := by
  have hnl := nibs_length b
  induction d with
  | zero =>
    intro k i hi hd hk
    obtain ⟨k, rfl⟩ : ∃ m, k = m + 1 := ⟨k - 1, by omega⟩
    obtain rfl : i = 2 * n := by omega
    rw [volutelaw08_CodeBack.l0, if_neg (by omega), List.take_of_length_le (by omega), join_f b hb (by omega), Option.bind_some]
    dsimp only
    rw [if_pos rfl, bytes_f b b (by omega) k (by omega), Option.bind_some, decide_eq_true rfl, if_pos rfl, wakes08 k (by omega)]
    rfl
  | succ d ih =>
    intro k i hi hd hk
    obtain ⟨k, rfl⟩ : ∃ m, k = m + 7 := ⟨k - 7, by omega⟩
    have hin : i < (nibs b).length := by omega
    have hst := back_fold ((nibs b).take i) beginI begin_st (fun x hx => nibs_nib hb x (List.mem_of_mem_take hx))
    have hx := nibs_nib hb _ (List.getElem_mem hin)
    have ht : (blockI b).getD i 0 = stI (List.foldl stI beginI ((nibs b).take i)) (nibs b)[i] := back_get (nibs b) beginI i hin
    have hSt := block_st hb i (by omega)
    have hfour : ∀ q : Nat, q < 4 → (syms4 ((blockI b).getD i 0) 4).getD q 0 = symI ((blockI b).getD i 0) (q : Int) := by
      intro q hq
      unfold syms4
      rw [List.getD_eq_getElem?_getD, List.getElem?_map, List.getElem?_range hq]; rfl
    have hsf := state_f ((blockI b).getD i 0) hSt (syms4 ((blockI b).getD i 0) 4) (by simp [syms4]) hfour
    have hnb := nibble_f (List.foldl stI beginI ((nibs b).take i)) (nibs b)[i] hst hx (k + 1) (by omega)
    rw [← ht] at hnb
    have hl1 := back_l1 b n hb hl h1 h2 xs hxs i (by omega) (List.foldl stI beginI ((nibs b).take i)) ((nibs b).take i) 4 (k + 6) 0 (by decide) (by decide) (by omega)
    rw [volutelaw08_CodeBack.l0, if_pos (by omega)]
    refine hl1.trans ?_
    show volutelaw08_CodeBack.l1 (k + 1 + 1) _ _ _ _ _ _ _ _ = _
    rw [volutelaw08_CodeBack.l1, if_neg (by decide), hsf, Option.bind_some]
    dsimp only
    rw [hnb, Option.bind_some]
    dsimp only
    have htl : ((nibs b).take i).length = i := by rw [List.length_take]; omega
    have htk : (nibs b).take i ++ [(nibs b)[i]] = (nibs b).take (i + 1) := (List.take_succ_eq_append_getElem hin).symm
    rw [if_pos rfl, if_pos rfl, htl, if_pos (by omega), htk, wadd1 i (by omega)]
    have hfold : (blockI b).getD i 0 = List.foldl stI beginI ((nibs b).take (i + 1)) := by rw [ht, ← htk, List.foldl_append]; rfl
    rw [hfold]
    exact ih (k + 1) (i + 1) (by omega) (by omega) (by omega)
end
theorem codeBack_k (b : List Int) (hb : byteB b = true) (k : Nat) (hk : 3000 ≤ k) : volutelaw08_CodeBack.f (k + 2) b = some true := by
  have hj0 : ∀ c, c = decide (b.length < 1 ∨ 32 < b.length) → volutelaw08_CodeBack.j0 (k + 2) b c = some true := by
    rintro c rfl
    by_cases h : b.length < 1 ∨ 32 < b.length
    · rw [volutelaw08_CodeBack.j0, if_pos (decide_eq_true h)]
    · have e2 : wrap64 (2 * (b.length : Int)) = ((2 * b.length : Nat) : Int) := wmul 2 b.length (by omega)
      have e4 : wrap64 (4 * ((2 * b.length : Nat) : Int)) = ((8 * b.length : Nat) : Int) := by
        have := wmul 4 (2 * b.length) (by omega)
        rw [show 4 * (2 * b.length) = 8 * b.length by omega] at this
        exact this
      have he : code_Encode.f (k + 1) b 0 ((8 * b.length : Nat) : Int) = some (encI (blockI b) (2 * b.length) 0 (8 * b.length), 0) := encode_ok b hb (by omega) (by omega) 0 (8 * b.length) (by omega) (k + 1) (by omega)
      rw [volutelaw08_CodeBack.j0, if_neg (by simpa using h), e2, e4, he, Option.bind_some]
      dsimp only
      rw [if_pos rfl, encI_length, bne_self_eq_false, volutelaw08_CodeBack.j1, if_neg (by decide)]
      exact back_l0 b b.length hb rfl (by omega) (by omega) _ rfl (2 * b.length) k 0 (by omega) (by omega) (by omega)
  unfold volutelaw08_CodeBack.f
  by_cases c1 : (b.length : Int) < 1
  · rw [if_pos c1]; exact hj0 true (decide_eq_true (by omega)).symm
  · rw [if_neg c1]; exact hj0 _ (decide_eq_decide.2 (by omega))
theorem CodeBack : volutelaw08_CodeBack.Pure := by
  intro b hm hl hw
  exact ⟨3000 + 2, codeBack_k b (byteB_of hw) 3000 (by omega)⟩
end Go.Proofs.Ytfhihhfckpolpaa.Pure
