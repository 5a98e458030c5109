/- Blocks that begin alike have like symbols of the segments that are alike; where they first part, the first four symbols part; no conditions. -/
import Derived.Test.YtfhihhfckpolpaaPxVolutelaw08Codebegins
import Derived.Test.YtfhihhfckpolpaaPlaceFacts
namespace Go.Proofs.Ytfhihhfckpolpaa.Pure
open Go.RowKit Go.Proofs.Ytfhihhfckpolpaa.P Go.Proofs.YtfhihhfckpolpaaW.PrintWords Go.Proofs.YtfhihhfckpolpaaW.PrintLast Go.Proofs.YtfhihhfckpolpaaW.PrintMore
set_option linter.unusedVariables false
set_option linter.unusedSimpArgs false

theorem stsI_get (l : List Int) : ∀ (s : Int) (i : Nat) (h : i < l.length), (stsI s l).getD i 0 = stI (List.foldl stI s (l.take i)) l[i] := by
  induction l with
  | nil => intro s i h; simp at h
  | cons a l ih =>
    intro s i h
    cases i with
    | zero => simp [stsI]
    | succ i =>
      have := ih (stI s a) i (by simpa using h)
      simpa [stsI] using this
theorem fold_st (l : List Int) : ∀ s, St s → (∀ x ∈ l, nibB x) → St (List.foldl stI s l) := by
  induction l with
  | nil => intro s hs _; exact hs
  | cons a l ih => intro s hs hn; exact ih _ (stI_st hs (hn a (by simp))) (fun x hx => hn x (by simp [hx]))
theorem seg_same (a b : List Int) (ha : byteB a = true) (hb : byteB b = true) (hl : b.length = a.length) (i : Nat) (hi : i < 2 * a.length) (hp : (nibs a).take i = (nibs b).take i) :
    ((blockI a).getD i 0 = (blockI b).getD i 0) ↔ (nibs a).getD i 0 = (nibs b).getD i 0 := by
  have h1 : i < (nibs a).length := by rw [nibs_length]; exact hi
  have h2 : i < (nibs b).length := by rw [nibs_length]; omega
  have e1 : (nibs a).getD i 0 = (nibs a)[i] := by rw [List.getD_eq_getElem?_getD, List.getElem?_eq_getElem h1]; rfl
  have e2 : (nibs b).getD i 0 = (nibs b)[i] := by rw [List.getD_eq_getElem?_getD, List.getElem?_eq_getElem h2]; rfl
  unfold blockI
  rw [stsI_get _ _ i h1, stsI_get _ _ i h2, e1, e2, hp]
  have hS : St (List.foldl stI beginI ((nibs b).take i)) := fold_st _ _ begin_st (fun x hx => nibs_nib hb x (List.mem_of_mem_take hx))
  exact ⟨fun h => stI_inj hS (nibs_nib ha _ (List.getElem_mem h1)) (nibs_nib hb _ (List.getElem_mem h2)) h, fun h => by rw [h]⟩
section
variable (a b : List Int) (n : Nat) (ha : byteB a = true) (hb : byteB b = true) (hla : a.length = n) (hlb : b.length = n) (h1 : 1 ≤ n) (h2 : n ≤ 32)
include ha hb hla hlb h1 h2
/-- are the first p symbols of a segment alike. -/
def sameTo (a b : List Int) (i p : Nat) : Bool := (List.range p).all fun q => symI ((blockI a).getD i 0) (q : Int) % 256 == symI ((blockI b).getD i 0) (q : Int) % 256
omit ha hb hla hlb h1 h2 in
theorem sameTo_succ (i p : Nat) : sameTo a b i (p + 1) = (sameTo a b i p && (symI ((blockI a).getD i 0) (p : Int) % 256 == symI ((blockI b).getD i 0) (p : Int) % 256)) := by
  simp [sameTo, List.range_succ]
omit h1 h2 in
theorem sameTo_four (i : Nat) (hi : i < 2 * n) (hp : (nibs a).take i = (nibs b).take i) : sameTo a b i 4 = decide ((nibs a).getD i 0 = (nibs b).getD i 0) := by
  rw [Bool.eq_iff_iff, decide_eq_true_iff, ← seg_same a b ha hb (by omega) i (by omega) hp]
  constructor
  · intro h
    refine state_same ha hb (by omega) i (by omega) fun p hp => ?_
    have := List.all_eq_true.1 h p (List.mem_range.2 hp)
    exact beq_iff_eq.1 this
  · intro h
    unfold sameTo
    rw [List.all_eq_true]
    intro q _
    rw [h]; simp
omit ha hb hla hlb in
theorem cb_l1 (xs ys : List Int) (hxs : xs = encI (blockI a) (2 * n) 0 (8 * n)) (hys : ys = encI (blockI b) (2 * n) 0 (8 * n)) (i : Nat) (hi : i < 2 * n) (d : Nat) : ∀ (k p : Nat), p ≤ 4 → 4 - p = d → d < k →
    volutelaw08_CodeBegins.l1 k (n : Int) xs ys (nibs a) (nibs b) (i : Int) (sameTo a b i p) (p : Int) = volutelaw08_CodeBegins.l1 (k - d) (n : Int) xs ys (nibs a) (nibs b) (i : Int) (sameTo a b i 4) 4 := by
  have ew : wrap64 (2 * (n : Int)) = ((2 * n : Nat) : Int) := wmul 2 n (by omega)
  have hs := slot_lt (2 * n) i (by clear ew; omega) hi
  induction d with
  | zero =>
    intro k p hp hd hk
    obtain rfl : p = 4 := by clear ew; omega
    rfl
  | succ d ih =>
    intro k p hp hd hk
    obtain ⟨k, rfl⟩ : ∃ m, k = m + 1 := ⟨k - 1, by clear ew; omega⟩
    have hlt : p * (2 * n) + slot (2 * n) i < 8 * n := by
      have : p * (2 * n) ≤ 3 * (2 * n) := Nat.mul_le_mul_right _ (by clear ew; omega)
      clear ew; omega
    have gx := encI_get (blockI a) (2 * n) (8 * n) p i (by clear ew; omega) hi hlt
    have gy := encI_get (blockI b) (2 * n) (8 * n) p i (by clear ew; omega) hi hlt
    have hpl := place_slot (2 * n) i p (by clear ew gx gy; omega) (by clear ew gx gy; omega) (by clear ew gx gy; omega) hi
    have hss := sameTo_succ a b i p
    have e1 : k + 1 - (d + 1) = k - d := by clear ew gx gy hpl hss; omega
    rw [volutelaw08_CodeBegins.l1, if_pos (by clear ew gx gy hpl hss; omega), ew, hpl, Option.bind_some, e1]
    dsimp only
    subst hxs hys
    generalize slot (2 * n) i = z at *
    rw [if_pos rfl, if_neg (by clear ew gx gy hpl hss; omega), encI_length, if_neg (by clear ew gx gy hpl hss; omega)]
    cases hsm : sameTo a b i p with
    | false =>
      rw [if_neg (by simp), wadd1 p (by clear ew gx gy hpl hss; omega)]
      have := ih k (p + 1) (by clear ew gx gy hpl hss; omega) (by clear ew gx gy hpl hss; omega) (by clear ew gx gy hpl hss; omega)
      rw [hss, hsm, Bool.false_and] at this
      exact this
    | true =>
      rw [if_pos rfl, if_pos (by clear ew gx gy hpl hss; omega), if_pos (by clear ew gx gy hpl hss; omega), encI_length, if_pos (by clear ew gx gy hpl hss; omega), wadd1 p (by clear ew gx gy hpl hss; omega)]
      have := ih k (p + 1) (by clear ew gx gy hpl hss; omega) (by clear ew gx gy hpl hss; omega) (by clear ew gx gy hpl hss; omega)
      rw [hss, hsm, Bool.true_and] at this
      have rx : rd (encI (blockI a) (2 * n) 0 (8 * n)) ((p * (2 * n) + z : Nat) : Int) = symI ((blockI a).getD i 0) (p : Int) % 256 := by rw [← gx]; rfl
      have ry : rd (encI (blockI b) (2 * n) 0 (8 * n)) ((p * (2 * n) + z : Nat) : Int) = symI ((blockI b).getD i 0) (p : Int) % 256 := by rw [← gy]; rfl
      rw [rx, ry]
      exact this
theorem cb_l0 (xs ys : List Int) (hxs : xs = encI (blockI a) (2 * n) 0 (8 * n)) (hys : ys = encI (blockI b) (2 * n) 0 (8 * n)) (d : Nat) : ∀ (k i : Nat), i ≤ 2 * n → 2 * n - i = d → (nibs a).take i = (nibs b).take i → 6 * d + 1300 < k →
    volutelaw08_CodeBegins.l0 k (n : Int) xs ys (nibs a) (nibs b) (i : Int) = some true := by
  have ew : wrap64 (2 * (n : Int)) = ((2 * n : Nat) : Int) := wmul 2 n (by omega)
  have hna := nibs_length a
  have hnb := nibs_length b
  induction d with
  | zero =>
    intro k i hi hd hp hk
    obtain ⟨k, rfl⟩ : ∃ m, k = m + 1 := ⟨k - 1, by clear ew hna hnb; omega⟩
    rw [volutelaw08_CodeBegins.l0, ew, if_neg (by clear ew hna hnb; omega), wakes08 k (by clear ew hna hnb; omega)]; rfl
  | succ d ih =>
    intro k i hi hd hp hk
    obtain ⟨k, rfl⟩ : ∃ m, k = m + 6 := ⟨k - 6, by clear ew hna hnb; omega⟩
    have hin : i < 2 * n := by clear ew hna hnb; omega
    have hl1 := cb_l1 a b n h1 h2 xs ys hxs hys i hin 4 (k + 5) 0 (by decide) (by decide) (by clear ew hna hnb; omega)
    have h4 := sameTo_four a b n ha hb hla hlb i hin hp
    have hia : i < (nibs a).length := by rw [hna, hla]; exact hin
    have hib : i < (nibs b).length := by rw [hnb, hlb]; exact hin
    have hs0 : sameTo a b i 0 = true := rfl
    have hl1' : volutelaw08_CodeBegins.l1 (k + 5) (n : Int) xs ys (nibs a) (nibs b) (i : Int) true 0 = volutelaw08_CodeBegins.l1 (k + 5 - 4) (n : Int) xs ys (nibs a) (nibs b) (i : Int) (sameTo a b i 4) 4 := hl1
    rw [volutelaw08_CodeBegins.l0, ew, if_pos (by clear ew hna hnb hl1 hl1' h4 hia hib; omega), hl1', h4]
    have ga : rd (nibs a) (i : Int) = (nibs a).getD i 0 := rfl
    have gb : rd (nibs b) (i : Int) = (nibs b).getD i 0 := rfl
    show volutelaw08_CodeBegins.l1 (k + 1) _ _ _ _ _ _ _ _ = _
    rw [volutelaw08_CodeBegins.l1, if_neg (by decide), if_pos (by clear ew hna hnb hl1 hl1' h4 hia hib ga gb; omega), if_pos (by exact_mod_cast hia), if_pos (by exact_mod_cast hib), ga, gb]
    have hb1 : (decide ((nibs a).getD i 0 = (nibs b).getD i 0) != ((nibs a).getD i 0 == (nibs b).getD i 0)) = false := by
      rw [bne_eq_false_iff_eq]; rfl
    rw [hb1, if_neg (by simp)]
    by_cases e : (nibs a).getD i 0 = (nibs b).getD i 0
    · rw [if_pos (decide_eq_true e), wadd1 i (by clear ew hna hnb hl1 hl1' h4 hia hib ga gb e hb1; omega)]
      refine ih k (i + 1) (by clear ew hna hnb hl1 hl1' h4 hia hib ga gb e hb1; omega) (by clear ew hna hnb hl1 hl1' h4 hia hib ga gb e hb1; omega) ?_ (by clear ew hna hnb hl1 hl1' h4 hia hib ga gb e hb1; omega)
      rw [List.take_succ_eq_append_getElem hia, List.take_succ_eq_append_getElem hib, hp]
      rw [List.getD_eq_getElem?_getD, List.getD_eq_getElem?_getD, List.getElem?_eq_getElem hia, List.getElem?_eq_getElem hib] at e
      have e' : (nibs a)[i] = (nibs b)[i] := e
      rw [e']
    · rw [if_neg (by simpa using e), wakes08 k (by clear ew hna hnb hl1 hl1' h4 hia hib ga gb e hb1; omega)]; rfl
end
theorem CodeBegins : volutelaw08_CodeBegins.Pure := by
  intro a b hm hl hw hm2 hl2 hw2
  have ha := byteB_of hw
  have hb := byteB_of hw2
  refine ⟨2000, ?_⟩
  obtain ⟨n, hn⟩ : ∃ n, n = min a.length b.length := ⟨_, rfl⟩
  have emn : mn (a.length : Int) (b.length : Int) = (n : Int) := by unfold mn; split <;> omega
  have hj0 : ∀ bb, bb = decide (n < 1 ∨ 32 < a.length ∨ 32 < b.length) → volutelaw08_CodeBegins.j0 2000 a b (n : Int) bb = some true := by
    rintro bb rfl
    by_cases h : n < 1 ∨ 32 < a.length ∨ 32 < b.length
    · rw [volutelaw08_CodeBegins.j0, if_pos (decide_eq_true h)]
    · have hta : (a.take n).length = n := by rw [List.length_take]; omega
      have htb : (b.take n).length = n := by rw [List.length_take]; omega
      have hba : byteB (a.take n) = true := by
        unfold byteB at ha ⊢
        rw [List.all_eq_true] at ha ⊢
        exact fun x hx => ha x (List.mem_of_mem_take hx)
      have hbb : byteB (b.take n) = true := by
        unfold byteB at hb ⊢
        rw [List.all_eq_true] at hb ⊢
        exact fun x hx => hb x (List.mem_of_mem_take hx)
      have e8 : wrap64 (8 * (n : Int)) = ((8 * n : Nat) : Int) := wmul 8 n (by omega)
      have e2 : wrap64 (2 * (n : Int)) = ((2 * n : Nat) : Int) := wmul 2 n (by clear e8; omega)
      have hn1 : 1 ≤ n := by clear e8 e2; omega
      have hn2 : n ≤ 32 := by clear e8 e2; omega
      have hea : code_Encode.f 1999 (a.take n) 0 ((8 * n : Nat) : Int) = some (encI (blockI (a.take n)) (2 * n) 0 (8 * n), 0) := by
        have := encode_ok (a.take n) hba (by rw [hta]; exact hn1) (by rw [hta]; exact hn2) 0 (8 * n) (by rw [hta]; clear e8 e2; omega) 1999 (by decide)
        rw [hta] at this; exact this
      have heb : code_Encode.f 1999 (b.take n) 0 ((8 * n : Nat) : Int) = some (encI (blockI (b.take n)) (2 * n) 0 (8 * n), 0) := by
        have := encode_ok (b.take n) hbb (by rw [htb]; exact hn1) (by rw [htb]; exact hn2) 0 (8 * n) (by rw [htb]; clear e8 e2; omega) 1999 (by decide)
        rw [htb] at this; exact this
      have hna : bit_Nibbles.f (a.take n) = some (nibs (a.take n), 0) := by unfold bit_Nibbles.f; rw [if_pos (by rw [hta]; clear e8 e2; omega), if_pos hba]
      have hnb : bit_Nibbles.f (b.take n) = some (nibs (b.take n), 0) := by unfold bit_Nibbles.f; rw [if_pos (by rw [htb]; clear e8 e2; omega), if_pos hbb]
      have hl0 := cb_l0 (a.take n) (b.take n) n hba hbb hta htb hn1 hn2 _ _ rfl rfl (2 * n) 1998 0 (by clear e8 e2 hea heb hna hnb; omega) (by clear e8 e2 hea heb hna hnb; omega) rfl (by clear e8 e2 hea heb hna hnb; omega)
      rw [volutelaw08_CodeBegins.j0, if_neg (by simpa using h), if_pos (by clear e8 e2 hea heb hna hnb; omega), if_pos (by clear e8 e2 hea heb hna hnb; omega), if_pos (by clear e8 e2 hea heb hna hnb; omega), Int.toNat_natCast, e8, hea, Option.bind_some, heb, Option.bind_some, hna, Option.bind_some, hnb, Option.bind_some]
      dsimp only
      rw [if_pos rfl, if_pos rfl, if_pos rfl, if_pos rfl, encI_length, if_pos rfl, encI_length, if_pos rfl, e2, nibs_length, hta, if_pos rfl, nibs_length, htb, bne_self_eq_false, volutelaw08_CodeBegins.j1, if_neg (by simp)]
      exact hl0
  unfold volutelaw08_CodeBegins.f
  rw [emn]
  by_cases c1 : (n : Int) < 1
  · rw [if_pos c1]; exact hj0 _ (decide_eq_true (by omega)).symm
  · rw [if_neg c1]
    by_cases c2 : (a.length : Int) > 32
    · rw [if_pos c2]; exact hj0 _ (decide_eq_true (by omega)).symm
    · rw [if_neg c2]; exact hj0 _ (decide_eq_decide.2 (by omega))
end Go.Proofs.Ytfhihhfckpolpaa.Pure
