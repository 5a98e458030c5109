/- What the law's proof needs: PurePickLeast. -/
import Derived.Test.YtfhihhfckpolpaaELPxVolutelaw11Pickleast
import Derived.Test.YtfhihhfckpolpaaELPickMore
namespace Go.Proofs.Ytfhihhfckpolpaa.Pure
open Go.RowKit Go.Proofs.Ytfhihhfckpolpaa.P Go.Proofs.YtfhihhfckpolpaaW.PrintWords Go.Proofs.YtfhihhfckpolpaaW.PrintLast Go.Proofs.YtfhihhfckpolpaaW.PrintMore
set_option linter.unusedVariables false
set_option linter.unusedSimpArgs false
def scoreOf (s : List Int) (i : Nat) : Int := wrap64 (Int.tmod (IntKind.u64.wrap (rd s (i : Int))) 50)
def ndOf (s : List Int) (i : Nat) : Nd := ⟨(i : Int), 0, scoreOf s i, []⟩
def ndsOf (s : List Int) (n : Nat) : List Nd := (List.range n).map (ndOf s)
theorem ndsOf_length (s : List Int) (n : Nat) : (ndsOf s n).length = n := by simp [ndsOf]
theorem ndsOf_get (s : List Int) (n i : Nat) (h : i < n) : rd_T57 (ndsOf s n) (i : Int) = ndOf s i := by
  rw [rdN _ i (by rw [ndsOf_length]; exact h)]
  simp [ndsOf]
theorem scoreOf_rng (s : List Int) (i : Nat) : 0 ≤ scoreOf s i ∧ scoreOf s i < 50 := umod _ 50 (by omega) (by omega)
theorem rdB (f : List Bool) (i : Nat) : rdOf false f (i : Int) = f.getD i false := by unfold rdOf; simp
section
variable (s : List Int) (n : Nat) (hn : s.length = n) (hn2 : n ≤ 256) (B : Nat) (hB : 1 ≤ B ∧ B ≤ 16) (best : List Int) (cut : Int) (hP : PInv (ndsOf s n) B n best cut)
include hn2 hB hP
omit hn2 hB hP in
theorem sc_nds (i : Nat) (h : i < n) : sc (ndsOf s n) (i : Int) = scoreOf s i := by unfold sc; rw [ndsOf_get s n i h]; rfl
omit hn2 hB in
theorem kept_get (q : Nat) (hq : q < best.length) : ∃ y : Nat, best[q] = (y : Int) ∧ y < n ∧ rd_T57 (best.map (fun x => rd_T57 (ndsOf s n) x)) (q : Int) = ndOf s y := by
  have hr := hP.rng best[q] (List.getElem_mem hq)
  obtain ⟨y, hy⟩ := Int.eq_ofNat_of_zero_le hr.1
  refine ⟨y, hy, by omega, ?_⟩
  rw [rdN _ q (by simpa using hq)]
  simp only [List.getElem_map]
  rw [hy]
  exact ndsOf_get s n y (by omega)
theorem least_l2 (kept : List Nd) (hkept : kept = best.map (fun x => rd_T57 (ndsOf s n) x)) (f : List Bool) (hf : f.length = n) (hfl : ∀ j : Nat, j < n → f.getD j false = decide ((j : Int) ∈ best)) (d : Nat) : ∀ (k j : Nat) (x13 : Int), j ≤ n → n - j = d → 2 * d + 9000 < k →
    ((x13 = -1 ∧ ∀ i : Nat, i < j → (i : Int) ∈ best) ∨ (∃ i : Nat, i < j ∧ (i : Int) ∉ best ∧ scoreOf s i = x13) ∧ (∀ i : Nat, i < j → (i : Int) ∉ best → x13 ≤ scoreOf s i)) →
    volutelaw11_PickLeast.l2 k (B : Int) (ndsOf s n) kept cut f x13 (j : Int) = some true := by
  have hnl := ndsOf_length s n
  have hkl : kept.length = best.length := by rw [hkept]; simp
  have hbl := hP.len
  have hk3 : ∀ x ∈ kept, x.f3.length < 1000 := by
    intro x hx
    rw [hkept] at hx
    obtain ⟨y, hy, rfl⟩ := List.mem_map.1 hx
    have hr := hP.rng y hy
    obtain ⟨y, rfl⟩ := Int.eq_ofNat_of_zero_le hr.1
    show ((rd_T57 (ndsOf s n) (y : Int)).f3).length < 1000
    rw [ndsOf_get s n y (by omega)]
    simp [ndOf]
  have hsck : ∀ q : Nat, q < best.length → ∃ y : Nat, ∃ h : q < best.length, best[q] = (y : Int) ∧ y < n ∧ sc kept (q : Int) = scoreOf s y := by
    intro q hq
    obtain ⟨y, e1, e2, e3⟩ := kept_get s n B best cut hP q hq
    refine ⟨y, hq, e1, e2, ?_⟩
    unfold sc
    rw [hkept, e3]; rfl
  induction d with
  | zero =>
    intro k j x13 hj hd hk hx
    obtain ⟨k, rfl⟩ : ∃ m, k = m + 1 := ⟨k - 1, by omega⟩
    obtain rfl : j = n := by omega
    have hcut : cut = x13 := by
      rcases Nat.lt_or_ge B j with hlt | hge
      · obtain ⟨q, q0, q1, q2, q3⟩ := hP.cut_mem hlt
        obtain ⟨q, rfl⟩ := Int.eq_ofNat_of_zero_le q0
        rw [sc_nds s j q (by omega)] at q3
        rcases hx with ⟨_, hall⟩ | ⟨⟨i, i1, i2, i3⟩, hle⟩
        · exact absurd (hall q (by omega)) q2
        · have h1 := hle q (by omega) q2
          have h2 := hP.cut_le hlt (i : Int) (by omega) (by omega) i2
          rw [sc_nds s j i i1] at h2
          omega
      · rcases hx with ⟨e, _⟩ | ⟨⟨i, i1, i2, i3⟩, _⟩
        · rw [hP.none hge, e]
        · exact absurd (hP.all hge (i : Int) (by omega) (by omega)) i2
    have hid := pick_id kept B (by omega) hB (by omega) (fun q h0 h1 => by
        obtain ⟨q, rfl⟩ := Int.eq_ofNat_of_zero_le h0
        obtain ⟨y, _, _, _, e⟩ := hsck q (by omega)
        rw [e]; exact (scoreOf_rng s y).1) (fun x hx => by have := hk3 x hx; omega)
      (fun a b hab hb => by
        obtain ⟨y, ha1, e1, y1, e2⟩ := hsck a (by omega)
        obtain ⟨z, hb1, e3, z1, e4⟩ := hsck b (by omega)
        have hs := List.pairwise_iff_getElem.1 hP.sorted a b ha1 hb1 hab
        rw [e1, e3] at hs
        unfold Lx at hs
        rw [sc_nds s j y y1, sc_nds s j z z1] at hs
        rw [e2, e4]; omega) k (by omega)
    rw [volutelaw11_PickLeast.l2, hnl, if_neg (by omega), if_pos hcut, hid, Option.bind_some]
    dsimp only
    rw [if_pos rfl, if_pos rfl, nodes_refl kept (by omega) hk3 k (by omega), Option.bind_some, if_pos rfl, wakes11 k (by omega)]
    rfl
  | succ d ih =>
    intro k j x13 hj hd hk hx
    have HX := Aside0.mk hx
    clear hx
    obtain ⟨k, rfl⟩ : ∃ m, k = m + 1 := ⟨k - 1, by omega⟩
    have hjn : j < n := by omega
    rw [volutelaw11_PickLeast.l2, hnl, if_pos (by omega), if_pos (by omega), if_pos (by omega), rdB, hfl j hjn]
    by_cases c : (j : Int) ∈ best
    · rw [decide_eq_true c, if_pos rfl, wadd1 j (by omega)]
      refine ih k (j + 1) x13 (by omega) (by omega) (by omega) ?_
      have hx := HX.out
      rcases hx with ⟨e, hall⟩ | ⟨⟨i, i1, i2, i3⟩, hle⟩
      · refine .inl ⟨e, fun i hi => ?_⟩
        by_cases c2 : i = j
        · subst c2; exact c
        · exact hall i (by omega)
      · refine .inr ⟨⟨i, by omega, i2, i3⟩, fun i hi hb => ?_⟩
        by_cases c2 : i = j
        · subst c2; exact absurd c hb
        · exact hle i (by omega) hb
    · have hlen1 : 1 ≤ best.length := by omega
      obtain ⟨z, e1, z1, e2⟩ := kept_get s n B best cut hP (best.length - 1) (by omega)
      rw [← hkept] at e2
      have eL : wrap64 ((kept.length : Int) - 1) = ((best.length - 1 : Nat) : Int) := by rw [hkl]; exact wsub best.length 1 hlen1 (by omega)
      have hout := hP.out (j : Int) (by omega) (by omega) c best[best.length - 1] (List.getElem_mem _)
      rw [e1] at hout
      unfold Lx at hout
      rw [sc_nds s n z z1, sc_nds s n j hjn] at hout
      have hj4 : volutelaw11_PickLeast.j4 k (B : Int) (ndsOf s n) kept cut f x13 (j : Int) false = some true := by
        obtain ⟨k, rfl⟩ : ∃ m, k = m + 1 := ⟨k - 1, by omega⟩
        rw [volutelaw11_PickLeast.j4, if_neg (by decide), hnl, ndsOf_get s n j hjn, wadd1 j (by omega)]
        have hsr := scoreOf_rng s j
        have hf2 : (ndOf s j).f2 = scoreOf s j := rfl
        rw [hf2]
        have hx := HX.out
        rcases hx with ⟨e, hall⟩ | ⟨⟨i, i1, i2, i3⟩, hle⟩
        · rw [if_pos (by omega), if_pos (by omega), if_pos (by omega)]
          refine ih k (j + 1) _ (by omega) (by omega) (by omega) (.inr ⟨⟨j, by omega, c, rfl⟩, fun i hi hb => ?_⟩)
          by_cases c2 : i = j
          · subst c2; omega
          · exact absurd (hall i (by omega)) hb
        · have hsi := scoreOf_rng s i
          rw [if_neg (by omega), if_pos (by omega), if_pos (by omega)]
          by_cases c3 : scoreOf s j < x13
          · rw [if_pos c3]
            refine ih k (j + 1) _ (by omega) (by omega) (by omega) (.inr ⟨⟨j, by omega, c, rfl⟩, fun i hi hb => ?_⟩)
            by_cases c2 : i = j
            · subst c2; omega
            · have := hle i (by omega) hb; omega
          · rw [if_neg c3]
            refine ih k (j + 1) _ (by omega) (by omega) (by omega) (.inr ⟨⟨i, by omega, i2, i3⟩, fun i hi hb => ?_⟩)
            by_cases c2 : i = j
            · subst c2; omega
            · exact hle i (by omega) hb
      have hf2z : (ndOf s z).f2 = scoreOf s z := rfl
      have hf0z : (ndOf s z).f0 = (z : Int) := rfl
      have hf2j : (ndOf s j).f2 = scoreOf s j := rfl
      rw [decide_eq_false c, if_neg (by decide), eL, if_pos (by omega), if_pos (by omega), ndsOf_get s n j hjn, e2, hf2z, hf0z, hf2j, if_neg (by omega)]
      by_cases c5 : scoreOf s j = scoreOf s z
      · rw [if_pos c5, decide_eq_false (by omega)]
        exact hj4
      · rw [if_neg c5]
        exact hj4
theorem least_l1 (kept : List Nd) (hkept : kept = best.map (fun x => rd_T57 (ndsOf s n) x)) (d : Nat) : ∀ (k q : Nat) (f : List Bool), q ≤ best.length → best.length - q = d → d + 10000 < k → f.length = n → (∀ j : Nat, j < n → f.getD j false = decide ((j : Int) ∈ best.take q)) →
    volutelaw11_PickLeast.l1 k (B : Int) (ndsOf s n) kept cut f (q : Int) = some true := by
  have hnl := ndsOf_length s n
  have hkl : kept.length = best.length := by rw [hkept]; simp
  have hbl := hP.len
  induction d with
  | zero =>
    intro k q f hq hd hk hf hfl
    obtain ⟨k, rfl⟩ : ∃ m, k = m + 1 := ⟨k - 1, by omega⟩
    obtain rfl : q = best.length := by omega
    rw [List.take_length] at hfl
    rw [volutelaw11_PickLeast.l1, hkl, if_neg (by omega)]
    exact least_l2 s n hn2 B hB best cut hP kept hkept f hf hfl n k 0 (-1) (by omega) (by omega) (by omega) (.inl ⟨rfl, by intro i hi; omega⟩)
  | succ d ih =>
    intro k q f hq hd hk hf hfl
    obtain ⟨k, rfl⟩ : ∃ m, k = m + 1 := ⟨k - 1, by omega⟩
    have hql : q < best.length := by omega
    obtain ⟨y, e1, y1, e2⟩ := kept_get s n B best cut hP q hql
    rw [← hkept] at e2
    have hf2 : (ndOf s y).f2 = scoreOf s y := rfl
    have hf0 : (ndOf s y).f0 = (y : Int) := rfl
    have hyn : (y : Int) ∉ best.take q := by
      intro hm
      have hs := hP.sorted
      rw [← List.take_append_drop q best, List.pairwise_append] at hs
      have := hs.2.2 _ hm best[q] (by rw [List.drop_eq_getElem_cons hql]; exact List.mem_cons_self)
      rw [e1] at this
      exact this.ne rfl
    have hnext : volutelaw11_PickLeast.l1 k (B : Int) (ndsOf s n) kept cut (f.set y true) (wrap64 ((q : Int) + 1)) = some true := by
      rw [wadd1 q (by omega)]
      refine ih k (q + 1) _ (by omega) (by omega) (by omega) (by simp [hf]) (fun j hj => ?_)
      rw [List.take_succ_eq_append_getElem hql, e1, List.getD_eq_getElem?_getD, List.getElem?_set]
      by_cases c : y = j
      · subst c
        rw [if_pos rfl, if_pos (by omega)]
        simp
      · rw [if_neg c, ← List.getD_eq_getElem?_getD, hfl j hj]
        have : (j : Int) ≠ (y : Int) := by omega
        simp [this]
    rw [volutelaw11_PickLeast.l1, hkl, if_pos (by omega), if_pos (by omega), e2, hf0, wnat y (by omega), if_neg (by omega), hnl, if_neg (by omega), if_pos (by omega), hf, if_pos (by omega), rdB, hfl y y1, decide_eq_false hyn, if_neg (by decide), if_pos (by omega), ndsOf_get s n y y1, if_pos rfl, Int.toNat_natCast]
    by_cases c : q = 0
    · subst c
      rw [if_neg (by omega)]
      exact hnext
    · have eq1 : wrap64 ((q : Int) - 1) = ((q - 1 : Nat) : Int) := wsub q 1 (by omega) (by omega)
      obtain ⟨z, e3, z1, e4⟩ := kept_get s n B best cut hP (q - 1) (by omega)
      rw [← hkept] at e4
      have hs := List.pairwise_iff_getElem.1 hP.sorted (q - 1) q (by omega) hql (by omega)
      rw [e3, e1] at hs
      unfold Lx at hs
      rw [sc_nds s n z z1, sc_nds s n y y1] at hs
      have hf2z : (ndOf s z).f2 = scoreOf s z := rfl
      have hf0z : (ndOf s z).f0 = (z : Int) := rfl
      rw [if_pos (by omega), eq1, if_pos (by omega), if_pos (by omega), e4, hf2z, hf0z, hf2, if_neg (by omega)]
      by_cases c2 : scoreOf s y = scoreOf s z
      · rw [if_pos c2, if_neg (by omega)]
        exact hnext
      · rw [if_neg c2]
        exact hnext
end
theorem least_l0 (s : List Int) (hs : s.length ≤ 256) (B : Nat) (hB : 1 ≤ B ∧ B ≤ 16) (d : Nat) : ∀ (k i : Nat), i ≤ s.length → s.length - i = d → d + 12000 < k →
    volutelaw11_PickLeast.l0 k s (B : Int) (ndsOf s i) (i : Int) = some true := by
  induction d with
  | zero =>
    intro k i hi hd hk
    obtain ⟨k, rfl⟩ : ∃ m, k = m + 2 := ⟨k - 2, by omega⟩
    obtain rfl : i = s.length := by omega
    have hnl := ndsOf_length s s.length
    obtain ⟨best, cut, hP, he⟩ := pick_f (ndsOf s s.length) B (by omega) hB (fun j h0 h1 => by
      obtain ⟨j, rfl⟩ := Int.eq_ofNat_of_zero_le h0
      unfold sc
      rw [ndsOf_get s s.length j (by omega)]
      exact (scoreOf_rng s j).1) (fun x hx => by
        obtain ⟨y, hy, rfl⟩ := List.mem_map.1 hx
        simp [ndOf]) (k + 1) (by omega)
    rw [hnl] at hP
    have hlen := hP.len
    have hmn : mn (B : Int) (s.length : Int) = (best.length : Int) := by unfold mn; split <;> omega
    rw [volutelaw11_PickLeast.l0, if_neg (by omega), he, Option.bind_some]
    dsimp only
    rw [if_pos rfl, hnl, hmn, List.length_map, bne_self_eq_false, volutelaw11_PickLeast.j1, if_neg (by decide), hnl, if_pos (by omega), if_pos (by omega), Int.toNat_natCast]
    exact least_l1 s s.length hs B hB best cut hP _ rfl best.length k 0 _ (by omega) (by omega) (by omega) (by simp) (fun j hj => by
      rw [List.take_zero, List.getD_eq_getElem?_getD, List.getElem?_replicate, if_pos hj]
      simp)
  | succ d ih =>
    intro k i hi hd hk
    obtain ⟨k, rfl⟩ : ∃ m, k = m + 1 := ⟨k - 1, by omega⟩
    have hnl := ndsOf_length s i
    have e : ndsOf s i ++ [ndOf s i] = ndsOf s (i + 1) := by unfold ndsOf; rw [List.range_succ, List.map_append]; rfl
    have em : (i : Int) % 4294967296 = (i : Int) := by omega
    rw [volutelaw11_PickLeast.l0, if_pos (by omega), if_pos (by omega), if_pos (by omega), em, wadd1 i (by omega)]
    show volutelaw11_PickLeast.l0 k s (B : Int) (ndsOf s i ++ [ndOf s i]) _ = _
    rw [e]
    exact ih k (i + 1) (by omega) (by omega) (by omega)
theorem PickLeast : volutelaw11_PickLeast.Pure := by
  intro s a1 hm hl hw h1
  refine ⟨20000, ?_⟩
  unfold volutelaw11_PickLeast.f
  by_cases c : (s.length : Int) > 256
  · rw [if_pos c]
  · have hu := umod a1 16 (by omega) (by omega)
    obtain ⟨x, hx⟩ : ∃ x, x = wrap64 (Int.tmod (IntKind.u64.wrap a1) 16) := ⟨_, rfl⟩
    rw [← hx] at hu ⊢
    obtain ⟨x, rfl⟩ := Int.eq_ofNat_of_zero_le hu.1
    have e : wrap64 (1 + (x : Int)) = ((1 + x : Nat) : Int) := wadd 1 x (by omega)
    rw [if_neg c, e]
    exact least_l0 s (by omega) (1 + x) (by omega) s.length 20000 0 (by omega) (by omega) (by omega)
end Go.Proofs.Ytfhihhfckpolpaa.Pure
