/- What the law's proof needs: PickFacts. -/
import Derived.Test.YtlolfijadcflaaaBfPxPick
import Derived.Test.YtlolfijadcflaaaBfBase
import Derived.Test.YtlolfijadcflaaaBfPileFacts
section
namespace Go.Proofs.Ytlolfijadcflaaa.Pure
open Go.RowKit Go.Proofs.Ytlolfijadcflaaa.P Go.Proofs.YtlolfijadcflaaaW.PrintWords Go.Proofs.YtlolfijadcflaaaW.PrintLast Go.Proofs.YtlolfijadcflaaaW.PrintMore
set_option linter.unusedVariables false
set_option linter.unusedSimpArgs false
abbrev Nd := S66
theorem rdN (l : List Nd) (i : Nat) (h : i < l.length) : rd_T66 l (i : Int) = l[i] := by
  unfold rd_T66
  simp [h]
def sc (l : List Nd) (x : Int) : Int := (rd_T66 l x).f2
def Lx (l : List Nd) (x y : Int) : Prop := sc l x < sc l y ∨ sc l x = sc l y ∧ x < y
theorem Lx.trans {l : List Nd} {x y z : Int} (h : Lx l x y) (k : Lx l y z) : Lx l x z := by
  unfold Lx at *
  omega
theorem Lx.ne {l : List Nd} {x y : Int} (h : Lx l x y) : x ≠ y := by
  rintro rfl
  unfold Lx at h
  omega
structure PInv (l : List Nd) (b i : Nat) (best : List Int) (cut : Int) : Prop where
  sorted : best.Pairwise (Lx l)
  rng : ∀ x ∈ best, 0 ≤ x ∧ x < (i : Int)
  len : best.length = min b i
  out : ∀ j : Int, 0 ≤ j → j < (i : Int) → j ∉ best → ∀ x ∈ best, Lx l x j
  none : i ≤ b → cut = -1
  cut_mem : b < i → ∃ j : Int, 0 ≤ j ∧ j < (i : Int) ∧ j ∉ best ∧ sc l j = cut
  cut_le : b < i → ∀ j : Int, 0 ≤ j → j < (i : Int) → j ∉ best → cut ≤ sc l j
  all : i ≤ b → ∀ j : Int, 0 ≤ j → j < (i : Int) → j ∈ best
theorem PInv.start (l : List Nd) (b : Nat) : PInv l b 0 [] (-1) :=
  ⟨List.Pairwise.nil, (by intro x hx; cases hx), by simp, (by intro j h0 h1; omega), fun _ => rfl, (by intro h; omega), (by intro h; omega), (by intro _ j h0 h1; omega)⟩
theorem ins_facts (l : List Nd) (b i p : Nat) (best : List Int) (cut : Int) (h : PInv l b i best cut) (hp : p ≤ best.length)
    (h1 : ∀ x ∈ best.take p, sc l x ≤ sc l (i : Int)) (h2 : ∀ x ∈ best.drop p, sc l (i : Int) < sc l x) :
    (best.take p ++ [(i : Int)] ++ best.drop p).Pairwise (Lx l) ∧ (∀ x, x ∈ best.take p ++ [(i : Int)] ++ best.drop p ↔ x = (i : Int) ∨ x ∈ best) ∧ (best.take p ++ [(i : Int)] ++ best.drop p).length = best.length + 1 := by
  have hsplit : ∀ x, x ∈ best ↔ x ∈ best.take p ∨ x ∈ best.drop p := fun x => by rw [← List.mem_append, List.take_append_drop]
  refine ⟨?_, fun x => ?_, ?_⟩
  · have hs := h.sorted
    rw [← List.take_append_drop p best, List.pairwise_append] at hs
    obtain ⟨s1, s2, s3⟩ := hs
    rw [List.append_assoc, List.pairwise_append]
    refine ⟨s1, ?_, ?_⟩
    · rw [List.singleton_append, List.pairwise_cons]
      exact ⟨fun y hy => .inl (h2 y hy), s2⟩
    · intro x hx y hy
      rcases List.mem_append.1 hy with hy | hy
      · rw [List.mem_singleton] at hy
        subst hy
        have := h.rng x ((hsplit x).2 (.inl hx))
        have := h1 x hx
        unfold Lx
        omega
      · exact s3 x hx y hy
  · rw [List.mem_append, List.mem_append, List.mem_singleton, hsplit x]
    constructor
    · rintro ((h | h) | h)
      · exact .inr (.inl h)
      · exact .inl h
      · exact .inr (.inr h)
    · rintro (h | h | h)
      · exact .inl (.inr h)
      · exact .inl (.inl h)
      · exact .inr h
  · simp only [List.length_append, List.length_take, List.length_drop, List.length_singleton]; omega
theorem PInv.more {l : List Nd} {b i : Nat} {best t : List Int} {cut : Int} (h : PInv l b i best cut) (hs : t.Pairwise (Lx l)) (hm : ∀ x, x ∈ t ↔ x = (i : Int) ∨ x ∈ best) (hl : t.length = best.length + 1) (hb : t.length ≤ b) : PInv l b (i + 1) t cut := by
  have hlen := h.len
  have hib : i + 1 ≤ b := by
    rcases Nat.lt_or_ge i b with hlt | hge
    · omega
    · rw [Nat.min_eq_left hge] at hlen; omega
  refine ⟨hs, fun x hx => ?_, by rw [hl, hlen]; omega, fun j h0 h1 hj => ?_, fun _ => h.none (by omega), by intro h; omega, by intro h; omega, fun _ j h0 h1 => ?_⟩
  · rcases (hm x).1 hx with rfl | hx
    · omega
    · have := h.rng x hx; omega
  · exfalso
    apply hj
    rw [hm]
    by_cases c : j = (i : Int)
    · exact .inl c
    · exact .inr (h.all (by omega) j h0 (by omega))
  · rw [hm]
    by_cases c : j = (i : Int)
    · exact .inl c
    · exact .inr (h.all (by omega) j h0 (by omega))
theorem PInv.cutoff {l : List Nd} {b i : Nat} {best t : List Int} {cut : Int} (h : PInv l b i best cut) (hs : t.Pairwise (Lx l)) (hm : ∀ x, x ∈ t ↔ x = (i : Int) ∨ x ∈ best) (hl : t.length = best.length + 1) (hb : ¬ t.length ≤ b) (hb1 : 1 ≤ b)
    (z : Int) (hz : t = t.take b ++ [z]) (cut' : Int) (hc : cut' = if cut < 0 ∨ sc l z < cut then sc l z else cut) (hpos : ∀ j : Int, 0 ≤ j → j < ((i + 1 : Nat) : Int) → 0 ≤ sc l j) : PInv l b (i + 1) (t.take b) cut' := by
  have hlen := h.len
  have hbi : b ≤ i := by
    rcases Nat.lt_or_ge i b with hlt | hge
    · rw [Nat.min_eq_right (Nat.le_of_lt hlt)] at hlen; omega
    · exact hge
  rw [Nat.min_eq_left hbi] at hlen
  have hs2 := hs
  rw [hz, List.pairwise_append] at hs2
  obtain ⟨s1, _, s3⟩ := hs2
  have hzl : ∀ x ∈ t.take b, Lx l x z := fun x hx => s3 x hx z (by simp)
  have hmt : ∀ x, x ∈ t ↔ x ∈ t.take b ∨ x = z := fun x => by
    have : x ∈ t ↔ x ∈ t.take b ++ [z] := by rw [← hz]
    rw [this, List.mem_append, List.mem_singleton]
  have hzm : z = (i : Int) ∨ z ∈ best := (hm z).1 ((hmt z).2 (.inr rfl))
  have hzr : 0 ≤ z ∧ z < ((i + 1 : Nat) : Int) := by
    rcases hzm with rfl | hz2
    · omega
    · have := h.rng z hz2; omega
  have hzn : z ∉ t.take b := fun hx => (hzl z hx).ne rfl
  have hnot : ∀ j : Int, 0 ≤ j → j < ((i + 1 : Nat) : Int) → j ∉ t.take b → j = z ∨ (j < (i : Int) ∧ j ∉ best) := by
    intro j h0 h1 hj
    by_cases c : j = z
    · exact .inl c
    · have hjt : j ∉ t := fun hx => (hmt j).1 hx |>.elim hj c
      rw [hm] at hjt
      refine .inr ⟨?_, fun hx => hjt (.inr hx)⟩
      have : j ≠ (i : Int) := fun e => hjt (.inl e)
      omega
  refine ⟨s1, fun x hx => ?_, by rw [List.length_take, hl, hlen]; omega, fun j h0 h1 hj x hx => ?_, by intro h; omega, fun _ => ?_, fun _ j h0 h1 hj => ?_, by intro h; omega⟩
  · rcases (hm x).1 ((hmt x).2 (.inl hx)) with rfl | hx
    · omega
    · have := h.rng x hx; omega
  · rcases hnot j h0 h1 hj with rfl | ⟨hji, hjb⟩
    · exact hzl x hx
    · have hb2 := h.out j h0 hji hjb
      rcases (hm x).1 ((hmt x).2 (.inl hx)) with rfl | hxb
      · rcases hzm with hzi | hzb
        · exact absurd hx (hzi ▸ hzn)
        · exact (hzl _ hx).trans (hb2 z hzb)
      · exact hb2 x hxb
  · rw [hc]
    by_cases c : cut < 0 ∨ sc l z < cut
    · rw [if_pos c]
      exact ⟨z, hzr.1, hzr.2, hzn, rfl⟩
    · rw [if_neg c]
      have hbi2 : b < i := by
        rcases Nat.lt_or_ge b i with hlt | hge
        · exact hlt
        · have := h.none hge; omega
      obtain ⟨j, j0, j1, j2, j3⟩ := h.cut_mem hbi2
      refine ⟨j, j0, by omega, fun hx => ?_, j3⟩
      rcases (hm j).1 ((hmt j).2 (.inl hx)) with e | e
      · omega
      · exact j2 e
  · rw [hc]
    rcases hnot j h0 h1 hj with rfl | ⟨hji, hjb⟩
    · split <;> omega
    · have hbi2 : b < i := by
        rcases Nat.lt_or_ge b i with hlt | hge
        · exact hlt
        · exact absurd (h.all hge j h0 hji) hjb
      have := h.cut_le hbi2 j h0 hji hjb
      obtain ⟨q, q0, q1, _, q3⟩ := h.cut_mem hbi2
      have := hpos q q0 (by omega)
      split <;> omega
section
variable (l : List Nd) (b : Nat) (hl : l.length ≤ 256) (hb : 1 ≤ b ∧ b ≤ 16) (hpos : ∀ j : Int, 0 ≤ j → j < (l.length : Int) → 0 ≤ sc l j)
include hl hb
theorem pick_l1 (i : Nat) (hi : i < l.length) (best : List Int) (cut : Int) (h : PInv l b i best cut) (x0 x1 : Int) (x3 : List Int) : ∀ (q k : Nat), q ≤ best.length → (∀ x ∈ best.drop q, sc l (i : Int) < sc l x) → q < k →
    ∃ p k', p ≤ best.length ∧ (∀ x ∈ best.take p, sc l x ≤ sc l (i : Int)) ∧ (∀ x ∈ best.drop p, sc l (i : Int) < sc l x) ∧ k ≤ k' + (q + 1) ∧
      pick_Pick.l1 k l (b : Int) [] cut best (i : Int) (q : Int) l (l.length : Int) (i : Int) x0 x1 (sc l (i : Int)) x3 = pick_Pick.j3 k' l (b : Int) [] cut best (i : Int) (p : Int) l (l.length : Int) (i : Int) := by
  have hbl : best.length ≤ 16 := by have := h.len; omega
  intro q
  induction q with
  | zero =>
    intro k hq hd hk
    obtain ⟨k, rfl⟩ : ∃ m, k = m + 1 := ⟨k - 1, by omega⟩
    exact ⟨0, k, by omega, by intro x hx; simp at hx, hd, by omega, by rw [pick_Pick.l1, if_neg (by omega)]⟩
  | succ q ih =>
    intro k hq hd hk
    obtain ⟨k, rfl⟩ : ∃ m, k = m + 1 := ⟨k - 1, by omega⟩
    have hql : q < best.length := by omega
    have e1 : wrap64 (((q + 1 : Nat) : Int) - 1) = (q : Int) := by rw [w64 (by omega) (by omega)]; omega
    have hrd := rd_get best q hql
    have hr := h.rng best[q] (List.getElem_mem hql)
    have hdrop : best.drop q = best[q] :: best.drop (q + 1) := List.drop_eq_getElem_cons hql
    rw [pick_Pick.l1, if_pos (by omega), e1, if_pos (by omega), if_pos (by omega), hrd, if_pos hr.1, if_pos (by omega)]
    by_cases c : (rd_T66 l best[q]).f2 > sc l (i : Int)
    · rw [if_pos c]
      obtain ⟨p, k', a1, a2, a3, a4, a5⟩ := ih k (by omega) (by
        intro x hx
        rw [hdrop] at hx
        rcases List.mem_cons.1 hx with rfl | hx
        · exact c
        · exact hd x hx) (by omega)
      exact ⟨p, k', a1, a2, a3, by omega, a5⟩
    · rw [if_neg c]
      refine ⟨q + 1, k, hq, fun x hx => ?_, hd, by omega, rfl⟩
      rw [List.take_succ_eq_append_getElem hql] at hx
      have hc : sc l best[q] ≤ sc l (i : Int) := by unfold sc; unfold sc at c; omega
      rcases List.mem_append.1 hx with hx | hx
      · have hs := h.sorted
        rw [← List.take_append_drop q best, List.pairwise_append] at hs
        have := hs.2.2 x hx best[q] (by rw [hdrop]; exact List.mem_cons_self)
        unfold Lx at this
        omega
      · rw [List.mem_singleton] at hx
        rw [hx]; exact hc
include hpos
theorem pick_l0 (d : Nat) : ∀ (k i : Nat) (best : List Int) (cut : Int) (K : Nat), i ≤ l.length → l.length - i = d → PInv l b i best cut → 25 * d + K + 1 ≤ k →
    ∃ best' cut' k', K ≤ k' ∧ PInv l b l.length best' cut' ∧ pick_Pick.l0 k l (b : Int) [] cut best l (l.length : Int) (i : Int) = pick_Pick.l2 k' l [] cut' best' (best'.length : Int) 0 := by
  induction d with
  | zero =>
    intro k i best cut K hi hd h hk
    obtain ⟨k, rfl⟩ : ∃ m, k = m + 1 := ⟨k - 1, by omega⟩
    obtain rfl : i = l.length := by omega
    exact ⟨best, cut, k, by omega, h, by rw [pick_Pick.l0, if_neg (by omega)]⟩
  | succ d ih =>
    intro k i best cut K hi hd h hk
    obtain ⟨k, rfl⟩ : ∃ m, k = m + 1 := ⟨k - 1, by omega⟩
    have hil : i < l.length := by omega
    have hbl : best.length ≤ 16 := by have := h.len; omega
    obtain ⟨p, k1, a1, a2, a3, a4, a5⟩ := pick_l1 l b hl hb i hil best cut h ((rd_T66 l (i : Int)).f0) ((rd_T66 l (i : Int)).f1) ((rd_T66 l (i : Int)).f3) best.length k (by omega) (by intro x hx; simp at hx) (by omega)
    rw [pick_Pick.l0, if_pos (by omega), if_pos (by omega), if_pos (by omega)]
    show ∃ best' cut' k', K ≤ k' ∧ PInv l b l.length best' cut' ∧ pick_Pick.l1 k l (b : Int) [] cut best (i : Int) (best.length : Int) l (l.length : Int) (i : Int) ((rd_T66 l (i : Int)).f0) ((rd_T66 l (i : Int)).f1) (sc l (i : Int)) ((rd_T66 l (i : Int)).f3) = _
    rw [a5]
    obtain ⟨k1, rfl⟩ : ∃ m, k1 = m + 1 := ⟨k1 - 1, by omega⟩
    obtain ⟨f1, f2, f3⟩ := ins_facts l b i p best cut h a1 a2 a3
    have hin : Insert_ints.f best (p : Int) [(i : Int)] = some (best.take p ++ [(i : Int)] ++ best.drop p) := by
      unfold Insert_ints.f
      rw [if_pos ⟨rfl, by omega, by omega, by omega⟩, Int.toNat_natCast]
    obtain ⟨t, ht⟩ : ∃ t, t = best.take p ++ [(i : Int)] ++ best.drop p := ⟨_, rfl⟩
    rw [← ht] at f1 f2 f3 hin
    rw [pick_Pick.j3, hin, Option.bind_some]
    by_cases c : t.length ≤ b
    · rw [if_pos (by omega), wadd1 i (by omega)]
      exact ih k1 (i + 1) t cut K (by omega) (by omega) (h.more f1 f2 f3 c) (by omega)
    · have hbt : b < t.length := by omega
      have htl : t.length = b + 1 := by have := h.len; omega
      have hz : t = t.take b ++ [t[b]] := by
        have e := List.take_succ_eq_append_getElem hbt
        rw [List.take_of_length_le (by omega)] at e
        exact e
      have hzr : 0 ≤ t[b] ∧ t[b] < (l.length : Int) := by
        rcases (f2 t[b]).1 (List.getElem_mem hbt) with e | e
        · omega
        · have := h.rng _ e; omega
      have hcut := h.cutoff f1 f2 f3 c hb.1 t[b] hz (if cut < 0 ∨ sc l t[b] < cut then sc l t[b] else cut) rfl (fun j h0 h1 => hpos j h0 (by omega))
      have hgo : ∀ cc, cc = (if cut < 0 ∨ sc l t[b] < cut then sc l t[b] else cut) → ∃ best' cut' k', K ≤ k' ∧ PInv l b l.length best' cut' ∧ pick_Pick.l0 k1 l (b : Int) [] cc (t.take b) l (l.length : Int) (wrap64 ((i : Int) + 1)) = pick_Pick.l2 k' l [] cut' best' (best'.length : Int) 0 := by
        rintro cc rfl
        rw [wadd1 i (by omega)]
        exact ih k1 (i + 1) _ _ K (by omega) (by omega) hcut (by omega)
      rw [if_neg (by omega), if_pos (by omega), if_pos (by omega), rd_get t b hbt, if_pos hzr.1, if_pos hzr.2, if_pos (by omega), Option.bind_some, Int.toNat_natCast]
      by_cases c1 : cut < 0
      · rw [if_pos c1]
        exact hgo _ (by rw [if_pos (.inl c1)]; rfl)
      · rw [if_neg c1]
        by_cases c2 : (rd_T66 l t[b]).f2 < cut
        · rw [if_pos c2]
          exact hgo _ (by rw [if_pos (.inr c2)]; rfl)
        · rw [if_neg c2]
          exact hgo _ (by rw [if_neg (fun h => h.elim c1 c2)])
omit hl hb hpos in
theorem pick_l2 (best : List Int) (cut : Int) (hr : ∀ x ∈ best, 0 ≤ x ∧ x < (l.length : Int)) (hbl : best.length ≤ 16) (h3 : ∀ x ∈ l, x.f3.length < 1000000) : ∀ (rest pre : List Int) (acc : List Nd) (k : Nat), best = pre ++ rest → acc.length ≤ pre.length → rest.length < k →
    pick_Pick.l2 k l acc cut best (best.length : Int) (pre.length : Int) = some (acc ++ rest.map (fun x => rd_T66 l x), cut, 0) := by
  intro rest
  induction rest with
  | nil =>
    intro pre acc k e ha hk
    obtain ⟨k, rfl⟩ : ∃ m, k = m + 1 := ⟨k - 1, by simp at hk; omega⟩
    have hlp : best.length = pre.length := by rw [e]; simp
    rw [pick_Pick.l2, if_neg (by omega)]
    simp
  | cons x r ih =>
    intro pre acc k e ha hk
    simp only [List.length_cons] at hk
    obtain ⟨k, rfl⟩ : ∃ m, k = m + 1 := ⟨k - 1, by omega⟩
    have hlp : best.length = pre.length + (r.length + 1) := by rw [e]; simp
    have hrd : rd best (pre.length : Int) = x := by rw [e]; unfold rd; simp
    have hx := hr x (by rw [e]; simp)
    obtain ⟨q, rfl⟩ := Int.eq_ofNat_of_zero_le hx.1
    have hql : q < l.length := by omega
    have hcl : Clone_ints.f (rd_T66 l (q : Int)).f3 = some (rd_T66 l (q : Int)).f3 := by
      have := h3 l[q] (List.getElem_mem hql)
      rw [rdN l q hql]
      unfold Clone_ints.f
      rw [if_pos (by omega)]
    rw [pick_Pick.l2, if_pos (by omega), if_pos (by omega), if_pos (by omega), hrd, if_pos hx.1, if_pos hx.2, hcl, Option.bind_some, if_pos (by omega), wadd1 _ (by omega)]
    have := ih (pre ++ [(q : Int)]) (acc ++ [rd_T66 l (q : Int)]) k (by rw [e]; simp) (by simp; omega) (by omega)
    rw [List.length_append, List.append_assoc] at this
    exact this
theorem pick_f (h3 : ∀ x ∈ l, x.f3.length < 1000000) (k : Nat) (hk : 7000 ≤ k) :
    ∃ best cut, PInv l b l.length best cut ∧ pick_Pick.f k l (b : Int) = some (best.map (fun x => rd_T66 l x), cut, 0) := by
  obtain ⟨k, rfl⟩ : ∃ m, k = m + 1 := ⟨k - 1, by omega⟩
  obtain ⟨best, cut, k', hk', hP, he⟩ := pick_l0 l b hl hb hpos l.length k 0 [] (-1) 20 (by omega) (by omega) (PInv.start l b) (by omega)
  have hbl : best.length ≤ 16 := by have := hP.len; omega
  refine ⟨best, cut, hP, ?_⟩
  have hany : l.any belowN = false := by
    rw [List.any_eq_false]
    intro x hx
    obtain ⟨q, hq, rfl⟩ := List.mem_iff_getElem.1 hx
    have := hpos (q : Int) (by omega) (by omega)
    unfold sc at this
    rw [rdN l q hq] at this
    unfold belowN
    simp; omega
  have hcf : ContainsFunc_nodes.f l = some false := by
    unfold ContainsFunc_nodes.f
    rw [if_pos (by omega), hany]
  unfold pick_Pick.f
  rw [if_neg (by omega), decide_eq_false (by omega), pick_Pick.j0, if_neg (by decide), hcf, Option.bind_some, if_neg (by decide), if_neg (by omega)]
  refine (he.trans ?_)
  exact pick_l2 l best cut hP.rng hbl h3 best [] [] k' rfl (by simp) (by omega)
end
end Go.Proofs.Ytlolfijadcflaaa.Pure
end
section
namespace Go.Proofs.Ytlolfijadcflaaa.Pure
open Go.RowKit Go.Proofs.Ytlolfijadcflaaa.P Go.Proofs.YtlolfijadcflaaaW.PrintWords Go.Proofs.YtlolfijadcflaaaW.PrintLast Go.Proofs.YtlolfijadcflaaaW.PrintMore
set_option linter.unusedVariables false
set_option linter.unusedSimpArgs false
def stF (s : Int) (path : List Int) : Int := path.foldl stI s
def metF (t : List (List Sy)) : Nat → Int → List Int → Int
  | _, _, [] => 0
  | dep, s, x :: r => cst (stI s x) (t.getD dep []) + metF t (dep + 1) (stI s x) r
theorem stF_snoc (s : Int) (p : List Int) (x : Int) : stF s (p ++ [x]) = stI (stF s p) x := by simp [stF]
theorem metF_snoc (t : List (List Sy)) (x : Int) : ∀ (p : List Int) (dep : Nat) (s : Int), metF t dep s (p ++ [x]) = metF t dep s p + cst (stI (stF s p) x) (t.getD (dep + p.length) [])
  | [], dep, s => by simp [metF, stF]
  | y :: r, dep, s => by
    rw [List.cons_append, metF, metF, metF_snoc t x r (dep + 1) (stI s y)]
    have e : stF s (y :: r) = stF (stI s y) r := rfl
    rw [e, List.length_cons, show dep + 1 + r.length = dep + (r.length + 1) by omega]
    omega
theorem stF_st (p : List Int) : ∀ s, St s → (∀ x ∈ p, nibB x) → St (stF s p) := by
  induction p with
  | nil => intro s hs _; exact hs
  | cons x r ih => intro s hs h; exact ih _ (stI_st hs (h x List.mem_cons_self)) (fun y hy => h y (List.mem_cons_of_mem _ hy))
structure NOk (t : List (List Sy)) (i : Nat) (n : Nd) : Prop where
  len : n.f3.length = i
  nib : ∀ x ∈ n.f3, nibB x
  st : n.f0 = stF beginI n.f3
  met : n.f1 = metF t 0 beginI n.f3
  lo : 0 ≤ n.f1
  hi : n.f1 ≤ 8192 * i
theorem NOk.ss {t : List (List Sy)} {i : Nat} {n : Nd} (h : NOk t i n) : St n.f0 := by rw [h.st]; exact stF_st _ _ begin_st h.nib
theorem root_ok (t : List (List Sy)) : NOk t 0 rootN := ⟨rfl, fun x h => (by cases h), rfl, rfl, (by decide), (by decide)⟩
theorem minL_le {t : List (List Sy)} (ht : TreeOk t) : ∀ (lv : Nat) (s : Int) (dep : Nat) (m : Int), St s → minL t lv s dep m ≤ m + 8192 * lv
  | 0, _, _, _, _ => by simp [minL]
  | lv + 1, s, dep, m, hs => by
    rw [minL]
    by_cases h : dep = t.length
    · rw [if_pos h]; omega
    · rw [if_neg h]
      have h0 := min16_le (fun x => minL t lv (stI s (x : Int)) (dep + 1) (m + cs t s dep x)) (show 0 < 16 by omega)
      have h1 := minL_le ht lv (stI s ((0 : Nat) : Int)) (dep + 1) (m + cs t s dep 0) (stI_st hs (nib_nat (by omega)))
      have h2 := cs_rng ht hs dep (show 0 < 16 by omega)
      push_cast
      omega
def kidP (t : List (List Sy)) (dl : Nat) (n : Nd) (x : Nat) : Nd :=
  ⟨stI n.f0 (x : Int), n.f1 + cs t n.f0 n.f3.length x, minL t dl (stI n.f0 (x : Int)) (n.f3.length + 1) (n.f1 + cs t n.f0 n.f3.length x), n.f3 ++ [(x : Int)]⟩
theorem kidsN_eq {t : List (List Sy)} (ht : TreeOk t) (dl : Nat) (hdl : dl ≤ 10) {i : Nat} (hi : i ≤ 1000) {n : Nd} (hn : NOk t i n) : kidsN t dl n = (List.range 16).map (kidP t dl n) := by
  unfold kidsN
  rw [kids_eq ht hn.ss]
  refine List.ext_getElem (by simp) (fun x h1 h2 => ?_)
  have hx : x < 16 := by simpa using h2
  have hc := cs_rng ht hn.ss n.f3.length hx
  have h3 := hn.lo
  have h4 := hn.hi
  have hw : wrap64 (n.f1 + cs t n.f0 n.f3.length x) = n.f1 + cs t n.f0 n.f3.length x := w64 (by omega) (by omega)
  have hs2 : St (stI n.f0 (x : Int)) := stI_st hn.ss (nib_nat hx)
  have hle := minL_le ht dl (stI n.f0 (x : Int)) (n.f3.length + 1) (n.f1 + cs t n.f0 n.f3.length x) hs2
  simp only [List.getElem_mapIdx, List.getElem_map, List.getElem_range, kidN, kidP]
  rw [hw, leastF_eq ht dl _ _ _ _ hs2 (by omega) (by omega)]
  congr 1
  omega
theorem kidP_ok {t : List (List Sy)} (ht : TreeOk t) (dl : Nat) {i : Nat} {n : Nd} (hn : NOk t i n) {x : Nat} (hx : x < 16) : NOk t (i + 1) (kidP t dl n x) := by
  have hc := cs_rng ht hn.ss n.f3.length hx
  refine ⟨by simp [kidP, hn.len], fun y hy => ?_, ?_, ?_, ?_, ?_⟩
  · rcases List.mem_append.1 hy with h | h
    · exact hn.nib y h
    · rw [List.mem_singleton.1 h]; exact nib_nat hx
  · show stI n.f0 (x : Int) = stF beginI (n.f3 ++ [(x : Int)])
    rw [stF_snoc, ← hn.st]
  · show n.f1 + cs t n.f0 n.f3.length x = metF t 0 beginI (n.f3 ++ [(x : Int)])
    rw [metF_snoc, ← hn.st, ← hn.met, Nat.zero_add]; rfl
  · show 0 ≤ n.f1 + cs t n.f0 n.f3.length x
    have := hn.lo; omega
  · show n.f1 + cs t n.f0 n.f3.length x ≤ _
    have := hn.hi; push_cast; omega
theorem belowF_eq {t : List (List Sy)} (ht : TreeOk t) (dl : Nat) (hdl : dl ≤ 10) {i : Nat} (hi : i ≤ 1000) (l : List Nd) (hl : ∀ n ∈ l, NOk t i n) : belowF t dl l = l.flatMap fun n => (List.range 16).map (kidP t dl n) := by
  unfold belowF
  induction l with
  | nil => rfl
  | cons n r ih =>
    rw [List.flatMap_cons, List.flatMap_cons, kidsN_eq ht dl hdl hi (hl n List.mem_cons_self), ih (fun m hm => hl m (List.mem_cons_of_mem _ hm))]
theorem mem_below {t : List (List Sy)} (ht : TreeOk t) (dl : Nat) (hdl : dl ≤ 10) {i : Nat} (hi : i ≤ 1000) {l : List Nd} (hl : ∀ n ∈ l, NOk t i n) {m : Nd} : m ∈ belowF t dl l ↔ ∃ n ∈ l, ∃ x, x < 16 ∧ m = kidP t dl n x := by
  rw [belowF_eq ht dl hdl hi l hl, List.mem_flatMap]
  constructor
  · rintro ⟨n, hn, hm⟩
    obtain ⟨x, hx, e⟩ := List.mem_map.1 hm
    exact ⟨n, hn, x, List.mem_range.1 hx, e.symm⟩
  · rintro ⟨n, hn, x, hx, e⟩
    exact ⟨n, hn, List.mem_map.2 ⟨x, List.mem_range.2 hx, e.symm⟩⟩
theorem below_ok {t : List (List Sy)} (ht : TreeOk t) (dl : Nat) (hdl : dl ≤ 10) {i : Nat} (hi : i ≤ 1000) {l : List Nd} (hl : ∀ n ∈ l, NOk t i n) : ∀ m ∈ belowF t dl l, NOk t (i + 1) m ∧ m.f1 ≤ m.f2 ∧ 0 ≤ m.f2 := by
  intro m hm
  obtain ⟨n, hn, x, hx, rfl⟩ := (mem_below ht dl hdl hi hl).1 hm
  have h1 := kidP_ok ht dl (hl n hn) hx
  have h2 := minL_ge ht dl (stI n.f0 (x : Int)) (n.f3.length + 1) (n.f1 + cs t n.f0 n.f3.length x) (stI_st (hl n hn).ss (nib_nat hx))
  refine ⟨h1, h2, ?_⟩
  have := h1.lo
  have h4 : (kidP t dl n x).f1 ≤ (kidP t dl n x).f2 := h2
  omega
def keptOf (l : List Nd) (best : List Int) : List Nd := best.map fun x => rd_T66 l x
theorem kept_mem {l : List Nd} {b i : Nat} {best : List Int} {cut : Int} (h : PInv l b i best cut) (hi : i ≤ l.length) : ∀ m ∈ keptOf l best, m ∈ l := by
  intro m hm
  obtain ⟨x, hx, rfl⟩ := List.mem_map.1 hm
  have hr := h.rng x hx
  obtain ⟨q, rfl⟩ := Int.eq_ofNat_of_zero_le hr.1
  rw [rdN l q (by omega)]
  exact List.getElem_mem _
theorem walk_ind {t : List (List Sy)} (ht : TreeOk t) (h1 : 1 ≤ t.length) (h64 : t.length ≤ 64) (b dl : Nat) (hb : 1 ≤ b ∧ b ≤ 16) (hdl : dl ≤ 10) (I : Nat → List Nd → Int → Prop)
    (hstep : ∀ (i : Nat) (l : List Nd) (cut : Int) (best : List Int) (c : Int), i < t.length → (∀ n ∈ l, NOk t i n) → l ≠ [] → l.length ≤ b → I i l cut → PInv (belowF t dl l) b (belowF t dl l).length best c → I (i + 1) (keptOf (belowF t dl l) best) (cutM cut c)) :
    ∀ (m i : Nat) (l : List Nd) (cut : Int), i + m = t.length → (∀ n ∈ l, NOk t i n) → l ≠ [] → l.length ≤ b → I i l cut →
      ∃ l' cut', walkL t dl b m l cut = some (l', cut', 0) ∧ (∀ n ∈ l', NOk t t.length n) ∧ l' ≠ [] ∧ l'.length ≤ b ∧ I t.length l' cut' := by
  intro m
  induction m with
  | zero =>
    intro i l cut hi hl hne hlb hI
    obtain rfl : i = t.length := by omega
    exact ⟨l, cut, rfl, hl, hne, hlb, hI⟩
  | succ m ih =>
    intro i l cut hi hl hne hlb hI
    have hok := below_ok ht dl hdl (show i ≤ 1000 by omega) hl
    have hlen := belowF_length t dl l
    have hpos : ∀ j : Int, 0 ≤ j → j < ((belowF t dl l).length : Int) → 0 ≤ sc (belowF t dl l) j := by
      intro j h0 h2
      obtain ⟨q, rfl⟩ := Int.eq_ofNat_of_zero_le h0
      unfold sc
      rw [rdN _ q (by omega)]
      exact (hok _ (List.getElem_mem _)).2.2
    obtain ⟨best, c, hP, hpk⟩ := pick_f (belowF t dl l) b (by omega) hb hpos (fun x hx => by have := (hok x hx).1.len; omega) 7000 (Nat.le_refl _)
    have hat := atK_of (f := fun k => pick_Pick.f k (belowF t dl l) (b : Int)) (pick_Pick.mono _ _) hpk
    rw [walkL, if_pos ⟨by omega, fun n hn => by rw [(hl n hn).len]; omega⟩, hat, Option.bind_some, if_pos rfl]
    have hl0 : 0 < l.length := List.length_pos_iff.2 hne
    have hkl : (keptOf (belowF t dl l) best).length = best.length := by simp [keptOf]
    refine ih (i + 1) (keptOf (belowF t dl l) best) (cutM cut c) (by omega) (fun n hn => (hok n (kept_mem hP (Nat.le_refl _) n hn)).1) ?_ ?_ (hstep i l cut best c (by omega) hl hne hlb hI hP)
    · intro e
      rw [e] at hkl
      have := hP.len
      simp at hkl; omega
    · rw [hkl, hP.len]; omega
end Go.Proofs.Ytlolfijadcflaaa.Pure
end
