/- What the law's proof needs: PathFacts. -/
import Derived.Test.YtlolfijadcflaaaBsPxVoluteref04Path
import Derived.Test.YtlolfijadcflaaaBsTruePath
import Derived.Test.YtlolfijadcflaaaBsBase
import Derived.Test.YtlolfijadcflaaaBsPxVolutelaw12Beamscores
import Derived.Deep.Slices
import Derived.ChangeSame
import Derived.ChangeSlices
import Derived.Test.YtlolfijadcflaaaBsV
section
namespace Go.Proofs.Ytlolfijadcflaaa.Pure
open Go.RowKit Go.Proofs.Ytlolfijadcflaaa.P Go.Proofs.YtlolfijadcflaaaW.PrintWords Go.Proofs.YtlolfijadcflaaaW.PrintLast Go.Proofs.YtlolfijadcflaaaW.PrintMore
set_option linter.unusedVariables false
set_option linter.unusedSimpArgs false
theorem path_l0 (P : List Int) (hP : P.length ≤ 1000) : ∀ (d i k : Nat), i + d = P.length → d < k → ∃ r, voluteref04_Path.l0 k P (i : Int) = some r ∧ (r = true → ∀ j, i ≤ j → j < P.length → nibB (P.getD j 0)) := by
  intro d
  induction d with
  | zero =>
    intro i k hi hk
    obtain ⟨k, rfl⟩ : ∃ m, k = m + 1 := ⟨k - 1, by omega⟩
    rw [voluteref04_Path.l0, if_neg (by omega)]
    exact ⟨_, rfl, fun _ j h1 h2 => by omega⟩
  | succ d ih =>
    intro i k hi hk
    obtain ⟨k, rfl⟩ : ∃ m, k = m + 1 := ⟨k - 1, by omega⟩
    have hrd : rd P (i : Int) = P.getD i 0 := by simp [rd]
    rw [voluteref04_Path.l0, if_pos (by omega), if_pos (by omega), hrd, wadd1 i (by omega)]
    by_cases c1 : P.getD i 0 < 0
    · rw [if_pos c1]; exact ⟨_, rfl, fun h => absurd h (by decide)⟩
    · rw [if_neg c1]
      by_cases c2 : P.getD i 0 > 15
      · rw [if_pos c2]; exact ⟨_, rfl, fun h => absurd h (by decide)⟩
      · rw [if_neg c2]
        obtain ⟨r, hr, h⟩ := ih (i + 1) k (by omega) (by omega)
        refine ⟨r, hr, fun ht j h1 h2 => ?_⟩
        by_cases e : j = i
        · subst e; unfold nibB; omega
        · exact h ht j (by omega) h2
theorem path_f (P : List Int) (hP : P.length ≤ 1000) (k : Nat) (hk : 1001 ≤ k) : ∃ r, voluteref04_Path.f k P = some r ∧ (r = true → ∀ x ∈ P, nibB x) := by
  obtain ⟨r, hr, h⟩ := path_l0 P hP P.length 0 k (Nat.zero_add _) (by omega)
  refine ⟨r, hr, fun ht x hx => ?_⟩
  obtain ⟨j, hj, rfl⟩ := List.mem_iff_getElem.1 hx
  have := h ht j (Nat.zero_le _) hj
  rwa [List.getD_eq_getElem?_getD, List.getElem?_eq_getElem hj] at this
end Go.Proofs.Ytlolfijadcflaaa.Pure
end
section
namespace Go.Proofs.Ytlolfijadcflaaa.Pure
open Go.RowKit Go.Proofs.Ytlolfijadcflaaa.P Go.Proofs.YtlolfijadcflaaaW.PrintWords Go.Proofs.YtlolfijadcflaaaW.PrintLast Go.Proofs.YtlolfijadcflaaaW.PrintMore
set_option linter.unusedVariables false
set_option linter.unusedSimpArgs false
theorem modN (a : Int) (M : Nat) (h : 0 < M) (hM : M ≤ 1000000) : ∃ q : Nat, q < M ∧ wrap64 (Int.tmod (IntKind.u64.wrap a) (M : Int)) = (q : Int) := by
  have := umod a (M : Int) (by omega) (by omega)
  exact ⟨(wrap64 (Int.tmod (IntKind.u64.wrap a) (M : Int))).toNat, by omega, by omega⟩
def LI (h : Nat → Int) (i : Nat) (mn : Int) : Prop := (i = 0 ∧ mn = -1) ∨ (0 < i ∧ 0 ≤ mn ∧ (∀ j, j < i → mn ≤ h j) ∧ ∃ j, j < i ∧ h j = mn)
def scN (n : Int) (l : List Sy) (P : List Int) (dl i : Nat) : Int := minL (treeOf n.toNat l) dl (stI (stF beginI P) (i : Int)) (P.length + 1) (metF (treeOf n.toNat l) 0 beginI P + cs (treeOf n.toNat l) (stF beginI P) P.length i)
theorem bs_l0 {n p : Int} {l : List Sy} (h : pileB n p l = true) {P : List Int} (hP : ∀ x ∈ P, nibB x) (hPl : P.length + 1 ≤ n.toNat) (dl : Nat) (hdl : dl ≤ 2) (d w : Int) (hd : d = (dl : Int) + 1) (hw : w = min16 (scN n l P dl)) : ∀ (dd i k : Nat) (mn : Int), i + dd = 16 → dd + 5000 ≤ k → LI (scN n l P dl) i mn →
    volutelaw12_BeamScores.l0 k P d w mn (i : Int) n p l = some true := by
  have h' := h
  unfold pileB at h'
  rw [Bool.and_eq_true] at h'
  have hm := may_nums h'.1
  have ht := tree_ok (n := n.toNat) (by omega) (pile_len h) (pile_sp h)
  have hst := stF_st P beginI begin_st hP
  have hm0 := metF_ge ht P 0 beginI begin_st hP
  intro dd
  induction dd with
  | zero =>
    intro i k mn hi hk hL
    obtain ⟨k, rfl⟩ : ∃ m, k = m + 1 := ⟨k - 1, by omega⟩
    obtain rfl : i = 16 := by omega
    rcases hL with hL | ⟨_, _, hL1, j, hj, hL2⟩
    · omega
    · have hmn : w = mn := by
        obtain ⟨x, hx, e⟩ := min16_at (scN n l P dl)
        have a1 := hL1 x hx
        have a2 := min16_le (scN n l P dl) hj
        omega
      rw [volutelaw12_BeamScores.l0, if_neg (by omega), if_pos hmn, wakes12 k (by omega), Option.bind_some]
  | succ dd ih =>
    intro i k mn hi hk hL
    obtain ⟨k, rfl⟩ : ∃ m, k = m + 1 := ⟨k - 1, by omega⟩
    have hi16 : i < 16 := by omega
    have hnx : nibB (i : Int) := nib_nat hi16
    have hP2 : ∀ x ∈ P ++ [(i : Int)], nibB x := fun x hx => by
      rcases List.mem_append.1 hx with h | h
      · exact hP x h
      · rw [List.mem_singleton.1 h]; exact hnx
    have hsc : beam_Score.f k n p l (P ++ [(i : Int)]) d = some (scN n l P dl i, 0) := by
      have := score_g h hP2 (by rw [List.length_append]; exact hPl) d (by omega) k (by omega)
      rw [this]
      unfold scN cs
      rw [stF_snoc, metF_snoc, List.length_append, Nat.zero_add, show (d - 1).toNat = dl by omega]; rfl
    have hge : 0 ≤ scN n l P dl i := by
      have h1 := minL_ge ht dl (stI (stF beginI P) (i : Int)) (P.length + 1) (metF (treeOf n.toNat l) 0 beginI P + cs (treeOf n.toNat l) (stF beginI P) P.length i) (stI_st hst hnx)
      have h2 := (cs_rng ht hst P.length hi16).1
      unfold scN; omega
    have htw : volutekeep_TwinInts.f P = some P := by unfold volutekeep_TwinInts.f; rw [if_pos (by simp; omega)]; rfl
    rw [volutelaw12_BeamScores.l0, if_pos (by omega), htw, Option.bind_some, Option.bind_some, if_pos (by simp; omega), hsc, Option.bind_some]
    dsimp only
    rw [if_pos rfl, wadd1 i (by omega)]
    have hnew : (mn < 0 ∨ scN n l P dl i < mn) → LI (scN n l P dl) (i + 1) (scN n l P dl i) := by
      intro hc
      refine .inr ⟨by omega, hge, fun j hj => ?_, i, by omega, rfl⟩
      by_cases e : j = i
      · rw [e]; exact Int.le_refl _
      · rcases hL with hL | hL
        · omega
        · have := hL.2.2.1 j (by omega); omega
    by_cases c1 : mn < 0
    · rw [if_pos c1]; exact ih (i + 1) k _ (by omega) (by omega) (hnew (.inl c1))
    · rw [if_neg c1]
      by_cases c2 : scN n l P dl i < mn
      · rw [if_pos c2]; exact ih (i + 1) k _ (by omega) (by omega) (hnew (.inr c2))
      · rw [if_neg c2]
        refine ih (i + 1) k mn (by omega) (by omega) (.inr ?_)
        rcases hL with hL | ⟨h1, h2, h3, j, hj, h4⟩
        · omega
        · refine ⟨by omega, h2, fun j hj => ?_, j, by omega, h4⟩
          by_cases e : j = i
          · rw [e]; omega
          · exact h3 j (by omega)
theorem beamScores_f (n p : Int) (l : List Sy) (P : List Int) (a2 : Int) (hPm : P.length ≤ maxLen) : volutelaw12_BeamScores.f 9002 n p l P a2 = some true := by
  have jt : volutelaw12_BeamScores.j0 9002 P a2 true n p l = some true := by rw [volutelaw12_BeamScores.j0, if_pos rfl]
  unfold volutelaw12_BeamScores.f
  by_cases c1 : 400 < l.length
  · rw [if_pos (by omega)]; exact jt
  · rw [if_neg (by omega), refpile_f n p l (by omega) 9002 (by omega), Option.bind_some]
    cases h : pileB n p l with
    | false => rw [if_neg (by decide)]; exact jt
    | true =>
      rw [if_pos rfl]
      have h' := h
      unfold pileB at h'
      rw [Bool.and_eq_true] at h'
      have hm := may_nums h'.1
      by_cases c2 : (P.length : Int) > n
      · rw [if_pos c2]; exact jt
      · rw [if_neg c2]
        obtain ⟨r, hr, hnib⟩ := path_f P (by omega) 9002 (by omega)
        rw [hr, Option.bind_some]
        cases r with
        | false => exact jt
        | true =>
          have hP := hnib rfl
          have hlen := treeOf_length n.toNat l
          obtain ⟨q, hq, e⟩ := modN a2 2 (by omega) (by omega)
          have e1 : wrap64 (1 + wrap64 (Int.tmod (IntKind.u64.wrap a2) 2)) = ((q + 1 : Nat) : Int) := by
            rw [show (2 : Int) = ((2 : Nat) : Int) from rfl, e, w64 (by clear e; omega) (by clear e; omega)]
            clear e; omega
          clear e
          show volutelaw12_BeamScores.j0 9002 P a2 false n p l = some true
          rw [volutelaw12_BeamScores.j0, if_neg (by decide), e1, wadd1 (q + 1) (by omega), score_g h hP (by omega) ((q + 1 + 1 : Nat) : Int) (by omega) 9001 (by omega), Option.bind_some]
          dsimp only
          rw [if_pos rfl, show (((q + 1 + 1 : Nat) : Int) - 1).toNat = q + 1 by omega]
          by_cases c3 : (P.length : Int) = n
          · rw [if_pos c3, node_g h hP (by omega) 9001 (by omega), Option.bind_some]
            dsimp only
            rw [if_pos rfl, minL, if_pos (by rw [hlen]; omega), wakes12 9001 (by omega), Option.bind_some]
          · rw [if_neg c3]
            refine bs_l0 h hP (by omega) q (by omega) _ _ (by omega) ?_ 16 0 9001 (-1) rfl (by omega) (.inl ⟨rfl, rfl⟩)
            rw [minL, if_neg (by rw [hlen]; omega)]; rfl
theorem BeamScores (n p : Int) (l : List Sy) (P : List Int) (a2 : Int) {q0 q1 q2 q4 : Prop} (h0 : q0) (h1 : q1) (h2 : q2) (h3 : P.length ≤ maxLen ∧ ∀ x ∈ P, (Lit.int .i64 x).wf = true) (y : P.length * 8 ≤ 140737488351232) (h4 : q4) : ∃ k, volutelaw12_BeamScores.f k n p l P a2 = some true :=
  ⟨9002, beamScores_f n p l P a2 h3.1⟩
end Go.Proofs.Ytlolfijadcflaaa.Pure
end
section
namespace Go.Proofs.Ytlolfijadcflaaa.P
open Go.RowKit Go.ChangeShapes Go.WideShapes Go.Deep Go.Proofs.YtlolfijadcflaaaW.PrintWords Go.Proofs.YtlolfijadcflaaaW.PrintLast Go.Proofs.YtlolfijadcflaaaW.PrintMore
set_option linter.unusedSimpArgs false
set_option linter.unusedVariables false
section
variable {H : Type} {enc : TypeId × Value → H} {P : Program} {w : World} {t e : TypeId} {α β : Type}
def Opens (enc : TypeId × Value → H) (P : Program) (w : World) (t : TypeId) (d : Kd α) (ok : α → Prop) : Prop :=
  ∀ (fuel : Nat) (cs : List Value) (x : DataW H × List MemPlace), DataW.trod enc P w 0 (fun _ => true) true fuel t cs = some x → ∃ v : α, d.K w v cs ∧ ok v
theorem Opens.int {k : IntKind} (ht : P.underlying t = some (.int k)) : Opens enc P w t (Kd.int k) (fun n => (Lit.int k n).wf = true) := fun fuel cs x h => by
  obtain ⟨n, rfl, _, hw⟩ := DataW.trod_int ht h
  exact ⟨n, rfl, hw⟩
theorem Opens.bool (ht : P.underlying t = some .bool) : Opens enc P w t Kd.bool (fun _ => True) := fun fuel cs x h => by
  obtain ⟨n, rfl, _⟩ := DataW.trod_bool ht h
  exact ⟨n, rfl, trivial⟩
theorem list_of {Q : Nat → α → Prop} : ∀ n, (∀ i, i < n → ∃ v, Q i v) → ∃ l : List α, l.length = n ∧ ∀ (i : Nat) (v : α), l[i]? = some v → Q i v
  | 0, _ => ⟨[], rfl, fun i v h => by simp at h⟩
  | n + 1, h => by
    obtain ⟨l, hl, hq⟩ := list_of n (fun i hi => h i (by omega))
    obtain ⟨v, hv⟩ := h n (by omega)
    refine ⟨l ++ [v], by simp [hl], fun i u hu => ?_⟩
    rcases Nat.lt_or_ge i l.length with h1 | h1
    · rw [List.getElem?_append_left h1] at hu
      exact hq i u hu
    · rw [List.getElem?_append_right h1] at hu
      have : i - l.length = 0 := by
        rcases Nat.eq_zero_or_pos (i - l.length) with e | e
        · exact e
        · rw [List.getElem?_eq_none (by simp; omega)] at hu; cases hu
      rw [this] at hu
      obtain rfl : v = u := by simpa using hu
      have : i = n := by omega
      rw [this]; exact hv
theorem Opens.slice {d : Kd α} {ok : α → Prop} (ht : P.underlying t = some (.slice e)) (hC : P.cellsOf e = d.sz) (he : Opens enc P w e d ok) :
    Opens enc P w t (Kd.slice e d) (fun l => l.length ≤ maxLen ∧ ∀ v ∈ l, ok v) := fun fuel cs x h => by
  rcases open_slice ht h with ⟨rfl, _⟩ | ⟨a, len, cap, m, n, D, Pl, rfl, hb, hl, hm, hmm, hx, hi⟩
  · exact ⟨[], ⟨none, 0, rfl, Nat.le_refl _, rfl, by simp, fun h => absurd h (by simp)⟩, by simp, fun v hv => by simp at hv⟩
  · have hlm : len ≤ m := by
      rw [hmm]; split
      · exact hl
      · exact Nat.le_refl _
    have hQ : ∀ i, i < len → ∃ v : α, (∃ c, c.length = d.sz ∧ d.K w v c ∧ ∀ j u, c[j]? = some u → w.cell? (a.add (i * d.sz + j)) = some u) ∧ ok v := by
      intro i hi'
      obtain ⟨cs', hc, ht'⟩ := hi i (by omega)
      rw [hC] at hc
      obtain ⟨v, hK, hok⟩ := he _ _ _ ht'
      obtain ⟨_, hcl, hat⟩ := World.cells?_some hc
      refine ⟨v, ⟨cs', d.K_len hK, hK, fun j u hu => ?_⟩, hok⟩
      have hj : j < d.sz := by
        have := (List.getElem?_eq_some_iff.1 hu).1
        rw [d.K_len hK] at this; exact this
      have h1 := hat j hj
      rw [← Go.Deep.add_add, h1, hu]
    obtain ⟨l, hll, hq⟩ := list_of len hQ
    subst hll
    refine ⟨l, ⟨some a, cap, rfl, hl, rfl, ?_, fun _ => ⟨a, rfl, fun j p hp => (hq j p hp).1⟩⟩, Nat.le_trans hl hm, fun v hv => ?_⟩
    · have := Nat.le_trans hl hm
      simp only [maxLen] at this
      omega
    · obtain ⟨i, hi', rfl⟩ := List.getElem_of_mem hv
      exact (hq i _ (List.getElem?_eq_getElem hi')).2
def OpensF (enc : TypeId × Value → H) (P : Program) (w : World) (fs : List Field) (o : Nat) (d : Kd α) (ok : α → Prop) : Prop :=
  ∀ (n : Nat) (cs : List Value), cs.length = o + d.sz → (∀ f ∈ fs, ∃ x, DataW.trod enc P w 0 (fun _ => true) true n f.type ((cs.drop f.offset).take (P.cellsOf f.type)) = some x) → ∃ v : α, d.K w v (cs.drop o) ∧ ok v
theorem OpensF.last {f : Field} {o : Nat} {d : Kd α} {ok : α → Prop} (ho : f.offset = o) (hC : P.cellsOf f.type = d.sz) (h : Opens enc P w f.type d ok) : OpensF enc P w [f] o d ok := fun n cs hl hf => by
  obtain ⟨x, hx⟩ := hf f (by simp)
  rw [ho, hC, List.take_of_length_le (by rw [List.length_drop]; omega)] at hx
  exact h _ _ _ hx
theorem OpensF.cons {f : Field} {fs : List Field} {o : Nat} {d : Kd α} {ok : α → Prop} {d' : Kd β} {ok' : β → Prop} (ho : f.offset = o) (hC : P.cellsOf f.type = d.sz) (h : Opens enc P w f.type d ok) (h' : OpensF enc P w fs (o + d.sz) d' ok') :
    OpensF enc P w (f :: fs) o (Kd.pair d d') (fun x => ok x.1 ∧ ok' x.2) := fun n cs hl hf => by
  obtain ⟨x, hx⟩ := hf f (by simp)
  rw [ho, hC] at hx
  obtain ⟨v, hK, hok⟩ := h _ _ _ hx
  obtain ⟨v', hK', hok'⟩ := h' n cs (by rw [hl]; simp only [Kd.pair]; omega) (fun g hg => hf g (by simp [hg]))
  refine ⟨(v, v'), ⟨_, _, ?_, hK, hK'⟩, hok, hok'⟩
  rw [← List.drop_drop, List.take_append_drop]
theorem Opens.struct {fs : List Field} {d : Kd α} {ok : α → Prop} (f : β → α) (g : α → β) (hg : ∀ a, f (g a) = a) (ht : P.underlying t = some (.struct fs.toArray)) (hC : P.cellsOf t = d.sz) (h : OpensF enc P w fs 0 d ok) :
    Opens enc P w t (Kd.iso d f) (fun b => ok (f b)) := fun fuel cs x hx => by
  obtain ⟨xs, n, _, _, hlen, hl, hf⟩ := DataW.trod_struct ht hx
  obtain ⟨v, hK, hok⟩ := h n cs (by rw [hlen, hC]; omega) (fun fd hfd => by
    obtain ⟨i, hi, rfl⟩ := List.getElem_of_mem hfd
    have h1 := hf i fs[i] (by simp [hi])
    have hi2 : i < xs.length := by rw [hl]; simpa using hi
    exact ⟨_, h1.trans (List.getElem?_eq_getElem hi2)⟩)
  refine ⟨g v, ?_, by show ok (f (g v)); rw [hg]; exact hok⟩
  show d.K w (f (g v)) cs
  rw [hg]
  simpa using hK
theorem Opens.tuple {fs : List Field} {d : Kd α} {ok : α → Prop} (ht : P.underlying t = some (.struct fs.toArray)) (hC : P.cellsOf t = d.sz) (h : OpensF enc P w fs 0 d ok) : Opens enc P w t d ok := fun fuel cs x hx => by
  obtain ⟨xs, n, _, _, hlen, hl, hf⟩ := DataW.trod_struct ht hx
  obtain ⟨v, hK, hok⟩ := h n cs (by rw [hlen, hC]; omega) (fun fd hfd => by
    obtain ⟨i, hi, rfl⟩ := List.getElem_of_mem hfd
    have h1 := hf i fs[i] (by simp [hi])
    have hi2 : i < xs.length := by rw [hl]; simpa using hi
    exact ⟨_, h1.trans (List.getElem?_eq_getElem hi2)⟩)
  exact ⟨v, by simpa using hK, hok⟩
theorem Opens.trod {v : Value} {d : DataW H} {p : List MemPlace} {k : Kd α} {ok : α → Prop} (h : Opens enc P w t k ok) (hT : DataW.Trod enc P w 0 (fun _ => true) true t v d p) : ∃ x : α, k.K w x v.cells.toList ∧ ok x := by
  obtain ⟨fuel, hf⟩ := hT
  exact h _ _ _ hf
end
end Go.Proofs.Ytlolfijadcflaaa.P
end
