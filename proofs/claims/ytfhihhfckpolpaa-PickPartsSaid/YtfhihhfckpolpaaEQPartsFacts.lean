/- What the law's proof needs: PartsFacts. -/
import Derived.Test.YtfhihhfckpolpaaEQPickMore
namespace Go.Proofs.Ytfhihhfckpolpaa.Pure
open Go.RowKit Go.Proofs.Ytfhihhfckpolpaa.P Go.Proofs.YtfhihhfckpolpaaW.PrintWords Go.Proofs.YtfhihhfckpolpaaW.PrintLast Go.Proofs.YtfhihhfckpolpaaW.PrintMore
set_option linter.unusedVariables false
set_option linter.unusedSimpArgs false
theorem nodup_sub_len (a : List Int) : ∀ b : List Int, a.Nodup → (∀ x ∈ a, x ∈ b) → a.length ≤ b.length := by
  induction a with
  | nil => intro b _ _; simp
  | cons x a ih =>
    intro b hn hs
    rw [List.nodup_cons] at hn
    have hxb := hs x (by simp)
    have h1 := List.length_erase_of_mem hxb
    have h2 : 0 < b.length := List.length_pos_of_mem hxb
    have := ih (b.erase x) hn.2 (fun y hy => (List.mem_erase_of_ne (by intro e; subst e; exact hn.1 hy)).2 (hs y (by simp [hy])))
    simp only [List.length_cons]
    omega
theorem lx_nodup {l : List Nd} {a : List Int} (h : a.Pairwise (Lx l)) : a.Nodup := h.imp (fun h => h.ne)
theorem pinv_eq {l : List Nd} {b i : Nat} {best a : List Int} {cut : Int} (h : PInv l b i best cut) (hs : a.Pairwise (Lx l)) (hr : ∀ x ∈ a, 0 ≤ x ∧ x < (i : Int)) (hl : a.length = min b i)
    (ho : ∀ j : Int, 0 ≤ j → j < (i : Int) → j ∉ a → ∀ x ∈ a, Lx l x j) : a = best := by
  have hsub1 : ∀ x ∈ a, x ∈ best := by
    intro x hx
    refine Classical.byContradiction fun hb => ?_
    have hxr := hr x hx
    have hlt := h.out x hxr.1 hxr.2 hb
    -- every one of best is less than x, and so in a: x and they are too many
    have hin : ∀ y ∈ best, y ∈ a := by
      intro y hy
      refine Classical.byContradiction fun hya => ?_
      have := ho y (h.rng y hy).1 (h.rng y hy).2 hya x hx
      exact absurd rfl ((hlt y hy).trans this).ne
    have hnd : (x :: best).Nodup := List.nodup_cons.2 ⟨hb, lx_nodup h.sorted⟩
    have := nodup_sub_len (x :: best) a hnd (fun y hy => by
      rcases List.mem_cons.1 hy with rfl | hy
      · exact hx
      · exact hin y hy)
    have hl2 := h.len
    simp only [List.length_cons] at this
    omega
  have hsub2 : ∀ x ∈ best, x ∈ a := by
    intro x hx
    refine Classical.byContradiction fun ha => ?_
    have hnd : (x :: a).Nodup := List.nodup_cons.2 ⟨ha, lx_nodup hs⟩
    have := nodup_sub_len (x :: a) best hnd (fun y hy => by
      rcases List.mem_cons.1 hy with rfl | hy
      · exact hx
      · exact hsub1 y hy)
    have hl2 := h.len
    simp only [List.length_cons] at this
    omega
  exact rising_ext l a best hs h.sorted (fun s => ⟨hsub1 s, hsub2 s⟩)
section
variable {L M : List Nd} {b : Nat} {bL bM bZ : List Int} {p q r : Int}
def kp (l : List Nd) (best : List Int) : List Nd := best.map (fun x => rd_T57 l x)
def phi (n : Int) (bL bM : List Int) (t : Int) : Int := if t < (bL.length : Int) then rd bL t else n + rd bM (t - (bL.length : Int))
theorem rd_left (L M : List Nd) (i : Int) (h0 : 0 ≤ i) (h1 : i < (L.length : Int)) : rd_T57 (L ++ M) i = rd_T57 L i := by
  obtain ⟨i, rfl⟩ := Int.eq_ofNat_of_zero_le h0
  have hi : i < L.length := by omega
  rw [rdN _ i (by rw [List.length_append]; omega), rdN L i hi, List.getElem_append_left hi]
theorem rd_right (L M : List Nd) (i : Int) (h0 : 0 ≤ i) (h1 : i < (M.length : Int)) : rd_T57 (L ++ M) ((L.length : Int) + i) = rd_T57 M i := by
  obtain ⟨i, rfl⟩ := Int.eq_ofNat_of_zero_le h0
  have hi : i < M.length := by omega
  have e : (L.length : Int) + (i : Int) = ((L.length + i : Nat) : Int) := by omega
  rw [e, rdN _ _ (by rw [List.length_append]; omega), rdN M i hi, List.getElem_append_right (by omega)]
  congr 1
  omega
variable (hL : PInv L b L.length bL p) (hM : PInv M b M.length bM q)
include hL hM
theorem phi_rd (t : Int) (h0 : 0 ≤ t) (h1 : t < ((bL.length + bM.length : Nat) : Int)) :
    (0 ≤ phi L.length bL bM t ∧ phi L.length bL bM t < ((L.length + M.length : Nat) : Int)) ∧ rd_T57 (L ++ M) (phi L.length bL bM t) = rd_T57 (kp L bL ++ kp M bM) t := by
  have hkl : (kp L bL).length = bL.length := by simp [kp]
  have hkm : (kp M bM).length = bM.length := by simp [kp]
  unfold phi
  by_cases c : t < (bL.length : Int)
  · rw [if_pos c]
    obtain ⟨i, rfl⟩ := Int.eq_ofNat_of_zero_le h0
    have hi : i < bL.length := by omega
    have hr := hL.rng bL[i] (List.getElem_mem hi)
    rw [rd_get bL i hi]
    refine ⟨⟨hr.1, by omega⟩, ?_⟩
    rw [rd_left L M _ hr.1 hr.2, rd_left _ _ _ (by omega) (by rw [hkl]; omega), rdN (kp L bL) i (by rw [hkl]; exact hi)]
    simp [kp]
  · rw [if_neg c]
    obtain ⟨i, hi⟩ := Int.eq_ofNat_of_zero_le (show 0 ≤ t - (bL.length : Int) by omega)
    have him : i < bM.length := by omega
    have hr := hM.rng bM[i] (List.getElem_mem him)
    rw [hi, rd_get bM i him]
    refine ⟨⟨by omega, by omega⟩, ?_⟩
    have e : t = ((kp L bL).length : Int) + (i : Int) := by rw [hkl]; omega
    rw [rd_right L M _ hr.1 hr.2, e, rd_right _ _ _ (by omega) (by rw [hkm]; omega), rdN (kp M bM) i (by rw [hkm]; exact him)]
    simp [kp]
theorem phi_sc (t : Int) (h0 : 0 ≤ t) (h1 : t < ((bL.length + bM.length : Nat) : Int)) : sc (L ++ M) (phi L.length bL bM t) = sc (kp L bL ++ kp M bM) t := by
  unfold sc
  rw [(phi_rd hL hM t h0 h1).2]
theorem phi_lx (t u : Int) (h0 : 0 ≤ t) (h1 : t < ((bL.length + bM.length : Nat) : Int)) (g0 : 0 ≤ u) (g1 : u < ((bL.length + bM.length : Nat) : Int)) (h : Lx (kp L bL ++ kp M bM) t u) : Lx (L ++ M) (phi L.length bL bM t) (phi L.length bL bM u) := by
  have e1 := phi_sc hL hM t h0 h1
  have e2 := phi_sc hL hM u g0 g1
  unfold Lx at h ⊢
  rw [e1, e2]
  rcases h with h | ⟨h, hlt⟩
  · exact .inl h
  · refine .inr ⟨h, ?_⟩
    unfold phi
    by_cases c : t < (bL.length : Int)
    · rw [if_pos c]
      obtain ⟨i, rfl⟩ := Int.eq_ofNat_of_zero_le h0
      have hi : i < bL.length := by omega
      rw [rd_get bL i hi]
      have hr := hL.rng bL[i] (List.getElem_mem hi)
      by_cases c2 : u < (bL.length : Int)
      · rw [if_pos c2]
        obtain ⟨j, rfl⟩ := Int.eq_ofNat_of_zero_le g0
        have hj : j < bL.length := by omega
        rw [rd_get bL j hj]
        have hs := List.pairwise_iff_getElem.1 hL.sorted i j hi hj (by omega)
        rw [← e1, ← e2] at h
        unfold phi at h
        rw [if_pos c, if_pos c2, rd_get bL i hi, rd_get bL j hj] at h
        have hrj := hL.rng bL[j] (List.getElem_mem hj)
        unfold sc at h
        rw [rd_left L M _ hr.1 hr.2, rd_left L M _ hrj.1 hrj.2] at h
        unfold Lx sc at hs
        omega
      · rw [if_neg c2]
        obtain ⟨j, hj⟩ := Int.eq_ofNat_of_zero_le (show 0 ≤ u - (bL.length : Int) by omega)
        have hjm : j < bM.length := by omega
        rw [hj, rd_get bM j hjm]
        have := hM.rng bM[j] (List.getElem_mem hjm)
        omega
    · have c2 : ¬ u < (bL.length : Int) := by omega
      rw [if_neg c, if_neg c2]
      obtain ⟨i, hi⟩ := Int.eq_ofNat_of_zero_le (show 0 ≤ t - (bL.length : Int) by omega)
      obtain ⟨j, hj⟩ := Int.eq_ofNat_of_zero_le (show 0 ≤ u - (bL.length : Int) by omega)
      have him : i < bM.length := by omega
      have hjm : j < bM.length := by omega
      rw [hi, hj, rd_get bM i him, rd_get bM j hjm]
      have hs := List.pairwise_iff_getElem.1 hM.sorted i j him hjm (by omega)
      rw [← e1, ← e2] at h
      unfold phi at h
      rw [if_neg c, if_neg c2, hi, hj, rd_get bM i him, rd_get bM j hjm] at h
      have hr := hM.rng bM[i] (List.getElem_mem him)
      have hrj := hM.rng bM[j] (List.getElem_mem hjm)
      unfold sc at h
      rw [rd_right L M _ hr.1 hr.2, rd_right L M _ hrj.1 hrj.2] at h
      unfold Lx sc at hs
      omega
omit hL hM in
theorem lx_left {x j : Int} (hx : 0 ≤ x ∧ x < (L.length : Int)) (hj : 0 ≤ j ∧ j < (L.length : Int)) (h : Lx L x j) : Lx (L ++ M) x j := by
  unfold Lx sc at *
  rw [rd_left L M x hx.1 hx.2, rd_left L M j hj.1 hj.2]
  exact h
omit hL hM in
theorem lx_right {x j : Int} (hx : 0 ≤ x ∧ x < (M.length : Int)) (hj : 0 ≤ j ∧ j < (M.length : Int)) (h : Lx M x j) : Lx (L ++ M) ((L.length : Int) + x) ((L.length : Int) + j) := by
  unfold Lx sc at *
  rw [rd_right L M x hx.1 hx.2, rd_right L M j hj.1 hj.2]
  omega
omit hL hM in
theorem one_out (S : List Int) (hS : S.Nodup) (hSb : bZ.length ≤ S.length) (x : Int) (hx : x ∈ bZ) (hxS : x ∉ S) : ∃ t ∈ S, t ∉ bZ := by
  refine Classical.byContradiction fun h => ?_
  have hall : ∀ t ∈ S, t ∈ bZ := fun t ht => Classical.byContradiction fun hn => h ⟨t, ht, hn⟩
  have := nodup_sub_len (x :: S) bZ (List.nodup_cons.2 ⟨hxS, hS⟩) (fun y hy => by
    rcases List.mem_cons.1 hy with rfl | hy
    · exact hx
    · exact hall y hy)
  simp only [List.length_cons] at this
  omega
omit hL hM in
theorem phi_left (i : Nat) (hi : i < bL.length) : phi L.length bL bM (i : Int) = bL[i] := by
  unfold phi
  rw [if_pos (by omega), rd_get bL i hi]
omit hL hM in
theorem phi_right (i : Nat) (hi : i < bM.length) : phi L.length bL bM ((bL.length + i : Nat) : Int) = (L.length : Int) + bM[i] := by
  unfold phi
  rw [if_neg (by omega), show ((bL.length + i : Nat) : Int) - (bL.length : Int) = (i : Int) by omega, rd_get bM i hi]
variable (hZ : PInv (kp L bL ++ kp M bM) b (bL.length + bM.length) bZ r)
include hZ
theorem out_phi (j : Int) (h0 : 0 ≤ j) (h1 : j < ((L.length + M.length : Nat) : Int)) (hj : j ∉ bZ.map (phi L.length bL bM)) : ∀ y ∈ bZ.map (phi L.length bL bM), Lx (L ++ M) y j := by
  intro y hy
  obtain ⟨x, hx, rfl⟩ := List.mem_map.1 hy
  have hxr := hZ.rng x hx
  have hzl := hZ.len
  have hll := hL.len
  have hml := hM.len
  by_cases c : j < (L.length : Int)
  · by_cases c2 : j ∈ bL
    · obtain ⟨i, hi, rfl⟩ := List.mem_iff_getElem.1 c2
      rw [← phi_left (L := L) (bM := bM) i hi] at hj ⊢
      have hni : (i : Int) ∉ bZ := fun h => hj (List.mem_map.2 ⟨_, h, rfl⟩)
      exact phi_lx hL hM x (i : Int) hxr.1 (by omega) (by omega) (by omega) (hZ.out (i : Int) (by omega) (by omega) hni x hx)
    · have hbl : bL.length = b := by
        rcases Nat.lt_or_ge b L.length with h | h
        · omega
        · exact absurd (hL.all h j h0 c) c2
      have hlt := hL.out j h0 c c2
      have hgo : ∀ i : Nat, ∀ hi : i < bL.length, Lx (L ++ M) (phi L.length bL bM (i : Int)) j := fun i hi => by
        rw [phi_left i hi]
        exact lx_left (hL.rng _ (List.getElem_mem hi)) ⟨h0, c⟩ (hlt _ (List.getElem_mem hi))
      by_cases c3 : x < (bL.length : Int)
      · obtain ⟨i, rfl⟩ := Int.eq_ofNat_of_zero_le hxr.1
        exact hgo i (by omega)
      · obtain ⟨t, ht, htz⟩ := one_out (bZ := bZ) ((List.range b).map (fun k : Nat => (k : Int))) (by unfold List.Nodup; rw [List.pairwise_map]; exact List.nodup_range.imp (fun h e => h (by omega))) (by simp; omega) x hx (by
          intro h
          obtain ⟨k, hk, e⟩ := List.mem_map.1 h
          have := List.mem_range.1 hk
          omega)
        obtain ⟨k, hk, rfl⟩ := List.mem_map.1 ht
        have hkb := List.mem_range.1 hk
        have h1 := phi_lx hL hM x (k : Int) hxr.1 (by omega) (by omega) (by omega) (hZ.out (k : Int) (by omega) (by omega) htz x hx)
        exact h1.trans (hgo k (by omega))
  · obtain ⟨j', hj'⟩ : ∃ j', j = (L.length : Int) + j' := ⟨j - L.length, by omega⟩
    subst hj'
    by_cases c2 : j' ∈ bM
    · obtain ⟨i, hi, rfl⟩ := List.mem_iff_getElem.1 c2
      rw [← phi_right (L := L) (bL := bL) i hi] at hj ⊢
      have hni : ((bL.length + i : Nat) : Int) ∉ bZ := fun h => hj (List.mem_map.2 ⟨_, h, rfl⟩)
      exact phi_lx hL hM x _ hxr.1 (by omega) (by omega) (by omega) (hZ.out _ (by omega) (by omega) hni x hx)
    · have hbl : bM.length = b := by
        rcases Nat.lt_or_ge b M.length with h | h
        · omega
        · exact absurd (hM.all h j' (by omega) (by omega)) c2
      have hlt := hM.out j' (by omega) (by omega) c2
      have hgo : ∀ i : Nat, ∀ hi : i < bM.length, Lx (L ++ M) (phi L.length bL bM ((bL.length + i : Nat) : Int)) ((L.length : Int) + j') := fun i hi => by
        rw [phi_right i hi]
        exact lx_right (hM.rng _ (List.getElem_mem hi)) ⟨by omega, by omega⟩ (hlt _ (List.getElem_mem hi))
      by_cases c3 : x < (bL.length : Int)
      · obtain ⟨t, ht, htz⟩ := one_out (bZ := bZ) ((List.range b).map (fun k : Nat => ((bL.length + k : Nat) : Int))) (by unfold List.Nodup; rw [List.pairwise_map]; exact List.nodup_range.imp (fun h e => h (by omega))) (by simp; omega) x hx (by
          intro h
          obtain ⟨k, hk, e⟩ := List.mem_map.1 h
          omega)
        obtain ⟨k, hk, rfl⟩ := List.mem_map.1 ht
        have hkb := List.mem_range.1 hk
        have h1 := phi_lx hL hM x _ hxr.1 (by omega) (by omega) (by omega) (hZ.out ((bL.length + k : Nat) : Int) (by omega) (by omega) htz x hx)
        exact h1.trans (hgo k (by omega))
      · obtain ⟨i, hi⟩ : ∃ i : Nat, x = ((bL.length + i : Nat) : Int) := ⟨(x - bL.length).toNat, by omega⟩
        subst hi
        exact hgo i (by omega)
theorem parts_best {bW : List Int} {s : Int} (hW : PInv (L ++ M) b (L.length + M.length) bW s) : bZ.map (phi L.length bL bM) = bW := by
  have hzl := hZ.len
  have hll := hL.len
  have hml := hM.len
  refine pinv_eq hW ?_ ?_ ?_ (fun j h0 h1 hj => out_phi hL hM hZ j h0 h1 hj)
  · rw [List.pairwise_map]
    exact hZ.sorted.imp_of_mem (fun {x y} hx hy h => phi_lx hL hM x y (hZ.rng x hx).1 (hZ.rng x hx).2 (hZ.rng y hy).1 (hZ.rng y hy).2 h)
  · intro y hy
    obtain ⟨x, hx, rfl⟩ := List.mem_map.1 hy
    exact (phi_rd hL hM x (hZ.rng x hx).1 (hZ.rng x hx).2).1
  · rw [List.length_map, hzl, hll, hml]
    omega
theorem parts_cut {bW : List Int} {s : Int} (hW : PInv (L ++ M) b (L.length + M.length) bW s) (hpos : ∀ j : Int, 0 ≤ j → j < ((L.length + M.length : Nat) : Int) → 0 ≤ sc (L ++ M) j) :
    (s = -1 ∧ p = -1 ∧ q = -1 ∧ r = -1) ∨ (0 ≤ s ∧ (p = -1 ∨ s ≤ p) ∧ (q = -1 ∨ s ≤ q) ∧ (r = -1 ∨ s ≤ r) ∧ (p = s ∨ q = s ∨ r = s)) := by
  have hzl := hZ.len
  have hll := hL.len
  have hml := hM.len
  have hbest := parts_best hL hM hZ hW
  rcases Nat.lt_or_ge b (L.length + M.length) with hlt | hge
  · right
    have hleft : ∀ j : Int, 0 ≤ j → j < (L.length : Int) → j ∈ bW → j ∈ bL := by
      intro j h0 h1 hj
      rw [← hbest] at hj
      obtain ⟨t, ht, rfl⟩ := List.mem_map.1 hj
      have htr := hZ.rng t ht
      by_cases c : t < (bL.length : Int)
      · obtain ⟨i, rfl⟩ := Int.eq_ofNat_of_zero_le htr.1
        rw [phi_left i (by omega)]
        exact List.getElem_mem _
      · obtain ⟨i, hi⟩ : ∃ i : Nat, t = ((bL.length + i : Nat) : Int) := ⟨(t - bL.length).toNat, by omega⟩
        subst hi
        have hib : i < bM.length := by omega
        rw [phi_right i hib] at h1
        have := hM.rng _ (List.getElem_mem hib)
        omega
    have hright : ∀ j : Int, 0 ≤ j → j < (M.length : Int) → (L.length : Int) + j ∈ bW → j ∈ bM := by
      intro j h0 h1 hj
      rw [← hbest] at hj
      obtain ⟨t, ht, he⟩ := List.mem_map.1 hj
      have htr := hZ.rng t ht
      by_cases c : t < (bL.length : Int)
      · obtain ⟨i, rfl⟩ := Int.eq_ofNat_of_zero_le htr.1
        have hib : i < bL.length := by omega
        rw [phi_left i hib] at he
        have := hL.rng _ (List.getElem_mem hib)
        omega
      · obtain ⟨i, hi⟩ : ∃ i : Nat, t = ((bL.length + i : Nat) : Int) := ⟨(t - bL.length).toNat, by omega⟩
        subst hi
        have hib : i < bM.length := by omega
        rw [phi_right i hib] at he
        have e : j = bM[i] := by omega
        rw [e]
        exact List.getElem_mem _
    have hphi : ∀ t : Int, 0 ≤ t → t < ((bL.length + bM.length : Nat) : Int) → t ∉ bZ → phi L.length bL bM t ∉ bW := by
      intro t h0 h1 ht hm
      rw [← hbest] at hm
      obtain ⟨u, hu, he⟩ := List.mem_map.1 hm
      have h2 := hZ.out t h0 h1 ht u hu
      have h3 := phi_lx hL hM u t (hZ.rng u hu).1 (hZ.rng u hu).2 h0 h1 h2
      exact h3.ne he
    obtain ⟨j, j0, j1, j2, j3⟩ := hW.cut_mem hlt
    have hs := hpos j j0 j1
    have hle := hW.cut_le hlt
    refine ⟨by omega, ?_, ?_, ?_, ?_⟩
    · rcases Nat.lt_or_ge b L.length with h | h
      · obtain ⟨i, i0, i1, i2, i3⟩ := hL.cut_mem h
        have := hle i i0 (by omega) (fun hm => i2 (hleft i i0 i1 hm))
        unfold sc at this i3
        rw [rd_left L M i i0 i1] at this
        omega
      · exact .inl (hL.none h)
    · rcases Nat.lt_or_ge b M.length with h | h
      · obtain ⟨i, i0, i1, i2, i3⟩ := hM.cut_mem h
        have := hle ((L.length : Int) + i) (by omega) (by omega) (fun hm => i2 (hright i i0 i1 hm))
        unfold sc at this i3
        rw [rd_right L M i i0 i1] at this
        omega
      · exact .inl (hM.none h)
    · rcases Nat.lt_or_ge b (bL.length + bM.length) with h | h
      · obtain ⟨i, i0, i1, i2, i3⟩ := hZ.cut_mem h
        have hr := phi_rd hL hM i i0 i1
        have := hle _ hr.1.1 hr.1.2 (hphi i i0 i1 i2)
        rw [phi_sc hL hM i i0 i1] at this
        omega
      · exact .inl (hZ.none h)
    · -- the one that costs s was left out somewhere
      have hz : ∀ t : Int, 0 ≤ t → t < ((bL.length + bM.length : Nat) : Int) → phi L.length bL bM t = j → r ≤ s ∧ b < bL.length + bM.length := by
        intro t h0 h1 he
        have htz : t ∉ bZ := fun hm => j2 (by rw [← hbest, ← he]; exact List.mem_map.2 ⟨t, hm, rfl⟩)
        have hb : b < bL.length + bM.length := by
          rcases Nat.lt_or_ge b (bL.length + bM.length) with h | h
          · exact h
          · exact absurd (hZ.all h t h0 h1) htz
        have := hZ.cut_le hb t h0 h1 htz
        rw [← phi_sc hL hM t h0 h1, he, j3] at this
        exact ⟨this, hb⟩
      have hrs : ∀ t : Int, 0 ≤ t → t < ((bL.length + bM.length : Nat) : Int) → phi L.length bL bM t = j → r = s := by
        intro t h0 h1 he
        obtain ⟨hr1, hb⟩ := hz t h0 h1 he
        obtain ⟨i, i0, i1, i2, i3⟩ := hZ.cut_mem hb
        have hr := phi_rd hL hM i i0 i1
        have := hle _ hr.1.1 hr.1.2 (hphi i i0 i1 i2)
        rw [phi_sc hL hM i i0 i1] at this
        omega
      by_cases c : j < (L.length : Int)
      · by_cases c2 : j ∈ bL
        · obtain ⟨i, hi, e⟩ := List.mem_iff_getElem.1 c2
          exact .inr (.inr (hrs (i : Int) (by omega) (by omega) (by rw [phi_left i hi, e])))
        · left
          have h : b < L.length := by
            rcases Nat.lt_or_ge b L.length with h | h
            · exact h
            · exact absurd (hL.all h j j0 c) c2
          have h1 := hL.cut_le h j j0 c c2
          obtain ⟨i, i0, i1, i2, i3⟩ := hL.cut_mem h
          have h2 := hle i i0 (by omega) (fun hm => i2 (hleft i i0 i1 hm))
          unfold sc at *
          rw [rd_left L M i i0 i1] at h2
          rw [rd_left L M j j0 c] at j3
          omega
      · obtain ⟨j', hj'⟩ : ∃ j', j = (L.length : Int) + j' := ⟨j - L.length, by omega⟩
        subst hj'
        by_cases c2 : j' ∈ bM
        · obtain ⟨i, hi, e⟩ := List.mem_iff_getElem.1 c2
          exact .inr (.inr (hrs ((bL.length + i : Nat) : Int) (by omega) (by omega) (by rw [phi_right i hi, e])))
        · right; left
          have h : b < M.length := by
            rcases Nat.lt_or_ge b M.length with h | h
            · exact h
            · exact absurd (hM.all h j' (by omega) (by omega)) c2
          have h1 := hM.cut_le h j' (by omega) (by omega) c2
          obtain ⟨i, i0, i1, i2, i3⟩ := hM.cut_mem h
          have h2 := hle ((L.length : Int) + i) (by omega) (by omega) (fun hm => i2 (hright i i0 i1 hm))
          unfold sc at *
          rw [rd_right L M i i0 i1] at h2
          rw [rd_right L M j' (by omega) (by omega)] at j3
          omega
  · left
    refine ⟨hW.none hge, hL.none (by omega), hM.none (by omega), hZ.none (by omega)⟩
theorem parts_kept {bW : List Int} {s : Int} (hW : PInv (L ++ M) b (L.length + M.length) bW s) : kp (kp L bL ++ kp M bM) bZ = kp (L ++ M) bW := by
  rw [← parts_best hL hM hZ hW]
  unfold kp
  rw [List.map_map]
  refine List.map_congr_left (fun t ht => ?_)
  exact ((phi_rd hL hM t (hZ.rng t ht).1 (hZ.rng t ht).2).2).symm
end
end Go.Proofs.Ytfhihhfckpolpaa.Pure
