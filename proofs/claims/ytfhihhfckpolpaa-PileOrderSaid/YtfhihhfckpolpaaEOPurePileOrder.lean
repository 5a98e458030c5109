/- What the law's proof needs: PurePileOrder. -/
import Derived.Test.YtfhihhfckpolpaaEOPxVolutelaw09Pileorder
import Derived.Test.YtfhihhfckpolpaaEOPileMore
namespace Go.Proofs.Ytfhihhfckpolpaa.Pure
open Go.RowKit Go.Proofs.Ytfhihhfckpolpaa.P Go.Proofs.YtfhihhfckpolpaaW.PrintWords Go.Proofs.YtfhihhfckpolpaaW.PrintLast Go.Proofs.YtfhihhfckpolpaaW.PrintMore
set_option linter.unusedVariables false
set_option linter.unusedSimpArgs false
theorem chk_ext {m : Int} (a : List Sy) : ∀ (b : List Sy) (last : Int), chkB m last a = true → chkB m last b = true → (∀ s, s ∈ a ↔ s ∈ b) → a = b := by
  induction a with
  | nil =>
    intro b last _ _ h
    cases b with
    | nil => rfl
    | cons s r => exact absurd ((h s).2 (by simp)) (by simp)
  | cons x a ih =>
    intro b last ha hb h
    cases b with
    | nil => exact absurd ((h x).1 (by simp)) (by simp)
    | cons y b =>
      simp only [chkB, Bool.and_eq_true, decide_eq_true_eq] at ha hb
      obtain ⟨a1, a2, a3, a4⟩ := ha
      obtain ⟨b1, b2, b3, b4⟩ := hb
      have hxy : x = y := by
        rcases List.mem_cons.1 ((h x).1 (by simp)) with e | hx
        · exact e
        · rcases List.mem_cons.1 ((h y).2 (by simp)) with e | hy
          · exact e.symm
          · have h1 := (chk_gt b _ b4 x hx).1
            have h2 := (chk_gt a _ a4 y hy).1
            omega
      subst hxy
      congr 1
      refine ih b _ a4 b4 (fun s => ?_)
      constructor
      · intro hs
        rcases List.mem_cons.1 ((h s).1 (List.mem_cons_of_mem _ hs)) with rfl | hs2
        · have := (chk_gt a _ a4 s hs).1; omega
        · exact hs2
      · intro hs
        rcases List.mem_cons.1 ((h s).2 (List.mem_cons_of_mem _ hs)) with rfl | hs2
        · have := (chk_gt b _ b4 s hs).1; omega
        · exact hs2
def plc (M x : Int) : Int := Int.tmod (wrap64 (x * 7)) M
def vlu (v : List Int) (x : Int) : Int := wrap64 (Int.tmod (IntKind.u64.wrap (rd v x)) 256)
def syOf (M : Int) (v : List Int) (x : Int) : Sy := ⟨plc M x, vlu v x⟩
theorem plc_rng {M : Int} (hM : 1 ≤ M) (x : Int) (h0 : 0 ≤ x) (h1 : x ≤ 1000) : 0 ≤ plc M x ∧ plc M x < M := by
  unfold plc
  rw [w64 (by omega) (by omega), Int.tmod_eq_emod_of_nonneg (by omega)]
  exact ⟨Int.emod_nonneg _ (by omega), Int.emod_lt_of_pos _ (by omega)⟩
theorem vlu_byte (v : List Int) (x : Int) : byteV (vlu v x) = true := by
  have := umod (rd v x) 256 (by omega) (by omega)
  unfold byteV vlu
  rw [decide_eq_true this.1, decide_eq_true (by omega)]; rfl
section
variable (n p M : Int) (hnp : n * p = M) (hM : 1 ≤ M ∧ M ≤ 120) (v : List Int) (hv : (v.length : Int) ≤ M)
def IsOf (n p M : Int) (v l : List Int) (A : List Sy) : Prop :=
  pileB n p A = true ∧ A.length = l.length ∧ (∀ s, s ∈ A ↔ ∃ x ∈ l, s = syOf M v x) ∧ (l.map (plc M)).Nodup ∧ (∀ x ∈ l, 0 ≤ x ∧ x < (v.length : Int))
include hnp hM hv
theorem put_new (l : List Int) (A : List Sy) (h : IsOf n p M v l A) (x : Int) (h0 : 0 ≤ x) (h1 : x < (v.length : Int)) (hx : plc M x ∉ l.map (plc M)) : freshB (n * p) (plc M x) A = true ∧ IsOf n p M v (l ++ [x]) (ins (plc M x) (vlu v x) A) := by
  obtain ⟨hp, hl, hm, hn, hr⟩ := h
  have hpb := hp
  simp only [pileB, Bool.and_eq_true] at hpb
  have hpl := plc_rng hM.1 x h0 (by omega)
  have hno : hasB (plc M x) A = false := by
    cases hb : hasB (plc M x) A with
    | false => rfl
    | true =>
      obtain ⟨s, hs, e⟩ := (has_mem A _ hpb.2 _).1 hb
      obtain ⟨y, hy, rfl⟩ := (hm s).1 hs
      exact absurd (List.mem_map.2 ⟨y, hy, e⟩) hx
  have hf : freshB (n * p) (plc M x) A = true := by
    unfold freshB
    rw [hno, hnp, decide_eq_true hpl.2]; rfl
  refine ⟨hf, pile_ins hp _ _ hpl.1 (vlu_byte v x) hf, by rw [ins_length, hl]; simp, fun s => ?_, ?_, ?_⟩
  · rw [mem_ins, hm s]
    constructor
    · rintro (rfl | ⟨y, hy, e⟩)
      · exact ⟨x, by simp, rfl⟩
      · exact ⟨y, by simp [hy], e⟩
    · rintro ⟨y, hy, e⟩
      rcases List.mem_append.1 hy with hy | hy
      · exact .inr ⟨y, hy, e⟩
      · rw [List.mem_singleton] at hy; subst hy; exact .inl e
  · rw [List.map_append, List.nodup_append]
    refine ⟨hn, by simp, fun a ha b hb => ?_⟩
    simp only [List.map_cons, List.map_nil, List.mem_singleton] at hb
    subst hb
    exact fun e => hx (e ▸ ha)
  · intro y hy
    rcases List.mem_append.1 hy with hy | hy
    · exact hr y hy
    · rw [List.mem_singleton] at hy; subst hy; exact ⟨h0, h1⟩
omit hnp hM hv in
theorem put_old (l : List Int) (A : List Sy) (h : IsOf n p M v l A) (x : Int) (hx : plc M x ∈ l.map (plc M)) : freshB (n * p) (plc M x) A = false := by
  obtain ⟨hp, hl, hm, hn, hr⟩ := h
  have hpb := hp
  simp only [pileB, Bool.and_eq_true] at hpb
  obtain ⟨y, hy, e⟩ := List.mem_map.1 hx
  have : hasB (plc M x) A = true := (has_mem A _ hpb.2 _).2 ⟨syOf M v y, (hm _).2 ⟨y, hy, rfl⟩, e⟩
  unfold freshB
  rw [this]; rfl
theorem order_l2 (A : List Sy) (l : List Int) (hA : IsOf n p M v l A) : ∀ (rest pre : List Int) (B : List Sy) (k : Nat), l = pre ++ rest → IsOf n p M v pre B → rest.length + 1300 < k →
    volutelaw09_PileOrder.l2 k v M l (pre.length : Int) n p A n p B = some true := by
  have hAl : A.length ≤ 1100 := by
    have := hA.1
    simp only [pileB, Bool.and_eq_true] at this
    have := chk_len A _ this.2 (by omega)
    omega
  have hll : l.length ≤ 1100 := by rw [← hA.2.1]; exact hAl
  intro rest
  induction rest with
  | nil =>
    intro pre B k e hB hk
    obtain ⟨k, rfl⟩ : ∃ j, k = j + 1 := ⟨k - 1, by omega⟩
    rw [List.append_nil] at e
    subst e
    have hAB : A = B := by
      have h1 := hA.1
      have h2 := hB.1
      simp only [pileB, Bool.and_eq_true] at h1 h2
      exact chk_ext A B _ h1.2 h2.2 (fun s => (hA.2.2.1 s).trans (hB.2.2.1 s).symm)
    subst hAB
    rw [volutelaw09_PileOrder.l2, if_neg (by omega), keepPile n p A (by omega) k (by omega), Option.bind_some, if_pos rfl, if_pos (by rw [hA.2.1]), wakes09 k (by omega)]
    rfl
  | cons x rest ih =>
    intro pre B k e hB hk
    simp only [List.length_cons] at hk
    obtain ⟨k, rfl⟩ : ∃ j, k = j + 1 := ⟨k - 1, by omega⟩
    have hlp : l.length = pre.length + (rest.length + 1) := by rw [e]; simp
    have hrd : rd l (pre.length : Int) = x := by rw [e]; unfold rd; simp
    have hx := hA.2.2.2.2 x (by rw [e]; simp)
    have hnd : plc M x ∉ pre.map (plc M) := by
      have := hA.2.2.2.1
      rw [e, List.map_append, List.nodup_append] at this
      intro hm
      exact this.2.2 _ hm _ (by simp) rfl
    obtain ⟨hf, hnew⟩ := put_new n p M hnp hM v hv pre B hB x hx.1 hx.2 hnd
    have hpl := plc_rng hM.1 x hx.1 (by omega)
    have hput := put_f hB.1 (plc M x) (vlu v x) ⟨hpl.1, by omega⟩ (vlu_byte v x) k (by omega)
    rw [hf, if_pos rfl] at hput
    rw [volutelaw09_PileOrder.l2, if_pos (by omega), if_pos (by omega), if_neg (by omega), hrd, if_pos hx.1, if_pos hx.2]
    show ((pile_Put.f k n p B (plc M x) (vlu v x)).bind _) = _
    rw [hput, Option.bind_some]
    dsimp only
    rw [if_pos rfl, if_pos rfl, wadd1 _ (by omega)]
    have := ih (pre ++ [x]) _ k (by rw [e]; simp) hnew (by omega)
    rw [List.length_append] at this
    exact this
omit hnp hM hv in
theorem isof_perm {l l' : List Int} {A : List Sy} (h : IsOf n p M v l A) (hp : l'.Perm l) : IsOf n p M v l' A := by
  obtain ⟨h1, h2, h3, h4, h5⟩ := h
  refine ⟨h1, by rw [h2, hp.length_eq], fun s => (h3 s).trans ⟨fun ⟨x, hx, e⟩ => ⟨x, hp.mem_iff.2 hx, e⟩, fun ⟨x, hx, e⟩ => ⟨x, hp.mem_iff.1 hx, e⟩⟩, (hp.map _).nodup_iff.2 h4, fun x hx => h5 x (hp.mem_iff.1 hx)⟩
omit hnp hM hv in
theorem isof_nil (hmay : mayB n p = true) : IsOf n p M v [] [] := ⟨by unfold pileB; rw [hmay]; rfl, rfl, fun s => by simp, by simp, fun x hx => by cases hx⟩
theorem order_l1 (hmay : mayB n p = true) (o : List Int) (ho : o.length ≤ 300) (A : List Sy) (d : Nat) : ∀ (k i : Nat) (l : List Int), i ≤ o.length → o.length - i = d → IsOf n p M v l A → d + 2600 < k →
    volutelaw09_PileOrder.l1 k v o M l (i : Int) n p A n p [] = some true := by
  have hfin : ∀ (k : Nat) (l : List Int), IsOf n p M v l A → 2500 < k → volutelaw09_PileOrder.j4 k v M l n p A n p [] = some true := by
    intro k l hl hk
    obtain ⟨k, rfl⟩ : ∃ j, k = j + 1 := ⟨k - 1, by omega⟩
    have hAl : l.length ≤ 1100 := by
      rw [← hl.2.1]
      have := hl.1
      simp only [pileB, Bool.and_eq_true] at this
      have := chk_len A _ this.2 (by omega)
      omega
    rw [volutelaw09_PileOrder.j4]
    exact order_l2 n p M hnp hM v hv A l hl l [] [] k rfl (isof_nil n p M v hmay) (by omega)
  induction d with
  | zero =>
    intro k i l hi hd hl hk
    obtain ⟨k, rfl⟩ : ∃ j, k = j + 1 := ⟨k - 1, by omega⟩
    rw [volutelaw09_PileOrder.l1, if_neg (by omega)]
    exact hfin k l hl (by omega)
  | succ d ih =>
    intro k i l hi hd hl hk
    obtain ⟨k, rfl⟩ : ∃ j, k = j + 1 := ⟨k - 1, by omega⟩
    rw [volutelaw09_PileOrder.l1, if_pos (by omega)]
    by_cases c : (l.length : Int) > 0
    · have hAl : l.length ≤ 1100 := by
        rw [← hl.2.1]
        have := hl.1
        simp only [pileB, Bool.and_eq_true] at this
        have := chk_len A _ this.2 (by omega)
        omega
      have eu : IntKind.u64.wrap (l.length : Int) = (l.length : Int) := u64_nat _ (by omega)
      have hkk := umod (rd o (i : Int)) (l.length : Int) (by omega) (by omega)
      obtain ⟨q, hq⟩ : ∃ q, q = wrap64 (Int.tmod (IntKind.u64.wrap (rd o (i : Int))) (l.length : Int)) := ⟨_, rfl⟩
      rw [← hq] at hkk
      have hj0 : Int.tmod (i : Int) (l.length : Int) = ((i % l.length : Nat) : Int) := by rw [Int.tmod_eq_emod_of_nonneg (by omega)]; simp
      have hjl : i % l.length < l.length := Nat.mod_lt _ (by omega)
      rw [if_pos c, if_pos (by omega), eu, if_neg (by omega), if_neg (by omega), hj0, if_pos (by omega), if_pos (by omega), ← hq, if_pos hkk.1, if_pos hkk.2, wadd1 _ (by omega)]
      obtain ⟨q, rfl⟩ := Int.eq_ofNat_of_zero_le hkk.1
      have hql : q < l.length := by omega
      simp only [Int.toNat_natCast]
      rw [rd_get l _ hjl, rd_get l _ hql]
      exact ih k (i + 1) _ (by omega) (by omega) (isof_perm n p M v hl (List.set_set_perm hql hjl)) (by omega)
    · rw [if_neg c]
      exact hfin k l hl (by omega)
theorem order_l0 (hmay : mayB n p = true) (o : List Int) (ho : o.length ≤ 300) (d : Nat) : ∀ (k j : Nat) (l : List Int) (A : List Sy), j ≤ v.length → v.length - j = d → IsOf n p M v l A → l.length ≤ j → d + 3000 < k →
    volutelaw09_PileOrder.l0 k v o M l (j : Int) n p A n p [] = some true := by
  induction d with
  | zero =>
    intro k j l A hj hd hA hlj hk
    obtain ⟨k, rfl⟩ : ∃ m, k = m + 1 := ⟨k - 1, by omega⟩
    rw [volutelaw09_PileOrder.l0, if_neg (by omega)]
    exact order_l1 n p M hnp hM v hv hmay o ho A o.length k 0 l (by omega) (by omega) hA (by omega)
  | succ d ih =>
    intro k j l A hj hd hA hlj hk
    obtain ⟨k, rfl⟩ : ∃ m, k = m + 1 := ⟨k - 1, by omega⟩
    have hpl := plc_rng hM.1 (j : Int) (by omega) (by omega)
    rw [volutelaw09_PileOrder.l0, if_pos (by omega), if_pos (by omega), Option.bind_some, if_neg (by omega), if_pos (by omega)]
    show ((pile_Put.f k n p A (plc M j) (vlu v j)).bind _) = _
    have hput := put_f hA.1 (plc M j) (vlu v j) ⟨hpl.1, by omega⟩ (vlu_byte v j) k (by omega)
    by_cases c : plc M (j : Int) ∈ l.map (plc M)
    · have hf := put_old n p M v l A hA j c
      rw [hf, if_neg (by decide)] at hput
      have e1 : wrap64 (((l ++ [(j : Int)]).length : Int) - 1) = (l.length : Int) := by
        rw [List.length_append, List.length_singleton]
        have := wsub (l.length + 1) 1 (by omega) (by omega)
        simpa using this
      rw [hput, Option.bind_some]
      dsimp only
      rw [if_pos rfl, if_neg (by decide), e1, if_pos (by omega), if_pos (by rw [List.length_append]; omega), wadd1 _ (by omega), Int.toNat_natCast, List.take_left']
      · exact ih k (j + 1) l A (by omega) (by omega) hA (by omega) (by omega)
      · rfl
    · obtain ⟨hf, hnew⟩ := put_new n p M hnp hM v hv l A hA j (by omega) (by omega) c
      rw [hf, if_pos rfl] at hput
      rw [hput, Option.bind_some]
      dsimp only
      rw [if_pos rfl, if_pos rfl, wadd1 _ (by omega)]
      exact ih k (j + 1) _ _ (by omega) (by omega) hnew (by rw [List.length_append, List.length_singleton]; omega) (by omega)
end
theorem PileOrder : volutelaw09_PileOrder.Pure := by
  intro a0 a1 v o h0 h1 hm hl hw hm2 hl2 hw2
  refine ⟨5000, ?_⟩
  have hn := umod a0 20 (by omega) (by omega)
  have hp := umod a1 6 (by omega) (by omega)
  unfold volutelaw09_PileOrder.f
  obtain ⟨x, hx⟩ : ∃ x, x = wrap64 (Int.tmod (IntKind.u64.wrap a0) 20) := ⟨_, rfl⟩
  obtain ⟨y, hy⟩ : ∃ y, y = wrap64 (Int.tmod (IntKind.u64.wrap a1) 6) := ⟨_, rfl⟩
  rw [← hx] at hn ⊢
  rw [← hy] at hp ⊢
  have ex : wrap64 (1 + x) = 1 + x := w64 (by omega) (by omega)
  have ey : wrap64 (1 + y) = 1 + y := w64 (by omega) (by omega)
  rw [ex, ey]
  obtain ⟨n, hne⟩ : ∃ n, n = 1 + x := ⟨_, rfl⟩
  obtain ⟨p, hpe⟩ : ∃ p, p = 1 + y := ⟨_, rfl⟩
  rw [← hne, ← hpe]
  have hmay : mayB n p = true := by
    unfold mayB
    rw [decide_eq_true (by omega), decide_eq_true (by omega), decide_eq_true (by omega), decide_eq_true (by omega)]; rfl
  have hM2 : n * p ≤ 120 := by
    have := Int.mul_le_mul (show n ≤ 20 by omega) (show p ≤ 6 by omega) (by omega) (by omega)
    omega
  have hM1 : 1 ≤ n * p := (may_nums hmay).2.2.1
  have ew : wrap64 (n * p) = n * p := w64 (by omega) (by omega)
  rw [ew]
  have hj0 : ∀ b : Bool, (b = false → (v.length : Int) ≤ n * p ∧ o.length ≤ 300) → volutelaw09_PileOrder.j0 5000 n p v o (n * p) b = some true := by
    intro b hb
    cases b with
    | true => rfl
    | false =>
      obtain ⟨hv, ho⟩ := hb rfl
      show volutelaw09_PileOrder.j0 (4999 + 1) n p v o (n * p) false = _
      rw [volutelaw09_PileOrder.j0, if_neg (by decide), new_f n p hmay, Option.bind_some, Option.bind_some]
      dsimp only
      rw [if_pos rfl]
      show volutelaw09_PileOrder.j1 (4998 + 1) v o (n * p) _ n p [] n p [] = _
      rw [volutelaw09_PileOrder.j1, if_neg (by decide)]
      exact order_l0 n p (n * p) rfl ⟨hM1, hM2⟩ v hv hmay o ho v.length 4998 0 [] [] (by omega) (by omega) (isof_nil n p (n * p) v hmay) (by simp) (by omega)
  by_cases c : (v.length : Int) > n * p
  · rw [if_pos c]; exact hj0 true (by intro h; cases h)
  · rw [if_neg c]
    refine hj0 _ (fun h => ⟨by omega, ?_⟩)
    have := of_decide_eq_false h
    omega
end Go.Proofs.Ytfhihhfckpolpaa.Pure
