/- A machine of values: how its blocks change. -/
import Derived.Test.YtekojicaeadepaaVmA
namespace Go.Vm
open Go.RowKit
section
variable {P : Program} {C : Ctx} {Z0 : Nat → Prop} {w0 : World} {hp : List Ob} {μ : Mu} {Z : Nat → Prop} {w : World}

theorem Live.of_set {r q : Nat} {o : Ob} (h : Live (hp.set r o) q) (hq : q ≠ r) : Live hp q := by
  unfold Live at *
  simpa [List.getElem?_set_ne (Ne.symm hq)] using h

theorem Lay.imp {R R' : A → Value → Prop} {sz : Nat} {cur : Array Value} {o : Nat} {l : List (List A)} (h : Lay R sz cur o l) (hr : ∀ x v, R x v → R' x v) : Lay R' sz cur o l :=
  ⟨h.len, fun i cs j x hi hj => let ⟨u, h1, h2⟩ := h.at_ i cs j x hi hj; ⟨u, h1, hr _ _ h2⟩⟩

theorem ObR.ext {hp' : List Ob} {μ' : Mu} {Z' : Nat → Prop} {w' : World} (E : Ext P hp μ Z w hp' μ' Z' w') {r : Nat} {o : Ob} (h : ObR P hp μ Z w r o)
    (hm : μ' r = μ r) (hb : ∀ b o', μ r = some (b, o') → w'.heap[b]? = w.heap[b]?) : ObR P hp' μ' Z' w' r o := by
  cases o with
  | dead => trivial
  | fro g l => trivial
  | row t g l =>
    obtain ⟨sz, h1, h2, h3⟩ := h
    refine ⟨sz, h1, h2, ?_⟩
    rw [hm]
    cases hq : μ r with
    | none => simpa [hq] using h3
    | some bo =>
      obtain ⟨b, o⟩ := bo
      simp only [hq] at h3 ⊢
      obtain ⟨cur, h4, h5, h6⟩ := h3
      exact ⟨cur, (hb b o hq).trans h4, h5.imp (fun x v hx => hx.mono E.z E.zh), h6⟩
  | box t cs =>
    obtain ⟨b, cur, h1, h2, h3⟩ := h
    exact ⟨b, cur, hm.trans h1, (hb b 0 h1).trans h2, h3.ext E⟩

/-- One block's word anew. -/
theorem HR.upd (H : HR P Z0 w0 hp μ Z w) {r : Nat} {o' : Ob} {m' : Option (Nat × Nat)} {w' : World} (hl : Live hp r)
    (hbel : Below w0.heap.size w0 w') (hsz : w.heap.size ≤ w'.heap.size)
    (hoth : ∀ k, k < w.heap.size → (∀ o, μ r ≠ some (k, o)) → w'.heap[k]? = w.heap[k]?)
    (hm : ∀ b o, m' = some (b, o) → (∃ o0, μ r = some (b, o0)) ∨ (w.heap.size ≤ b ∧ b < w'.heap.size))
    (hrow : ∀ (t : TypeId) (g : Nat) (l : List (List A)), o' = .row t g l →
      (∃ l0 : List (List A), hp[r]? = some (.row t g l0) ∧ l0.length = l.length ∧ m' = μ r ∧ ∀ b o cur, μ r = some (b, o) → w.heap[b]? = some (.cells cur t (0, 0)) → ∃ cur', w'.heap[b]? = some (.cells cur' t (0, 0)) ∧ cur'.size = cur.size) ∨
      ∃ t0 g0 l0, hp[r]? = some (.row t0 g0 l0) ∧ g0 < g)
    (hfro : ∀ g l, o' ≠ .fro g l)
    (hbox : ∀ (t : TypeId) (cs : List A), o' = .box t cs → ∃ cs0 : List A, hp[r]? = some (.box t cs0) ∧ cs0.length = cs.length ∧ m' = μ r)
    (hob : Ext P hp μ Z w (hp.set r o') (fun q => if q = r then m' else μ q) Z w' → ObR P (hp.set r o') (fun q => if q = r then m' else μ q) Z w' r o') :
    HR P Z0 w0 (hp.set r o') (fun q => if q = r then m' else μ q) Z w' ∧ Ext P hp μ Z w (hp.set r o') (fun q => if q = r then m' else μ q) Z w' := by
  have hlt : r < hp.length := by
    rcases hl with ⟨t, g, l, h⟩ | ⟨t, cs, h⟩ <;> exact (List.getElem?_eq_some_iff.1 h).1
  have hz : ∀ b, Z b → w'.heap[b]? = w.heap[b]? := fun b hb => hoth b (H.zlt b hb).1 (fun o e => (H.own r b o hl e).2.2 hb)
  have hq : ∀ q, q ≠ r → Live hp q → ∀ b o, μ q = some (b, o) → w'.heap[b]? = w.heap[b]? := fun q hqr hlq b o e =>
    hoth b (H.own q b o hlq e).2.1 (fun o2 e2 => hqr (H.inj q r b o o2 hlq hl e e2))
  have hset : ∀ q, q ≠ r → (hp.set r o')[q]? = hp[q]? := fun q h => List.getElem?_set_ne (Ne.symm h)
  have hself : (hp.set r o')[r]? = some o' := by simp [hlt]
  have E : Ext P hp μ Z w (hp.set r o') (fun q => if q = r then m' else μ q) Z w' := by
    refine ⟨by simp, fun _ h => h, hz, ?_, ?_, ?_⟩
    · intro q t g l hqlt h
      by_cases e : q = r
      · subst e
        rw [hself] at h
        simpa using hrow t g l (Option.some.inj h)
      · rw [hset q e] at h
        refine .inl ⟨l, h, rfl, by simp [e], fun b o cur h1 h2 => ⟨cur, (hq q e (.inl ⟨t, g, l, h⟩) b o h1).trans h2, rfl⟩⟩
    · intro q g l hqlt h
      by_cases e : q = r
      · subst e
        rw [hself] at h
        exact absurd (Option.some.inj h) (hfro g l)
      · rw [hset q e] at h
        exact .inl h
    · intro q t cs hqlt h
      by_cases e : q = r
      · subst e
        rw [hself] at h
        simpa using hbox t cs (Option.some.inj h)
      · rw [hset q e] at h
        exact ⟨cs, h, rfl, by simp [e]⟩
  refine ⟨⟨hbel, H.z0, fun b hb => ⟨Nat.lt_of_lt_of_le (H.zlt b hb).1 hsz, (H.zlt b hb).2⟩, ?_, ?_, ?_⟩, E⟩
  · intro q o hqo
    by_cases e : q = r
    · subst e
      rw [hself] at hqo
      obtain rfl := Option.some.inj hqo
      exact hob E
    · rw [hset q e] at hqo
      have hO := H.ob q o hqo
      cases o with
      | dead => trivial
      | fro g l => trivial
      | row t g l => exact hO.ext E (by simp [e]) (hq q e (.inl ⟨t, g, l, hqo⟩))
      | box t cs => exact hO.ext E (by simp [e]) (hq q e (.inr ⟨t, cs, hqo⟩))
  · intro q b o hlq hmq
    by_cases e : q = r
    · subst e
      simp only [if_true] at hmq
      rcases hm b o hmq with ⟨o0, h⟩ | ⟨h1, h2⟩
      · have := H.own q b o0 hl h
        exact ⟨this.1, Nat.lt_of_lt_of_le this.2.1 hsz, this.2.2⟩
      · exact ⟨Nat.le_trans H.below.size h1, h2, fun hz => by have := (H.zlt b hz).1; omega⟩
    · simp only [if_neg e] at hmq
      have := H.own q b o (hlq.of_set e) hmq
      exact ⟨this.1, Nat.lt_of_lt_of_le this.2.1 hsz, this.2.2⟩
  · intro q q' b o o2 h1 h2 e1 e2
    by_cases a1 : q = r <;> by_cases a2 : q' = r
    · rw [a1, a2]
    · exfalso
      simp only [if_pos a1, if_neg a2] at e1 e2
      have hk := H.own q' b o2 (h2.of_set a2) e2
      rcases hm b o e1 with ⟨o0, h⟩ | ⟨h3, _⟩
      · exact a2 (H.inj q' r b o2 o0 (h2.of_set a2) hl e2 h)
      · omega
    · exfalso
      simp only [if_neg a1, if_pos a2] at e1 e2
      have hk := H.own q b o (h1.of_set a1) e1
      rcases hm b o2 e2 with ⟨o0, h⟩ | ⟨h3, _⟩
      · exact a1 (H.inj q r b o o0 (h1.of_set a1) hl e1 h)
      · omega
    · simp only [if_neg a1, if_neg a2] at e1 e2
      exact H.inj q q' b o o2 (h1.of_set a1) (h2.of_set a2) e1 e2

theorem Live.of_push {q : Nat} {o : Ob} (h : Live (hp ++ [o]) q) (hq : q ≠ hp.length) : Live hp q := by
  unfold Live at *
  rcases h with ⟨t, g, l, h⟩ | ⟨t, cs, h⟩
  · refine .inl ⟨t, g, l, ?_⟩
    rw [List.getElem?_append] at h
    split at h
    · exact h
    · rename_i hn
      have : 0 < q - hp.length := by omega
      rw [List.getElem?_eq_none (by simp; omega)] at h
      cases h
  · refine .inr ⟨t, cs, ?_⟩
    rw [List.getElem?_append] at h
    split at h
    · exact h
    · rename_i hn
      rw [List.getElem?_eq_none (by simp; omega)] at h
      cases h

/-- A block more. -/
theorem HR.push (H : HR P Z0 w0 hp μ Z w) {o' : Ob} {m' : Option (Nat × Nat)} {w' : World}
    (hbel : Below w0.heap.size w0 w') (hsz : w.heap.size ≤ w'.heap.size)
    (hoth : ∀ k, k < w.heap.size → w'.heap[k]? = w.heap[k]?)
    (hm : ∀ b o, m' = some (b, o) → w.heap.size ≤ b ∧ b < w'.heap.size)
    (hob : Ext P hp μ Z w (hp ++ [o']) (fun q => if q = hp.length then m' else μ q) Z w' → ObR P (hp ++ [o']) (fun q => if q = hp.length then m' else μ q) Z w' hp.length o') :
    HR P Z0 w0 (hp ++ [o']) (fun q => if q = hp.length then m' else μ q) Z w' ∧ Ext P hp μ Z w (hp ++ [o']) (fun q => if q = hp.length then m' else μ q) Z w' := by
  have hz : ∀ b, Z b → w'.heap[b]? = w.heap[b]? := fun b hb => hoth b (H.zlt b hb).1
  have hset : ∀ q, q < hp.length → (hp ++ [o'])[q]? = hp[q]? := fun q h => List.getElem?_append_left h
  have hself : (hp ++ [o'])[hp.length]? = some o' := by simp
  have hlt : ∀ q o, (hp ++ [o'])[q]? = some o → q = hp.length ∨ q < hp.length := fun q o h => by
    have := (List.getElem?_eq_some_iff.1 h).1
    simp at this
    omega
  have E : Ext P hp μ Z w (hp ++ [o']) (fun q => if q = hp.length then m' else μ q) Z w' := by
    refine ⟨by simp, fun _ h => h, hz, ?_, ?_, ?_⟩
    · intro q t g l hqlt h
      rw [hset q hqlt] at h
      refine .inl ⟨l, h, rfl, by simp [Nat.ne_of_lt hqlt], fun b o cur h1 h2 => ⟨cur, (hoth b (H.own q b o (.inl ⟨t, g, l, h⟩) h1).2.1).trans h2, rfl⟩⟩
    · intro q g l hqlt h
      rw [hset q hqlt] at h
      exact .inl h
    · intro q t cs hqlt h
      rw [hset q hqlt] at h
      exact ⟨cs, h, rfl, by simp [Nat.ne_of_lt hqlt]⟩
  refine ⟨⟨hbel, H.z0, fun b hb => ⟨Nat.lt_of_lt_of_le (H.zlt b hb).1 hsz, (H.zlt b hb).2⟩, ?_, ?_, ?_⟩, E⟩
  · intro q o hqo
    rcases hlt q o hqo with rfl | e
    · rw [hself] at hqo
      obtain rfl := Option.some.inj hqo
      exact hob E
    · rw [hset q e] at hqo
      have hO := H.ob q o hqo
      cases o with
      | dead => trivial
      | fro g l => trivial
      | row t g l => exact hO.ext E (by simp [Nat.ne_of_lt e]) (fun b o h => hoth b (H.own q b o (.inl ⟨t, g, l, hqo⟩) h).2.1)
      | box t cs => exact hO.ext E (by simp [Nat.ne_of_lt e]) (fun b o h => hoth b (H.own q b o (.inr ⟨t, cs, hqo⟩) h).2.1)
  · intro q b o hlq hmq
    by_cases e : q = hp.length
    · subst e
      simp only [if_true] at hmq
      obtain ⟨h1, h2⟩ := hm b o hmq
      exact ⟨Nat.le_trans H.below.size h1, h2, fun hz => by have := (H.zlt b hz).1; omega⟩
    · simp only [if_neg e] at hmq
      have := H.own q b o (hlq.of_push e) hmq
      exact ⟨this.1, Nat.lt_of_lt_of_le this.2.1 hsz, this.2.2⟩
  · intro q q' b o o2 h1 h2 e1 e2
    by_cases a1 : q = hp.length <;> by_cases a2 : q' = hp.length
    · rw [a1, a2]
    · exfalso
      simp only [if_pos a1, if_neg a2] at e1 e2
      have hk := H.own q' b o2 (h2.of_push a2) e2
      have := hm b o e1
      omega
    · exfalso
      simp only [if_neg a1, if_pos a2] at e1 e2
      have hk := H.own q b o (h1.of_push a1) e1
      have := hm b o2 e2
      omega
    · simp only [if_neg a1, if_neg a2] at e1 e2
      exact H.inj q q' b o o2 (h1.of_push a1) (h2.of_push a2) e1 e2

/-- What has a row over a block says of it, read. -/
theorem Over.iv {r a n : Nat} {t : TypeId} {g : Nat} {l : List (List A)} {v : Value} {Z' : Nat → Prop} (h : Over P μ w r t a n v) (ho : ObR P hp μ Z w r (.row t g l)) (ha : a + n ≤ l.length)
    (hz : ∀ b, Z b → Z' b) (hb : ∀ b o, μ r = some (b, o) → Z' b) : IV Z' w (.sl ((l.take (a + n)).drop a)) v := by
  obtain ⟨c, h1, h2⟩ := h
  have hlen : ((l.take (a + n)).drop a).length = n := by simp; omega
  rcases h2 with ⟨rfl, ad, rfl⟩ | ⟨b, o, sz, cur, h3, h4, rfl, h6, h7⟩
  · obtain rfl : n = 0 := by omega
    rw [List.eq_nil_of_length_eq_zero hlen]
    exact .sl0 ad 0
  · obtain ⟨sz', h8, h9, h10⟩ := ho
    rw [h4] at h8
    obtain rfl := Option.some.inj h8
    simp only [h3] at h10
    obtain ⟨cur', h11, h12, h13⟩ := h10
    rw [h6] at h11
    obtain ⟨rfl, _⟩ : cur = cur' ∧ True := by
      have := Option.some.inj h11
      injection this with e
      exact ⟨e, trivial⟩
    have := IV.of_lay (Z := Z') (w := w) (l := (l.take (a + n)).drop a) (b := b) (o := o + a * sz) (c := c) (sz := sz) (hb b o h3) h6 (by omega) ?_
    · rw [hlen] at this
      exact this
    · have hget : ∀ (i : Nat) (cs : List A), ((l.take (a + n)).drop a)[i]? = some cs → l[a + i]? = some cs := by
        intro i cs hi
        rw [List.getElem?_drop, List.getElem?_take] at hi
        split at hi
        · exact hi
        · cases hi
      refine ⟨fun i cs hi => h12.len _ _ (hget i cs hi), fun i cs j x hi hj => ?_⟩
      obtain ⟨u, hu1, hu2⟩ := h12.at_ _ _ _ _ (hget i cs hi) hj
      refine ⟨u, ?_, hu2.mono hz (fun _ _ => rfl)⟩
      rw [← hu1]
      congr 1
      rw [Nat.add_mul]
      omega

/-- A row is changed no more. -/
theorem HR.freeze (H : HR P Z0 w0 hp μ Z w) {r g : Nat} {t : TypeId} {l : List (List A)} (hr : hp[r]? = some (.row t g l)) :
    ∃ Z', HR P Z0 w0 (hp.set r (.fro g l)) μ Z' w ∧ Ext P hp μ Z w (hp.set r (.fro g l)) μ Z' w := by
  have hl : Live hp r := .inl ⟨t, g, l, hr⟩
  have hlt : r < hp.length := (List.getElem?_eq_some_iff.1 hr).1
  have hset : ∀ q, q ≠ r → (hp.set r (.fro g l))[q]? = hp[q]? := fun q h => List.getElem?_set_ne (Ne.symm h)
  have hself : (hp.set r (.fro g l))[r]? = some (.fro g l) := by simp [hlt]
  have hnl : ¬ Live (hp.set r (.fro g l)) r := by
    rintro (⟨t', g', l', h⟩ | ⟨t', cs, h⟩) <;> rw [hself] at h <;> cases h
  refine ⟨fun b => Z b ∨ ∃ o, μ r = some (b, o), ?_⟩
  have E : Ext P hp μ Z w (hp.set r (.fro g l)) μ (fun b => Z b ∨ ∃ o, μ r = some (b, o)) w := by
    refine ⟨by simp, fun _ h => .inl h, fun _ _ => rfl, ?_, ?_, ?_⟩
    · intro q t' g' l' hqlt h
      by_cases e : q = r
      · subst e; rw [hself] at h; cases h
      · rw [hset q e] at h
        exact .inl ⟨l', h, rfl, rfl, fun b o cur h1 h2 => ⟨cur, h2, rfl⟩⟩
    · intro q g' l' hqlt h
      by_cases e : q = r
      · subst e
        rw [hself] at h
        obtain ⟨rfl, rfl⟩ : g = g' ∧ l = l' := by
          have := Option.some.inj h
          injection this with e1 e2
          exact ⟨e1, e2⟩
        refine .inr (.inl ⟨t, l, hr, rfl, fun a e v h1 h2 h3 => ?_⟩)
        have := h3.iv (Z' := fun b => Z b ∨ ∃ o, μ q = some (b, o)) (H.ob q _ hr) (by omega) (fun _ h => .inl h) (fun b o h => .inr ⟨o, h⟩)
        rwa [show a + (e - a) = e by omega] at this
      · rw [hset q e] at h
        exact .inl h
    · intro q t' cs hqlt h
      by_cases e : q = r
      · subst e; rw [hself] at h; cases h
      · rw [hset q e] at h
        exact ⟨cs, h, rfl, rfl⟩
  refine ⟨⟨H.below, fun b h => .inl (H.z0 b h), ?_, ?_, ?_, ?_⟩, E⟩
  · rintro b (h | ⟨o, h⟩)
    · exact H.zlt b h
    · have := H.own r b o hl h
      exact ⟨this.2.1, .inr this.1⟩
  · intro q o hqo
    by_cases e : q = r
    · subst e
      rw [hself] at hqo
      obtain rfl := Option.some.inj hqo
      trivial
    · rw [hset q e] at hqo
      exact (H.ob q o hqo).ext E rfl (fun _ _ _ => rfl)
  · intro q b o hlq hmq
    have e : q ≠ r := fun e => hnl (e ▸ hlq)
    have := H.own q b o (hlq.of_set e) hmq
    refine ⟨this.1, this.2.1, ?_⟩
    rintro (h | ⟨o2, h⟩)
    · exact this.2.2 h
    · exact e (H.inj q r b o o2 (hlq.of_set e) hl hmq h)
  · intro q q' b o o2 h1 h2 e1 e2
    have a1 : q ≠ r := fun e => hnl (e ▸ h1)
    have a2 : q' ≠ r := fun e => hnl (e ▸ h2)
    exact H.inj q q' b o o2 (h1.of_set a1) (h2.of_set a2) e1 e2
end
end Go.Vm
