/- A machine of values: code. -/
import Derived.Test.YtekojicaeadepaaVmJ
namespace Go.Vm
open Go.RowKit
set_option linter.unusedVariables false
set_option linter.unusedSimpArgs false

def lift (P : Program) (C : Ctx) (K : Exit → St → Prop) : Exit → Act → World → Prop := fun e a w => ∃ st, K e st ∧ Rel P C st a w

def OpsS (P : Program) (C : Ctx) (ops : Array Oper) (l : List Oper) (st : St) (K : Exit → St → Prop) : Prop :=
  ∀ a w, Rel P C st a w → wpList P ops (lift P C K) l a w

def CodeS (P : Program) (C : Ctx) (c : Code) (st : St) (K : Exit → St → Prop) : Prop :=
  ∀ a w, Rel P C st a w → c.wp P (lift P C K) a w

section
variable {P : Program} {C : Ctx} {Z0 : Nat → Prop} {w0 : World} {hp hp' : List Ob} {μ μ' : Mu} {Z Z' : Nat → Prop} {w w' : World} {st st' : St} {a : Act} {o : Oper} {K : Exit → St → Prop}
variable {ops : Array Oper} {l : List Oper}

theorem OpsS.nil (h : K .normal st) : OpsS P C ops [] st K := fun a w R => ⟨st, h, R⟩

theorem OpsS.cons (hg : o.guard = none) (h : OpS P C o st (fun st' => OpsS P C ops l st' K)) : OpsS P C ops (o :: l) st K :=
  fun a w R => wpList_plain hg fun K' hK' => h a w R K' _ fun st' a' w' hN R' _ => hK' _ _ (hN a' w' R')

/-- An operation that is done where a slot says so. -/
theorem OpsS.guard {j d : Nat} {want b : Bool} {g : Oper} (hg : o.guard = some (j, want)) (hj : ops[j]? = some g) (hd : g.dst = some d) (hv : st.ev (.tmp d) = .bool b)
    (h1 : b = want → OpS P C o st (fun st' => OpsS P C ops l st' K)) (h2 : b ≠ want → OpsS P C ops l (st.put o.dst (.tup [])) K) : OpsS P C ops (o :: l) st K := by
  rintro a w ⟨μ, Z, R⟩
  have hb := R.ev (.tmp d)
  rw [hv] at hb
  have hb := hb.bool
  have hy : yielded ops a.tmps j = some b := by
    have : a.tmps[d]? = some (.bool b) := by
      simp only [Act.eval, Array.getD_eq_getD_getElem?] at hb
      cases h : a.tmps[d]? with
      | none => rw [h] at hb; cases hb
      | some v => rw [h] at hb; simpa using hb
    simp [yielded, hj, hd, this]
  unfold wpList
  by_cases e : b = want
  · rw [if_pos (by simp [Region.wanted, hg, hy, e])]
    exact .inl (h1 e a w ⟨μ, Z, R⟩ _ _ fun st' a' w' hN R' _ => hN a' w' R')
  · rw [if_neg (by simp [Region.wanted, hg, hy, e])]
    exact h2 e _ w ⟨μ, Z, R.put (show UR P st.hp μ Z w (.tup []) Go.undef from ⟨#[], rfl, rfl, fun j x hj => by simp at hj⟩) _⟩

/-- .. of a slot that was passed over itself -/
theorem OpsS.guard_skip {j d : Nat} {want : Bool} {g : Oper} (hg : o.guard = some (j, want)) (hj : ops[j]? = some g) (hd : g.dst = some d) (hv : st.ev (.tmp d) = .tup [])
    (h2 : OpsS P C ops l (st.put o.dst (.tup [])) K) : OpsS P C ops (o :: l) st K := by
  rintro a w ⟨μ, Z, R⟩
  have hb := R.ev (.tmp d)
  rw [hv] at hb
  obtain ⟨vs, hb, _⟩ := hb
  have hy : yielded ops a.tmps j = none := by
    simp only [Act.eval, Array.getD_eq_getD_getElem?] at hb
    cases h : a.tmps[d]? with
    | none => simp [yielded, hj, hd, h]
    | some v =>
      rw [h] at hb
      have : v = .tuple vs := by simpa using hb
      subst this
      simp [yielded, hj, hd, h]
  unfold wpList
  rw [if_neg (by simp [Region.wanted, hg, hy])]
  exact h2 _ w ⟨μ, Z, R.put (show UR P st.hp μ Z w (.tup []) Go.undef from ⟨#[], rfl, rfl, fun j x hj => by simp at hj⟩) _⟩

theorem CodeS.region {id : Nat} {l : List Oper} (h : OpsS P C l.toArray l st K) : CodeS P C (.region id l.toArray false) st K :=
  fun a w R => wp_region_lit (h a w R)

theorem CodeS.seq {x y : Code} (h : CodeS P C x st (fun e st' => match e with | .normal => CodeS P C y st' K | e => K e st')) : CodeS P C (.seq x y) st K :=
  fun a w R => wp_seq (Code.wp_mono (fun e a' w' ⟨st', hk, R'⟩ => by
    cases e with
    | normal => exact hk a' w' R'
    | _ => exact ⟨st', hk, R'⟩) (h a w R))

theorem CodeS.cond {c : Operand} {x y : Code} {b : Bool} (hc : st.ev c = .bool b) (h1 : b = true → CodeS P C x st K) (h2 : b = false → CodeS P C y st K) : CodeS P C (.cond c x y) st K := by
  rintro a w ⟨μ, Z, R⟩
  have hb := R.ev c
  rw [hc] at hb
  exact wp_cond_split hb.bool (fun e => h1 e a w ⟨μ, Z, R⟩) (fun e => h2 e a w ⟨μ, Z, R⟩)

theorem CodeS.block {id : Nat} {c : Code} (h : CodeS P C c st (fun e st' => match e with | .exit i => if i = id then K .normal st' else K (.exit i) st' | e => K e st')) : CodeS P C (.block id c) st K :=
  fun a w R => wp_block (Code.wp_mono (fun e a' w' ⟨st', hk, R'⟩ => by
    cases e with
    | exit i =>
      simp only [Exit.inBlock]
      simp only at hk
      split
      · rename_i e; rw [if_pos e] at hk; exact ⟨st', hk, R'⟩
      · rename_i e; rw [if_neg e] at hk; exact ⟨st', hk, R'⟩
    | _ => exact ⟨st', hk, R'⟩) (h a w R))

theorem CodeS.exit {id : Nat} (h : K (.exit id) st) : CodeS P C (.exit id) st K := fun a w R => wp_exit ⟨st, h, R⟩
theorem CodeS.ret (h : K .ret st) : CodeS P C .ret st K := fun a w R => wp_ret ⟨st, h, R⟩
theorem CodeS.skip (h : K .normal st) : CodeS P C .skip st K := fun a w R => wp_skip ⟨st, h, R⟩

theorem CodeS.mono {c : Code} {K' : Exit → St → Prop} (h : CodeS P C c st K) (hk : ∀ e st, K e st → K' e st) : CodeS P C c st K' :=
  fun a w R => Code.wp_mono (fun e a' w' ⟨st', h1, R'⟩ => ⟨st', hk _ _ h1, R'⟩) (h a w R)

/-- What is told of a state, told more loosely. -/
def Le (P : Program) (C : Ctx) (st st' : St) : Prop := ∀ a w, Rel P C st a w → Rel P C st' a w

theorem CodeS.le {c : Code} (hl : Le P C st st') (h : CodeS P C c st' K) : CodeS P C c st K := fun a w R => h a w (hl a w R)

/-- A loop, by a family of states, of which each round comes to a lesser one. -/
theorem CodeS.loop {c : Code} {ι : Type} (I : ι → St) (m : ι → Nat) (i0 : ι) (h0 : Le P C st (I i0))
    (h : ∀ i, CodeS P C c (I i) (fun e st' => match e with | .normal => ∃ j, m j < m i ∧ Le P C st' (I j) | e => K e st')) : CodeS P C (.loop c) st K := by
  intro a w R
  have dec : ∀ a w, (∃ i, Rel P C (I i) a w) → ∃ n, (∃ i, m i = n ∧ Rel P C (I i) a w) ∧ ∀ i, Rel P C (I i) a w → n ≤ m i := by
    rintro a w ⟨i, hi⟩
    have : ∀ n, ∀ i, m i = n → Rel P C (I i) a w → ∃ n, (∃ i, m i = n ∧ Rel P C (I i) a w) ∧ ∀ i, Rel P C (I i) a w → n ≤ m i := by
      intro n
      induction n using Nat.strongRecOn with
      | _ n ih =>
        intro i hi hr
        by_cases hlt : ∃ j, m j < n ∧ Rel P C (I j) a w
        · obtain ⟨j, hj, hr'⟩ := hlt
          exact ih (m j) hj j rfl hr'
        · refine ⟨n, ⟨i, hi, hr⟩, fun j hj => ?_⟩
          exact Nat.le_of_not_lt fun h => hlt ⟨j, h, hj⟩
    exact this _ i rfl hi
  classical
  let M : Act → World → Nat := fun a w => if h : ∃ i, Rel P C (I i) a w then (dec a w h).choose else 0
  have hM : ∀ a w (h : ∃ i, Rel P C (I i) a w), (∃ i, m i = M a w ∧ Rel P C (I i) a w) ∧ ∀ i, Rel P C (I i) a w → M a w ≤ m i := by
    intro a w h
    have : M a w = (dec a w h).choose := dif_pos h
    rw [this]
    exact (dec a w h).choose_spec
  refine wp_loop (fun a w => ∃ i, Rel P C (I i) a w) M ⟨i0, h0 a w R⟩ ?_
  intro a w hI
  obtain ⟨⟨i, hi, hr⟩, _⟩ := hM a w hI
  refine Code.wp_mono (fun e a' w' ⟨st', hk, R'⟩ => ?_) (h i a w hr)
  cases e with
  | normal =>
    obtain ⟨j, hj, hl⟩ := hk
    have hr' := hl a' w' R'
    refine ⟨⟨j, hr'⟩, ?_⟩
    have := (hM a' w' ⟨j, hr'⟩).2 j hr'
    omega
  | _ => exact ⟨st', hk, R'⟩
end

/-! #### telling a state more loosely: slots forgotten, blocks named anew -/
section
variable {P : Program} {C : Ctx} {Z0 : Nat → Prop} {w0 : World} {hp hp' : List Ob} {μ μ' : Mu} {Z Z' : Nat → Prop} {w w' : World}

/-- a cell's word, told more loosely: ρ tells where the block of a new name was -/
def VC (ρ : Nat → Option Nat) (hp hp' : List Ob) : A → A → Prop
  | _, .undef => True
  | .ref s g, .ref r g' => g' = 0 ∧ ρ r = some s ∧ r < hp'.length ∧ ∃ t l, hp[s]? = some (.row t g l)
  | .nil, .ref r g' => g' = 0 ∧ ρ r = none ∧ ∃ t, hp'[r]? = some (.row t 0 [])
  | .ref s g, .sl l => hp[s]? = some (.fro g l)
  | .nil, .sl l => l = []
  | .nil, .nil => True
  | .sub s g a e, .sub r g' a' e' => g' = 0 ∧ ρ r = some s ∧ r < hp'.length ∧ a = a' ∧ e = e' ∧ ∃ t l, hp[s]? = some (.row t g l)
  | .sub s g a e, .sl l => ∃ l0, hp[s]? = some (.fro g l0) ∧ l = (l0.take e).drop a
  | .ptr s g i j, .ptr r g' i' j' => g' = 0 ∧ ρ r = some s ∧ r < hp'.length ∧ i = i' ∧ j = j' ∧ ((∃ t l, hp[s]? = some (.row t g l)) ∨ ∃ t l, hp[s]? = some (.box t l))
  | .int k n, .int k' n' => k = k' ∧ n = n'
  | .bool b, .bool b' => b = b'
  | .str b, .str b' => b = b'
  | .sl l, .sl l' => l = l'
  | .vptr l, .vptr l' => l = l'
  | .val v, .val v' => v = v'
  | _, _ => False

def VCs (ρ : Nat → Option Nat) (hp hp' : List Ob) : List A → List A → Prop
  | [], [] => True
  | x :: xs, y :: ys => VC ρ hp hp' x y ∧ VCs ρ hp hp' xs ys
  | _, _ => False

def V1 (ρ : Nat → Option Nat) (hp hp' : List Ob) : A → A → Prop
  | _, .undef => True
  | .agg l, .agg l' => VCs ρ hp hp' l l'
  | x, y => VC ρ hp hp' x y

def V1s (ρ : Nat → Option Nat) (hp hp' : List Ob) : List A → List A → Prop
  | [], [] => True
  | x :: xs, y :: ys => V1 ρ hp hp' x y ∧ V1s ρ hp hp' xs ys
  | _, _ => False

def V2 (ρ : Nat → Option Nat) (hp hp' : List Ob) : A → A → Prop
  | _, .undef => True
  | .tup l, .tup l' => V1s ρ hp hp' l l'
  | x, y => V1 ρ hp hp' x y

def V2s (ρ : Nat → Option Nat) (hp hp' : List Ob) : List A → List A → Prop
  | [], [] => True
  | x :: xs, y :: ys => V2 ρ hp hp' x y ∧ V2s ρ hp hp' xs ys
  | _, _ => False

/-- a block's word, told anew -/
def VO (ρ : Nat → Option Nat) (hp hp' : List Ob) (szs : TypeId → Option Nat) (s : Option Nat) : Ob → Prop
  | .dead => True
  | .fro _ _ => False
  | .row t g l => g = 0 ∧ match s with
    | some s => ∃ g0, hp[s]? = some (.row t g0 l)
    | none => l = [] ∧ (szs t).isSome = true
  | .box t cs => match s with
    | some s => ∃ cs0, hp[s]? = some (.box t cs0) ∧ VCs ρ hp hp' cs0 cs
    | none => False

def VOs (ρ : Nat → Option Nat) (hp hp' : List Ob) (szs : TypeId → Option Nat) : Nat → List Ob → Prop
  | _, [] => True
  | k, o :: os => VO ρ hp hp' szs (ρ k) o ∧ VOs ρ hp hp' szs (k + 1) os

theorem VOs.get {ρ : Nat → Option Nat} {szs : TypeId → Option Nat} : ∀ {os : List Ob} {k : Nat}, VOs ρ hp hp' szs k os → ∀ (i : Nat) (o : Ob), os[i]? = some o → VO ρ hp hp' szs (ρ (k + i)) o
  | [], k, _, i, o, h => by simp at h
  | o' :: os, k, ⟨h1, h2⟩, i, o, h => by
    cases i with
    | zero => simp at h; subst h; exact h1
    | succ i =>
      have := VOs.get h2 i o (by simpa using h)
      rwa [show k + 1 + i = k + (i + 1) by omega] at this

def muOf (ρ : Nat → Option Nat) (μ : Mu) : Mu := fun r => (ρ r).bind μ

theorem Over.ren {ρ : Nat → Option Nat} {r s a n : Nat} {t : TypeId} {v : Value} (h : Over P μ w s t a n v) (hr : ρ r = some s) : Over P (muOf ρ μ) w r t a n v := by
  obtain ⟨c, h1, h2⟩ := h
  refine ⟨c, h1, ?_⟩
  rcases h2 with h2 | ⟨b, o, sz, cur, h3, h4⟩
  · exact .inl h2
  · exact .inr ⟨b, o, sz, cur, by simp [muOf, hr, h3], h4⟩

theorem VC.cr {ρ : Nat → Option Nat} {szs : TypeId → Option Nat} (HO : VOs ρ hp hp' szs 0 hp') (H : HR P Z0 w0 hp μ Z w) {x y : A} {v : Value} (h : VC ρ hp hp' x y) (hx : CR P hp μ Z w x v) : CR P hp' (muOf ρ μ) Z w y v := by
  have hone := hx.one
  have hO : ∀ r o, hp'[r]? = some o → VO ρ hp hp' szs (ρ r) o := fun r o hr => by simpa using HO.get r o hr
  have hnf : ∀ r g l, hp'[r]? ≠ some (Ob.fro g l) := fun r g l e => hO r _ e
  by_cases hu : y = .undef
  · subst hu
    exact IV.undef v hone
  · unfold VC at h
    split at h
    · exact absurd rfl hu
    · -- ref, ref
      rename_i s g r g'
      obtain ⟨rfl, hr, hlt, t, l, hs⟩ := h
      obtain ⟨h0, h1, h2, h3⟩ := hx
      refine ⟨hlt, fun t' g'' l' hr' => ?_, fun g'' l' hr' => absurd hr' (hnf r g'' l'), hone⟩
      have hV := hO r _ hr'
      rw [hr] at hV
      obtain ⟨rfl, g0, hs'⟩ := hV
      refine ⟨Nat.le_refl _, fun _ => ?_⟩
      rw [hs] at hs'
      cases hs'
      exact ((h1 t g l hs).2 rfl).ren hr
    · rename_i r g'
      obtain ⟨rfl, hr, t, hr'⟩ := h
      obtain ⟨ad, rfl⟩ := hx
      refine ⟨(List.getElem?_eq_some_iff.1 hr').1, fun t' g'' l' hr'' => ?_, fun g'' l' hr'' => absurd hr'' (hnf r g'' l'), rfl⟩
      rw [hr'] at hr''
      cases hr''
      exact ⟨Nat.le_refl _, fun _ => ⟨0, Nat.le_refl _, .inl ⟨rfl, ad, rfl⟩⟩⟩
    · rename_i s g l
      exact (hx.2.2.1 g l h).2 rfl
    · subst h
      obtain ⟨ad, rfl⟩ := hx
      exact IV.sl0 ad 0
    · exact hx
    · rename_i s g a e r g' a' e'
      obtain ⟨rfl, hr, hlt, rfl, rfl, t, l, hs⟩ := h
      obtain ⟨h0, h1, h2, h3⟩ := hx
      refine ⟨hlt, fun t' g'' l' hr' => ?_, fun g'' l' hr' => absurd hr' (hnf r g'' l'), hone⟩
      have hV := hO r _ hr'
      rw [hr] at hV
      obtain ⟨rfl, g0, hs'⟩ := hV
      refine ⟨Nat.le_refl _, fun _ => ?_⟩
      rw [hs] at hs'
      cases hs'
      obtain ⟨q1, q2, q3⟩ := (h1 t g l hs).2 rfl
      exact ⟨q1, q2, q3.ren hr⟩
    · rename_i s g a e l
      obtain ⟨l0, h1, rfl⟩ := h
      exact ((hx.2.2.1 g l0 h1).2 rfl).2.2
    · rename_i s g i j r g' i' j'
      obtain ⟨rfl, hr, hlt, rfl, rfl, hs⟩ := h
      obtain ⟨h0, h1, h2, h3⟩ := hx
      refine ⟨hlt, fun t' g'' l' hr' => ?_, fun t' cs hr' => ?_, hone⟩
      · have hV := hO r _ hr'
        rw [hr] at hV
        obtain ⟨rfl, g0, hs'⟩ := hV
        rcases hs with ⟨t, l, hs⟩ | ⟨t, l, hs⟩
        · rw [hs] at hs'
          cases hs'
          refine ⟨Nat.le_refl _, fun _ => ?_⟩
          obtain ⟨q1, b, o, sz, q2, q3⟩ := (h1 _ _ _ hs).2 rfl
          exact ⟨q1, b, o, sz, by simp [muOf, hr, q2], q3⟩
        · rw [hs] at hs'
          cases hs'
      · have hV := hO r _ hr'
        rw [hr] at hV
        obtain ⟨cs0, hs', hcs⟩ := hV
        obtain ⟨q1, q2, b, q3, q4⟩ := h2 t' cs0 hs'
        refine ⟨q1, ?_, b, by simp [muOf, hr, q3], q4⟩
        have : ∀ (a b : List A), VCs ρ hp hp' a b → a.length = b.length := by
          intro a
          induction a with
          | nil => intro b h; cases b with
            | nil => rfl
            | cons _ _ => exact h.elim
          | cons x xs ih => intro b h; cases b with
            | nil => exact h.elim
            | cons y ys => simp [ih ys h.2]
        rw [← this _ _ hcs]
        exact q2
    · obtain ⟨rfl, rfl⟩ := h; exact hx
    · subst h; exact hx
    · subst h; exact hx
    · subst h; exact hx
    · subst h
      exact hx
    · subst h; exact hx
    · exact h.elim

theorem VCs.cr {ρ : Nat → Option Nat} {szs : TypeId → Option Nat} (HO : VOs ρ hp hp' szs 0 hp') (H : HR P Z0 w0 hp μ Z w) : ∀ {l l' : List A} {vs : List Value}, VCs ρ hp hp' l l' → CRs P hp μ Z w l vs → CRs P hp' (muOf ρ μ) Z w l' vs
  | [], [], vs, _, h => ⟨h.1, fun j x hj => by simp at hj⟩
  | [], _ :: _, _, h, _ => h.elim
  | _ :: _, [], _, h, _ => h.elim
  | x :: xs, y :: ys, vs, ⟨h1, h2⟩, ⟨q1, q2⟩ => by
    cases vs with
    | nil => simp at q1
    | cons v vs =>
      obtain ⟨u, e1, e2⟩ := q2 0 x rfl
      obtain rfl : v = u := by simpa using e1
      have ih := VCs.cr HO H h2 (vs := vs) ⟨by simpa using q1, fun j z hj => by simpa using q2 (j + 1) z (by simpa using hj)⟩
      refine ⟨by simp [ih.1], fun j z hj => ?_⟩
      cases j with
      | zero => simp at hj; subst hj; exact ⟨v, rfl, h1.cr HO H e2⟩
      | succ j => simpa using ih.2 j z (by simpa using hj)

theorem CR.notr {x : A} {v : Value} (h : CR P hp μ Z w x v) : TR P hp μ Z w x v := by
  cases x <;> first | exact h | trivial | exact (h : False).elim

theorem V1.tr {ρ : Nat → Option Nat} {szs : TypeId → Option Nat} (HO : VOs ρ hp hp' szs 0 hp') (H : HR P Z0 w0 hp μ Z w) {x y : A} {v : Value} (h : V1 ρ hp hp' x y) (hx : TR P hp μ Z w x v) : TR P hp' (muOf ρ μ) Z w y v := by
  unfold V1 at h
  split at h
  · trivial
  · obtain ⟨vs, rfl, hx⟩ := hx
    exact ⟨vs, rfl, h.cr HO H hx⟩
  · rename_i h1 h2
    have hcr : CR P hp μ Z w x v := by
      cases x with
      | agg l =>
        exfalso
        cases y <;> first | exact h1 rfl | exact h2 _ _ rfl rfl | exact h
      | undef =>
        exfalso
        cases y <;> first | exact h1 rfl | exact h
      | _ => exact hx
    exact (h.cr HO H hcr).notr

theorem V1s.tr {ρ : Nat → Option Nat} {szs : TypeId → Option Nat} (HO : VOs ρ hp hp' szs 0 hp') (H : HR P Z0 w0 hp μ Z w) : ∀ {l l' : List A} {vs : List Value}, V1s ρ hp hp' l l' → vs.length = l.length → (∀ (j : Nat) (x : A), l[j]? = some x → ∃ u, vs[j]? = some u ∧ TR P hp μ Z w x u) →
    vs.length = l'.length ∧ ∀ (j : Nat) (x : A), l'[j]? = some x → ∃ u, vs[j]? = some u ∧ TR P hp' (muOf ρ μ) Z w x u
  | [], [], vs, _, q1, _ => ⟨q1, fun j x hj => by simp at hj⟩
  | [], _ :: _, _, h, _, _ => h.elim
  | _ :: _, [], _, h, _, _ => h.elim
  | x :: xs, y :: ys, vs, ⟨h1, h2⟩, q1, q2 => by
    cases vs with
    | nil => simp at q1
    | cons v vs =>
      obtain ⟨u, e1, e2⟩ := q2 0 x rfl
      obtain rfl : v = u := by simpa using e1
      have ih := V1s.tr HO H h2 (vs := vs) (by simpa using q1) (fun j z hj => by simpa using q2 (j + 1) z (by simpa using hj))
      refine ⟨by simp [ih.1], fun j z hj => ?_⟩
      cases j with
      | zero => simp at hj; subst hj; exact ⟨v, rfl, h1.tr HO H e2⟩
      | succ j => simpa using ih.2 j z (by simpa using hj)

theorem V2.ur {ρ : Nat → Option Nat} {szs : TypeId → Option Nat} (HO : VOs ρ hp hp' szs 0 hp') (H : HR P Z0 w0 hp μ Z w) {x y : A} {v : Value} (h : V2 ρ hp hp' x y) (hx : UR P hp μ Z w x v) : UR P hp' (muOf ρ μ) Z w y v := by
  unfold V2 at h
  split at h
  · trivial
  · obtain ⟨vs, rfl, q1, q2⟩ := hx
    exact ⟨vs, rfl, h.tr HO H q1 q2⟩
  · rename_i h1 h2
    have htr : TR P hp μ Z w x v := by
      cases x with
      | tup l =>
        exfalso
        cases y <;> first | exact h1 rfl | exact h2 _ _ rfl rfl | exact h
      | _ => exact hx
    exact UR.of_TR (h.tr HO H htr)

theorem V2s.ur {ρ : Nat → Option Nat} {szs : TypeId → Option Nat} (HO : VOs ρ hp hp' szs 0 hp') (H : HR P Z0 w0 hp μ Z w) : ∀ {l l' : List A} {vs : List Value}, V2s ρ hp hp' l l' → TRs P hp μ Z w l vs → TRs P hp' (muOf ρ μ) Z w l' vs
  | [], [], vs, _, h => ⟨h.1, fun j x hj => by simp at hj⟩
  | [], _ :: _, _, h, _ => h.elim
  | _ :: _, [], _, h, _ => h.elim
  | x :: xs, y :: ys, vs, ⟨h1, h2⟩, ⟨q1, q2⟩ => by
    cases vs with
    | nil => simp at q1
    | cons v vs =>
      obtain ⟨u, e1, e2⟩ := q2 0 x rfl
      obtain rfl : v = u := by simpa using e1
      have ih := V2s.ur HO H h2 (vs := vs) ⟨by simpa using q1, fun j z hj => by simpa using q2 (j + 1) z (by simpa using hj)⟩
      refine ⟨by simp [ih.1], fun j z hj => ?_⟩
      cases j with
      | zero => simp at hj; subst hj; exact ⟨v, rfl, h1.ur HO H e2⟩
      | succ j => simpa using ih.2 j z (by simpa using hj)

/-- no block is told twice -/
def inj (ρ : Nat → Option Nat) (n : Nat) : Prop := ∀ r r' s, r < n → r' < n → ρ r = some s → ρ r' = some s → r = r'

theorem HR.ren (H : HR P Z0 w0 hp μ Z w) {ρ : Nat → Option Nat} (HO : VOs ρ hp hp' (szOf P) 0 hp') (hi : Vm.inj ρ hp'.length) : HR P Z0 w0 hp' (muOf ρ μ) Z w := by
  have hO : ∀ r o, hp'[r]? = some o → VO ρ hp hp' (szOf P) (ρ r) o := fun r o hr => by simpa using HO.get r o hr
  have hlive : ∀ r b o, Live hp' r → muOf ρ μ r = some (b, o) → ∃ s, ρ r = some s ∧ μ s = some (b, o) ∧ Live hp s := by
    intro r b o hl hm
    obtain ⟨s, h1, h2⟩ := Option.bind_eq_some_iff.1 hm
    refine ⟨s, h1, h2, ?_⟩
    rcases hl with ⟨t, g, l, h⟩ | ⟨t, cs, h⟩
    · have := hO r _ h
      rw [h1] at this
      obtain ⟨_, g0, h3⟩ := this
      exact .inl ⟨t, g0, l, h3⟩
    · have := hO r _ h
      rw [h1] at this
      obtain ⟨cs0, h3, _⟩ := this
      exact .inr ⟨t, cs0, h3⟩
  refine ⟨H.below, H.z0, H.zlt, ?_, ?_, ?_⟩
  · intro r o hr
    have hV := hO r o hr
    cases o with
    | dead => trivial
    | fro g l => trivial
    | row t g l =>
      obtain ⟨rfl, hV⟩ := hV
      cases hs : ρ r with
      | none =>
        rw [hs] at hV
        obtain ⟨rfl, hsz⟩ := hV
        obtain ⟨sz, hsz⟩ := Option.isSome_iff_exists.1 hsz
        refine ⟨sz, hsz, by simp, ?_⟩
        simp [muOf, hs]
      | some s =>
        rw [hs] at hV
        obtain ⟨g0, hs'⟩ := hV
        obtain ⟨sz, q1, q2, q3⟩ := H.ob s _ hs'
        refine ⟨sz, q1, q2, ?_⟩
        have : muOf ρ μ r = μ s := by simp [muOf, hs]
        rw [this]
        exact q3
    | box t cs =>
      cases hs : ρ r with
      | none => rw [hs] at hV; exact hV.elim
      | some s =>
        rw [hs] at hV
        obtain ⟨cs0, hs', hcs⟩ := hV
        obtain ⟨b, cur, q1, q2, q3⟩ := H.ob s _ hs'
        exact ⟨b, cur, by simp [muOf, hs, q1], q2, hcs.cr HO H q3⟩
  · intro r b o hl hm
    obtain ⟨s, _, h2, h3⟩ := hlive r b o hl hm
    exact H.own s b o h3 h2
  · intro r r' b o o2 hl hl' e1 e2
    obtain ⟨s, p1, p2, p3⟩ := hlive r b o hl e1
    obtain ⟨s', p4, p5, p6⟩ := hlive r' b o2 hl' e2
    obtain rfl := H.inj s s' b o o2 p3 p6 p2 p5
    have lt : ∀ q, Live hp' q → q < hp'.length := by
      rintro q (⟨_, _, _, h⟩ | ⟨_, _, h⟩) <;> exact (List.getElem?_eq_some_iff.1 h).1
    exact hi r r' s (lt r hl) (lt r' hl') p1 p4

/-- what a list tells of names -/
def names (l : List (Option Nat)) : Nat → Option Nat := fun r => (l[r]?).join

theorem names_inj : ∀ {l : List (Option Nat)}, (l.filterMap id).Nodup → ∀ r r' s, names l r = some s → names l r' = some s → r = r'
  | [], _, r, r', s, h1, _ => by simp [names] at h1
  | x :: xs, h, r, r', s, h1, h2 => by
    have mem : ∀ q, names xs q = some s → s ∈ xs.filterMap id := by
      intro q hq
      unfold names at hq
      cases hx : xs[q]? with
      | none => rw [hx] at hq; cases hq
      | some y =>
        rw [hx] at hq
        exact List.mem_filterMap.2 ⟨y, List.mem_of_getElem? hx, by simpa using hq⟩
    have hcons : ∀ q, names (x :: xs) (q + 1) = names xs q := fun q => by simp [names]
    have h0 : names (x :: xs) 0 = x := by simp [names]
    have hn : (xs.filterMap id).Nodup := by
      cases x with
      | none => simpa using h
      | some y => simp at h; exact h.2
    have hno : x = some s → s ∉ xs.filterMap id := by
      rintro rfl hm
      simp at h hm
      exact h.1 hm
    cases r with
    | zero =>
      cases r' with
      | zero => rfl
      | succ r' =>
        rw [h0] at h1
        rw [hcons] at h2
        exact absurd (mem r' h2) (hno h1)
    | succ r =>
      cases r' with
      | zero =>
        rw [h0] at h2
        rw [hcons] at h1
        exact absurd (mem r h1) (hno h2)
      | succ r' =>
        rw [hcons] at h1 h2
        rw [names_inj hn r r' s h1 h2]

theorem inj_names {l : List (Option Nat)} {n : Nat} (h : (l.filterMap id).Nodup) : inj (names l) n := fun r r' s _ _ h1 h2 => names_inj h r r' s h1 h2

theorem Le.of {st st' : St} (hC : C.F = []) (l : List (Option Nat)) (hn : (l.filterMap id).Nodup) (HO : VOs (names l) st.hp st'.hp (szOf P) 0 st'.hp) (ht : V2s (names l) st.hp st'.hp st.tm st'.tm) : Le P C st st' := by
  rintro a w ⟨μ, Z, R⟩
  exact ⟨_, Z, R.hr.ren HO (inj_names hn), ht.ur HO R.hr R.tm, R.df, by rw [hC]; exact ⟨by have := R.fr.1; rw [hC] at this; exact this, fun j x hj => by simp at hj⟩⟩
end
end Go.Vm
