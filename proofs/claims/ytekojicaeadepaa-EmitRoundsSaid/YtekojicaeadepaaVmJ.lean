/- A machine of values: what a function comes to; its call. -/
import Derived.Test.YtekojicaeadepaaVmI
namespace Go.Vm
open Go.RowKit
set_option linter.unusedVariables false
set_option linter.unusedSimpArgs false

def noMu : Mu := fun _ => none

/-- A function of values: at these arguments it comes to these results; rows of its own making go with them. -/
def Does (P : Program) (f : FuncId) (args : List A) (res : A) (hr : List Ob) : Prop :=
  ∀ (Z : Nat → Prop) (w : World) (vs : Array Value), (∀ b, Z b → b < w.heap.size) → vs.toList.length = args.length → (∀ (j : Nat) (x : A), args[j]? = some x → ∃ u, vs.toList[j]? = some u ∧ TR P [] noMu Z w x u) →
    Calls P f vs w fun e w' => ∃ v μ Z', e = .returned v ∧ HR P Z w hr μ Z' w' ∧ UR P hr μ Z' w' res v

def noslc : A → Bool
  | .sl _ => false
  | .vptr _ => false
  | _ => true
def nosl1 : A → Bool
  | .agg l => l.all noslc
  | x => noslc x
def nosl2 : A → Bool
  | .tup l => l.all nosl1
  | x => nosl1 x

def shc (n : Nat) : A → A
  | .ref r g => .ref (n + r) g
  | .sub r g a e => .sub (n + r) g a e
  | .ptr r g i j => .ptr (n + r) g i j
  | x => x
def sh1 (n : Nat) : A → A
  | .agg l => .agg (l.map (shc n))
  | x => shc n x
def shift (n : Nat) : A → A
  | .tup l => .tup (l.map (sh1 n))
  | x => sh1 n x

section
variable {P : Program} {C : Ctx} {Z0 : Nat → Prop} {w0 : World} {hp hp' : List Ob} {μ μ' : Mu} {Z Z' : Nat → Prop} {w w' : World} {st : St} {a : Act} {o : Oper} {N : St → Prop}

theorem IV.nosl {x : A} {v : Value} (h : IV Z w x v) (hx : noslc x = true) (Z2 : Nat → Prop) (w2 : World) : IV Z2 w2 x v := by
  cases h with
  | int k n => exact .int k n
  | bool b => exact .bool b
  | str s => exact .str s
  | val v h => exact .val v h
  | undef v h => exact .undef v h
  | sl0 a c => simp [noslc] at hx
  | sl l b o c sz cur t fr u => simp [noslc] at hx

/-- The caller's blocks, and those that came with a result. -/
theorem HR.join (H : HR P Z0 w0 hp μ Z w) {hr : List Ob} {μr : Mu} {Zc Zr Z2 : Nat → Prop} (Hr : HR P Zc w hr μr Zr w') (hrow : ∀ o ∈ hr, (∃ t g l, o = .row t g l) ∨ o = .dead)
    (h1 : ∀ b, Z b → Z2 b) (h2 : ∀ b, Z2 b → Z b ∨ (Zr b ∧ w.heap.size ≤ b)) (hiv : ∀ t g l, Ob.row t g l ∈ hr → ∀ e ∈ l, ∀ x ∈ e, ∀ v, IV Zr w' x v → IV Z2 w' x v) :
    HR P Z0 w0 (hp ++ hr) (fun q => if q < hp.length then μ q else μr (q - hp.length)) Z2 w' ∧ Ext P hp μ Z w (hp ++ hr) (fun q => if q < hp.length then μ q else μr (q - hp.length)) Z2 w' := by
  have hbel : Below w.heap.size w w' := Hr.below
  have hleft : ∀ q, q < hp.length → (hp ++ hr)[q]? = hp[q]? := fun q h => List.getElem?_append_left h
  have hright : ∀ q, hp.length ≤ q → (hp ++ hr)[q]? = hr[q - hp.length]? := fun q h => List.getElem?_append_right h
  have hlive : ∀ q, q < hp.length → Live (hp ++ hr) q → Live hp q := fun q h hl => by unfold Live at *; rwa [hleft q h] at hl
  have hlive2 : ∀ q, hp.length ≤ q → Live (hp ++ hr) q → Live hr (q - hp.length) := fun q h hl => by unfold Live at *; rwa [hright q h] at hl
  have E : Ext P hp μ Z w (hp ++ hr) (fun q => if q < hp.length then μ q else μr (q - hp.length)) Z2 w' := by
    refine ⟨by simp, h1, fun b hb => hbel.block b (H.zlt b hb).1, ?_, ?_, ?_⟩
    · intro q t g l hq h
      rw [hleft q hq] at h
      exact .inl ⟨l, h, rfl, by simp [hq], fun b o cur e1 e2 => ⟨cur, (hbel.block b (H.own q b o (.inl ⟨t, g, l, h⟩) e1).2.1).trans e2, rfl⟩⟩
    · intro q g l hq h
      rw [hleft q hq] at h
      exact .inl h
    · intro q t cs hq h
      rw [hleft q hq] at h
      exact ⟨cs, h, rfl, by simp [hq]⟩
  refine ⟨⟨H.below.trans (hbel.mono H.below.size), fun b hb => h1 b (H.z0 b hb), ?_, ?_, ?_, ?_⟩, E⟩
  · intro b hb
    rcases h2 b hb with h | ⟨h, h'⟩
    · exact ⟨Nat.lt_of_lt_of_le (H.zlt b h).1 hbel.size, (H.zlt b h).2⟩
    · exact ⟨(Hr.zlt b h).1, .inr (Nat.le_trans H.below.size h')⟩
  · intro q o hq
    rcases Nat.lt_or_ge q hp.length with h | h
    · rw [hleft q h] at hq
      have hO := H.ob q o hq
      cases o with
      | dead => trivial
      | fro g l => trivial
      | row t g l => exact hO.ext E (by simp [h]) (fun b o e => hbel.block b (H.own q b o (.inl ⟨t, g, l, hq⟩) e).2.1)
      | box t cs => exact hO.ext E (by simp [h]) (fun b o e => hbel.block b (H.own q b o (.inr ⟨t, cs, hq⟩) e).2.1)
    · rw [hright q h] at hq
      have hO := Hr.ob _ o hq
      rcases hrow o (List.mem_of_getElem? hq) with ⟨t, g, l, rfl⟩ | rfl
      · obtain ⟨sz, q1, q2, q3⟩ := hO
        refine ⟨sz, q1, q2, ?_⟩
        simp only [if_neg (show ¬ q < hp.length by omega)]
        cases hm : μr (q - hp.length) with
        | none => simpa [hm] using q3
        | some bo =>
          obtain ⟨b, o⟩ := bo
          simp only [hm] at q3 ⊢
          obtain ⟨cur, q4, q5, q6⟩ := q3
          refine ⟨cur, q4, ⟨q5.len, fun i e j x hi hj => ?_⟩, q6⟩
          obtain ⟨u, q7, q8⟩ := q5.at_ i e j x hi hj
          exact ⟨u, q7, hiv t g l (List.mem_of_getElem? hq) e (List.mem_of_getElem? hi) x (List.mem_of_getElem? hj) u q8⟩
      · trivial
  · intro q b o hl hm
    rcases Nat.lt_or_ge q hp.length with h | h
    · simp only [if_pos h] at hm
      have := H.own q b o (hlive q h hl) hm
      refine ⟨this.1, Nat.lt_of_lt_of_le this.2.1 hbel.size, fun hz => ?_⟩
      rcases h2 b hz with h3 | ⟨_, h3⟩
      · exact this.2.2 h3
      · omega
    · simp only [if_neg (by omega : ¬ q < hp.length)] at hm
      have := Hr.own _ b o (hlive2 q h hl) hm
      refine ⟨Nat.le_trans H.below.size this.1, this.2.1, fun hz => ?_⟩
      rcases h2 b hz with h3 | ⟨h3, _⟩
      · have := (H.zlt b h3).1
        omega
      · exact this.2.2 h3
  · intro q q' b o o2 l1 l2 e1 e2
    rcases Nat.lt_or_ge q hp.length with h | h <;> rcases Nat.lt_or_ge q' hp.length with h' | h'
    · simp only [if_pos h, if_pos h'] at e1 e2
      exact H.inj q q' b o o2 (hlive q h l1) (hlive q' h' l2) e1 e2
    · exfalso
      simp only [if_pos h, if_neg (by omega : ¬ q' < hp.length)] at e1 e2
      have a1 := H.own q b o (hlive q h l1) e1
      have a2 := Hr.own _ b o2 (hlive2 q' h' l2) e2
      omega
    · exfalso
      simp only [if_neg (by omega : ¬ q < hp.length), if_pos h'] at e1 e2
      have a1 := H.own q' b o2 (hlive q' h' l2) e2
      have a2 := Hr.own _ b o (hlive2 q h l1) e1
      omega
    · simp only [if_neg (by omega : ¬ q < hp.length), if_neg (by omega : ¬ q' < hp.length)] at e1 e2
      have := Hr.inj _ _ b o o2 (hlive2 q h l1) (hlive2 q' h' l2) e1 e2
      omega

theorem CR.shift {hr : List Ob} {μr : Mu} {Zr Z2 : Nat → Prop} {x : A} {v : Value} (h : CR P hr μr Zr w' x v) (hrow : ∀ o ∈ hr, (∃ t g l, o = .row t g l) ∨ o = .dead)
    (hx : noslc x = true ∨ ∀ b, Zr b → Z2 b) :
    CR P (hp ++ hr) (fun q => if q < hp.length then μ q else μr (q - hp.length)) Z2 w' (shc hp.length x) v := by
  have hget : ∀ r, (hp ++ hr)[hp.length + r]? = hr[r]? := fun r => by rw [List.getElem?_append_right (by omega)]; congr 1; omega
  have hmu : ∀ r, (if hp.length + r < hp.length then μ (hp.length + r) else μr (hp.length + r - hp.length)) = μr r := fun r => by rw [if_neg (by omega)]; congr 1; omega
  have hov : ∀ {r t a n v}, Over P μr w' r t a n v → Over P (fun q => if q < hp.length then μ q else μr (q - hp.length)) w' (hp.length + r) t a n v := by
    intro r t a n v h
    exact (h.ext (μ' := fun _ => μr r) rfl (fun b o cur _ h2 => ⟨cur, h2, rfl⟩)) |> fun ⟨c, h1, h2⟩ => ⟨c, h1, by
      rcases h2 with h2 | ⟨b, o, sz, cur, h3, h4⟩
      · exact .inl h2
      · exact .inr ⟨b, o, sz, cur, (hmu r).trans h3, h4⟩⟩
  have hnf : ∀ r g l, hr[r]? ≠ some (Ob.fro g l) := fun r g l e => by
    rcases hrow _ (List.mem_of_getElem? e) with ⟨_, _, _, h⟩ | h <;> cases h
  have hnb : ∀ r t l, hr[r]? ≠ some (Ob.box t l) := fun r g l e => by
    rcases hrow _ (List.mem_of_getElem? e) with ⟨_, _, _, h⟩ | h <;> cases h
  cases x with
  | ref r g =>
    obtain ⟨h0, h1, h2, h3⟩ := h
    refine ⟨by simp; omega, fun t g' l hr' => ?_, fun g' l hr' => ?_, h3⟩
    · rw [hget] at hr'
      exact ⟨(h1 t g' l hr').1, fun e => hov ((h1 t g' l hr').2 e)⟩
    · rw [hget] at hr'
      exact absurd hr' (hnf r g' l)
  | sub r g a e =>
    obtain ⟨h0, h1, h2, h3⟩ := h
    refine ⟨by simp; omega, fun t g' l hr' => ?_, fun g' l hr' => ?_, h3⟩
    · rw [hget] at hr'
      exact ⟨(h1 t g' l hr').1, fun e => ⟨((h1 t g' l hr').2 e).1, ((h1 t g' l hr').2 e).2.1, hov ((h1 t g' l hr').2 e).2.2⟩⟩
    · rw [hget] at hr'
      exact absurd hr' (hnf r g' l)
  | ptr r g i j =>
    obtain ⟨h0, h1, h2, h3⟩ := h
    refine ⟨by simp; omega, fun t g' l hr' => ?_, fun t cs hr' => ?_, h3⟩
    · rw [hget] at hr'
      refine ⟨(h1 t g' l hr').1, fun e => ?_⟩
      obtain ⟨q1, b, o, sz, q2, q3⟩ := (h1 t g' l hr').2 e
      exact ⟨q1, b, o, sz, (hmu r).trans q2, q3⟩
    · rw [hget] at hr'
      exact absurd hr' (hnb r t cs)
  | vptr cs =>
    rcases hx with hx | hx
    · simp [noslc] at hx
    · obtain ⟨b, o, cur, t, fr, rfl, q1, q2, q3⟩ := h
      exact ⟨b, o, cur, t, fr, rfl, hx b q1, q2, fun j x hj => let ⟨u, q4, q5⟩ := q3 j x hj; ⟨u, q4, q5.mono hx (fun _ _ => rfl)⟩⟩
  | nil => exact h
  | agg l => exact h
  | tup l => exact h
  | sl l =>
    rcases hx with hx | hx
    · simp [noslc] at hx
    · exact IV.mono h hx (fun _ _ => rfl)
  | int k n => exact IV.nosl (show IV Zr w' _ v from h) rfl _ _
  | bool b => exact IV.nosl (show IV Zr w' _ v from h) rfl _ _
  | str s => exact IV.nosl (show IV Zr w' _ v from h) rfl _ _
  | val u => exact IV.nosl (show IV Zr w' _ v from h) rfl _ _
  | undef => exact IV.nosl (show IV Zr w' _ v from h) rfl _ _

theorem TR.shift {hr : List Ob} {μr : Mu} {Zr Z2 : Nat → Prop} {x : A} {v : Value} (h : TR P hr μr Zr w' x v) (hrow : ∀ o ∈ hr, (∃ t g l, o = .row t g l) ∨ o = .dead) (hx : nosl1 x = true ∨ ∀ b, Zr b → Z2 b) :
    TR P (hp ++ hr) (fun q => if q < hp.length then μ q else μr (q - hp.length)) Z2 w' (sh1 hp.length x) v := by
  cases x with
  | agg l =>
    obtain ⟨vs, rfl, h1, h2⟩ := h
    refine ⟨vs, rfl, by simpa using h1, fun j x hj => ?_⟩
    rw [List.getElem?_map] at hj
    obtain ⟨y, hy, rfl⟩ := Option.map_eq_some_iff.1 hj
    obtain ⟨u, q1, q2⟩ := h2 j y hy
    refine ⟨u, q1, q2.shift hrow ?_⟩
    rcases hx with hx | hx
    · exact .inl (List.all_eq_true.1 hx y (List.mem_of_getElem? hy))
    · exact .inr hx
  | undef => trivial
  | _ =>
    simp only [TR] at h
    have := CR.shift (hp := hp) (μ := μ) (Z2 := Z2) h hrow hx
    simpa only [sh1, shc, TR] using this

theorem UR.shift {hr : List Ob} {μr : Mu} {Zr Z2 : Nat → Prop} {x : A} {v : Value} (h : UR P hr μr Zr w' x v) (hrow : ∀ o ∈ hr, (∃ t g l, o = .row t g l) ∨ o = .dead) (hx : nosl2 x = true ∨ ∀ b, Zr b → Z2 b) :
    UR P (hp ++ hr) (fun q => if q < hp.length then μ q else μr (q - hp.length)) Z2 w' (Vm.shift hp.length x) v := by
  cases x with
  | tup l =>
    obtain ⟨vs, rfl, h1, h2⟩ := h
    refine ⟨vs, rfl, by simpa using h1, fun j x hj => ?_⟩
    rw [List.getElem?_map] at hj
    obtain ⟨y, hy, rfl⟩ := Option.map_eq_some_iff.1 hj
    obtain ⟨u, q1, q2⟩ := h2 j y hy
    refine ⟨u, q1, q2.shift hrow ?_⟩
    rcases hx with hx | hx
    · exact .inl (List.all_eq_true.1 hx y (List.mem_of_getElem? hy))
    · exact .inr hx
  | _ =>
    simp only [UR] at h
    exact UR.of_TR (TR.shift (hp := hp) (μ := μ) (Z2 := Z2) h hrow hx)

/-! #### what is handed over, read -/
def argc (hp : List Ob) : A → Option A
  | .ref r g => (view hp (.ref r g)).map .sl
  | .sub r g a e => (view hp (.sub r g a e)).map .sl
  | .nil => some (.sl [])
  | .ptr _ _ _ _ => none
  | .vptr _ => none
  | .agg _ => none
  | .tup _ => none
  | x => some x
def argcs (hp : List Ob) : List A → Option (List A)
  | [] => some []
  | x :: xs => match argc hp x, argcs hp xs with
    | some y, some ys => some (y :: ys)
    | _, _ => none
def arg1 (hp : List Ob) : A → Option A
  | .agg l => (argcs hp l).map .agg
  | x => argc hp x
def argl (st : St) : List Operand → Option (List A)
  | [] => some []
  | x :: xs => match arg1 st.hp (st.ev x), argl st xs with
    | some y, some ys => some (y :: ys)
    | _, _ => none

theorem CR.of_IV {x : A} {v : Value} (h : IV Z w x v) : CR P hp μ Z w x v := by
  cases x <;> first | exact h | cases h

theorem HR.argc (H : HR P Z0 w0 hp μ Z w) {x y : A} {v : Value} (h : CR P hp μ Z w x v) (hy : Vm.argc hp x = some y) : CR P [] noMu (All w) w y v := by
  have hz : ∀ b, Z b → All w b := fun b hb => (H.zlt b hb).1
  have gen : ∀ l, Vm.view hp x = some l → CR P [] noMu (All w) w (.sl l) v := fun l hl => CR.of_IV (H.view hl h)
  cases x with
  | ref r g =>
    obtain ⟨l, hl, rfl⟩ := Option.map_eq_some_iff.1 hy
    exact gen l hl
  | sub r g a e =>
    obtain ⟨l, hl, rfl⟩ := Option.map_eq_some_iff.1 hy
    exact gen l hl
  | nil =>
    obtain rfl := Option.some.inj hy
    exact gen [] rfl
  | ptr r g i j => cases hy
  | vptr cs => cases hy
  | agg l => cases hy
  | tup l => cases hy
  | _ =>
    obtain rfl := Option.some.inj hy
    simp only [CR] at h ⊢
    exact h.mono hz (fun _ _ => rfl)

theorem HR.argcs (H : HR P Z0 w0 hp μ Z w) : ∀ {l l' : List A} {vs : List Value}, CRs P hp μ Z w l vs → Vm.argcs hp l = some l' → CRs P [] noMu (All w) w l' vs
  | [], l', vs, h, hy => by
    obtain rfl := Option.some.inj hy
    exact ⟨h.1, fun j x hj => by simp at hj⟩
  | x :: xs, l', vs, ⟨h1, h2⟩, hy => by
    simp only [Vm.argcs] at hy
    split at hy
    · rename_i y ys e1 e2
      obtain rfl := Option.some.inj hy
      cases vs with
      | nil => simp at h1
      | cons v vs =>
        obtain ⟨u, q1, q2⟩ := h2 0 x rfl
        obtain rfl : v = u := by simpa using q1
        have ih := HR.argcs H (l := xs) (vs := vs) ⟨by simpa using h1, fun j z hj => by simpa using h2 (j + 1) z (by simpa using hj)⟩ e2
        refine ⟨by simp [ih.1], fun j z hj => ?_⟩
        cases j with
        | zero => simp at hj; subst hj; exact ⟨v, rfl, H.argc q2 e1⟩
        | succ j => simpa using ih.2 j z (by simpa using hj)
    · cases hy

theorem HR.arg1 (H : HR P Z0 w0 hp μ Z w) {x y : A} {v : Value} (h : UR P hp μ Z w x v) (hy : Vm.arg1 hp x = some y) : TR P [] noMu (All w) w y v := by
  have gen : CR P hp μ Z w x v → Vm.argc hp x = some y → TR P [] noMu (All w) w y v := fun h hy => by
    have := H.argc h hy
    cases y <;> first | exact this | trivial | exact (this : False).elim
  cases x with
  | agg l =>
    obtain ⟨l', e, rfl⟩ := Option.map_eq_some_iff.1 hy
    obtain ⟨vs, rfl, h⟩ := h
    exact ⟨vs, rfl, H.argcs h e⟩
  | tup l => cases hy
  | undef =>
    obtain rfl := Option.some.inj hy
    trivial
  | _ =>
    simp only [UR, TR] at h
    exact gen h hy

theorem argl_run (R : RelAt P C st a w μ Z) : ∀ {xs : List Operand} {ys : List A}, argl st xs = some ys → (xs.map a.eval).length = ys.length ∧ ∀ (j : Nat) (y : A), ys[j]? = some y → ∃ u, (xs.map a.eval)[j]? = some u ∧ TR P [] noMu (All w) w y u
  | [], ys, h => by
    obtain rfl := Option.some.inj h
    exact ⟨rfl, fun j y hj => by simp at hj⟩
  | x :: xs, ys, h => by
    simp only [argl] at h
    split at h
    · rename_i y zs e1 e2
      obtain rfl := Option.some.inj h
      obtain ⟨q1, q2⟩ := argl_run R e2
      refine ⟨by simpa using q1, fun j z hj => ?_⟩
      cases j with
      | zero => simp at hj; subst hj; exact ⟨_, rfl, R.hr.arg1 (R.ev x) e1⟩
      | succ j => simpa using q2 j z (by simpa using hj)
    · cases h

/-- a function's rows that come with a result are rows -/
def rowsOnly (hr : List Ob) : Prop := ∀ o ∈ hr, (∃ t g l, o = .row t g l) ∨ o = .dead

theorem op_call {f : FuncId} {xs : Array Operand} {ts : Array TypeId} {ys : List A} {res : A} {hr : List Ob} (ho : o.op = .call { callee := .value (.func f), args := xs, argTypes := ts })
    (hE : ∀ args w, (callFunc f args).run P w = .ok (.enter f args) w) (ha : argl st xs.toList = some ys) (hF : Does P f ys res hr) (hrow : rowsOnly hr) (hns : nosl2 res = true) (hnr : ∀ t g l, Ob.row t g l ∈ hr → ∀ e ∈ l, ∀ x ∈ e, noslc x = true)
    (h : N (St.put ⟨st.tm, st.hp ++ hr⟩ o.dst (shift st.hp.length res))) : OpS P C o st N := by
  rintro a w ⟨μ, Z, R⟩ K Q hK
  obtain ⟨q1, q2⟩ := argl_run R ha
  have hc := hF (All w) w (xs.map a.eval) (fun b hb => hb) (by simpa using q1) (by simpa using q2)
  have hrun : (execOp a.eval o).run P w = .ok (.enter f (xs.map a.eval)) w := by
    simp [execOp, ho, resolve, Deferred.ofValue, Act.eval, invoke, hE]
  unfold Oper.wp
  rw [hrun]
  refine Calls.mono hc ?_
  rintro e w' ⟨v, μr, Zr, rfl, Hr, hv⟩
  obtain ⟨H2, E2⟩ := R.hr.join (Z2 := Z) Hr hrow (fun _ h => h) (fun _ h => .inl h) (fun t g l hm e he x hx v hv => hv.nosl (hnr t g l hm e he x hx) _ _)
  exact hK _ _ _ h ⟨_, Z, R.step H2 E2 (UR.shift hv hrow (.inl hns)) _⟩ ⟨_, rfl⟩

/-! #### what is handed over, and kept as it is from now on -/
def frz1 (hp : List Ob) : A → List Ob × A
  | .agg l => ((frzs hp l).1, .agg (frzs hp l).2)
  | .tup _ => (hp, .undef)
  | x => frz hp x
def frzl (hp : List Ob) : List A → List Ob × List A
  | [] => (hp, [])
  | x :: xs => ((frzl (frz1 hp x).1 xs).1, (frz1 hp x).2 :: (frzl (frz1 hp x).1 xs).2)

theorem TR.of_IV {x : A} {v : Value} (h : IV Z w x v) : TR P hp μ Z w x v := by
  cases x <;> first | exact h | trivial | cases h

theorem HR.frz1 (H : HR P Z0 w0 hp μ Z w) {x : A} {v : Value} (h : UR P hp μ Z w x v) :
    ∃ Z', HR P Z0 w0 (Vm.frz1 hp x).1 μ Z' w ∧ Ext P hp μ Z w (Vm.frz1 hp x).1 μ Z' w ∧ TR P [] noMu Z' w (Vm.frz1 hp x).2 v := by
  cases x with
  | agg l =>
    obtain ⟨vs, rfl, h⟩ := h
    obtain ⟨Z', H', E, hl, I⟩ := H.frzs h
    exact ⟨Z', H', E, vs, rfl, by rw [h.1]; exact hl.symm, fun j x hj => let ⟨u, q1, q2⟩ := I j x hj; ⟨u, q1, CR.of_IV q2⟩⟩
  | tup l => exact ⟨Z, H, Ext.refl .., trivial⟩
  | undef => exact ⟨Z, H, Ext.refl .., trivial⟩
  | _ =>
    simp only [UR, TR] at h
    obtain ⟨Z', H', E, I⟩ := H.frz h
    exact ⟨Z', H', E, TR.of_IV I⟩

theorem HR.frzl : ∀ {l : List A} {vs : List Value} {hp : List Ob} {Z : Nat → Prop}, HR P Z0 w0 hp μ Z w → TRs P hp μ Z w l vs →
    ∃ Z', HR P Z0 w0 (Vm.frzl hp l).1 μ Z' w ∧ Ext P hp μ Z w (Vm.frzl hp l).1 μ Z' w ∧ (Vm.frzl hp l).2.length = l.length ∧ ∀ (j : Nat) (x : A), (Vm.frzl hp l).2[j]? = some x → ∃ u, vs[j]? = some u ∧ TR P [] noMu Z' w x u
  | [], vs, hp, Z, H, h => ⟨Z, H, Ext.refl .., rfl, fun j x hj => by simp [Vm.frzl] at hj⟩
  | x :: xs, vs, hp, Z, H, h => by
    obtain ⟨hl, h⟩ := h
    cases vs with
    | nil => simp at hl
    | cons v vs =>
      obtain ⟨u, hu, hx⟩ := h 0 x rfl
      obtain rfl : v = u := by simpa using hu
      obtain ⟨Z1, H1, E1, I1⟩ := H.frz1 hx
      have h1 : TRs P (Vm.frz1 hp x).1 μ Z1 w xs vs := ⟨by simpa using hl, fun j y hj => by
        obtain ⟨u, q1, q2⟩ := h (j + 1) y (by simpa using hj)
        exact ⟨u, by simpa using q1, q2.ext E1⟩⟩
      obtain ⟨Z2, H2, E2, hlen, I2⟩ := HR.frzl H1 h1
      refine ⟨Z2, H2, E1.trans E2, by simp [Vm.frzl, hlen], fun j y hj => ?_⟩
      cases j with
      | zero =>
        simp only [Vm.frzl, List.getElem?_cons_zero, Option.some.injEq] at hj
        subst hj
        refine ⟨v, rfl, I1.ext ?_⟩
        exact ⟨Nat.le_refl _, E2.z, E2.zh, fun r _ _ _ h => by simp at h, fun r _ _ h => by simp at h, fun r _ _ h => by simp at h⟩
      | succ j =>
        simp only [Vm.frzl, List.getElem?_cons_succ] at hj
        obtain ⟨u, q1, q2⟩ := I2 j y hj
        exact ⟨u, by simpa using q1, q2⟩

theorem op_callk {f : FuncId} {xs : Array Operand} {ts : Array TypeId} {res : A} {hr : List Ob} (ho : o.op = .call { callee := .value (.func f), args := xs, argTypes := ts })
    (hE : ∀ args w, (callFunc f args).run P w = .ok (.enter f args) w) (hF : Does P f (frzl st.hp (xs.toList.map st.ev)).2 res hr) (hrow : rowsOnly hr)
    (h : N (St.put ⟨st.tm, (frzl st.hp (xs.toList.map st.ev)).1 ++ hr⟩ o.dst (shift (frzl st.hp (xs.toList.map st.ev)).1.length res))) : OpS P C o st N := by
  rintro a w ⟨μ, Z, R⟩ K Q hK
  have hT : TRs P st.hp μ Z w (xs.toList.map st.ev) (xs.toList.map a.eval) := ⟨by simp, fun j y hj => by
    rw [List.getElem?_map] at hj
    obtain ⟨x, hx, rfl⟩ := Option.map_eq_some_iff.1 hj
    exact ⟨a.eval x, by rw [List.getElem?_map, hx]; rfl, R.ev x⟩⟩
  obtain ⟨Z1, H1, E1, hl, I1⟩ := R.hr.frzl hT
  have hc := hF Z1 w (xs.map a.eval) (fun b hb => (H1.zlt b hb).1) (by simp [hl]) (by simpa using I1)
  have hrun : (execOp a.eval o).run P w = .ok (.enter f (xs.map a.eval)) w := by
    simp [execOp, ho, resolve, Deferred.ofValue, Act.eval, invoke, hE]
  unfold Oper.wp
  rw [hrun]
  refine Calls.mono hc ?_
  rintro e w' ⟨v, μr, Zr, rfl, Hr, hv⟩
  obtain ⟨H2, E2⟩ := H1.join (Z2 := Zr) Hr hrow Hr.z0 (fun b h => by
    rcases (Hr.zlt b h).2 with h1 | h1
    · exact .inl h1
    · exact .inr ⟨h, h1⟩) (fun _ _ _ _ _ _ _ _ _ h => h)
  exact hK _ _ _ h ⟨_, Zr, R.step H2 (E1.trans E2) (UR.shift hv hrow (.inr fun _ h => h)) _⟩ ⟨_, rfl⟩
end
end Go.Vm
