/- A machine of values: its steps that change no block; what is frozen. -/
import Derived.Test.YtekojicaeadepaaVmB
import Derived.Laws.Unary
import Derived.Laws.Wrap64
namespace Go.Vm
open Go.RowKit
set_option linter.unusedVariables false

def toA : Value → A
  | .int k n => .int k n
  | .bool b => .bool b
  | .string s => .str s
  | .slice none 0 0 => .nil
  | v => if v.oneCell' then .val v else .undef

def St.ev (st : St) : Operand → A
  | .tmp t => st.tm.getD t .undef
  | .const v => toA v
  | .func f => .val (.func (.func f) #[] #[])
  | .global _ => .undef

def St.put (st : St) : Option Tmp → A → St
  | some d, x => ⟨st.tm.set d x, st.hp⟩
  | none, _ => st

section
variable {P : Program} {C : Ctx} {Z0 : Nat → Prop} {w0 : World} {hp hp' : List Ob} {μ μ' : Mu} {Z Z' : Nat → Prop} {w w' : World} {st : St} {a : Act}

theorem UR.of_CR {x : A} {v : Value} (h : CR P hp μ Z w x v) : UR P hp μ Z w x v := by
  cases x <;> first | exact h | exact h.elim | trivial

theorem UR.of_TR {x : A} {v : Value} (h : TR P hp μ Z w x v) : UR P hp μ Z w x v := by
  cases x <;> first | exact h | exact (show CR P hp μ Z w _ v from h).elim | skip
  all_goals first | exact h | exact (h : False).elim

theorem UR.undef {v : Value} : UR P hp μ Z w .undef v := trivial

theorem toA_ur (v : Value) : UR P hp μ Z w (toA v) v := by
  unfold toA
  split
  · exact IV.int _ _
  · exact IV.bool _
  · exact IV.str _
  · exact ⟨none, rfl⟩
  · split
    · rename_i h; exact IV.val _ h
    · trivial

theorem RelAt.ev (R : RelAt P C st a w μ Z) (x : Operand) : UR P st.hp μ Z w (st.ev x) (a.eval x) := by
  cases x with
  | tmp t =>
    show UR P st.hp μ Z w (st.tm.getD t .undef) (a.tmps.getD t Go.undef)
    rw [List.getD_eq_getElem?_getD]
    cases h : st.tm[t]? with
    | none => trivial
    | some y =>
      obtain ⟨u, h1, h2⟩ := R.tm.2 t y h
      have : a.tmps.getD t Go.undef = u := by
        rw [Array.getD_eq_getD_getElem?, ← Array.getElem?_toList, h1]; rfl
      rw [this]
      exact h2
  | const v => exact toA_ur v
  | func f => exact IV.val _ rfl
  | global g => trivial

theorem TRs.set {l : List A} {vs : Array Value} {x : A} {v : Value} (h : TRs P hp μ Z w l vs.toList) (hx : UR P hp μ Z w x v) (d : Nat) : TRs P hp μ Z w (l.set d x) (vs.setIfInBounds d v).toList := by
  rw [Array.toList_setIfInBounds]
  refine ⟨by simp [h.1], fun j y hj => ?_⟩
  by_cases e : d = j
  · subst e
    have hlt : d < l.length := by
      rcases Nat.lt_or_ge d l.length with h | h
      · exact h
      · rw [List.getElem?_eq_none (by simpa using h)] at hj; cases hj
    rw [List.getElem?_set_self hlt] at hj
    obtain rfl := Option.some.inj hj
    exact ⟨v, List.getElem?_set_self (by rw [h.1]; exact hlt), hx⟩
  · rw [List.getElem?_set_ne e] at hj
    obtain ⟨u, h1, h2⟩ := h.2 j y hj
    exact ⟨u, by rw [List.getElem?_set_ne e]; exact h1, h2⟩

theorem RelAt.put (R : RelAt P C st a w μ Z) {x : A} {v : Value} (h : UR P st.hp μ Z w x v) (d : Option Tmp) : RelAt P C (st.put d x) (a.put d v) w μ Z := by
  cases d with
  | none => exact R
  | some d => exact ⟨R.hr, R.tm.set h d, R.df, R.fr⟩

/-- A step that changes blocks. -/
theorem RelAt.step (R : RelAt P C st a w μ Z) (H : HR P C.Z0 C.w0 hp' μ' Z' w') (E : Ext P st.hp μ Z w hp' μ' Z' w') {x : A} {v : Value} (h : UR P hp' μ' Z' w' x v) (d : Option Tmp) :
    RelAt P C (St.put ⟨st.tm, hp'⟩ d x) (a.put d v) w' μ' Z' :=
  RelAt.put (st := ⟨st.tm, hp'⟩) ⟨H, R.tm.ext E, R.df, R.fr.ext E⟩ h d

theorem wp_value {o : Oper} {K : Act → World → Prop} {Q : Exit → Act → World → Prop} {v : Value} (h : (execOp a.eval o).run P w = .ok (.value v) w') (hk : K (a.put o.dst v) w') : o.wp P a w K Q := by
  unfold Oper.wp
  rw [h]
  exact hk

theorem wp_skip_ {o : Oper} {K : Act → World → Prop} {Q : Exit → Act → World → Prop} (h : (execOp a.eval o).run P w = .ok .skip w') (hk : K (a.put o.dst undef) w') : o.wp P a w K Q := by
  unfold Oper.wp
  rw [h]
  exact hk

/-- What is read as a row of elements. -/
def view (hp : List Ob) : A → Option (List (List A))
  | .sl l => some l
  | .nil => some []
  | .ref r g => match hp[r]? with
    | some (.row _ g' l) => if g = g' then some l else none
    | some (.fro g' l) => if g = g' then some l else none
    | _ => none
  | .sub r g a e => match hp[r]? with
    | some (.row _ g' l) => if g = g' then some ((l.take e).drop a) else none
    | some (.fro g' l) => if g = g' then some ((l.take e).drop a) else none
    | _ => none
  | _ => none

/-- all blocks there are -/
def All (w : World) (b : Nat) : Prop := b < w.heap.size

theorem HR.view (H : HR P Z0 w0 hp μ Z w) {x : A} {v : Value} {l : List (List A)} (hv : view hp x = some l) (h : CR P hp μ Z w x v) : IV (All w) w (.sl l) v := by
  have hz : ∀ b, Z b → All w b := fun b hb => (H.zlt b hb).1
  cases x with
  | sl l' =>
    obtain rfl := Option.some.inj hv
    exact IV.mono h hz (fun _ _ => rfl)
  | nil =>
    obtain rfl := Option.some.inj hv
    obtain ⟨ad, rfl⟩ := h
    exact .sl0 ad 0
  | ref r g =>
    obtain ⟨h0, h1, h2, _⟩ := h
    simp only [Vm.view] at hv
    split at hv
    · rename_i t g' l' hr
      split at hv
      · rename_i e
        obtain rfl := Option.some.inj hv
        have := ((h1 t g' l' hr).2 e).iv (Z' := All w) (H.ob r _ hr) (by omega) hz (fun b o hb => (H.own r b o (.inl ⟨t, g', l', hr⟩) hb).2.1)
        simpa using this
      · cases hv
    · rename_i g' l' hr
      split at hv
      · rename_i e
        obtain rfl := Option.some.inj hv
        exact ((h2 g' l' hr).2 e).mono hz (fun _ _ => rfl)
      · cases hv
    · cases hv
  | sub r g a e =>
    obtain ⟨h0, h1, h2, _⟩ := h
    simp only [Vm.view] at hv
    split at hv
    · rename_i t g' l' hr
      split at hv
      · rename_i e'
        obtain rfl := Option.some.inj hv
        obtain ⟨q1, q2, q3⟩ := (h1 t g' l' hr).2 e'
        have := q3.iv (Z' := All w) (H.ob r _ hr) (by omega) hz (fun b o hb => (H.own r b o (.inl ⟨t, g', l', hr⟩) hb).2.1)
        rwa [show a + (e - a) = e by omega] at this
      · cases hv
    · rename_i g' l' hr
      split at hv
      · rename_i e'
        obtain rfl := Option.some.inj hv
        exact ((h2 g' l' hr).2 e').2.2.mono hz (fun _ _ => rfl)
      · cases hv
    · cases hv
  | _ => simp [Vm.view] at hv

/-- A cell as it is from now on. -/
def frz (hp : List Ob) : A → List Ob × A
  | .ref r g => match hp[r]? with
    | some (.row _ g' l) => if g = g' then (hp.set r (.fro g l), .sl l) else (hp, .undef)
    | some (.fro g' l) => if g = g' then (hp, .sl l) else (hp, .undef)
    | _ => (hp, .undef)
  | .sub r g a e => match hp[r]? with
    | some (.row _ g' l) => if g = g' then (hp.set r (.fro g l), .sl ((l.take e).drop a)) else (hp, .undef)
    | some (.fro g' l) => if g = g' then (hp, .sl ((l.take e).drop a)) else (hp, .undef)
    | _ => (hp, .undef)
  | .nil => (hp, .sl [])
  | .ptr _ _ _ _ => (hp, .undef)
  | .vptr _ => (hp, .undef)
  | .agg _ => (hp, .undef)
  | .tup _ => (hp, .undef)
  | x => (hp, x)

def frzs (hp : List Ob) : List A → List Ob × List A
  | [] => (hp, [])
  | x :: xs => ((frzs (frz hp x).1 xs).1, (frz hp x).2 :: (frzs (frz hp x).1 xs).2)

theorem Ext.refl (hp : List Ob) (μ : Mu) (Z : Nat → Prop) (w : World) : Ext P hp μ Z w hp μ Z w :=
  ⟨Nat.le_refl _, fun _ h => h, fun _ _ => rfl, fun r t g l _ h => .inl ⟨l, h, rfl, rfl, fun b o cur _ h2 => ⟨cur, h2, rfl⟩⟩, fun r g l _ h => .inl h, fun r t cs _ h => ⟨cs, h, rfl, rfl⟩⟩

theorem HR.frz (H : HR P Z0 w0 hp μ Z w) {x : A} {v : Value} (h : CR P hp μ Z w x v) :
    ∃ Z', HR P Z0 w0 (frz hp x).1 μ Z' w ∧ Ext P hp μ Z w (frz hp x).1 μ Z' w ∧ IV Z' w (frz hp x).2 v := by
  have same : ∀ y, IV Z w y v → ∃ Z', HR P Z0 w0 hp μ Z' w ∧ Ext P hp μ Z w hp μ Z' w ∧ IV Z' w y v := fun y hy => ⟨Z, H, Ext.refl .., hy⟩
  have hone := h.one
  cases x with
  | ref r g =>
    simp only [Vm.frz]
    split
    · rename_i t g' l hr
      split
      · rename_i e
        subst e
        obtain ⟨Z', H', E⟩ := H.freeze hr
        refine ⟨Z', H', E, ?_⟩
        have h' := h.ext E
        have hlt : r < hp.length := (List.getElem?_eq_some_iff.1 hr).1
        exact (h'.2.2.1 g l (by simp [hlt])).2 rfl
      · exact same _ (.undef _ hone)
    · rename_i g' l hr
      split
      · rename_i e
        exact same _ ((h.2.2.1 g' l hr).2 e)
      · exact same _ (.undef _ hone)
    · exact same _ (.undef _ hone)
  | sub r g a e =>
    simp only [Vm.frz]
    split
    · rename_i t g' l hr
      split
      · rename_i e'
        subst e'
        obtain ⟨Z', H', E⟩ := H.freeze hr
        refine ⟨Z', H', E, ?_⟩
        have h' := h.ext E
        have hlt : r < hp.length := (List.getElem?_eq_some_iff.1 hr).1
        exact ((h'.2.2.1 g l (by simp [hlt])).2 rfl).2.2
      · exact same _ (.undef _ hone)
    · rename_i g' l hr
      split
      · rename_i e'
        exact same _ ((h.2.2.1 g' l hr).2 e').2.2
      · exact same _ (.undef _ hone)
    · exact same _ (.undef _ hone)
  | nil =>
    obtain ⟨ad, rfl⟩ := h
    exact same _ (.sl0 ad 0)
  | ptr r g i j => exact same _ (.undef _ hone)
  | vptr cs => exact same _ (.undef _ hone)
  | agg l => exact (show False from h).elim
  | tup l => exact (show False from h).elim
  | int k n => exact same _ h
  | bool b => exact same _ h
  | str s => exact same _ h
  | sl l => exact same _ h
  | val u => exact same _ h
  | undef => exact same _ h

theorem Ext.trans {hp1 hp2 hp3 : List Ob} {μ1 μ2 μ3 : Mu} {Z1 Z2 Z3 : Nat → Prop} {w1 w2 w3 : World} (E : Ext P hp1 μ1 Z1 w1 hp2 μ2 Z2 w2) (E' : Ext P hp2 μ2 Z2 w2 hp3 μ3 Z3 w3) : Ext P hp1 μ1 Z1 w1 hp3 μ3 Z3 w3 := by
  refine ⟨Nat.le_trans E.len E'.len, fun b h => E'.z b (E.z b h), fun b h => (E'.zh b (E.z b h)).trans (E.zh b h), ?_, ?_, ?_⟩
  · intro r t g l hlt h
    rcases E'.row r t g l (Nat.lt_of_lt_of_le hlt E.len) h with ⟨l0, e1, e2, e3, e4⟩ | ⟨t0, g0, l0, e1, e2⟩
    · rcases E.row r t g l0 hlt e1 with ⟨l1, f1, f2, f3, f4⟩ | ⟨t1, g1, l1, f1, f2⟩
      · refine .inl ⟨l1, f1, f2.trans e2, e3.trans f3, fun b o cur h1 h2 => ?_⟩
        obtain ⟨cur', q1, q2⟩ := f4 b o cur h1 h2
        obtain ⟨cur'', q3, q4⟩ := e4 b o cur' (f3.trans h1) q1
        exact ⟨cur'', q3, q4.trans q2⟩
      · exact .inr ⟨t1, g1, l1, f1, f2⟩
    · rcases E.row r t0 g0 l0 hlt e1 with ⟨l1, f1, f2, f3, f4⟩ | ⟨t1, g1, l1, f1, f2⟩
      · exact .inr ⟨t0, g0, l1, f1, e2⟩
      · exact .inr ⟨t1, g1, l1, f1, Nat.lt_trans f2 e2⟩
  · intro r g l hlt h
    rcases E'.fro r g l (Nat.lt_of_lt_of_le hlt E.len) h with e1 | ⟨t, l0, e1, e2, e3⟩ | ⟨t0, g0, l0, e1, e2⟩
    · rcases E.fro r g l hlt e1 with f1 | ⟨t, l1, f1, f2, f3⟩ | f1
      · exact .inl f1
      · exact .inr (.inl ⟨t, l1, f1, f2, fun a e v h1 h2 h3 => (f3 a e v h1 h2 h3).mono E'.z E'.zh⟩)
      · exact .inr (.inr f1)
    · rcases E.row r t g l0 hlt e1 with ⟨l1, f1, f2, f3, f4⟩ | f1
      · exact .inr (.inl ⟨t, l1, f1, f2.trans e2, fun a e v h1 h2 h3 => e3 a e v h1 h2 (h3.ext f3 f4)⟩)
      · exact .inr (.inr f1)
    · rcases E.row r t0 g0 l0 hlt e1 with ⟨l1, f1, f2, f3, f4⟩ | ⟨t1, g1, l1, f1, f2⟩
      · exact .inr (.inr ⟨t0, g0, l1, f1, e2⟩)
      · exact .inr (.inr ⟨t1, g1, l1, f1, Nat.lt_trans f2 e2⟩)
  · intro r t cs hlt h
    obtain ⟨c1, e1, e2, e3⟩ := E'.box r t cs (Nat.lt_of_lt_of_le hlt E.len) h
    obtain ⟨c2, f1, f2, f3⟩ := E.box r t c1 hlt e1
    exact ⟨c2, f1, f2.trans e2, e3.trans f3⟩

theorem HR.frzs : ∀ {l : List A} {vs : List Value} {hp : List Ob} {Z : Nat → Prop}, HR P Z0 w0 hp μ Z w → CRs P hp μ Z w l vs →
    ∃ Z', HR P Z0 w0 (frzs hp l).1 μ Z' w ∧ Ext P hp μ Z w (frzs hp l).1 μ Z' w ∧ (frzs hp l).2.length = l.length ∧ ∀ (j : Nat) (x : A), (frzs hp l).2[j]? = some x → ∃ u, vs[j]? = some u ∧ IV Z' w x u
  | [], vs, hp, Z, H, h => ⟨Z, H, Ext.refl .., rfl, fun j x hj => by simp [Vm.frzs] at hj⟩
  | x :: xs, vs, hp, Z, H, h => by
    obtain ⟨hl, h⟩ := h
    cases vs with
    | nil => simp at hl
    | cons v vs =>
      obtain ⟨u, hu, hx⟩ := h 0 x rfl
      obtain rfl : v = u := by simpa using hu
      obtain ⟨Z1, H1, E1, I1⟩ := H.frz hx
      have h1 : CRs P (Vm.frz hp x).1 μ Z1 w xs vs := ⟨by simpa using hl, fun j y hj => by
        obtain ⟨u, q1, q2⟩ := h (j + 1) y (by simpa using hj)
        exact ⟨u, by simpa using q1, q2.ext E1⟩⟩
      obtain ⟨Z2, H2, E2, hlen, I2⟩ := HR.frzs H1 h1
      refine ⟨Z2, H2, E1.trans E2, by simp [Vm.frzs, hlen], fun j y hj => ?_⟩
      cases j with
      | zero =>
        simp only [Vm.frzs, List.getElem?_cons_zero, Option.some.injEq] at hj
        subst hj
        exact ⟨v, rfl, I1.mono E2.z E2.zh⟩
      | succ j =>
        simp only [Vm.frzs, List.getElem?_cons_succ] at hj
        obtain ⟨u, q1, q2⟩ := I2 j y hj
        exact ⟨u, by simpa using q1, q2⟩
end
end Go.Vm
