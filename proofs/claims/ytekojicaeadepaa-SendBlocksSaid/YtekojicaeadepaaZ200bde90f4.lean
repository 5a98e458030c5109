/- A part of a proof that statements of this seat hold of the given program; no conditions but the statements' own. -/
import Derived.Below
import Derived.Tactics
import Derived.Laws.OwnMore
import Derived.Orders
import Derived.Laws.Unary
import Derived.Laws.Wrap64
import Derived.Laws.Small
set_option linter.unusedVariables false
set_option linter.unusedSimpArgs false
/- A machine of values: what the slots, and the blocks of a call's own, are told to be; how these words are read in the world. -/
namespace Go.Vm
open Go.RowKit

/-- What a slot, or a cell, is told to be. -/
inductive A where
  | int (k : IntKind) (n : Int)
  | bool (b : Bool)
  | str (s : ByteArray)
  | sl (l : List (List A))
  | nil
  | ref (r g : Nat)
  | sub (r g a e : Nat)
  | ptr (r g i j : Nat)
  | vptr (cs : List A)
  | clo (f r i : Nat)
  | val (v : Value)
  | agg (l : List A)
  | tup (l : List A)
  | undef

/-- What a block of the call's own is told to be. -/
inductive Ob where
  | dead
  | row (t : TypeId) (g : Nat) (l : List (List A))
  | fro (g : Nat) (l : List (List A))
  | box (t : TypeId) (cs : List A)

/-- Of what does not change: read in the world, the blocks in Z. -/
inductive IV (Z : Nat → Prop) (w : World) : A → Value → Prop
  | int (k n) : IV Z w (.int k n) (.int k n)
  | bool (b) : IV Z w (.bool b) (.bool b)
  | str (s) : IV Z w (.str s) (.string s)
  | val (v) (h : v.oneCell' = true) : IV Z w (.val v) v
  | undef (v) (h : v.oneCell' = true) : IV Z w .undef v
  | sl0 (a c) : IV Z w (.sl []) (.slice a 0 c)
  | sl (l : List (List A)) (b o c sz : Nat) (cur : Array Value) (t : TypeId) (fr : Nat × Nat) (u : Nat → Nat → Value)
      (hZ : Z b) (hb : w.heap[b]? = some (.cells cur t fr)) (hc : l.length ≤ c)
      (hl : ∀ (i : Nat) (cs : List A), l[i]? = some cs → cs.length = sz)
      (hu : ∀ (i : Nat) (cs : List A) (j : Nat) (x : A), l[i]? = some cs → cs[j]? = some x → cur[o + (i * sz + j)]? = some (u i j))
      (hr : ∀ (i : Nat) (cs : List A) (j : Nat) (x : A), l[i]? = some cs → cs[j]? = some x → IV Z w x (u i j)) : IV Z w (.sl l) (.slice (some ⟨b, o, none⟩) l.length c)

theorem IV.mono {Z Z' : Nat → Prop} {w w' : World} {x : A} {v : Value} (h : IV Z w x v) (hz : ∀ b, Z b → Z' b) (hw : ∀ b, Z b → w'.heap[b]? = w.heap[b]?) : IV Z' w' x v := by
  induction h with
  | int k n => exact .int k n
  | bool b => exact .bool b
  | str s => exact .str s
  | val v h => exact .val v h
  | undef v h => exact .undef v h
  | sl0 a c => exact .sl0 a c
  | sl l b o c sz cur t fr u hZ hb hc hl hu hr ih => exact .sl l b o c sz cur t fr u (hz b hZ) ((hw b hZ).trans hb) hc hl hu ih

theorem IV.one {Z : Nat → Prop} {w : World} {x : A} {v : Value} (h : IV Z w x v) : v.oneCell' = true := by
  cases h <;> first | rfl | assumption

/-- cells of a row, from cell o on -/
structure Lay (R : A → Value → Prop) (sz : Nat) (cur : Array Value) (o : Nat) (l : List (List A)) : Prop where
  len : ∀ (i : Nat) (cs : List A), l[i]? = some cs → cs.length = sz
  at_ : ∀ (i : Nat) (cs : List A) (j : Nat) (x : A), l[i]? = some cs → cs[j]? = some x → ∃ u, cur[o + (i * sz + j)]? = some u ∧ R x u

theorem IV.of_lay {Z : Nat → Prop} {w : World} {l : List (List A)} {b o c sz : Nat} {cur : Array Value} {t : TypeId} {fr : Nat × Nat}
    (hZ : Z b) (hb : w.heap[b]? = some (.cells cur t fr)) (hc : l.length ≤ c) (h : Lay (IV Z w) sz cur o l) : IV Z w (.sl l) (.slice (some ⟨b, o, none⟩) l.length c) := by
  refine .sl l b o c sz cur t fr (fun i j => (cur[o + (i * sz + j)]?).getD Go.undef) hZ hb hc h.len ?_ ?_
  · intro i cs j x hi hj
    obtain ⟨u, hu, _⟩ := h.at_ i cs j x hi hj
    simp [hu]
  · intro i cs j x hi hj
    obtain ⟨u, hu, hr⟩ := h.at_ i cs j x hi hj
    simpa [hu] using hr

theorem IV.lay {Z : Nat → Prop} {w : World} {l : List (List A)} {v : Value} (h : IV Z w (.sl l) v) :
    ∃ a c, v = .slice a l.length c ∧ l.length ≤ c ∧ (l = [] ∨ ∃ b o sz cur t fr, a = some ⟨b, o, none⟩ ∧ Z b ∧ w.heap[b]? = some (.cells cur t fr) ∧ Lay (IV Z w) sz cur o l) := by
  cases h with
  | sl0 a c => exact ⟨a, c, rfl, Nat.zero_le _, .inl rfl⟩
  | sl l b o c sz cur t fr u hZ hb hc hl hu hr => exact ⟨_, c, rfl, hc, .inr ⟨b, o, sz, cur, t, fr, rfl, hZ, hb, hl, fun i cs j x hi hj => ⟨_, hu i cs j x hi hj, hr i cs j x hi hj⟩⟩⟩

abbrev Mu := Nat → Option (Nat × Nat)
def szOf (P : Program) (t : TypeId) : Option Nat := (P.info? t).map (·.size)

/-- A slice value over a row: its block from cell p on, n elements. -/
def Over (P : Program) (μ : Mu) (w : World) (r : Nat) (t : TypeId) (a n : Nat) (v : Value) : Prop :=
  ∃ c, n ≤ c ∧ ((c = 0 ∧ ∃ ad, v = .slice ad 0 0) ∨
    ∃ b o sz cur, μ r = some (b, o) ∧ szOf P t = some sz ∧ v = .slice (some ⟨b, o + a * sz, none⟩) n c ∧ w.heap[b]? = some (.cells cur t (0, 0)) ∧ o + (a + c) * sz ≤ cur.size)

/-- What a cell's word says. -/
def CR (P : Program) (hp : List Ob) (μ : Mu) (Z : Nat → Prop) (w : World) : A → Value → Prop
  | .ref r g, v => r < hp.length ∧ (∀ t g' l, hp[r]? = some (.row t g' l) → g ≤ g' ∧ (g = g' → Over P μ w r t 0 l.length v)) ∧
      (∀ g' l, hp[r]? = some (.fro g' l) → g ≤ g' ∧ (g = g' → IV Z w (.sl l) v)) ∧ v.oneCell' = true
  | .sub r g a e, v => r < hp.length ∧ (∀ t g' l, hp[r]? = some (.row t g' l) → g ≤ g' ∧ (g = g' → a ≤ e ∧ e ≤ l.length ∧ Over P μ w r t a (e - a) v)) ∧
      (∀ g' l, hp[r]? = some (.fro g' l) → g ≤ g' ∧ (g = g' → a ≤ e ∧ e ≤ l.length ∧ IV Z w (.sl ((l.take e).drop a)) v)) ∧ v.oneCell' = true
  | .ptr r g i j, v => r < hp.length ∧ (∀ t g' l, hp[r]? = some (.row t g' l) → g ≤ g' ∧ (g = g' → i < l.length ∧ ∃ b o sz, μ r = some (b, o) ∧ szOf P t = some sz ∧ j ≤ sz ∧ v = .pointer (some ⟨b, o + (i * sz + j), none⟩))) ∧
      (∀ t cs, hp[r]? = some (.box t cs) → i = 0 ∧ j ≤ cs.length ∧ ∃ b, μ r = some (b, 0) ∧ v = .pointer (some ⟨b, j, none⟩)) ∧ v.oneCell' = true
  | .vptr cs, v => ∃ b o cur t fr, v = .pointer (some ⟨b, o, none⟩) ∧ Z b ∧ w.heap[b]? = some (.cells cur t fr) ∧ ∀ (j : Nat) (x : A), cs[j]? = some x → ∃ u, cur[o + j]? = some u ∧ IV Z w x u
  | .clo f r i, v => ∃ u, v = .func (.func f) #[] #[u] ∧ r < hp.length ∧ ∀ t cs, hp[r]? = some (.box t cs) → i ≤ cs.length ∧ ∃ b, μ r = some (b, 0) ∧ u = .pointer (some ⟨b, i, none⟩)
  | .nil, v => ∃ a, v = .slice a 0 0
  | .agg _, _ => False
  | .tup _, _ => False
  | x, v => IV Z w x v

theorem CR.one {P : Program} {hp : List Ob} {μ : Mu} {Z : Nat → Prop} {w : World} {x : A} {v : Value} (h : CR P hp μ Z w x v) : v.oneCell' = true := by
  cases x <;> first | exact IV.one h | exact h.2.2.2 | exact h.elim | skip
  · obtain ⟨a, rfl⟩ := h; rfl
  · obtain ⟨b, o, cur, t, fr, rfl, _⟩ := h; rfl
  · obtain ⟨u, rfl, _⟩ := h; rfl

/-- Cell by cell. -/
def CRs (P : Program) (hp : List Ob) (μ : Mu) (Z : Nat → Prop) (w : World) (l : List A) (vs : List Value) : Prop :=
  vs.length = l.length ∧ ∀ (j : Nat) (x : A), l[j]? = some x → ∃ u, vs[j]? = some u ∧ CR P hp μ Z w x u

/-- What a slot's word says: a cell, or several side by side. -/
def TR (P : Program) (hp : List Ob) (μ : Mu) (Z : Nat → Prop) (w : World) : A → Value → Prop
  | .agg l, v => ∃ vs, v = .agg vs ∧ CRs P hp μ Z w l vs.toList
  | .undef, _ => True
  | x, v => CR P hp μ Z w x v

/-- .. or several values of a call. -/
def UR (P : Program) (hp : List Ob) (μ : Mu) (Z : Nat → Prop) (w : World) : A → Value → Prop
  | .tup l, v => ∃ vs : Array Value, v = .tuple vs ∧ vs.toList.length = l.length ∧ ∀ (j : Nat) (x : A), l[j]? = some x → ∃ u, vs.toList[j]? = some u ∧ TR P hp μ Z w x u
  | x, v => TR P hp μ Z w x v

/-- What is told of a block of the call's own. -/
def ObR (P : Program) (hp : List Ob) (μ : Mu) (Z : Nat → Prop) (w : World) (r : Nat) : Ob → Prop
  | .dead => True
  | .fro _ _ => True
  | .row t _ l => ∃ sz, szOf P t = some sz ∧ (∀ (i : Nat) (cs : List A), l[i]? = some cs → cs.length = sz) ∧ match μ r with
      | none => l = []
      | some (b, o) => ∃ cur, w.heap[b]? = some (.cells cur t (0, 0)) ∧ Lay (IV Z w) sz cur o l ∧ o + l.length * sz ≤ cur.size
  | .box t cs => ∃ b cur, μ r = some (b, 0) ∧ w.heap[b]? = some (.cells cur t (0, 0)) ∧ CRs P hp μ Z w cs cur.toList

def Live (hp : List Ob) (r : Nat) : Prop := (∃ t g l, hp[r]? = some (.row t g l)) ∨ ∃ t cs, hp[r]? = some (.box t cs)

/-- Where a call began: its world then; of what was there it may write the blocks L alone. -/
structure Base where
  w : World
  L : Nat → Prop
def Base.ok (B : Base) (b : Nat) : Prop := B.w.heap.size ≤ b ∨ B.L b
def Base.of (w : World) : Base := ⟨w, fun _ => False⟩
instance : Coe World Base := ⟨Base.of⟩
structure Bel (B : Base) (w : World) : Prop where
  os : w.os = B.w.os
  tape : w.tape = B.w.tape
  output : w.output = B.w.output
  size : B.w.heap.size ≤ w.heap.size
  block : ∀ k, k < B.w.heap.size → ¬ B.L k → w.heap[k]? = B.w.heap[k]?
theorem Bel.refl (w : World) (L : Nat → Prop) : Bel ⟨w, L⟩ w := ⟨rfl, rfl, rfl, Nat.le_refl _, fun _ _ _ => rfl⟩
theorem Bel.later {B : Base} {w w' : World} (h : Bel B w) (k : Below w.heap.size w w') : Bel B w' :=
  ⟨k.os.trans h.os, k.tape.trans h.tape, k.output.trans h.output, Nat.le_trans h.size k.size, fun i hi hl => (k.block i (Nat.lt_of_lt_of_le hi h.size)).trans (h.block i hi hl)⟩
theorem Bel.one {B : Base} {w w' : World} {b : Nat} (h : Bel B w) (hb : B.ok b) (h1 : w'.os = w.os) (h2 : w'.tape = w.tape) (h3 : w'.output = w.output) (h4 : w.heap.size ≤ w'.heap.size) (h5 : ∀ k, k ≠ b → w'.heap[k]? = w.heap[k]?) : Bel B w' :=
  ⟨h1.trans h.os, h2.trans h.tape, h3.trans h.output, Nat.le_trans h.size h4, fun i hi hl => (h5 i (fun e => by
    subst e
    rcases hb with hb | hb
    · omega
    · exact hl hb)).trans (h.block i hi hl)⟩
theorem Bel.below {w w' : World} (h : Bel (Base.of w) w') : Below w.heap.size w w' := ⟨h.os, h.tape, h.output, h.size, fun k hk => h.block k hk id⟩
theorem Bel.of {w w' : World} (h : Below w.heap.size w w') : Bel (Base.of w) w' := ⟨h.os, h.tape, h.output, h.size, fun k hk _ => h.block k hk⟩
theorem Base.ok_of {w : World} {b : Nat} (h : (Base.of w).ok b) : w.heap.size ≤ b := h.resolve_right id
theorem Bel.new {B : Base} {w : World} {b : Nat} (h : Bel B w) (hb : w.heap.size ≤ b) : B.ok b := .inl (Nat.le_trans h.size hb)

structure HR (P : Program) (Z0 : Nat → Prop) (w0 : Base) (hp : List Ob) (μ : Mu) (Z : Nat → Prop) (w : World) : Prop where
  below : Bel w0 w
  z0 : ∀ b, Z0 b → Z b
  zlt : ∀ b, Z b → b < w.heap.size ∧ (Z0 b ∨ w0.ok b)
  ob : ∀ r o, hp[r]? = some o → ObR P hp μ Z w r o
  own : ∀ r b o, Live hp r → μ r = some (b, o) → w0.ok b ∧ b < w.heap.size ∧ ¬ Z b
  inj : ∀ r r' b o o', Live hp r → Live hp r' → μ r = some (b, o) → μ r' = some (b, o') → r = r'

/-- A state: the slots, the blocks of its own. -/
structure St where
  tm : List A
  hp : List Ob

def TRs (P : Program) (hp : List Ob) (μ : Mu) (Z : Nat → Prop) (w : World) (l : List A) (vs : List Value) : Prop :=
  vs.length = l.length ∧ ∀ (j : Nat) (x : A), l[j]? = some x → ∃ u, vs[j]? = some u ∧ UR P hp μ Z w x u

/-- Where a call began; what its caller keeps meanwhile: F, told of V. -/
structure Ctx where
  Z0 : Nat → Prop
  w0 : Base
  F : List A
  V : List Value

structure RelAt (P : Program) (C : Ctx) (st : St) (a : Act) (w : World) (μ : Mu) (Z : Nat → Prop) : Prop where
  hr : HR P C.Z0 C.w0 st.hp μ Z w
  tm : TRs P st.hp μ Z w st.tm a.tmps.toList
  df : a.defers = []
  fr : TRs P st.hp μ Z w C.F C.V

def Rel (P : Program) (C : Ctx) (st : St) (a : Act) (w : World) : Prop := ∃ μ Z, RelAt P C st a w μ Z

/-- What was told stays told: from one state of the blocks to a later one. -/
structure Ext (P : Program) (hp : List Ob) (μ : Mu) (Z : Nat → Prop) (w : World) (hp' : List Ob) (μ' : Mu) (Z' : Nat → Prop) (w' : World) : Prop where
  len : hp.length ≤ hp'.length
  z : ∀ b, Z b → Z' b
  zh : ∀ b, Z b → w'.heap[b]? = w.heap[b]?
  row : ∀ (r : Nat) (t : TypeId) (g : Nat) (l : List (List A)), r < hp.length → hp'[r]? = some (.row t g l) →
    (∃ l0 : List (List A), hp[r]? = some (.row t g l0) ∧ l0.length = l.length ∧ μ' r = μ r ∧ ∀ b o cur, μ r = some (b, o) → w.heap[b]? = some (.cells cur t (0, 0)) → ∃ cur', w'.heap[b]? = some (.cells cur' t (0, 0)) ∧ cur'.size = cur.size) ∨
    ∃ t0 g0 l0, hp[r]? = some (.row t0 g0 l0) ∧ g0 < g
  fro : ∀ (r g : Nat) (l : List (List A)), r < hp.length → hp'[r]? = some (.fro g l) → hp[r]? = some (.fro g l) ∨
    (∃ t, ∃ l0 : List (List A), hp[r]? = some (.row t g l0) ∧ l0.length = l.length ∧ ∀ a e v, a ≤ e → e ≤ l.length → Over P μ w r t a (e - a) v → IV Z' w' (.sl ((l.take e).drop a)) v) ∨
    ∃ t0 g0 l0, hp[r]? = some (.row t0 g0 l0) ∧ g0 < g
  box : ∀ (r : Nat) (t : TypeId) (cs : List A), r < hp.length → hp'[r]? = some (.box t cs) → ∃ cs0 : List A, hp[r]? = some (.box t cs0) ∧ cs0.length = cs.length ∧ μ' r = μ r

section
variable {P : Program} {hp hp' : List Ob} {μ μ' : Mu} {Z Z' : Nat → Prop} {w w' : World}

theorem Over.ext {r a n : Nat} {t : TypeId} {v : Value} (h : Over P μ w r t a n v) (hm : μ' r = μ r)
    (hc : ∀ b o cur, μ r = some (b, o) → w.heap[b]? = some (.cells cur t (0, 0)) → ∃ cur', w'.heap[b]? = some (.cells cur' t (0, 0)) ∧ cur'.size = cur.size) : Over P μ' w' r t a n v := by
  obtain ⟨c, h1, h2⟩ := h
  refine ⟨c, h1, ?_⟩
  rcases h2 with h2 | ⟨b, o, sz, cur, h3, h4, h5, h6, h7⟩
  · exact .inl h2
  · obtain ⟨cur', h8, h9⟩ := hc b o cur h3 h6
    exact .inr ⟨b, o, sz, cur', hm.trans h3, h4, h5, h8, by omega⟩

theorem CR.ext (E : Ext P hp μ Z w hp' μ' Z' w') {x : A} {v : Value} (h : CR P hp μ Z w x v) : CR P hp' μ' Z' w' x v := by
  cases x with
  | ref r g =>
    obtain ⟨h0, h1, h2, h3⟩ := h
    refine ⟨Nat.lt_of_lt_of_le h0 E.len, ?_, ?_, h3⟩
    · intro t g' l hr
      rcases E.row r t g' l h0 hr with ⟨l0, e0, e1, e2, e3⟩ | ⟨t0, g0, l0, e0, e1⟩
      · obtain ⟨q1, q2⟩ := h1 t g' l0 e0
        exact ⟨q1, fun e => e1 ▸ (q2 e).ext e2 e3⟩
      · obtain ⟨q1, _⟩ := h1 t0 g0 l0 e0
        exact ⟨by omega, fun e => by omega⟩
    · intro g' l hr
      rcases E.fro r g' l h0 hr with e0 | ⟨t, l0, e0, el, e1⟩ | ⟨t0, g0, l0, e0, e1⟩
      · obtain ⟨q1, q2⟩ := h2 g' l e0
        exact ⟨q1, fun e => (q2 e).mono E.z E.zh⟩
      · obtain ⟨q1, q2⟩ := h1 t g' l0 e0
        refine ⟨q1, fun e => ?_⟩
        have := e1 0 l.length v (Nat.zero_le _) (Nat.le_refl _) (by rw [el] at q2; simpa using q2 e)
        simpa using this
      · obtain ⟨q1, _⟩ := h1 t0 g0 l0 e0
        exact ⟨by omega, fun e => by omega⟩
  | sub r g a e =>
    obtain ⟨h0, h1, h2, h3⟩ := h
    refine ⟨Nat.lt_of_lt_of_le h0 E.len, ?_, ?_, h3⟩
    · intro t g' l hr
      rcases E.row r t g' l h0 hr with ⟨l0, e0, e1, e2, e3⟩ | ⟨t0, g0, l0, e0, e1⟩
      · obtain ⟨q1, q2⟩ := h1 t g' l0 e0
        exact ⟨q1, fun e => ⟨(q2 e).1, e1 ▸ (q2 e).2.1, (q2 e).2.2.ext e2 e3⟩⟩
      · obtain ⟨q1, _⟩ := h1 t0 g0 l0 e0
        exact ⟨by omega, fun e => by omega⟩
    · intro g' l hr
      rcases E.fro r g' l h0 hr with e0 | ⟨t, l0, e0, el, e1⟩ | ⟨t0, g0, l0, e0, e1⟩
      · obtain ⟨q1, q2⟩ := h2 g' l e0
        exact ⟨q1, fun e => ⟨(q2 e).1, (q2 e).2.1, (q2 e).2.2.mono E.z E.zh⟩⟩
      · obtain ⟨q1, q2⟩ := h1 t g' l0 e0
        exact ⟨q1, fun e => ⟨(q2 e).1, el ▸ (q2 e).2.1, e1 _ _ v (q2 e).1 (el ▸ (q2 e).2.1) (q2 e).2.2⟩⟩
      · obtain ⟨q1, _⟩ := h1 t0 g0 l0 e0
        exact ⟨by omega, fun e => by omega⟩
  | ptr r g i j =>
    obtain ⟨h0, h1, h2, h3⟩ := h
    refine ⟨Nat.lt_of_lt_of_le h0 E.len, ?_, ?_, h3⟩
    · intro t g' l hr
      rcases E.row r t g' l h0 hr with ⟨l0, e0, e1, e2, e3⟩ | ⟨t0, g0, l0, e0, e1⟩
      · obtain ⟨q1, q2⟩ := h1 t g' l0 e0
        refine ⟨q1, fun e => ?_⟩
        obtain ⟨q3, b, o, sz, q4, q5, q6⟩ := q2 e
        exact ⟨e1 ▸ q3, b, o, sz, e2.trans q4, q5, q6⟩
      · obtain ⟨q1, _⟩ := h1 t0 g0 l0 e0
        exact ⟨by omega, fun e => by omega⟩
    · intro t cs hr
      obtain ⟨cs0, e0, e1, e2⟩ := E.box r t cs h0 hr
      obtain ⟨q1, q2, b, q3, q4⟩ := h2 t cs0 e0
      exact ⟨q1, e1 ▸ q2, b, e2.trans q3, q4⟩
  | vptr cs =>
    obtain ⟨b, o, cur, t, fr, rfl, q1, q2, q3⟩ := h
    refine ⟨b, o, cur, t, fr, rfl, E.z b q1, (E.zh b q1).trans q2, fun j x hj => ?_⟩
    obtain ⟨u, q4, q5⟩ := q3 j x hj
    exact ⟨u, q4, q5.mono E.z E.zh⟩
  | clo f r i =>
    obtain ⟨u, h0, h1, h2⟩ := h
    refine ⟨u, h0, Nat.lt_of_lt_of_le h1 E.len, fun t cs hr => ?_⟩
    obtain ⟨cs0, e0, e1, e2⟩ := E.box r t cs h1 hr
    obtain ⟨q1, b, q2, q3⟩ := h2 t cs0 e0
    exact ⟨e1 ▸ q1, b, e2.trans q2, q3⟩
  | nil => exact h
  | agg l => exact h
  | tup l => exact h
  | int k n => exact IV.mono h E.z E.zh
  | bool b => exact IV.mono h E.z E.zh
  | str s => exact IV.mono h E.z E.zh
  | sl l => exact IV.mono h E.z E.zh
  | val u => exact IV.mono h E.z E.zh
  | undef => exact IV.mono h E.z E.zh

theorem CRs.ext (E : Ext P hp μ Z w hp' μ' Z' w') {l : List A} {vs : List Value} (h : CRs P hp μ Z w l vs) : CRs P hp' μ' Z' w' l vs :=
  ⟨h.1, fun j x hj => let ⟨u, h1, h2⟩ := h.2 j x hj; ⟨u, h1, h2.ext E⟩⟩

theorem TR.ext (E : Ext P hp μ Z w hp' μ' Z' w') {x : A} {v : Value} (h : TR P hp μ Z w x v) : TR P hp' μ' Z' w' x v := by
  cases x <;> first | (simp only [TR] at h ⊢; exact CR.ext E h) | trivial | skip
  obtain ⟨vs, rfl, h⟩ := h
  exact ⟨vs, rfl, h.ext E⟩

theorem UR.ext (E : Ext P hp μ Z w hp' μ' Z' w') {x : A} {v : Value} (h : UR P hp μ Z w x v) : UR P hp' μ' Z' w' x v := by
  cases x <;> first | (simp only [UR] at h ⊢; exact TR.ext E h) | skip
  obtain ⟨vs, rfl, h1, h⟩ := h
  exact ⟨vs, rfl, h1, fun j x hj => let ⟨u, h1, h2⟩ := h j x hj; ⟨u, h1, h2.ext E⟩⟩

theorem TRs.ext (E : Ext P hp μ Z w hp' μ' Z' w') {l : List A} {vs : List Value} (h : TRs P hp μ Z w l vs) : TRs P hp' μ' Z' w' l vs :=
  ⟨h.1, fun j x hj => let ⟨u, h1, h2⟩ := h.2 j x hj; ⟨u, h1, h2.ext E⟩⟩
end
end Go.Vm
/- A machine of values: how its blocks change. -/
namespace Go.Vm
open Go.RowKit
section
variable {P : Program} {C : Ctx} {Z0 : Nat → Prop} {w0 : Base} {hp : List Ob} {μ : Mu} {Z : Nat → Prop} {w : World}

theorem Live.of_set {r q : Nat} {o : Ob} (h : Live (hp.set r o) q) (hq : q ≠ r) : Live hp q := by
  unfold Live at *
  simpa [List.getElem?_set_ne (Ne.symm hq)] using h

theorem Lay.imp {R R' : A → Value → Prop} {sz : Nat} {cur : Array Value} {o : Nat} {l : List (List A)} (h : Lay R sz cur o l) (hr : ∀ x v, R x v → R' x v) : Lay R' sz cur o l :=
  ⟨h.len, fun i cs j x hi hj => let ⟨u, h1, h2⟩ := h.at_ i cs j x hi hj; ⟨u, h1, hr _ _ h2⟩⟩

theorem ObR.ext {hp' : List Ob} {μ' : Mu} {Z' : Nat → Prop} {w' : World} (E : Ext P hp μ Z w hp' μ' Z' w') {r : Nat} {o : Ob} (h : ObR P hp μ Z w r o)
    (hm : μ' r = μ r) (hb : ∀ b o', μ r = some (b, o') → w'.heap[b]? = w.heap[b]?) : ObR P hp' μ' Z' w' r o := by
  cases o with
  | dead => trivial
  | fro g l => trivial
  | row t g l =>
    obtain ⟨sz, h1, h2, h3⟩ := h
    refine ⟨sz, h1, h2, ?_⟩
    rw [hm]
    cases hq : μ r with
    | none => simpa [hq] using h3
    | some bo =>
      obtain ⟨b, o⟩ := bo
      simp only [hq] at h3 ⊢
      obtain ⟨cur, h4, h5, h6⟩ := h3
      exact ⟨cur, (hb b o hq).trans h4, h5.imp (fun x v hx => hx.mono E.z E.zh), h6⟩
  | box t cs =>
    obtain ⟨b, cur, h1, h2, h3⟩ := h
    exact ⟨b, cur, hm.trans h1, (hb b 0 h1).trans h2, h3.ext E⟩

/-- One block's word anew. -/
theorem HR.upd (H : HR P Z0 w0 hp μ Z w) {r : Nat} {o' : Ob} {m' : Option (Nat × Nat)} {w' : World} (hl : Live hp r)
    (hbel : Bel w0 w') (hsz : w.heap.size ≤ w'.heap.size)
    (hoth : ∀ k, k < w.heap.size → (∀ o, μ r ≠ some (k, o)) → w'.heap[k]? = w.heap[k]?)
    (hm : ∀ b o, m' = some (b, o) → (∃ o0, μ r = some (b, o0)) ∨ (w.heap.size ≤ b ∧ b < w'.heap.size))
    (hrow : ∀ (t : TypeId) (g : Nat) (l : List (List A)), o' = .row t g l →
      (∃ l0 : List (List A), hp[r]? = some (.row t g l0) ∧ l0.length = l.length ∧ m' = μ r ∧ ∀ b o cur, μ r = some (b, o) → w.heap[b]? = some (.cells cur t (0, 0)) → ∃ cur', w'.heap[b]? = some (.cells cur' t (0, 0)) ∧ cur'.size = cur.size) ∨
      ∃ t0 g0 l0, hp[r]? = some (.row t0 g0 l0) ∧ g0 < g)
    (hfro : ∀ g l, o' ≠ .fro g l)
    (hbox : ∀ (t : TypeId) (cs : List A), o' = .box t cs → ∃ cs0 : List A, hp[r]? = some (.box t cs0) ∧ cs0.length = cs.length ∧ m' = μ r)
    (hob : Ext P hp μ Z w (hp.set r o') (fun q => if q = r then m' else μ q) Z w' → ObR P (hp.set r o') (fun q => if q = r then m' else μ q) Z w' r o') :
    HR P Z0 w0 (hp.set r o') (fun q => if q = r then m' else μ q) Z w' ∧ Ext P hp μ Z w (hp.set r o') (fun q => if q = r then m' else μ q) Z w' := by
  have hlt : r < hp.length := by
    rcases hl with ⟨t, g, l, h⟩ | ⟨t, cs, h⟩ <;> exact (List.getElem?_eq_some_iff.1 h).1
  have hz : ∀ b, Z b → w'.heap[b]? = w.heap[b]? := fun b hb => hoth b (H.zlt b hb).1 (fun o e => (H.own r b o hl e).2.2 hb)
  have hq : ∀ q, q ≠ r → Live hp q → ∀ b o, μ q = some (b, o) → w'.heap[b]? = w.heap[b]? := fun q hqr hlq b o e =>
    hoth b (H.own q b o hlq e).2.1 (fun o2 e2 => hqr (H.inj q r b o o2 hlq hl e e2))
  have hset : ∀ q, q ≠ r → (hp.set r o')[q]? = hp[q]? := fun q h => List.getElem?_set_ne (Ne.symm h)
  have hself : (hp.set r o')[r]? = some o' := by simp [hlt]
  have E : Ext P hp μ Z w (hp.set r o') (fun q => if q = r then m' else μ q) Z w' := by
    refine ⟨by simp, fun _ h => h, hz, ?_, ?_, ?_⟩
    · intro q t g l hqlt h
      by_cases e : q = r
      · subst e
        rw [hself] at h
        simpa using hrow t g l (Option.some.inj h)
      · rw [hset q e] at h
        refine .inl ⟨l, h, rfl, by simp [e], fun b o cur h1 h2 => ⟨cur, (hq q e (.inl ⟨t, g, l, h⟩) b o h1).trans h2, rfl⟩⟩
    · intro q g l hqlt h
      by_cases e : q = r
      · subst e
        rw [hself] at h
        exact absurd (Option.some.inj h) (hfro g l)
      · rw [hset q e] at h
        exact .inl h
    · intro q t cs hqlt h
      by_cases e : q = r
      · subst e
        rw [hself] at h
        simpa using hbox t cs (Option.some.inj h)
      · rw [hset q e] at h
        exact ⟨cs, h, rfl, by simp [e]⟩
  refine ⟨⟨hbel, H.z0, fun b hb => ⟨Nat.lt_of_lt_of_le (H.zlt b hb).1 hsz, (H.zlt b hb).2⟩, ?_, ?_, ?_⟩, E⟩
  · intro q o hqo
    by_cases e : q = r
    · subst e
      rw [hself] at hqo
      obtain rfl := Option.some.inj hqo
      exact hob E
    · rw [hset q e] at hqo
      have hO := H.ob q o hqo
      cases o with
      | dead => trivial
      | fro g l => trivial
      | row t g l => exact hO.ext E (by simp [e]) (hq q e (.inl ⟨t, g, l, hqo⟩))
      | box t cs => exact hO.ext E (by simp [e]) (hq q e (.inr ⟨t, cs, hqo⟩))
  · intro q b o hlq hmq
    by_cases e : q = r
    · subst e
      simp only [if_true] at hmq
      rcases hm b o hmq with ⟨o0, h⟩ | ⟨h1, h2⟩
      · have := H.own q b o0 hl h
        exact ⟨this.1, Nat.lt_of_lt_of_le this.2.1 hsz, this.2.2⟩
      · exact ⟨.inl (Nat.le_trans H.below.size h1), h2, fun hz => by have := (H.zlt b hz).1; omega⟩
    · simp only [if_neg e] at hmq
      have := H.own q b o (hlq.of_set e) hmq
      exact ⟨this.1, Nat.lt_of_lt_of_le this.2.1 hsz, this.2.2⟩
  · intro q q' b o o2 h1 h2 e1 e2
    by_cases a1 : q = r <;> by_cases a2 : q' = r
    · rw [a1, a2]
    · exfalso
      simp only [if_pos a1, if_neg a2] at e1 e2
      have hk := H.own q' b o2 (h2.of_set a2) e2
      rcases hm b o e1 with ⟨o0, h⟩ | ⟨h3, _⟩
      · exact a2 (H.inj q' r b o2 o0 (h2.of_set a2) hl e2 h)
      · omega
    · exfalso
      simp only [if_neg a1, if_pos a2] at e1 e2
      have hk := H.own q b o (h1.of_set a1) e1
      rcases hm b o2 e2 with ⟨o0, h⟩ | ⟨h3, _⟩
      · exact a1 (H.inj q r b o o0 (h1.of_set a1) hl e1 h)
      · omega
    · simp only [if_neg a1, if_neg a2] at e1 e2
      exact H.inj q q' b o o2 (h1.of_set a1) (h2.of_set a2) e1 e2

theorem Live.of_push {q : Nat} {o : Ob} (h : Live (hp ++ [o]) q) (hq : q ≠ hp.length) : Live hp q := by
  unfold Live at *
  rcases h with ⟨t, g, l, h⟩ | ⟨t, cs, h⟩
  · refine .inl ⟨t, g, l, ?_⟩
    rw [List.getElem?_append] at h
    split at h
    · exact h
    · rename_i hn
      have : 0 < q - hp.length := by omega
      rw [List.getElem?_eq_none (by simp; omega)] at h
      cases h
  · refine .inr ⟨t, cs, ?_⟩
    rw [List.getElem?_append] at h
    split at h
    · exact h
    · rename_i hn
      rw [List.getElem?_eq_none (by simp; omega)] at h
      cases h

/-- A block more. -/
theorem HR.push (H : HR P Z0 w0 hp μ Z w) {o' : Ob} {m' : Option (Nat × Nat)} {w' : World}
    (hbel : Bel w0 w') (hsz : w.heap.size ≤ w'.heap.size)
    (hoth : ∀ k, k < w.heap.size → w'.heap[k]? = w.heap[k]?)
    (hm : ∀ b o, m' = some (b, o) → w.heap.size ≤ b ∧ b < w'.heap.size)
    (hob : Ext P hp μ Z w (hp ++ [o']) (fun q => if q = hp.length then m' else μ q) Z w' → ObR P (hp ++ [o']) (fun q => if q = hp.length then m' else μ q) Z w' hp.length o') :
    HR P Z0 w0 (hp ++ [o']) (fun q => if q = hp.length then m' else μ q) Z w' ∧ Ext P hp μ Z w (hp ++ [o']) (fun q => if q = hp.length then m' else μ q) Z w' := by
  have hz : ∀ b, Z b → w'.heap[b]? = w.heap[b]? := fun b hb => hoth b (H.zlt b hb).1
  have hset : ∀ q, q < hp.length → (hp ++ [o'])[q]? = hp[q]? := fun q h => List.getElem?_append_left h
  have hself : (hp ++ [o'])[hp.length]? = some o' := by simp
  have hlt : ∀ q o, (hp ++ [o'])[q]? = some o → q = hp.length ∨ q < hp.length := fun q o h => by
    have := (List.getElem?_eq_some_iff.1 h).1
    simp at this
    omega
  have E : Ext P hp μ Z w (hp ++ [o']) (fun q => if q = hp.length then m' else μ q) Z w' := by
    refine ⟨by simp, fun _ h => h, hz, ?_, ?_, ?_⟩
    · intro q t g l hqlt h
      rw [hset q hqlt] at h
      refine .inl ⟨l, h, rfl, by simp [Nat.ne_of_lt hqlt], fun b o cur h1 h2 => ⟨cur, (hoth b (H.own q b o (.inl ⟨t, g, l, h⟩) h1).2.1).trans h2, rfl⟩⟩
    · intro q g l hqlt h
      rw [hset q hqlt] at h
      exact .inl h
    · intro q t cs hqlt h
      rw [hset q hqlt] at h
      exact ⟨cs, h, rfl, by simp [Nat.ne_of_lt hqlt]⟩
  refine ⟨⟨hbel, H.z0, fun b hb => ⟨Nat.lt_of_lt_of_le (H.zlt b hb).1 hsz, (H.zlt b hb).2⟩, ?_, ?_, ?_⟩, E⟩
  · intro q o hqo
    rcases hlt q o hqo with rfl | e
    · rw [hself] at hqo
      obtain rfl := Option.some.inj hqo
      exact hob E
    · rw [hset q e] at hqo
      have hO := H.ob q o hqo
      cases o with
      | dead => trivial
      | fro g l => trivial
      | row t g l => exact hO.ext E (by simp [Nat.ne_of_lt e]) (fun b o h => hoth b (H.own q b o (.inl ⟨t, g, l, hqo⟩) h).2.1)
      | box t cs => exact hO.ext E (by simp [Nat.ne_of_lt e]) (fun b o h => hoth b (H.own q b o (.inr ⟨t, cs, hqo⟩) h).2.1)
  · intro q b o hlq hmq
    by_cases e : q = hp.length
    · subst e
      simp only [if_true] at hmq
      obtain ⟨h1, h2⟩ := hm b o hmq
      exact ⟨.inl (Nat.le_trans H.below.size h1), h2, fun hz => by have := (H.zlt b hz).1; omega⟩
    · simp only [if_neg e] at hmq
      have := H.own q b o (hlq.of_push e) hmq
      exact ⟨this.1, Nat.lt_of_lt_of_le this.2.1 hsz, this.2.2⟩
  · intro q q' b o o2 h1 h2 e1 e2
    by_cases a1 : q = hp.length <;> by_cases a2 : q' = hp.length
    · rw [a1, a2]
    · exfalso
      simp only [if_pos a1, if_neg a2] at e1 e2
      have hk := H.own q' b o2 (h2.of_push a2) e2
      have := hm b o e1
      omega
    · exfalso
      simp only [if_neg a1, if_pos a2] at e1 e2
      have hk := H.own q b o (h1.of_push a1) e1
      have := hm b o2 e2
      omega
    · simp only [if_neg a1, if_neg a2] at e1 e2
      exact H.inj q q' b o o2 (h1.of_push a1) (h2.of_push a2) e1 e2

/-- What has a row over a block says of it, read. -/
theorem Over.iv {r a n : Nat} {t : TypeId} {g : Nat} {l : List (List A)} {v : Value} {Z' : Nat → Prop} (h : Over P μ w r t a n v) (ho : ObR P hp μ Z w r (.row t g l)) (ha : a + n ≤ l.length)
    (hz : ∀ b, Z b → Z' b) (hb : ∀ b o, μ r = some (b, o) → Z' b) : IV Z' w (.sl ((l.take (a + n)).drop a)) v := by
  obtain ⟨c, h1, h2⟩ := h
  have hlen : ((l.take (a + n)).drop a).length = n := by simp; omega
  rcases h2 with ⟨rfl, ad, rfl⟩ | ⟨b, o, sz, cur, h3, h4, rfl, h6, h7⟩
  · obtain rfl : n = 0 := by omega
    rw [List.eq_nil_of_length_eq_zero hlen]
    exact .sl0 ad 0
  · obtain ⟨sz', h8, h9, h10⟩ := ho
    rw [h4] at h8
    obtain rfl := Option.some.inj h8
    simp only [h3] at h10
    obtain ⟨cur', h11, h12, h13⟩ := h10
    rw [h6] at h11
    obtain ⟨rfl, _⟩ : cur = cur' ∧ True := by
      have := Option.some.inj h11
      injection this with e
      exact ⟨e, trivial⟩
    have := IV.of_lay (Z := Z') (w := w) (l := (l.take (a + n)).drop a) (b := b) (o := o + a * sz) (c := c) (sz := sz) (hb b o h3) h6 (by omega) ?_
    · rw [hlen] at this
      exact this
    · have hget : ∀ (i : Nat) (cs : List A), ((l.take (a + n)).drop a)[i]? = some cs → l[a + i]? = some cs := by
        intro i cs hi
        rw [List.getElem?_drop, List.getElem?_take] at hi
        split at hi
        · exact hi
        · cases hi
      refine ⟨fun i cs hi => h12.len _ _ (hget i cs hi), fun i cs j x hi hj => ?_⟩
      obtain ⟨u, hu1, hu2⟩ := h12.at_ _ _ _ _ (hget i cs hi) hj
      refine ⟨u, ?_, hu2.mono hz (fun _ _ => rfl)⟩
      rw [← hu1]
      congr 1
      rw [Nat.add_mul]
      omega

/-- A row is changed no more. -/
theorem HR.freeze (H : HR P Z0 w0 hp μ Z w) {r g : Nat} {t : TypeId} {l : List (List A)} (hr : hp[r]? = some (.row t g l)) :
    ∃ Z', HR P Z0 w0 (hp.set r (.fro g l)) μ Z' w ∧ Ext P hp μ Z w (hp.set r (.fro g l)) μ Z' w := by
  have hl : Live hp r := .inl ⟨t, g, l, hr⟩
  have hlt : r < hp.length := (List.getElem?_eq_some_iff.1 hr).1
  have hset : ∀ q, q ≠ r → (hp.set r (.fro g l))[q]? = hp[q]? := fun q h => List.getElem?_set_ne (Ne.symm h)
  have hself : (hp.set r (.fro g l))[r]? = some (.fro g l) := by simp [hlt]
  have hnl : ¬ Live (hp.set r (.fro g l)) r := by
    rintro (⟨t', g', l', h⟩ | ⟨t', cs, h⟩) <;> rw [hself] at h <;> cases h
  refine ⟨fun b => Z b ∨ ∃ o, μ r = some (b, o), ?_⟩
  have E : Ext P hp μ Z w (hp.set r (.fro g l)) μ (fun b => Z b ∨ ∃ o, μ r = some (b, o)) w := by
    refine ⟨by simp, fun _ h => .inl h, fun _ _ => rfl, ?_, ?_, ?_⟩
    · intro q t' g' l' hqlt h
      by_cases e : q = r
      · subst e; rw [hself] at h; cases h
      · rw [hset q e] at h
        exact .inl ⟨l', h, rfl, rfl, fun b o cur h1 h2 => ⟨cur, h2, rfl⟩⟩
    · intro q g' l' hqlt h
      by_cases e : q = r
      · subst e
        rw [hself] at h
        obtain ⟨rfl, rfl⟩ : g = g' ∧ l = l' := by
          have := Option.some.inj h
          injection this with e1 e2
          exact ⟨e1, e2⟩
        refine .inr (.inl ⟨t, l, hr, rfl, fun a e v h1 h2 h3 => ?_⟩)
        have := h3.iv (Z' := fun b => Z b ∨ ∃ o, μ q = some (b, o)) (H.ob q _ hr) (by omega) (fun _ h => .inl h) (fun b o h => .inr ⟨o, h⟩)
        rwa [show a + (e - a) = e by omega] at this
      · rw [hset q e] at h
        exact .inl h
    · intro q t' cs hqlt h
      by_cases e : q = r
      · subst e; rw [hself] at h; cases h
      · rw [hset q e] at h
        exact ⟨cs, h, rfl, rfl⟩
  refine ⟨⟨H.below, fun b h => .inl (H.z0 b h), ?_, ?_, ?_, ?_⟩, E⟩
  · rintro b (h | ⟨o, h⟩)
    · exact H.zlt b h
    · have := H.own r b o hl h
      exact ⟨this.2.1, .inr this.1⟩
  · intro q o hqo
    by_cases e : q = r
    · subst e
      rw [hself] at hqo
      obtain rfl := Option.some.inj hqo
      trivial
    · rw [hset q e] at hqo
      exact (H.ob q o hqo).ext E rfl (fun _ _ _ => rfl)
  · intro q b o hlq hmq
    have e : q ≠ r := fun e => hnl (e ▸ hlq)
    have := H.own q b o (hlq.of_set e) hmq
    refine ⟨this.1, this.2.1, ?_⟩
    rintro (h | ⟨o2, h⟩)
    · exact this.2.2 h
    · exact e (H.inj q r b o o2 (hlq.of_set e) hl hmq h)
  · intro q q' b o o2 h1 h2 e1 e2
    have a1 : q ≠ r := fun e => hnl (e ▸ h1)
    have a2 : q' ≠ r := fun e => hnl (e ▸ h2)
    exact H.inj q q' b o o2 (h1.of_set a1) (h2.of_set a2) e1 e2
end
end Go.Vm
/- A machine of values: its steps that change no block; what is frozen. -/
namespace Go.Vm
open Go.RowKit
set_option linter.unusedVariables false

def toA : Value → A
  | .int k n => .int k n
  | .bool b => .bool b
  | .string s => .str s
  | .slice none 0 0 => .nil
  | v => if v.oneCell' then .val v else .undef

def St.ev (st : St) : Operand → A
  | .tmp t => st.tm.getD t .undef
  | .const v => toA v
  | .func f => .val (.func (.func f) #[] #[])
  | .global _ => .undef

def St.put (st : St) : Option Tmp → A → St
  | some d, x => ⟨st.tm.set d x, st.hp⟩
  | none, _ => st

section
variable {P : Program} {C : Ctx} {Z0 : Nat → Prop} {w0 : Base} {hp hp' : List Ob} {μ μ' : Mu} {Z Z' : Nat → Prop} {w w' : World} {st : St} {a : Act}

theorem UR.of_CR {x : A} {v : Value} (h : CR P hp μ Z w x v) : UR P hp μ Z w x v := by
  cases x <;> first | exact h | exact h.elim | trivial

theorem UR.of_TR {x : A} {v : Value} (h : TR P hp μ Z w x v) : UR P hp μ Z w x v := by
  cases x <;> first | exact h | exact (show CR P hp μ Z w _ v from h).elim | skip
  all_goals first | exact h | exact (h : False).elim

theorem UR.undef {v : Value} : UR P hp μ Z w .undef v := trivial

theorem toA_ur (v : Value) : UR P hp μ Z w (toA v) v := by
  unfold toA
  split
  · exact IV.int _ _
  · exact IV.bool _
  · exact IV.str _
  · exact ⟨none, rfl⟩
  · split
    · rename_i h; exact IV.val _ h
    · trivial

theorem RelAt.ev (R : RelAt P C st a w μ Z) (x : Operand) : UR P st.hp μ Z w (st.ev x) (a.eval x) := by
  cases x with
  | tmp t =>
    show UR P st.hp μ Z w (st.tm.getD t .undef) (a.tmps.getD t Go.undef)
    rw [List.getD_eq_getElem?_getD]
    cases h : st.tm[t]? with
    | none => trivial
    | some y =>
      obtain ⟨u, h1, h2⟩ := R.tm.2 t y h
      have : a.tmps.getD t Go.undef = u := by
        rw [Array.getD_eq_getD_getElem?, ← Array.getElem?_toList, h1]; rfl
      rw [this]
      exact h2
  | const v => exact toA_ur v
  | func f => exact IV.val _ rfl
  | global g => trivial

theorem TRs.set {l : List A} {vs : Array Value} {x : A} {v : Value} (h : TRs P hp μ Z w l vs.toList) (hx : UR P hp μ Z w x v) (d : Nat) : TRs P hp μ Z w (l.set d x) (vs.setIfInBounds d v).toList := by
  rw [Array.toList_setIfInBounds]
  refine ⟨by simp [h.1], fun j y hj => ?_⟩
  by_cases e : d = j
  · subst e
    have hlt : d < l.length := by
      rcases Nat.lt_or_ge d l.length with h | h
      · exact h
      · rw [List.getElem?_eq_none (by simpa using h)] at hj; cases hj
    rw [List.getElem?_set_self hlt] at hj
    obtain rfl := Option.some.inj hj
    exact ⟨v, List.getElem?_set_self (by rw [h.1]; exact hlt), hx⟩
  · rw [List.getElem?_set_ne e] at hj
    obtain ⟨u, h1, h2⟩ := h.2 j y hj
    exact ⟨u, by rw [List.getElem?_set_ne e]; exact h1, h2⟩

theorem RelAt.put (R : RelAt P C st a w μ Z) {x : A} {v : Value} (h : UR P st.hp μ Z w x v) (d : Option Tmp) : RelAt P C (st.put d x) (a.put d v) w μ Z := by
  cases d with
  | none => exact R
  | some d => exact ⟨R.hr, R.tm.set h d, R.df, R.fr⟩

/-- A step that changes blocks. -/
theorem RelAt.step (R : RelAt P C st a w μ Z) (H : HR P C.Z0 C.w0 hp' μ' Z' w') (E : Ext P st.hp μ Z w hp' μ' Z' w') {x : A} {v : Value} (h : UR P hp' μ' Z' w' x v) (d : Option Tmp) :
    RelAt P C (St.put ⟨st.tm, hp'⟩ d x) (a.put d v) w' μ' Z' :=
  RelAt.put (st := ⟨st.tm, hp'⟩) ⟨H, R.tm.ext E, R.df, R.fr.ext E⟩ h d

theorem wp_value {o : Oper} {K : Act → World → Prop} {Q : Exit → Act → World → Prop} {v : Value} (h : (execOp a.eval o).run P w = .ok (.value v) w') (hk : K (a.put o.dst v) w') : o.wp P a w K Q := by
  unfold Oper.wp
  rw [h]
  exact hk

theorem wp_skip_ {o : Oper} {K : Act → World → Prop} {Q : Exit → Act → World → Prop} (h : (execOp a.eval o).run P w = .ok .skip w') (hk : K (a.put o.dst undef) w') : o.wp P a w K Q := by
  unfold Oper.wp
  rw [h]
  exact hk

/-- What is read as a row of elements. -/
def view (hp : List Ob) : A → Option (List (List A))
  | .sl l => some l
  | .nil => some []
  | .ref r g => match hp[r]? with
    | some (.row _ g' l) => if g = g' then some l else none
    | some (.fro g' l) => if g = g' then some l else none
    | _ => none
  | .sub r g a e => match hp[r]? with
    | some (.row _ g' l) => if g = g' then some ((l.take e).drop a) else none
    | some (.fro g' l) => if g = g' then some ((l.take e).drop a) else none
    | _ => none
  | _ => none

/-- all blocks there are -/
def All (w : World) (b : Nat) : Prop := b < w.heap.size

theorem HR.view (H : HR P Z0 w0 hp μ Z w) {x : A} {v : Value} {l : List (List A)} (hv : view hp x = some l) (h : CR P hp μ Z w x v) : IV (All w) w (.sl l) v := by
  have hz : ∀ b, Z b → All w b := fun b hb => (H.zlt b hb).1
  cases x with
  | sl l' =>
    obtain rfl := Option.some.inj hv
    exact IV.mono h hz (fun _ _ => rfl)
  | nil =>
    obtain rfl := Option.some.inj hv
    obtain ⟨ad, rfl⟩ := h
    exact .sl0 ad 0
  | ref r g =>
    obtain ⟨h0, h1, h2, _⟩ := h
    simp only [Vm.view] at hv
    split at hv
    · rename_i t g' l' hr
      split at hv
      · rename_i e
        obtain rfl := Option.some.inj hv
        have := ((h1 t g' l' hr).2 e).iv (Z' := All w) (H.ob r _ hr) (by omega) hz (fun b o hb => (H.own r b o (.inl ⟨t, g', l', hr⟩) hb).2.1)
        simpa using this
      · cases hv
    · rename_i g' l' hr
      split at hv
      · rename_i e
        obtain rfl := Option.some.inj hv
        exact ((h2 g' l' hr).2 e).mono hz (fun _ _ => rfl)
      · cases hv
    · cases hv
  | sub r g a e =>
    obtain ⟨h0, h1, h2, _⟩ := h
    simp only [Vm.view] at hv
    split at hv
    · rename_i t g' l' hr
      split at hv
      · rename_i e'
        obtain rfl := Option.some.inj hv
        obtain ⟨q1, q2, q3⟩ := (h1 t g' l' hr).2 e'
        have := q3.iv (Z' := All w) (H.ob r _ hr) (by omega) hz (fun b o hb => (H.own r b o (.inl ⟨t, g', l', hr⟩) hb).2.1)
        rwa [show a + (e - a) = e by omega] at this
      · cases hv
    · rename_i g' l' hr
      split at hv
      · rename_i e'
        obtain rfl := Option.some.inj hv
        exact ((h2 g' l' hr).2 e').2.2.mono hz (fun _ _ => rfl)
      · cases hv
    · cases hv
  | _ => simp [Vm.view] at hv

/-- A cell as it is from now on. -/
def frz (hp : List Ob) : A → List Ob × A
  | .ref r g => match hp[r]? with
    | some (.row _ g' l) => if g = g' then (hp.set r (.fro g l), .sl l) else (hp, .undef)
    | some (.fro g' l) => if g = g' then (hp, .sl l) else (hp, .undef)
    | _ => (hp, .undef)
  | .sub r g a e => match hp[r]? with
    | some (.row _ g' l) => if g = g' then (hp.set r (.fro g l), .sl ((l.take e).drop a)) else (hp, .undef)
    | some (.fro g' l) => if g = g' then (hp, .sl ((l.take e).drop a)) else (hp, .undef)
    | _ => (hp, .undef)
  | .nil => (hp, .sl [])
  | .ptr _ _ _ _ => (hp, .undef)
  | .vptr _ => (hp, .undef)
  | .clo _ _ _ => (hp, .undef)
  | .agg _ => (hp, .undef)
  | .tup _ => (hp, .undef)
  | x => (hp, x)

def frzs (hp : List Ob) : List A → List Ob × List A
  | [] => (hp, [])
  | x :: xs => ((frzs (frz hp x).1 xs).1, (frz hp x).2 :: (frzs (frz hp x).1 xs).2)

theorem Ext.refl (hp : List Ob) (μ : Mu) (Z : Nat → Prop) (w : World) : Ext P hp μ Z w hp μ Z w :=
  ⟨Nat.le_refl _, fun _ h => h, fun _ _ => rfl, fun r t g l _ h => .inl ⟨l, h, rfl, rfl, fun b o cur _ h2 => ⟨cur, h2, rfl⟩⟩, fun r g l _ h => .inl h, fun r t cs _ h => ⟨cs, h, rfl, rfl⟩⟩

theorem HR.frz (H : HR P Z0 w0 hp μ Z w) {x : A} {v : Value} (h : CR P hp μ Z w x v) :
    ∃ Z', HR P Z0 w0 (frz hp x).1 μ Z' w ∧ Ext P hp μ Z w (frz hp x).1 μ Z' w ∧ IV Z' w (frz hp x).2 v := by
  have same : ∀ y, IV Z w y v → ∃ Z', HR P Z0 w0 hp μ Z' w ∧ Ext P hp μ Z w hp μ Z' w ∧ IV Z' w y v := fun y hy => ⟨Z, H, Ext.refl .., hy⟩
  have hone := h.one
  cases x with
  | ref r g =>
    simp only [Vm.frz]
    split
    · rename_i t g' l hr
      split
      · rename_i e
        subst e
        obtain ⟨Z', H', E⟩ := H.freeze hr
        refine ⟨Z', H', E, ?_⟩
        have h' := h.ext E
        have hlt : r < hp.length := (List.getElem?_eq_some_iff.1 hr).1
        exact (h'.2.2.1 g l (by simp [hlt])).2 rfl
      · exact same _ (.undef _ hone)
    · rename_i g' l hr
      split
      · rename_i e
        exact same _ ((h.2.2.1 g' l hr).2 e)
      · exact same _ (.undef _ hone)
    · exact same _ (.undef _ hone)
  | sub r g a e =>
    simp only [Vm.frz]
    split
    · rename_i t g' l hr
      split
      · rename_i e'
        subst e'
        obtain ⟨Z', H', E⟩ := H.freeze hr
        refine ⟨Z', H', E, ?_⟩
        have h' := h.ext E
        have hlt : r < hp.length := (List.getElem?_eq_some_iff.1 hr).1
        exact ((h'.2.2.1 g l (by simp [hlt])).2 rfl).2.2
      · exact same _ (.undef _ hone)
    · rename_i g' l hr
      split
      · rename_i e'
        exact same _ ((h.2.2.1 g' l hr).2 e').2.2
      · exact same _ (.undef _ hone)
    · exact same _ (.undef _ hone)
  | nil =>
    obtain ⟨ad, rfl⟩ := h
    exact same _ (.sl0 ad 0)
  | ptr r g i j => exact same _ (.undef _ hone)
  | vptr cs => exact same _ (.undef _ hone)
  | clo f r i => exact same _ (.undef _ hone)
  | agg l => exact (show False from h).elim
  | tup l => exact (show False from h).elim
  | int k n => exact same _ h
  | bool b => exact same _ h
  | str s => exact same _ h
  | sl l => exact same _ h
  | val u => exact same _ h
  | undef => exact same _ h

theorem Ext.trans {hp1 hp2 hp3 : List Ob} {μ1 μ2 μ3 : Mu} {Z1 Z2 Z3 : Nat → Prop} {w1 w2 w3 : World} (E : Ext P hp1 μ1 Z1 w1 hp2 μ2 Z2 w2) (E' : Ext P hp2 μ2 Z2 w2 hp3 μ3 Z3 w3) : Ext P hp1 μ1 Z1 w1 hp3 μ3 Z3 w3 := by
  refine ⟨Nat.le_trans E.len E'.len, fun b h => E'.z b (E.z b h), fun b h => (E'.zh b (E.z b h)).trans (E.zh b h), ?_, ?_, ?_⟩
  · intro r t g l hlt h
    rcases E'.row r t g l (Nat.lt_of_lt_of_le hlt E.len) h with ⟨l0, e1, e2, e3, e4⟩ | ⟨t0, g0, l0, e1, e2⟩
    · rcases E.row r t g l0 hlt e1 with ⟨l1, f1, f2, f3, f4⟩ | ⟨t1, g1, l1, f1, f2⟩
      · refine .inl ⟨l1, f1, f2.trans e2, e3.trans f3, fun b o cur h1 h2 => ?_⟩
        obtain ⟨cur', q1, q2⟩ := f4 b o cur h1 h2
        obtain ⟨cur'', q3, q4⟩ := e4 b o cur' (f3.trans h1) q1
        exact ⟨cur'', q3, q4.trans q2⟩
      · exact .inr ⟨t1, g1, l1, f1, f2⟩
    · rcases E.row r t0 g0 l0 hlt e1 with ⟨l1, f1, f2, f3, f4⟩ | ⟨t1, g1, l1, f1, f2⟩
      · exact .inr ⟨t0, g0, l1, f1, e2⟩
      · exact .inr ⟨t1, g1, l1, f1, Nat.lt_trans f2 e2⟩
  · intro r g l hlt h
    rcases E'.fro r g l (Nat.lt_of_lt_of_le hlt E.len) h with e1 | ⟨t, l0, e1, e2, e3⟩ | ⟨t0, g0, l0, e1, e2⟩
    · rcases E.fro r g l hlt e1 with f1 | ⟨t, l1, f1, f2, f3⟩ | f1
      · exact .inl f1
      · exact .inr (.inl ⟨t, l1, f1, f2, fun a e v h1 h2 h3 => (f3 a e v h1 h2 h3).mono E'.z E'.zh⟩)
      · exact .inr (.inr f1)
    · rcases E.row r t g l0 hlt e1 with ⟨l1, f1, f2, f3, f4⟩ | f1
      · exact .inr (.inl ⟨t, l1, f1, f2.trans e2, fun a e v h1 h2 h3 => e3 a e v h1 h2 (h3.ext f3 f4)⟩)
      · exact .inr (.inr f1)
    · rcases E.row r t0 g0 l0 hlt e1 with ⟨l1, f1, f2, f3, f4⟩ | ⟨t1, g1, l1, f1, f2⟩
      · exact .inr (.inr ⟨t0, g0, l1, f1, e2⟩)
      · exact .inr (.inr ⟨t1, g1, l1, f1, Nat.lt_trans f2 e2⟩)
  · intro r t cs hlt h
    obtain ⟨c1, e1, e2, e3⟩ := E'.box r t cs (Nat.lt_of_lt_of_le hlt E.len) h
    obtain ⟨c2, f1, f2, f3⟩ := E.box r t c1 hlt e1
    exact ⟨c2, f1, f2.trans e2, e3.trans f3⟩

theorem HR.frzs : ∀ {l : List A} {vs : List Value} {hp : List Ob} {Z : Nat → Prop}, HR P Z0 w0 hp μ Z w → CRs P hp μ Z w l vs →
    ∃ Z', HR P Z0 w0 (frzs hp l).1 μ Z' w ∧ Ext P hp μ Z w (frzs hp l).1 μ Z' w ∧ (frzs hp l).2.length = l.length ∧ ∀ (j : Nat) (x : A), (frzs hp l).2[j]? = some x → ∃ u, vs[j]? = some u ∧ IV Z' w x u
  | [], vs, hp, Z, H, h => ⟨Z, H, Ext.refl .., rfl, fun j x hj => by simp [Vm.frzs] at hj⟩
  | x :: xs, vs, hp, Z, H, h => by
    obtain ⟨hl, h⟩ := h
    cases vs with
    | nil => simp at hl
    | cons v vs =>
      obtain ⟨u, hu, hx⟩ := h 0 x rfl
      obtain rfl : v = u := by simpa using hu
      obtain ⟨Z1, H1, E1, I1⟩ := H.frz hx
      have h1 : CRs P (Vm.frz hp x).1 μ Z1 w xs vs := ⟨by simpa using hl, fun j y hj => by
        obtain ⟨u, q1, q2⟩ := h (j + 1) y (by simpa using hj)
        exact ⟨u, by simpa using q1, q2.ext E1⟩⟩
      obtain ⟨Z2, H2, E2, hlen, I2⟩ := HR.frzs H1 h1
      refine ⟨Z2, H2, E1.trans E2, by simp [Vm.frzs, hlen], fun j y hj => ?_⟩
      cases j with
      | zero =>
        simp only [Vm.frzs, List.getElem?_cons_zero, Option.some.injEq] at hj
        subst hj
        exact ⟨v, rfl, I1.mono E2.z E2.zh⟩
      | succ j =>
        simp only [Vm.frzs, List.getElem?_cons_succ] at hj
        obtain ⟨u, q1, q2⟩ := I2 j y hj
        exact ⟨u, by simpa using q1, q2⟩
end
end Go.Vm
/- A machine of values: the operations that change no block. -/
namespace Go.Vm
open Go.RowKit
set_option linter.unusedVariables false
set_option linter.unusedSimpArgs false

/-- An operation is told: from each state that is as told. -/
def OpS (P : Program) (C : Ctx) (o : Oper) (st : St) (N : St → Prop) : Prop :=
  ∀ a w, Rel P C st a w → ∀ (K : Act → World → Prop) (Q : Exit → Act → World → Prop), (∀ st' a' w', N st' → Rel P C st' a' w' → (∃ v, a' = a.put o.dst v) → K a' w') → o.wp P a w K Q

section
variable {P : Program} {C : Ctx} {Z0 : Nat → Prop} {w0 : Base} {hp hp' : List Ob} {μ μ' : Mu} {Z Z' : Nat → Prop} {w w' : World} {st : St} {a : Act} {o : Oper} {N : St → Prop}

theorem OpS.val {x : A} (hN : N (st.put o.dst x))
    (h : ∀ a w μ Z, RelAt P C st a w μ Z → ∃ v, (execOp a.eval o).run P w = .ok (.value v) w ∧ UR P st.hp μ Z w x v) : OpS P C o st N := by
  rintro a w ⟨μ, Z, R⟩ K Q hK
  obtain ⟨v, h1, h2⟩ := h a w μ Z R
  exact wp_value h1 (hK _ _ _ hN ⟨μ, Z, R.put h2 _⟩ ⟨_, rfl⟩)

theorem OpS.blk {x : A} {hp' : List Ob} (hN : N (St.put ⟨st.tm, hp'⟩ o.dst x))
    (h : ∀ a w μ Z, RelAt P C st a w μ Z → ∃ v w' μ' Z', ((execOp a.eval o).run P w = .ok (.value v) w' ∨ (execOp a.eval o).run P w = .ok .skip w' ∧ v = Go.undef) ∧
      HR P C.Z0 C.w0 hp' μ' Z' w' ∧ Ext P st.hp μ Z w hp' μ' Z' w' ∧ UR P hp' μ' Z' w' x v) : OpS P C o st N := by
  rintro a w ⟨μ, Z, R⟩ K Q hK
  obtain ⟨v, w', μ', Z', h1, h2, h3, h4⟩ := h a w μ Z R
  rcases h1 with h1 | ⟨h1, rfl⟩
  · exact wp_value h1 (hK _ _ _ hN ⟨μ', Z', R.step h2 h3 h4 _⟩ ⟨_, rfl⟩)
  · exact wp_skip_ h1 (hK _ _ _ hN ⟨μ', Z', R.step h2 h3 h4 _⟩ ⟨_, rfl⟩)

/-! #### words told exactly -/
theorem UR.int {k : IntKind} {n : Int} {v : Value} (h : UR P hp μ Z w (.int k n) v) : v = .int k n := by
  have h : IV Z w (.int k n) v := h
  cases h; rfl
theorem UR.bool {b : Bool} {v : Value} (h : UR P hp μ Z w (.bool b) v) : v = .bool b := by
  have h : IV Z w (.bool b) v := h
  cases h; rfl
theorem UR.str {s : ByteArray} {v : Value} (h : UR P hp μ Z w (.str s) v) : v = .string s := by
  have h : IV Z w (.str s) v := h
  cases h; rfl
theorem UR.of_int (k : IntKind) (n : Int) : UR P hp μ Z w (.int k n) (.int k n) := IV.int k n
theorem UR.of_bool (b : Bool) : UR P hp μ Z w (.bool b) (.bool b) := IV.bool b

/-! #### move, pick -/
theorem op_move {x : Operand} (ho : o.op = .move x ∨ o.op = .assign x) (h : N (st.put o.dst (st.ev x))) : OpS P C o st N :=
  OpS.val h fun a w μ Z R => ⟨a.eval x, by rcases ho with ho | ho <;> simp [execOp, ho], R.ev x⟩

def pick : Bool → A → A → A
  | c, .int k a, .int k' b => if k = k' then .int k (if c then a else b) else if c then .int k a else .int k' b
  | c, .bool a, .bool b => .bool (if c then a else b)
  | c, x, y => if c then x else y

theorem pick_ur {c : Bool} {x y : A} {u v : Value} (hx : UR P hp μ Z w x u) (hy : UR P hp μ Z w y v) : UR P hp μ Z w (pick c x y) (if c then u else v) := by
  have gen : UR P hp μ Z w (if c then x else y) (if c then u else v) := by cases c <;> simpa
  unfold pick
  split
  · split
    · rename_i e
      subst e
      obtain rfl := hx.int
      obtain rfl := hy.int
      cases c <;> exact UR.of_int _ _
    · exact gen
  · obtain rfl := hx.bool
    obtain rfl := hy.bool
    cases c <;> exact UR.of_bool _
  · exact gen

theorem op_pick {c x y : Operand} {b : Bool} (ho : o.op = .pick c x y) (hc : st.ev c = .bool b) (h : N (st.put o.dst (pick b (st.ev x) (st.ev y)))) : OpS P C o st N :=
  OpS.val h fun a w μ Z R => by
    have h1 := R.ev c
    rw [hc] at h1
    refine ⟨if b then a.eval x else a.eval y, ?_, pick_ur (R.ev x) (R.ev y)⟩
    simp [execOp, ho, h1.bool, asBool]

/-! #### whole numbers, truth values -/
def binA (op : BinOp) : A → A → Option (Prop × A)
  | .int k a, .int k' b => match op with
    | .shl => some (0 ≤ b, .int k (k.wrap (a * 2 ^ min b.toNat k.bits)))
    | .shr => some (0 ≤ b, .int k (a.fdiv (2 ^ min b.toNat k.bits)))
    | op => if k = k' then match op with
      | .add => some (True, .int k (k.wrap (a + b)))
      | .sub => some (True, .int k (k.wrap (a - b)))
      | .mul => some (True, .int k (k.wrap (a * b)))
      | .quo => some (b ≠ 0, .int k (k.wrap (a.tdiv b)))
      | .rem => some (b ≠ 0, .int k (a.tmod b))
      | .and => some (True, .int k (k.wrap (BitVec.ofInt k.bits a &&& BitVec.ofInt k.bits b).toNat))
      | .or => some (True, .int k (k.wrap (BitVec.ofInt k.bits a ||| BitVec.ofInt k.bits b).toNat))
      | .xor => some (True, .int k (k.wrap (BitVec.ofInt k.bits a ^^^ BitVec.ofInt k.bits b).toNat))
      | .eql => some (True, .bool (a == b))
      | .neq => some (True, .bool (a != b))
      | .lss => some (True, .bool (decide (a < b)))
      | .leq => some (True, .bool (decide (a ≤ b)))
      | .gtr => some (True, .bool (decide (a > b)))
      | .geq => some (True, .bool (decide (a ≥ b)))
      | _ => none
      else none
  | _, _ => none

theorem binA_run {op : BinOp} {t : TypeId} {x y : A} {u v : Value} {c : Prop} {r : A} (hx : UR P hp μ Z w x u) (hy : UR P hp μ Z w y v) (h : binA op x y = some (c, r)) (hc : c) (X Y : Operand) :
    ∃ z, (do eqGuard op t X Y u v; binOp op t u v : Sem Value).run P w = .ok z w ∧ UR P hp μ Z w r z := by
  unfold binA at h
  split at h
  · obtain rfl := hx.int
    obtain rfl := hy.int
    rename_i k a k' b
    have g : ∀ op, (eqGuard op t X Y (.int k a) (.int k' b)).run P w = .ok () w := fun op => by
      cases op <;> rfl
    cases op with
    | shl =>
      simp only [Option.some.injEq, Prod.mk.injEq] at h
      obtain ⟨rfl, rfl⟩ := h
      refine ⟨_, ?_, UR.of_int _ _⟩
      simp [Sem.run_bind, g, binOp, Op.shift, show ¬ (b < 0) by omega]
    | shr =>
      simp only [Option.some.injEq, Prod.mk.injEq] at h
      obtain ⟨rfl, rfl⟩ := h
      refine ⟨_, ?_, UR.of_int _ _⟩
      simp [Sem.run_bind, g, binOp, Op.shift, show ¬ (b < 0) by omega]
    | _ =>
      simp only at h
      split at h
      · rename_i e
        subst e
        simp only [Option.some.injEq, Prod.mk.injEq, reduceCtorEq] at h
        all_goals
          obtain ⟨rfl, rfl⟩ := h
          refine ⟨_, ?_, by first | exact UR.of_int _ _ | exact UR.of_bool _⟩
          rw [Sem.run_bind, g]
          first
          | (simp only [binOp, ne_eq, not_true_eq_false, if_false, ite_false, Result.andThen_ok, Op.intDiv, if_neg hc]; rfl)
          | (simp only [binOp, ne_eq, not_true_eq_false, if_false, ite_false, Result.andThen_ok]; rfl)
      · cases h
  · cases h

theorem op_bin {op : BinOp} {t yt : TypeId} {x y : Operand} {c : Prop} {r : A} (ho : o.op = .binOp op t x y yt) (hb : binA op (st.ev x) (st.ev y) = some (c, r)) (hc : c) (h : N (st.put o.dst r)) : OpS P C o st N :=
  OpS.val h fun a w μ Z R => by
    obtain ⟨z, h1, h2⟩ := binA_run (t := t) (R.ev x) (R.ev y) hb hc x y
    refine ⟨z, ?_, h2⟩
    simp only [execOp, ho]
    rw [Sem.run_bind, h1]
    rfl

/-- truth values told equal -/
theorem op_beq {op : BinOp} {t yt : TypeId} {x y : Operand} {b c : Bool} (ho : o.op = .binOp op t x y yt) (ht : P.underlying t = some .bool) (hop : op = .eql ∨ op = .neq) (hx : st.ev x = .bool b) (hy : st.ev y = .bool c)
    (h : N (st.put o.dst (.bool (if op = .eql then b == c else b != c)))) : OpS P C o st N :=
  OpS.val h fun a w μ Z R => by
    have h1 := R.ev x
    have h2 := R.ev y
    rw [hx] at h1
    rw [hy] at h2
    have e1 := h1.bool
    have e2 := h2.bool
    rcases hop with rfl | rfl
    · refine ⟨.bool (b == c), ?_, UR.of_bool _⟩
      simp only [execOp, ho, e1, e2]
      rw [Sem.run_bind, Sem.run_bind]
      rw [show (eqGuard .eql t x y (.bool b) (.bool c)).run P w = .ok () w from rfl]
      simp only [Result.andThen_ok]
      rw [show binOp .eql t (.bool b) (.bool c) = (do pure (.bool (← Op.equal t (.bool b) (.bool c)))) from rfl, Sem.run_bind, run_equal_bool w t b c ht]
      rfl
    · refine ⟨.bool (b != c), ?_, UR.of_bool _⟩
      simp only [execOp, ho, e1, e2]
      rw [Sem.run_bind, Sem.run_bind]
      rw [show (eqGuard .neq t x y (.bool b) (.bool c)).run P w = .ok () w from rfl]
      simp only [Result.andThen_ok]
      rw [show binOp .neq t (.bool b) (.bool c) = (do pure (.bool (!(← Op.equal t (.bool b) (.bool c))))) from rfl, Sem.run_bind, run_equal_bool w t b c ht]
      rfl

def unA (op : UnOp) : A → Option A
  | .bool b => match op with | .not => some (.bool (!b)) | _ => none
  | .int k n => match op with
    | .neg => some (.int k (k.wrap (0 - n)))
    | .xor => some (.int k (k.wrap (BitVec.ofInt k.bits (if k.signed then -1 else k.max) ^^^ BitVec.ofInt k.bits n).toNat))
    | _ => none
  | _ => none

theorem op_un {op : UnOp} {t : TypeId} {x : Operand} {r : A} (ho : o.op = .unOp op t x) (hb : unA op (st.ev x) = some r) (h : N (st.put o.dst r)) : OpS P C o st N :=
  OpS.val h fun a w μ Z R => by
    have h1 := R.ev x
    cases hx : st.ev x <;> simp only [hx, unA] at hb <;> try cases hb
    · cases op <;> simp only [Option.some.injEq, reduceCtorEq] at hb <;> subst hb <;> rw [hx] at h1 <;> refine ⟨_, ?_, UR.of_int _ _⟩ <;> simp [execOp, ho, h1.int, Op.unary, Op.intArith, Op.intBits] <;> rfl
    · cases op <;> simp only [Option.some.injEq, reduceCtorEq] at hb <;> subst hb <;> rw [hx] at h1 <;> refine ⟨_, ?_, UR.of_bool _⟩ <;> simp [execOp, ho, h1.bool, Op.unary] <;> rfl

theorem op_conv {s d : TypeId} {x : Operand} {k k' : IntKind} {n : Int} (ho : o.op = .convert s d x) (hs : (P.underlying s).isSome = true) (hd : P.underlying d = some (.int k)) (hx : st.ev x = .int k' n)
    (h : N (st.put o.dst (.int k (k.wrap n)))) : OpS P C o st N :=
  OpS.val h fun a w μ Z R => by
    have h1 := R.ev x
    rw [hx] at h1
    refine ⟨_, ?_, UR.of_int _ _⟩
    obtain ⟨ds, hds⟩ := Option.isSome_iff_exists.1 hs
    simp [execOp, ho, h1.int, convert, run_underlying hds, run_underlying hd, Conv.intToInt] <;> rfl

/-! #### addresses -/
def isPtr : A → Bool
  | .ptr _ _ _ _ => true
  | .vptr _ => true
  | _ => false

/-- the cells from an address on, within its element -/
def from_ (hp : List Ob) : A → Option (List A)
  | .ptr r g i j => match hp[r]? with
    | some (.row _ g' l) => if g = g' then some ((l.getD i []).drop j) else none
    | some (.box _ cs) => some (cs.drop j)
    | _ => none
  | .vptr cs => some cs
  | _ => none

theorem HR.from_ (H : HR P Z0 w0 hp μ Z w) {x : A} {v : Value} {cs : List A} (hx : UR P hp μ Z w x v) (hf : from_ hp x = some cs) :
    ∃ b o cur t fr, v = .pointer (some ⟨b, o, none⟩) ∧ w.heap[b]? = some (.cells cur t fr) ∧ ∀ (j : Nat) (y : A), cs[j]? = some y → ∃ u, cur[o + j]? = some u ∧ CR P hp μ Z w y u := by
  cases x with
  | ptr r g i j =>
    obtain ⟨h0, h1, h2, h3⟩ := (hx : CR P hp μ Z w (.ptr r g i j) v)
    simp only [Vm.from_] at hf
    split at hf
    · rename_i t g' l hr
      split at hf
      · rename_i e
        obtain rfl := Option.some.inj hf
        obtain ⟨q1, b, o, sz, q2, q3, q4, rfl⟩ := (h1 t g' l hr).2 e
        obtain ⟨sz', q5, q6, q7⟩ := H.ob r _ hr
        rw [q3] at q5
        obtain rfl := Option.some.inj q5
        simp only [q2] at q7
        obtain ⟨cur, q8, q9, q10⟩ := q7
        refine ⟨b, _, cur, t, (0, 0), rfl, q8, fun k y hk => ?_⟩
        rw [List.getElem?_drop] at hk
        have hi : l[i]? = some (l.getD i []) := by rw [List.getD_eq_getElem?_getD, List.getElem?_eq_getElem q1]; rfl
        obtain ⟨u, q11, q12⟩ := q9.at_ i _ (j + k) y hi hk
        refine ⟨u, by rw [← q11]; congr 1; omega, ?_⟩
        revert q12
        intro q12
        cases y <;> first | exact q12 | (exact (by cases q12)) | skip
      · cases hf
    · rename_i t cs' hr
      obtain rfl := Option.some.inj hf
      obtain ⟨rfl, q2, b, q3, rfl⟩ := h2 t cs' hr
      obtain ⟨b', cur, q4, q5, q6, q7⟩ := H.ob r _ hr
      rw [q3] at q4
      obtain ⟨rfl, _⟩ : b = b' ∧ True := by
        have := Option.some.inj q4
        simpa using this
      refine ⟨b, j, cur, t, (0, 0), rfl, q5, fun k y hk => ?_⟩
      rw [List.getElem?_drop] at hk
      obtain ⟨u, q8, q9⟩ := q7 _ y hk
      exact ⟨u, by rw [← Array.getElem?_toList]; exact q8, q9⟩
    · cases hf
  | vptr cs' =>
    obtain rfl := Option.some.inj hf
    obtain ⟨b, o, cur, t, fr, rfl, q1, q2, q3⟩ := (hx : CR P hp μ Z w (.vptr cs') v)
    refine ⟨b, o, cur, t, fr, rfl, q2, fun k y hk => ?_⟩
    obtain ⟨u, q4, q5⟩ := q3 k y hk
    refine ⟨u, q4, ?_⟩
    cases y <;> first | exact q5 | (exact (by cases q5)) | skip
  | _ => simp [Vm.from_] at hf

def aggOf (P : Program) (t : TypeId) : Option Bool := (P.underlying t).map fun | .struct _ => true | .array _ _ => true | _ => false

theorem run_isAgg {t : TypeId} {b : Bool} (h : aggOf P t = some b) (w : World) : (isAgg t).run P w = .ok b w := by
  unfold aggOf at h
  obtain ⟨d, hd, rfl⟩ := Option.map_eq_some_iff.1 h
  simp only [isAgg, Sem.run_bind, run_underlying hd, Result.andThen_ok]
  cases d <;> rfl

theorem run_sizeOf {t : TypeId} {n : Nat} (h : szOf P t = some n) (w : World) : (sizeOf t).run P w = .ok n w := by
  obtain ⟨i, hi, rfl⟩ := Option.map_eq_some_iff.1 h
  simp [sizeOf, typeInfo, hi]

def loadA (P : Program) (hp : List Ob) (t : TypeId) (x : A) : Option A :=
  match aggOf P t, szOf P t, from_ hp x with
  | some true, some n, some cs => if n ≤ cs.length then some (.agg (cs.take n)) else none
  | some false, _, some cs => cs.head?
  | _, _, _ => none

theorem cell_of {b o : Nat} {cur : Array Value} {t : TypeId} {fr : Nat × Nat} {u : Value} {j : Nat} (hb : w.heap[b]? = some (.cells cur t fr)) (h : cur[o + j]? = some u) : w.cell? ((⟨b, o, none⟩ : Addr).add j) = some u := by
  have hadd : (⟨b, o, none⟩ : Addr).add j = ⟨b, o + j, none⟩ := by unfold Addr.add; split <;> simp_all
  rw [hadd]
  simp [World.cell?, hb, h]

theorem cells_list {o n : Nat} {cur : Array Value} {R : A → Value → Prop} {cs : List A} (hn : n ≤ cs.length) (h : ∀ (j : Nat) (y : A), cs[j]? = some y → ∃ u, cur[o + j]? = some u ∧ R y u) :
    ∃ vs : List Value, vs.length = n ∧ (∀ (j : Nat) (u : Value), vs[j]? = some u → cur[o + j]? = some u) ∧ ∀ (j : Nat) (y : A), (cs.take n)[j]? = some y → ∃ u, vs[j]? = some u ∧ R y u := by
  refine ⟨(cur.toList.drop o).take n, ?_, ?_, ?_⟩
  · have : ∀ k, k ≤ cs.length → k ≤ (cur.toList.drop o).length := by
      intro k hk
      rcases Nat.eq_zero_or_pos k with rfl | hp
      · exact Nat.zero_le _
      · obtain ⟨u, hu, _⟩ := h (k - 1) cs[k - 1] (List.getElem?_eq_getElem (by omega))
        have := (Array.getElem?_eq_some_iff.1 hu).1
        simp
        omega
    rw [List.length_take]
    have := this n hn
    omega
  · intro j u hj
    rw [List.getElem?_take] at hj
    split at hj
    · simpa using hj
    · cases hj
  · intro j y hj
    rw [List.getElem?_take] at hj
    split at hj
    · rename_i hlt
      obtain ⟨u, h1, h2⟩ := h j y hj
      refine ⟨u, ?_, h2⟩
      rw [List.getElem?_take, if_pos hlt]
      simpa using h1
    · cases hj

theorem HR.load (H : HR P Z0 w0 hp μ Z w) {t : TypeId} {x y : A} {v : Value} (hx : UR P hp μ Z w x v) (hl : loadA P hp t x = some y) : ∃ u, (Instr.loadAt t v).run P w = .ok u w ∧ TR P hp μ Z w y u := by
  unfold loadA at hl
  split at hl
  · rename_i n cs h1 h2 h3
    split at hl
    · rename_i hn
      obtain rfl := Option.some.inj hl
      obtain ⟨b, o, cur, t', fr, rfl, hb, hc⟩ := H.from_ hx h3
      obtain ⟨vs, hlen, hv1, hv2⟩ := cells_list hn hc
      refine ⟨.agg vs.toArray, ?_, vs.toArray, rfl, by simp [hlen]; omega, by simpa using hv2⟩
      have hload := run_loadCells_list (P := P) w (⟨b, o, none⟩ : Addr) vs (fun j u hj => cell_of hb (hv1 j u hj))
      rw [hlen] at hload
      simp only [Instr.loadAt, Instr.sureAddr, Sem.run_bind, Sem.run_pure, Result.andThen_ok, loadVar, run_isAgg h1, if_true, run_sizeOf h2, hload]
    · cases hl
  · rename_i cs h1 h3
    obtain ⟨b, o, cur, t', fr, rfl, hb, hc⟩ := H.from_ hx h3
    cases cs with
    | nil => cases hl
    | cons c cs =>
      obtain rfl := Option.some.inj hl
      obtain ⟨u, h5, h6⟩ := hc 0 c rfl
      refine ⟨u, ?_, ?_⟩
      · have := cell_of (j := 0) hb h5
        simp only [Instr.loadAt, Instr.sureAddr, Sem.run_bind, Sem.run_pure, Result.andThen_ok, loadVar, run_isAgg h1, Bool.false_eq_true, if_false]
        simp only [Addr.add, if_true] at this
        simp [load, this]
      · cases c <;> first | exact h6 | trivial | exact (h6 : False).elim
  · cases hl

theorem op_load {t : TypeId} {x : Operand} {y : A} (ho : o.op = .load t x) (hl : loadA P st.hp t (st.ev x) = some y) (h : N (st.put o.dst y)) : OpS P C o st N :=
  OpS.val h fun a w μ Z R => by
    obtain ⟨u, h1, h2⟩ := R.hr.load (R.ev x) hl
    refine ⟨u, ?_, UR.of_TR h2⟩
    simp only [execOp, ho]
    rw [Sem.run_bind, h1]
    rfl

theorem op_nilCheck {x : Operand} (ho : o.op = .nilCheck x) (hx : isPtr (st.ev x) = true) (hl : (from_ st.hp (st.ev x)).isSome = true) (h : N (st.put o.dst (st.ev x))) : OpS P C o st N :=
  OpS.val h fun a w μ Z R => by
    obtain ⟨cs, hcs⟩ := Option.isSome_iff_exists.1 hl
    obtain ⟨b, o', cur, t, fr, hv, _⟩ := R.hr.from_ (R.ev x) hcs
    refine ⟨a.eval x, ?_, R.ev x⟩
    simp [execOp, ho, hv]

/-- where a field begins -/
def foff (P : Program) (t : TypeId) (f : Nat) : Option Nat :=
  match P.underlying t with
  | some (.struct fs) => match fs[f]? with
    | some fd => match szOf P fd.type with
      | some (_ + 1) => some fd.offset
      | _ => none
    | none => none
  | _ => none

def addrA (hp : List Ob) (k : Nat) : A → Option A
  | .ptr r g i j => match hp[r]? with
    | some (.row _ g' l) => if g = g' ∧ j + k ≤ (l.getD i []).length then some (.ptr r g i (j + k)) else none
    | some (.box _ cs) => if j + k ≤ cs.length then some (.ptr r g i (j + k)) else none
    | _ => none
  | .vptr cs => some (.vptr (cs.drop k))
  | _ => none

theorem op_fieldAddr {t : TypeId} {f k : Nat} {x : Operand} {y : A} (ho : o.op = .fieldAddr t x f) (hf : foff P t f = some k) (hl : addrA st.hp k (st.ev x) = some y) (h : N (st.put o.dst y)) : OpS P C o st N :=
  OpS.val h fun a w μ Z R => by
    unfold foff at hf
    split at hf
    · rename_i fs hu
      split at hf
      · rename_i fd hfd
        split at hf
        · rename_i m hm
          obtain rfl := Option.some.inj hf
          have hx := R.ev x
          have key : ∀ b o', a.eval x = .pointer (some ⟨b, o', none⟩) → (execOp a.eval o).run P w = .ok (.value (.pointer (some ⟨b, o' + fd.offset, none⟩))) w := by
            intro b o' e
            have hadd : (⟨b, o', none⟩ : Addr).add fd.offset = ⟨b, o' + fd.offset, none⟩ := by unfold Addr.add; split <;> simp_all
            simp [execOp, ho, e, Instr.fieldAt, run_underlying hu, hfd, Instr.sureAddr, fieldPlace, run_sizeOf hm, hadd]
          cases hev : st.ev x <;> rw [hev] at hl hx <;> simp only [addrA] at hl <;> try cases hl
          · rename_i r g i j
            obtain ⟨h0, h1, h2, h3⟩ := (hx : CR P st.hp μ Z w (.ptr r g i j) _)
            split at hl
            · rename_i te g' l hr
              split at hl
              · rename_i e
                obtain rfl := Option.some.inj hl
                obtain ⟨q1, b, o', sz, q2, q3, q4, q5⟩ := (h1 te g' l hr).2 e.1
                refine ⟨_, key _ _ q5, h0, ?_, ?_, rfl⟩
                · intro te' g'' l' hr'
                  rw [hr] at hr'
                  obtain ⟨rfl, rfl, rfl⟩ : te = te' ∧ g' = g'' ∧ l = l' := by
                    have := Option.some.inj hr'
                    injection this with e1 e2 e3
                    exact ⟨e1, e2, e3⟩
                  refine ⟨(h1 te g' l hr).1, fun _ => ⟨q1, b, o', sz, q2, q3, ?_, by rw [Nat.add_assoc, Nat.add_assoc]⟩⟩
                  obtain ⟨sz', q6, q7, _⟩ := R.hr.ob r _ hr
                  rw [q3] at q6
                  obtain rfl := Option.some.inj q6
                  have hi : l[i]? = some (l.getD i []) := by rw [List.getD_eq_getElem?_getD, List.getElem?_eq_getElem q1]; rfl
                  rw [← q7 i _ hi]
                  exact e.2
                · intro t' cs hr'
                  rw [hr] at hr'
                  cases hr'
              · cases hl
            · rename_i tb cs hr
              split at hl
              · rename_i e
                obtain rfl := Option.some.inj hl
                obtain ⟨q1, q2, b, q3, q4⟩ := h2 tb cs hr
                refine ⟨_, key _ _ q4, h0, ?_, ?_, rfl⟩
                · intro te' g'' l' hr'
                  rw [hr] at hr'
                  cases hr'
                · intro t' cs' hr'
                  rw [hr] at hr'
                  obtain ⟨rfl, rfl⟩ : tb = t' ∧ cs = cs' := by
                    have := Option.some.inj hr'
                    injection this with e1 e2
                    exact ⟨e1, e2⟩
                  exact ⟨q1, e, b, q3, rfl⟩
              · cases hl
            · cases hl
          · rename_i cs
            obtain ⟨b, o', cur, t', fr, q1, q2, q3, q4⟩ := (hx : CR P st.hp μ Z w (.vptr cs) _)
            refine ⟨_, key _ _ q1, b, o' + fd.offset, cur, t', fr, rfl, q2, q3, fun j y hj => ?_⟩
            rw [List.getElem?_drop] at hj
            obtain ⟨u, q5, q6⟩ := q4 _ y hj
            exact ⟨u, by rw [← q5]; congr 1; omega, q6⟩
        · cases hf
      · cases hf
    · cases hf
end
end Go.Vm
