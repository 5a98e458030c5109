/- A machine of values: what the slots, and the blocks of a call's own, are told to be; how these words are read in the world. -/
import Derived.Below
import Derived.Tactics
import Derived.Laws.OwnMore
import Derived.Orders
namespace Go.Vm
open Go.RowKit

/-- What a slot, or a cell, is told to be. -/
inductive A where
  | int (k : IntKind) (n : Int)
  | bool (b : Bool)
  | str (s : ByteArray)
  | sl (l : List (List A))
  | nil
  | ref (r g : Nat)
  | sub (r g a e : Nat)
  | ptr (r g i j : Nat)
  | vptr (cs : List A)
  | val (v : Value)
  | agg (l : List A)
  | tup (l : List A)
  | undef

/-- What a block of the call's own is told to be. -/
inductive Ob where
  | dead
  | row (t : TypeId) (g : Nat) (l : List (List A))
  | fro (g : Nat) (l : List (List A))
  | box (t : TypeId) (cs : List A)

/-- Of what does not change: read in the world, the blocks in Z. -/
inductive IV (Z : Nat → Prop) (w : World) : A → Value → Prop
  | int (k n) : IV Z w (.int k n) (.int k n)
  | bool (b) : IV Z w (.bool b) (.bool b)
  | str (s) : IV Z w (.str s) (.string s)
  | val (v) (h : v.oneCell' = true) : IV Z w (.val v) v
  | undef (v) (h : v.oneCell' = true) : IV Z w .undef v
  | sl0 (a c) : IV Z w (.sl []) (.slice a 0 c)
  | sl (l : List (List A)) (b o c sz : Nat) (cur : Array Value) (t : TypeId) (fr : Nat × Nat) (u : Nat → Nat → Value)
      (hZ : Z b) (hb : w.heap[b]? = some (.cells cur t fr)) (hc : l.length ≤ c)
      (hl : ∀ (i : Nat) (cs : List A), l[i]? = some cs → cs.length = sz)
      (hu : ∀ (i : Nat) (cs : List A) (j : Nat) (x : A), l[i]? = some cs → cs[j]? = some x → cur[o + (i * sz + j)]? = some (u i j))
      (hr : ∀ (i : Nat) (cs : List A) (j : Nat) (x : A), l[i]? = some cs → cs[j]? = some x → IV Z w x (u i j)) : IV Z w (.sl l) (.slice (some ⟨b, o, none⟩) l.length c)

theorem IV.mono {Z Z' : Nat → Prop} {w w' : World} {x : A} {v : Value} (h : IV Z w x v) (hz : ∀ b, Z b → Z' b) (hw : ∀ b, Z b → w'.heap[b]? = w.heap[b]?) : IV Z' w' x v := by
  induction h with
  | int k n => exact .int k n
  | bool b => exact .bool b
  | str s => exact .str s
  | val v h => exact .val v h
  | undef v h => exact .undef v h
  | sl0 a c => exact .sl0 a c
  | sl l b o c sz cur t fr u hZ hb hc hl hu hr ih => exact .sl l b o c sz cur t fr u (hz b hZ) ((hw b hZ).trans hb) hc hl hu ih

theorem IV.one {Z : Nat → Prop} {w : World} {x : A} {v : Value} (h : IV Z w x v) : v.oneCell' = true := by
  cases h <;> first | rfl | assumption

/-- cells of a row, from cell o on -/
structure Lay (R : A → Value → Prop) (sz : Nat) (cur : Array Value) (o : Nat) (l : List (List A)) : Prop where
  len : ∀ (i : Nat) (cs : List A), l[i]? = some cs → cs.length = sz
  at_ : ∀ (i : Nat) (cs : List A) (j : Nat) (x : A), l[i]? = some cs → cs[j]? = some x → ∃ u, cur[o + (i * sz + j)]? = some u ∧ R x u

theorem IV.of_lay {Z : Nat → Prop} {w : World} {l : List (List A)} {b o c sz : Nat} {cur : Array Value} {t : TypeId} {fr : Nat × Nat}
    (hZ : Z b) (hb : w.heap[b]? = some (.cells cur t fr)) (hc : l.length ≤ c) (h : Lay (IV Z w) sz cur o l) : IV Z w (.sl l) (.slice (some ⟨b, o, none⟩) l.length c) := by
  refine .sl l b o c sz cur t fr (fun i j => (cur[o + (i * sz + j)]?).getD Go.undef) hZ hb hc h.len ?_ ?_
  · intro i cs j x hi hj
    obtain ⟨u, hu, _⟩ := h.at_ i cs j x hi hj
    simp [hu]
  · intro i cs j x hi hj
    obtain ⟨u, hu, hr⟩ := h.at_ i cs j x hi hj
    simpa [hu] using hr

theorem IV.lay {Z : Nat → Prop} {w : World} {l : List (List A)} {v : Value} (h : IV Z w (.sl l) v) :
    ∃ a c, v = .slice a l.length c ∧ l.length ≤ c ∧ (l = [] ∨ ∃ b o sz cur t fr, a = some ⟨b, o, none⟩ ∧ Z b ∧ w.heap[b]? = some (.cells cur t fr) ∧ Lay (IV Z w) sz cur o l) := by
  cases h with
  | sl0 a c => exact ⟨a, c, rfl, Nat.zero_le _, .inl rfl⟩
  | sl l b o c sz cur t fr u hZ hb hc hl hu hr => exact ⟨_, c, rfl, hc, .inr ⟨b, o, sz, cur, t, fr, rfl, hZ, hb, hl, fun i cs j x hi hj => ⟨_, hu i cs j x hi hj, hr i cs j x hi hj⟩⟩⟩

abbrev Mu := Nat → Option (Nat × Nat)
def szOf (P : Program) (t : TypeId) : Option Nat := (P.info? t).map (·.size)

/-- A slice value over a row: its block from cell p on, n elements. -/
def Over (P : Program) (μ : Mu) (w : World) (r : Nat) (t : TypeId) (a n : Nat) (v : Value) : Prop :=
  ∃ c, n ≤ c ∧ ((c = 0 ∧ ∃ ad, v = .slice ad 0 0) ∨
    ∃ b o sz cur, μ r = some (b, o) ∧ szOf P t = some sz ∧ v = .slice (some ⟨b, o + a * sz, none⟩) n c ∧ w.heap[b]? = some (.cells cur t (0, 0)) ∧ o + (a + c) * sz ≤ cur.size)

/-- What a cell's word says. -/
def CR (P : Program) (hp : List Ob) (μ : Mu) (Z : Nat → Prop) (w : World) : A → Value → Prop
  | .ref r g, v => r < hp.length ∧ (∀ t g' l, hp[r]? = some (.row t g' l) → g ≤ g' ∧ (g = g' → Over P μ w r t 0 l.length v)) ∧
      (∀ g' l, hp[r]? = some (.fro g' l) → g ≤ g' ∧ (g = g' → IV Z w (.sl l) v)) ∧ v.oneCell' = true
  | .sub r g a e, v => r < hp.length ∧ (∀ t g' l, hp[r]? = some (.row t g' l) → g ≤ g' ∧ (g = g' → a ≤ e ∧ e ≤ l.length ∧ Over P μ w r t a (e - a) v)) ∧
      (∀ g' l, hp[r]? = some (.fro g' l) → g ≤ g' ∧ (g = g' → a ≤ e ∧ e ≤ l.length ∧ IV Z w (.sl ((l.take e).drop a)) v)) ∧ v.oneCell' = true
  | .ptr r g i j, v => r < hp.length ∧ (∀ t g' l, hp[r]? = some (.row t g' l) → g ≤ g' ∧ (g = g' → i < l.length ∧ ∃ b o sz, μ r = some (b, o) ∧ szOf P t = some sz ∧ j ≤ sz ∧ v = .pointer (some ⟨b, o + (i * sz + j), none⟩))) ∧
      (∀ t cs, hp[r]? = some (.box t cs) → i = 0 ∧ j ≤ cs.length ∧ ∃ b, μ r = some (b, 0) ∧ v = .pointer (some ⟨b, j, none⟩)) ∧ v.oneCell' = true
  | .vptr cs, v => ∃ b o cur t fr, v = .pointer (some ⟨b, o, none⟩) ∧ Z b ∧ w.heap[b]? = some (.cells cur t fr) ∧ ∀ (j : Nat) (x : A), cs[j]? = some x → ∃ u, cur[o + j]? = some u ∧ IV Z w x u
  | .nil, v => ∃ a, v = .slice a 0 0
  | .agg _, _ => False
  | .tup _, _ => False
  | x, v => IV Z w x v

theorem CR.one {P : Program} {hp : List Ob} {μ : Mu} {Z : Nat → Prop} {w : World} {x : A} {v : Value} (h : CR P hp μ Z w x v) : v.oneCell' = true := by
  cases x <;> first | exact IV.one h | exact h.2.2.2 | exact h.elim | skip
  · obtain ⟨a, rfl⟩ := h; rfl
  · obtain ⟨b, o, cur, t, fr, rfl, _⟩ := h; rfl

/-- Cell by cell. -/
def CRs (P : Program) (hp : List Ob) (μ : Mu) (Z : Nat → Prop) (w : World) (l : List A) (vs : List Value) : Prop :=
  vs.length = l.length ∧ ∀ (j : Nat) (x : A), l[j]? = some x → ∃ u, vs[j]? = some u ∧ CR P hp μ Z w x u

/-- What a slot's word says: a cell, or several side by side. -/
def TR (P : Program) (hp : List Ob) (μ : Mu) (Z : Nat → Prop) (w : World) : A → Value → Prop
  | .agg l, v => ∃ vs, v = .agg vs ∧ CRs P hp μ Z w l vs.toList
  | .undef, _ => True
  | x, v => CR P hp μ Z w x v

/-- .. or several values of a call. -/
def UR (P : Program) (hp : List Ob) (μ : Mu) (Z : Nat → Prop) (w : World) : A → Value → Prop
  | .tup l, v => ∃ vs : Array Value, v = .tuple vs ∧ vs.toList.length = l.length ∧ ∀ (j : Nat) (x : A), l[j]? = some x → ∃ u, vs.toList[j]? = some u ∧ TR P hp μ Z w x u
  | x, v => TR P hp μ Z w x v

/-- What is told of a block of the call's own. -/
def ObR (P : Program) (hp : List Ob) (μ : Mu) (Z : Nat → Prop) (w : World) (r : Nat) : Ob → Prop
  | .dead => True
  | .fro _ _ => True
  | .row t _ l => ∃ sz, szOf P t = some sz ∧ (∀ (i : Nat) (cs : List A), l[i]? = some cs → cs.length = sz) ∧ match μ r with
      | none => l = []
      | some (b, o) => ∃ cur, w.heap[b]? = some (.cells cur t (0, 0)) ∧ Lay (IV Z w) sz cur o l ∧ o + l.length * sz ≤ cur.size
  | .box t cs => ∃ b cur, μ r = some (b, 0) ∧ w.heap[b]? = some (.cells cur t (0, 0)) ∧ CRs P hp μ Z w cs cur.toList

def Live (hp : List Ob) (r : Nat) : Prop := (∃ t g l, hp[r]? = some (.row t g l)) ∨ ∃ t cs, hp[r]? = some (.box t cs)

structure HR (P : Program) (Z0 : Nat → Prop) (w0 : World) (hp : List Ob) (μ : Mu) (Z : Nat → Prop) (w : World) : Prop where
  below : Below w0.heap.size w0 w
  z0 : ∀ b, Z0 b → Z b
  zlt : ∀ b, Z b → b < w.heap.size ∧ (Z0 b ∨ w0.heap.size ≤ b)
  ob : ∀ r o, hp[r]? = some o → ObR P hp μ Z w r o
  own : ∀ r b o, Live hp r → μ r = some (b, o) → w0.heap.size ≤ b ∧ b < w.heap.size ∧ ¬ Z b
  inj : ∀ r r' b o o', Live hp r → Live hp r' → μ r = some (b, o) → μ r' = some (b, o') → r = r'

/-- A state: the slots, the blocks of its own. -/
structure St where
  tm : List A
  hp : List Ob

def TRs (P : Program) (hp : List Ob) (μ : Mu) (Z : Nat → Prop) (w : World) (l : List A) (vs : List Value) : Prop :=
  vs.length = l.length ∧ ∀ (j : Nat) (x : A), l[j]? = some x → ∃ u, vs[j]? = some u ∧ UR P hp μ Z w x u

/-- Where a call began; what its caller keeps meanwhile: F, told of V. -/
structure Ctx where
  Z0 : Nat → Prop
  w0 : World
  F : List A
  V : List Value

structure RelAt (P : Program) (C : Ctx) (st : St) (a : Act) (w : World) (μ : Mu) (Z : Nat → Prop) : Prop where
  hr : HR P C.Z0 C.w0 st.hp μ Z w
  tm : TRs P st.hp μ Z w st.tm a.tmps.toList
  df : a.defers = []
  fr : TRs P st.hp μ Z w C.F C.V

def Rel (P : Program) (C : Ctx) (st : St) (a : Act) (w : World) : Prop := ∃ μ Z, RelAt P C st a w μ Z

/-- What was told stays told: from one state of the blocks to a later one. -/
structure Ext (P : Program) (hp : List Ob) (μ : Mu) (Z : Nat → Prop) (w : World) (hp' : List Ob) (μ' : Mu) (Z' : Nat → Prop) (w' : World) : Prop where
  len : hp.length ≤ hp'.length
  z : ∀ b, Z b → Z' b
  zh : ∀ b, Z b → w'.heap[b]? = w.heap[b]?
  row : ∀ (r : Nat) (t : TypeId) (g : Nat) (l : List (List A)), r < hp.length → hp'[r]? = some (.row t g l) →
    (∃ l0 : List (List A), hp[r]? = some (.row t g l0) ∧ l0.length = l.length ∧ μ' r = μ r ∧ ∀ b o cur, μ r = some (b, o) → w.heap[b]? = some (.cells cur t (0, 0)) → ∃ cur', w'.heap[b]? = some (.cells cur' t (0, 0)) ∧ cur'.size = cur.size) ∨
    ∃ t0 g0 l0, hp[r]? = some (.row t0 g0 l0) ∧ g0 < g
  fro : ∀ (r g : Nat) (l : List (List A)), r < hp.length → hp'[r]? = some (.fro g l) → hp[r]? = some (.fro g l) ∨
    (∃ t, ∃ l0 : List (List A), hp[r]? = some (.row t g l0) ∧ l0.length = l.length ∧ ∀ a e v, a ≤ e → e ≤ l.length → Over P μ w r t a (e - a) v → IV Z' w' (.sl ((l.take e).drop a)) v) ∨
    ∃ t0 g0 l0, hp[r]? = some (.row t0 g0 l0) ∧ g0 < g
  box : ∀ (r : Nat) (t : TypeId) (cs : List A), r < hp.length → hp'[r]? = some (.box t cs) → ∃ cs0 : List A, hp[r]? = some (.box t cs0) ∧ cs0.length = cs.length ∧ μ' r = μ r

section
variable {P : Program} {hp hp' : List Ob} {μ μ' : Mu} {Z Z' : Nat → Prop} {w w' : World}

theorem Over.ext {r a n : Nat} {t : TypeId} {v : Value} (h : Over P μ w r t a n v) (hm : μ' r = μ r)
    (hc : ∀ b o cur, μ r = some (b, o) → w.heap[b]? = some (.cells cur t (0, 0)) → ∃ cur', w'.heap[b]? = some (.cells cur' t (0, 0)) ∧ cur'.size = cur.size) : Over P μ' w' r t a n v := by
  obtain ⟨c, h1, h2⟩ := h
  refine ⟨c, h1, ?_⟩
  rcases h2 with h2 | ⟨b, o, sz, cur, h3, h4, h5, h6, h7⟩
  · exact .inl h2
  · obtain ⟨cur', h8, h9⟩ := hc b o cur h3 h6
    exact .inr ⟨b, o, sz, cur', hm.trans h3, h4, h5, h8, by omega⟩

theorem CR.ext (E : Ext P hp μ Z w hp' μ' Z' w') {x : A} {v : Value} (h : CR P hp μ Z w x v) : CR P hp' μ' Z' w' x v := by
  cases x with
  | ref r g =>
    obtain ⟨h0, h1, h2, h3⟩ := h
    refine ⟨Nat.lt_of_lt_of_le h0 E.len, ?_, ?_, h3⟩
    · intro t g' l hr
      rcases E.row r t g' l h0 hr with ⟨l0, e0, e1, e2, e3⟩ | ⟨t0, g0, l0, e0, e1⟩
      · obtain ⟨q1, q2⟩ := h1 t g' l0 e0
        exact ⟨q1, fun e => e1 ▸ (q2 e).ext e2 e3⟩
      · obtain ⟨q1, _⟩ := h1 t0 g0 l0 e0
        exact ⟨by omega, fun e => by omega⟩
    · intro g' l hr
      rcases E.fro r g' l h0 hr with e0 | ⟨t, l0, e0, el, e1⟩ | ⟨t0, g0, l0, e0, e1⟩
      · obtain ⟨q1, q2⟩ := h2 g' l e0
        exact ⟨q1, fun e => (q2 e).mono E.z E.zh⟩
      · obtain ⟨q1, q2⟩ := h1 t g' l0 e0
        refine ⟨q1, fun e => ?_⟩
        have := e1 0 l.length v (Nat.zero_le _) (Nat.le_refl _) (by rw [el] at q2; simpa using q2 e)
        simpa using this
      · obtain ⟨q1, _⟩ := h1 t0 g0 l0 e0
        exact ⟨by omega, fun e => by omega⟩
  | sub r g a e =>
    obtain ⟨h0, h1, h2, h3⟩ := h
    refine ⟨Nat.lt_of_lt_of_le h0 E.len, ?_, ?_, h3⟩
    · intro t g' l hr
      rcases E.row r t g' l h0 hr with ⟨l0, e0, e1, e2, e3⟩ | ⟨t0, g0, l0, e0, e1⟩
      · obtain ⟨q1, q2⟩ := h1 t g' l0 e0
        exact ⟨q1, fun e => ⟨(q2 e).1, e1 ▸ (q2 e).2.1, (q2 e).2.2.ext e2 e3⟩⟩
      · obtain ⟨q1, _⟩ := h1 t0 g0 l0 e0
        exact ⟨by omega, fun e => by omega⟩
    · intro g' l hr
      rcases E.fro r g' l h0 hr with e0 | ⟨t, l0, e0, el, e1⟩ | ⟨t0, g0, l0, e0, e1⟩
      · obtain ⟨q1, q2⟩ := h2 g' l e0
        exact ⟨q1, fun e => ⟨(q2 e).1, (q2 e).2.1, (q2 e).2.2.mono E.z E.zh⟩⟩
      · obtain ⟨q1, q2⟩ := h1 t g' l0 e0
        exact ⟨q1, fun e => ⟨(q2 e).1, el ▸ (q2 e).2.1, e1 _ _ v (q2 e).1 (el ▸ (q2 e).2.1) (q2 e).2.2⟩⟩
      · obtain ⟨q1, _⟩ := h1 t0 g0 l0 e0
        exact ⟨by omega, fun e => by omega⟩
  | ptr r g i j =>
    obtain ⟨h0, h1, h2, h3⟩ := h
    refine ⟨Nat.lt_of_lt_of_le h0 E.len, ?_, ?_, h3⟩
    · intro t g' l hr
      rcases E.row r t g' l h0 hr with ⟨l0, e0, e1, e2, e3⟩ | ⟨t0, g0, l0, e0, e1⟩
      · obtain ⟨q1, q2⟩ := h1 t g' l0 e0
        refine ⟨q1, fun e => ?_⟩
        obtain ⟨q3, b, o, sz, q4, q5, q6⟩ := q2 e
        exact ⟨e1 ▸ q3, b, o, sz, e2.trans q4, q5, q6⟩
      · obtain ⟨q1, _⟩ := h1 t0 g0 l0 e0
        exact ⟨by omega, fun e => by omega⟩
    · intro t cs hr
      obtain ⟨cs0, e0, e1, e2⟩ := E.box r t cs h0 hr
      obtain ⟨q1, q2, b, q3, q4⟩ := h2 t cs0 e0
      exact ⟨q1, e1 ▸ q2, b, e2.trans q3, q4⟩
  | vptr cs =>
    obtain ⟨b, o, cur, t, fr, rfl, q1, q2, q3⟩ := h
    refine ⟨b, o, cur, t, fr, rfl, E.z b q1, (E.zh b q1).trans q2, fun j x hj => ?_⟩
    obtain ⟨u, q4, q5⟩ := q3 j x hj
    exact ⟨u, q4, q5.mono E.z E.zh⟩
  | nil => exact h
  | agg l => exact h
  | tup l => exact h
  | int k n => exact IV.mono h E.z E.zh
  | bool b => exact IV.mono h E.z E.zh
  | str s => exact IV.mono h E.z E.zh
  | sl l => exact IV.mono h E.z E.zh
  | val u => exact IV.mono h E.z E.zh
  | undef => exact IV.mono h E.z E.zh

theorem CRs.ext (E : Ext P hp μ Z w hp' μ' Z' w') {l : List A} {vs : List Value} (h : CRs P hp μ Z w l vs) : CRs P hp' μ' Z' w' l vs :=
  ⟨h.1, fun j x hj => let ⟨u, h1, h2⟩ := h.2 j x hj; ⟨u, h1, h2.ext E⟩⟩

theorem TR.ext (E : Ext P hp μ Z w hp' μ' Z' w') {x : A} {v : Value} (h : TR P hp μ Z w x v) : TR P hp' μ' Z' w' x v := by
  cases x <;> first | (simp only [TR] at h ⊢; exact CR.ext E h) | trivial | skip
  obtain ⟨vs, rfl, h⟩ := h
  exact ⟨vs, rfl, h.ext E⟩

theorem UR.ext (E : Ext P hp μ Z w hp' μ' Z' w') {x : A} {v : Value} (h : UR P hp μ Z w x v) : UR P hp' μ' Z' w' x v := by
  cases x <;> first | (simp only [UR] at h ⊢; exact TR.ext E h) | skip
  obtain ⟨vs, rfl, h1, h⟩ := h
  exact ⟨vs, rfl, h1, fun j x hj => let ⟨u, h1, h2⟩ := h j x hj; ⟨u, h1, h2.ext E⟩⟩

theorem TRs.ext (E : Ext P hp μ Z w hp' μ' Z' w') {l : List A} {vs : List Value} (h : TRs P hp μ Z w l vs) : TRs P hp' μ' Z' w' l vs :=
  ⟨h.1, fun j x hj => let ⟨u, h1, h2⟩ := h.2 j x hj; ⟨u, h1, h2.ext E⟩⟩
end
end Go.Vm
