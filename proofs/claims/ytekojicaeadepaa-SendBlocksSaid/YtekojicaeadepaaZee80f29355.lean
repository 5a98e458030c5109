/- A part of a proof that statements of this seat hold of the given program; no conditions but the statements' own. -/
import Derived.Test.YtekojicaeadepaaZ200bde90f4
import Derived.Laws.Slices
import Derived.ArgAppend
import Derived.Great.BuildSlice
set_option linter.unusedVariables false
set_option linter.unusedSimpArgs false
/- A machine of values: elements, cuts, lengths, parts. -/
namespace Go.Vm
open Go.RowKit
set_option linter.unusedVariables false
set_option linter.unusedSimpArgs false
section
variable {P : Program} {C : Ctx} {Z0 : Nat → Prop} {w0 : Base} {hp hp' : List Ob} {μ μ' : Mu} {Z Z' : Nat → Prop} {w w' : World} {st : St} {a : Act} {o : Oper} {N : St → Prop}

def lenA (hp : List Ob) : A → Option Nat
  | .sl l => some l.length
  | .nil => some 0
  | .ref r g => match hp[r]? with
    | some (.row _ g' l) => if g = g' then some l.length else none
    | some (.fro g' l) => if g = g' then some l.length else none
    | _ => none
  | .sub r g a e => match hp[r]? with
    | some (.row _ g' l) => if g = g' then some (e - a) else none
    | some (.fro g' l) => if g = g' then some (e - a) else none
    | _ => none
  | _ => none

theorem Over.slice {r a n : Nat} {t : TypeId} {v : Value} (h : Over P μ w r t a n v) : ∃ ad c, v = .slice ad n c ∧ n ≤ c := by
  obtain ⟨c, h1, h2⟩ := h
  rcases h2 with ⟨rfl, ad, rfl⟩ | ⟨b, o, sz, cur, h3, h4, rfl, h6, h7⟩
  · obtain rfl : n = 0 := by omega
    exact ⟨ad, 0, rfl, Nat.le_refl _⟩
  · exact ⟨_, c, rfl, h1⟩

theorem UR.slice {x : A} {v : Value} {n : Nat} (hx : UR P hp μ Z w x v) (hn : lenA hp x = some n) : ∃ ad c, v = .slice ad n c ∧ n ≤ c := by
  cases x with
  | sl l =>
    obtain rfl := Option.some.inj hn
    obtain ⟨ad, c, rfl, h1, _⟩ := IV.lay (show IV Z w (.sl l) v from hx)
    exact ⟨ad, c, rfl, h1⟩
  | nil =>
    obtain rfl := Option.some.inj hn
    obtain ⟨ad, rfl⟩ := (show ∃ ad, v = .slice ad 0 0 from hx)
    exact ⟨ad, 0, rfl, Nat.le_refl _⟩
  | ref r g =>
    obtain ⟨h0, h1, h2, _⟩ := (hx : CR P hp μ Z w (.ref r g) v)
    simp only [lenA] at hn
    split at hn
    · rename_i t g' l hr
      split at hn
      · rename_i e
        obtain rfl := Option.some.inj hn
        exact ((h1 t g' l hr).2 e).slice
      · cases hn
    · rename_i g' l hr
      split at hn
      · rename_i e
        obtain rfl := Option.some.inj hn
        obtain ⟨ad, c, rfl, h3, _⟩ := ((h2 g' l hr).2 e).lay
        exact ⟨ad, c, rfl, h3⟩
      · cases hn
    · cases hn
  | sub r g a e =>
    obtain ⟨h0, h1, h2, _⟩ := (hx : CR P hp μ Z w (.sub r g a e) v)
    simp only [lenA] at hn
    split at hn
    · rename_i t g' l hr
      split at hn
      · rename_i e'
        obtain rfl := Option.some.inj hn
        exact ((h1 t g' l hr).2 e').2.2.slice
      · cases hn
    · rename_i g' l hr
      split at hn
      · rename_i e'
        obtain rfl := Option.some.inj hn
        obtain ⟨q1, q2, q3⟩ := (h2 g' l hr).2 e'
        obtain ⟨ad, c, h3, h4, _⟩ := q3.lay
        have hlen : ((l.take e).drop a).length = e - a := by simp; omega
        rw [hlen] at h3 h4
        exact ⟨ad, c, h3, h4⟩
      · cases hn
    · cases hn
  | _ => simp [lenA] at hn

theorem op_len {t : TypeId} {ts : Array TypeId} {x : Operand} {n : Nat} (ho : o.op = .call { callee := .builtin .len, args := #[x], argTypes := ts }) (hts : ts = #[t]) (ht : P.underlying t = some (.slice (P.elem t)))
    (hn : lenA st.hp (st.ev x) = some n) (h : N (st.put o.dst (.int .i64 n))) : OpS P C o st N :=
  OpS.val h fun a w μ Z R => by
    obtain ⟨ad, c, hv, _⟩ := (R.ev x).slice hn
    subst hts
    refine ⟨.int .i64 n, ?_, UR.of_int _ _⟩
    simp [execOp, ho, resolve, invoke, builtin, hv, run_len_slice w t o.type ad n c ht, goInt]

/-- the address of an element -/
def indexA (hp : List Ob) (t : TypeId) (m : Nat) (x : A) (i : Nat) : Option A :=
  match x with
  | .sl l => if (l.getD i []).length = m then some (.vptr (l.getD i [])) else none
  | .ref r g => match hp[r]? with
    | some (.row t' g' l) => if t = t' then some (.ptr r g i 0) else none
    | some (.fro g' l) => if (l.getD i []).length = m then some (.vptr (l.getD i [])) else none
    | _ => none
  | .sub r g a e => match hp[r]? with
    | some (.row t' g' l) => if t = t' then some (.ptr r g (a + i) 0) else none
    | some (.fro g' l) => if (l.getD (a + i) []).length = m then some (.vptr (l.getD (a + i) [])) else none
    | _ => none
  | _ => none

theorem addr_add (b o n : Nat) : (⟨b, o, none⟩ : Addr).add n = ⟨b, o + n, none⟩ := by unfold Addr.add; split <;> simp_all

theorem IV.index {l : List (List A)} {ad : Option Addr} {n c m i : Nat} (h : IV Z w (.sl l) (.slice ad n c)) (hi : i < l.length) (hm : (l.getD i []).length = m) :
    ∃ x, ad = some x ∧ CR P hp μ Z w (.vptr (l.getD i [])) (.pointer (some (x.add (i * m)))) := by
  obtain ⟨ad', c', e, h1, h2⟩ := h.lay
  injection e with e1 e2 e3
  subst e1
  rcases h2 with rfl | ⟨b, o, sz, cur, t, fr, rfl, q1, q2, q3⟩
  · simp at hi
  · have hg : l[i]? = some (l.getD i []) := by rw [List.getD_eq_getElem?_getD, List.getElem?_eq_getElem hi]; rfl
    have hs := q3.len i _ hg
    obtain rfl : sz = m := hs.symm.trans hm
    refine ⟨_, rfl, b, o + i * sz, cur, t, fr, by rw [addr_add], q1, q2, fun j x hj => ?_⟩
    obtain ⟨u, q4, q5⟩ := q3.at_ i _ j x hg hj
    exact ⟨u, by rw [← q4]; congr 1; omega, q5⟩

theorem Over.index {r a n c m i g : Nat} {t : TypeId} {ad : Option Addr} {l : List (List A)} (h : Over P μ w r t a n (.slice ad n c)) (hr : hp[r]? = some (.row t g l)) (ha : a + n ≤ l.length) (hi : i < n) (hm : szOf P t = some m) :
    ∃ x, ad = some x ∧ CR P hp μ Z w (.ptr r g (a + i) 0) (.pointer (some (x.add (i * m)))) := by
  obtain ⟨c', h1, h2⟩ := h
  rcases h2 with ⟨rfl, ad', e⟩ | ⟨b, o, sz, cur, h3, h4, e, h6, h7⟩
  · omega
  · injection e with e1 e2 e3
    rw [hm] at h4
    obtain rfl := Option.some.inj h4
    refine ⟨_, e1, (List.getElem?_eq_some_iff.1 hr).1, ?_, ?_, rfl⟩
    · intro t' g' l' hr'
      rw [hr] at hr'
      obtain ⟨rfl, rfl, rfl⟩ : t = t' ∧ g = g' ∧ l = l' := by
        have := Option.some.inj hr'
        injection this with e1 e2 e3
        exact ⟨e1, e2, e3⟩
      refine ⟨Nat.le_refl _, fun _ => ⟨by omega, b, o, m, h3, hm, Nat.zero_le _, ?_⟩⟩
      rw [addr_add]
      congr 3
      rw [Nat.add_mul]
      omega
    · intro t' cs hr'
      rw [hr] at hr'
      cases hr'

theorem UR.index {x y : A} {n c m i : Nat} {t : TypeId} {ad : Option Addr} (hx : UR P hp μ Z w x (.slice ad n c)) (hn : lenA hp x = some n) (hi : i < n) (hm : szOf P t = some m) (hy : indexA hp t m x i = some y) :
    ∃ z, ad = some z ∧ UR P hp μ Z w y (.pointer (some (z.add (i * m)))) := by
  cases x with
  | sl l =>
    simp only [lenA, Option.some.injEq] at hn
    simp only [indexA] at hy
    split at hy
    · rename_i hlen
      obtain rfl := Option.some.inj hy
      obtain ⟨z, h1, h2⟩ := IV.index (P := P) (hp := hp) (μ := μ) (show IV Z w (.sl l) _ from hx) (by omega) hlen
      exact ⟨z, h1, h2⟩
    · cases hy
  | ref r g =>
    obtain ⟨h0, h1, h2, _⟩ := (hx : CR P hp μ Z w (.ref r g) _)
    simp only [lenA] at hn
    simp only [indexA] at hy
    split at hn
    · rename_i t' g' l hr
      split at hn
      · rename_i e
        subst e
        obtain rfl := Option.some.inj hn
        simp only [hr] at hy
        split at hy
        · rename_i e
          subst e
          obtain rfl := Option.some.inj hy
          obtain ⟨z, q1, q2⟩ := ((h1 t g l hr).2 rfl).index (Z := Z) hr (by omega) hi hm
          exact ⟨z, q1, by rw [Nat.zero_add] at q2; exact q2⟩
        · cases hy
      · cases hn
    · rename_i g' l hr
      split at hn
      · rename_i e
        subst e
        obtain rfl := Option.some.inj hn
        simp only [hr] at hy
        split at hy
        · rename_i hlen
          obtain rfl := Option.some.inj hy
          obtain ⟨z, q1, q2⟩ := ((h2 g l hr).2 rfl).index (P := P) (hp := hp) (μ := μ) hi hlen
          exact ⟨z, q1, q2⟩
        · cases hy
      · cases hn
    · cases hn
  | sub r g a e =>
    obtain ⟨h0, h1, h2, _⟩ := (hx : CR P hp μ Z w (.sub r g a e) _)
    simp only [lenA] at hn
    simp only [indexA] at hy
    split at hn
    · rename_i t' g' l hr
      split at hn
      · rename_i e'
        subst e'
        obtain rfl := Option.some.inj hn
        simp only [hr] at hy
        split at hy
        · rename_i e'
          subst e'
          obtain rfl := Option.some.inj hy
          obtain ⟨q3, q4, q5⟩ := (h1 t g l hr).2 rfl
          obtain ⟨z, q1, q2⟩ := q5.index (Z := Z) hr (by omega) hi hm
          exact ⟨z, q1, q2⟩
        · cases hy
      · cases hn
    · rename_i g' l hr
      split at hn
      · rename_i e'
        subst e'
        obtain rfl := Option.some.inj hn
        simp only [hr] at hy
        split at hy
        · rename_i hlen
          obtain rfl := Option.some.inj hy
          obtain ⟨q3, q4, q5⟩ := (h2 g l hr).2 rfl
          have hg : ((l.take e).drop a).getD i [] = l.getD (a + i) [] := by
            have hlt : a + i < e := by omega
            simp only [List.getD_eq_getElem?_getD, List.getElem?_drop, List.getElem?_take, hlt, if_true]
          obtain ⟨z, q1, q2⟩ := q5.index (P := P) (hp := hp) (μ := μ) (i := i) (m := m) (by simp; omega) (by rw [hg]; exact hlen)
          rw [hg] at q2
          exact ⟨z, q1, q2⟩
        · cases hy
      · cases hn
    · cases hn
  | _ => simp [indexA] at hy

theorem op_indexAddr {t e : TypeId} {x ix : Operand} {k : IntKind} {i : Int} {n m : Nat} {y : A} (ho : o.op = .indexAddr t x ix) (hu : P.underlying t = some (.slice e)) (hm : szOf P e = some m)
    (hn : lenA st.hp (st.ev x) = some n) (hi : st.ev ix = .int k i) (h0 : 0 ≤ i) (h1 : i < n) (hy : indexA st.hp e m (st.ev x) i.toNat = some y) (h : N (st.put o.dst y)) : OpS P C o st N :=
  OpS.val h fun a w μ Z R => by
    obtain ⟨ad, c, hv, _⟩ := (R.ev x).slice hn
    have hx := R.ev x
    rw [hv] at hx
    obtain ⟨z, rfl, q⟩ := hx.index hn (by omega : i.toNat < n) hm hy
    have hix := R.ev ix
    rw [hi] at hix
    have he : P.elem t = e := by simp [Program.elem, hu]
    refine ⟨_, ?_, q⟩
    simp only [execOp, ho, hv, hix.int]
    rw [Sem.run_bind, run_indexAt_slice w t z n c k i (by rw [he]; exact hu), if_pos ⟨h0, h1⟩, he, run_sizeOf hm]
    rfl

/-! #### a cut -/
def sliceA (x : A) (lo hi : Nat) : Option A :=
  match x with
  | .sl l => some (.sl ((l.take hi).drop lo))
  | .nil => some .nil
  | .ref r g => some (.sub r g lo hi)
  | .sub r g a e => some (.sub r g (a + lo) (a + hi))
  | _ => none

/-- the bound of a cut, if it is one -/
def St.bnd (st : St) (d : Int) : Option Operand → Option Int
  | none => some d
  | some x => match st.ev x with
    | .int _ i => some i
    | _ => none

theorem IV.cut {l : List (List A)} {ad : Option Addr} {n c m lo hi : Nat} (h : IV Z w (.sl l) (.slice ad n c)) (h1 : lo ≤ hi) (h2 : hi ≤ l.length) (hm : ∀ cs ∈ l, cs.length = m) : IV Z w (.sl ((l.take hi).drop lo)) (sliced ad lo hi c m) := by
  obtain ⟨ad', c', e, h3, h4⟩ := h.lay
  injection e with e1 e2 e3
  subst e1; subst e3
  have hlen : ((l.take hi).drop lo).length = hi - lo := by simp; omega
  have hz : lo = hi → IV Z w (.sl ((l.take hi).drop lo)) (sliced ad lo hi c m) := by
    intro e
    rw [List.eq_nil_of_length_eq_zero (by omega : ((l.take hi).drop lo).length = 0)]
    simp only [sliced, e, Nat.sub_self]
    exact .sl0 _ _
  by_cases e : lo = hi
  · exact hz e
  · rcases h4 with rfl | ⟨b, o, sz, cur, t, fr, rfl, q1, q2, q3⟩
    · simp at h2; omega
    · have hc : c ≠ lo := by omega
      have hs : sz = m := by
        have hg : l[lo]? = some l[lo] := List.getElem?_eq_getElem (by omega)
        rw [← q3.len lo _ hg]
        exact hm _ (List.getElem_mem _)
      subst hs
      have := IV.of_lay (Z := Z) (w := w) (l := (l.take hi).drop lo) (b := b) (o := o + lo * sz) (c := c - lo) (sz := sz) q1 q2 (by omega) ?_
      · rw [hlen] at this
        simp only [sliced, if_neg hc, Option.map_some, addr_add]
        exact this
      · have hget : ∀ (i : Nat) (cs : List A), ((l.take hi).drop lo)[i]? = some cs → l[lo + i]? = some cs := by
          intro i cs hi
          rw [List.getElem?_drop, List.getElem?_take] at hi
          split at hi
          · exact hi
          · cases hi
        refine ⟨fun i cs hi => q3.len _ _ (hget i cs hi), fun i cs j x hi hj => ?_⟩
        obtain ⟨u, hu1, hu2⟩ := q3.at_ _ _ _ _ (hget i cs hi) hj
        refine ⟨u, ?_, hu2⟩
        rw [← hu1]
        congr 1
        rw [Nat.add_mul]
        omega

theorem Over.cut {r a n c m lo hi : Nat} {t : TypeId} {ad : Option Addr} (h : Over P μ w r t a n (.slice ad n c)) (h1 : lo ≤ hi) (h2 : hi ≤ n) (hm : szOf P t = some m) : Over P μ w r t (a + lo) (hi - lo) (sliced ad lo hi c m) := by
  obtain ⟨c', h3, h4⟩ := h
  rcases h4 with ⟨rfl, ad', e⟩ | ⟨b, o, sz, cur, q1, q2, e, q4, q5⟩
  · injection e with e1 e2 e3
    subst e1; subst e2; subst e3
    obtain rfl : hi = 0 := by omega
    obtain rfl : lo = 0 := by omega
    exact ⟨0, Nat.zero_le _, .inl ⟨rfl, ad, by simp [sliced]⟩⟩
  · injection e with e1 e2 e3
    subst e1; subst e3
    rw [hm] at q2
    obtain rfl := Option.some.inj q2
    by_cases hc : c = lo
    · obtain rfl : hi = lo := by omega
      exact ⟨0, by omega, .inl ⟨rfl, some ⟨b, o + a * m, none⟩, by simp [sliced, hc]⟩⟩
    · refine ⟨c - lo, by omega, .inr ⟨b, o, m, cur, q1, hm, ?_, q4, ?_⟩⟩
      · simp only [sliced, if_neg hc, Option.map_some, addr_add]
        congr 3
        rw [Nat.add_mul]
        omega
      · rw [show a + lo + (c - lo) = a + c by omega]
        exact q5

/-- elements of one size, as the type has it -/
def sizeA (P : Program) (hp : List Ob) (t : TypeId) (m : Nat) : A → Prop
  | .sl l => ∀ cs ∈ l, cs.length = m
  | .nil => True
  | .ref r _ => match hp[r]? with
    | some (.row t' _ _) => t = t'
    | some (.fro _ l) => ∀ cs ∈ l, cs.length = m
    | _ => False
  | .sub r _ _ _ => match hp[r]? with
    | some (.row t' _ _) => t = t'
    | some (.fro _ l) => ∀ cs ∈ l, cs.length = m
    | _ => False
  | _ => False

theorem UR.cut {x y : A} {n c m lo hi : Nat} {t : TypeId} {ad : Option Addr} (hx : UR P hp μ Z w x (.slice ad n c)) (hn : lenA hp x = some n) (h1 : lo ≤ hi) (h2 : hi ≤ n) (hm : szOf P t = some m) (hs : sizeA P hp t m x) (hy : sliceA x lo hi = some y) :
    UR P hp μ Z w y (sliced ad lo hi c m) := by
  cases x with
  | sl l =>
    simp only [lenA, Option.some.injEq] at hn
    obtain rfl := Option.some.inj hy
    exact IV.cut (show IV Z w (.sl l) _ from hx) h1 (by omega) hs
  | nil =>
    simp only [lenA, Option.some.injEq] at hn
    obtain rfl := Option.some.inj hy
    obtain ⟨ad', e⟩ := (show ∃ ad', Value.slice ad n c = .slice ad' 0 0 from hx)
    injection e with e1 e2 e3
    subst e3
    obtain rfl : hi = 0 := by omega
    obtain rfl : lo = 0 := by omega
    exact ⟨ad, by simp [sliced]⟩
  | ref r g =>
    obtain ⟨h0, q1, q2, _⟩ := (hx : CR P hp μ Z w (.ref r g) _)
    obtain rfl := Option.some.inj hy
    simp only [lenA] at hn
    simp only [sizeA] at hs
    split at hn
    · rename_i t' g' l hr
      split at hn
      · rename_i e
        subst e
        obtain rfl := Option.some.inj hn
        simp only [hr] at hs
        subst hs
        have := ((q1 t g l hr).2 rfl).cut h1 h2 hm
        rw [Nat.zero_add] at this
        refine ⟨h0, ?_, ?_, by simp [sliced, Value.oneCell']⟩
        · intro t' g' l' hr'
          rw [hr] at hr'
          cases hr'
          exact ⟨Nat.le_refl _, fun _ => ⟨h1, h2, this⟩⟩
        · intro g' l' hr'
          rw [hr] at hr'
          cases hr'
      · cases hn
    · rename_i g' l hr
      split at hn
      · rename_i e
        subst e
        obtain rfl := Option.some.inj hn
        simp only [hr] at hs
        refine ⟨h0, ?_, ?_, by simp [sliced, Value.oneCell']⟩
        · intro t' g' l' hr'
          rw [hr] at hr'
          cases hr'
        · intro g' l' hr'
          rw [hr] at hr'
          cases hr'
          exact ⟨Nat.le_refl _, fun _ => ⟨h1, h2, ((q2 g l hr).2 rfl).cut h1 h2 hs⟩⟩
      · cases hn
    · cases hn
  | sub r g a e =>
    obtain ⟨h0, q1, q2, _⟩ := (hx : CR P hp μ Z w (.sub r g a e) _)
    obtain rfl := Option.some.inj hy
    simp only [lenA] at hn
    simp only [sizeA] at hs
    split at hn
    · rename_i t' g' l hr
      split at hn
      · rename_i e'
        subst e'
        obtain rfl := Option.some.inj hn
        simp only [hr] at hs
        subst hs
        obtain ⟨q3, q4, q5⟩ := (q1 t g l hr).2 rfl
        have := q5.cut h1 h2 hm
        refine ⟨h0, ?_, ?_, by simp [sliced, Value.oneCell']⟩
        · intro t' g' l' hr'
          rw [hr] at hr'
          cases hr'
          refine ⟨Nat.le_refl _, fun _ => ⟨by omega, by omega, ?_⟩⟩
          rw [show a + hi - (a + lo) = hi - lo by omega]
          exact this
        · intro g' l' hr'
          rw [hr] at hr'
          cases hr'
      · cases hn
    · rename_i g' l hr
      split at hn
      · rename_i e'
        subst e'
        obtain rfl := Option.some.inj hn
        simp only [hr] at hs
        obtain ⟨q3, q4, q5⟩ := (q2 g l hr).2 rfl
        have := q5.cut (m := m) (lo := lo) (hi := hi) h1 (by simp; omega) (fun cs hcs => hs cs (List.mem_of_mem_take (List.mem_of_mem_drop hcs)))
        refine ⟨h0, ?_, ?_, by simp [sliced, Value.oneCell']⟩
        · intro t' g' l' hr'
          rw [hr] at hr'
          cases hr'
        · intro g' l' hr'
          rw [hr] at hr'
          cases hr'
          refine ⟨Nat.le_refl _, fun _ => ⟨by omega, by omega, ?_⟩⟩
          have e : ((((l.take e).drop a).take hi).drop lo) = (l.take (a + hi)).drop (a + lo) := by
            apply List.ext_getElem?
            intro i
            simp only [List.getElem?_drop, List.getElem?_take]
            split <;> split <;> first | (congr 1; omega) | rfl | omega | (split <;> first | (congr 1; omega) | omega | rfl)
          rw [e] at this
          exact this
      · cases hn
    · cases hn
  | _ => simp [sliceA] at hy

theorem op_slice {t e : TypeId} {x : Operand} {lo hi : Option Operand} {L H : Int} {n m : Nat} {y : A} (ho : o.op = .slice t x lo hi none) (hu : P.underlying t = some (.slice e)) (hm : szOf P e = some m)
    (hn : lenA st.hp (st.ev x) = some n) (hlo : st.bnd 0 lo = some L) (hhi : st.bnd n hi = some H) (h0 : 0 ≤ L) (h1 : L ≤ H) (h2 : H ≤ n) (hs : sizeA P st.hp e m (st.ev x)) (hy : sliceA (st.ev x) L.toNat H.toNat = some y) (h : N (st.put o.dst y)) : OpS P C o st N :=
  OpS.val h fun a w μ Z R => by
    obtain ⟨ad, c, hv, hc⟩ := (R.ev x).slice hn
    have hx := R.ev x
    rw [hv] at hx
    have hcut := hx.cut hn (by omega : L.toNat ≤ H.toNat) (by omega) hm hs hy
    have he : P.elem t = e := by simp [Program.elem, hu]
    have hu' : P.underlying t = some (.slice (P.elem t)) := by rw [he]; exact hu
    refine ⟨_, ?_, hcut⟩
    have hB : ∀ (d : Int) (b : Option Operand) (B : Int), st.bnd d b = some B → (b = none ∧ B = d) ∨ ∃ x k, b = some x ∧ a.eval x = .int k B := by
      intro d b B hb
      cases b with
      | none => exact .inl ⟨rfl, (Option.some.inj hb).symm⟩
      | some z =>
        refine .inr ⟨z, ?_⟩
        have hz := R.ev z
        simp only [St.bnd] at hb
        split at hb
        · rename_i k i hki
          obtain rfl := Option.some.inj hb
          rw [hki] at hz
          exact ⟨k, rfl, hz.int⟩
        · cases hb
    simp only [execOp, ho, hv]
    rw [Sem.run_bind, run_sliceAt_slice w t _ _ _ _ hu']
    rcases hB 0 lo L hlo with ⟨rfl, rfl⟩ | ⟨X, k, rfl, hX⟩ <;> rcases hB n hi H hhi with ⟨rfl, rfl⟩ | ⟨Y, k', rfl, hY⟩
    · simp only [Option.map_none]
      rw [run_slice_any w t ad n c hu']
      simp [Instr.sliceBounds, he, run_sizeOf hm]
    · simp only [Option.map_none, Option.map_some, hY]
      rw [run_slice_h w t ad n c hu' k' H (by omega) (by omega), he, run_sizeOf hm]
      rfl
    · simp only [Option.map_none, Option.map_some, hX]
      rw [run_slice_l w t ad n c hu' k L (by omega) (by omega), he, run_sizeOf hm]
      simp
    · simp only [Option.map_some, Option.map_none, hX, hY]
      rw [run_slice_lh w t ad n c hu' k k' L H (by omega) (by omega) (by omega), he, run_sizeOf hm]
      rfl

/-! #### parts -/
theorem op_extract {x : Operand} {i : Nat} {l : List A} {y : A} (ho : o.op = .extract x i) (hx : st.ev x = .tup l) (hy : l[i]? = some y) (h : N (st.put o.dst y)) : OpS P C o st N :=
  OpS.val h fun a w μ Z R => by
    have h1 := R.ev x
    rw [hx] at h1
    obtain ⟨vs, hv, hl, h2⟩ := h1
    obtain ⟨u, h3, h4⟩ := h2 i y hy
    refine ⟨u, ?_, UR.of_TR h4⟩
    have : vs[i]? = some u := by rw [← Array.getElem?_toList]; exact h3
    simp [execOp, ho, hv, Instr.extract, this]

def partA (P : Program) (t : TypeId) (f : Nat) (l : List A) : Option A :=
  match P.underlying t with
  | some (.struct fs) => match fs[f]? with
    | some fd => match aggOf P fd.type, szOf P fd.type with
      | some true, some n => some (.agg ((l.drop fd.offset).take n))
      | some false, _ => l[fd.offset]?
      | _, _ => none
    | none => none
  | _ => none

theorem op_field {t : TypeId} {x : Operand} {f : Nat} {l : List A} {y : A} (ho : o.op = .field t x f) (hx : st.ev x = .agg l) (hy : partA P t f l = some y) (h : N (st.put o.dst y)) : OpS P C o st N :=
  OpS.val h fun a w μ Z R => by
    have h1 := R.ev x
    rw [hx] at h1
    obtain ⟨vs, hv, hl, h2⟩ := h1
    unfold partA at hy
    split at hy
    · rename_i fs hu
      split at hy
      · rename_i fd hfd
        split at hy
        · rename_i n e1 e2
          obtain rfl := Option.some.inj hy
          refine ⟨.agg (vs.extract fd.offset (fd.offset + n)), ?_, _, rfl, ?_, ?_⟩
          · simp [execOp, ho, hv, Instr.field, run_underlying hu, hfd, asAgg, part, run_isAgg e1, run_sizeOf e2]
          · simp [hl]
          · intro j z hj
            rw [List.getElem?_take] at hj
            split at hj
            · rename_i hlt
              rw [List.getElem?_drop] at hj
              obtain ⟨u, h3, h4⟩ := h2 _ z hj
              refine ⟨u, ?_, h4⟩
              rw [Array.toList_extract, List.extract_eq_drop_take']
              have hlt2 : fd.offset + j < fd.offset + n := by omega
              simp only [List.getElem?_drop, List.getElem?_take, hlt2, if_true]
              exact h3
            · cases hj
        · rename_i e1
          obtain ⟨u, h3, h4⟩ := h2 _ y hy
          refine ⟨u, ?_, UR.of_CR h4⟩
          have : vs[fd.offset]? = some u := by rw [← Array.getElem?_toList]; exact h3
          simp [execOp, ho, hv, Instr.field, run_underlying hu, hfd, asAgg, part, run_isAgg e1, this]
        · cases hy
      · cases hy
    · cases hy
end
end Go.Vm
/- A machine of values: blocks that are made; what is stored. -/
namespace Go.Vm
open Go.RowKit
set_option linter.unusedVariables false
set_option linter.unusedSimpArgs false
section
variable {P : Program} {C : Ctx} {Z0 : Nat → Prop} {w0 : Base} {hp hp' : List Ob} {μ μ' : Mu} {Z Z' : Nat → Prop} {w w' : World} {st : St} {a : Act} {o : Oper} {N : St → Prop}

theorem toA_cr {v : Value} (h : v.oneCell' = true) : CR P hp μ Z w (toA v) v := by
  unfold toA
  split
  · exact IV.int _ _
  · exact IV.bool _
  · exact IV.str _
  · exact ⟨none, rfl⟩
  · rw [if_pos h]; exact IV.val _ h

/-- cells side by side that hold elements -/
structure LayL (R : A → Value → Prop) (sz : Nat) (cs : List Value) (l : List (List A)) : Prop where
  n : cs.length = l.length * sz
  one : ∀ u ∈ cs, u.oneCell' = true
  len : ∀ (i : Nat) (e : List A), l[i]? = some e → e.length = sz
  at_ : ∀ (i : Nat) (e : List A) (j : Nat) (x : A), l[i]? = some e → e[j]? = some x → ∃ u, cs[i * sz + j]? = some u ∧ R x u

theorem LayL.nil {R : A → Value → Prop} {sz : Nat} : LayL R sz [] [] := ⟨by simp, by simp, by simp, by simp⟩

theorem LayL.imp {R R' : A → Value → Prop} {sz : Nat} {cs : List Value} {l : List (List A)} (h : LayL R sz cs l) (hr : ∀ x v, R x v → R' x v) : LayL R' sz cs l :=
  ⟨h.n, h.one, h.len, fun i e j x hi hj => let ⟨u, h1, h2⟩ := h.at_ i e j x hi hj; ⟨u, h1, hr _ _ h2⟩⟩

theorem LayL.app {R : A → Value → Prop} {sz : Nat} {cs cs' : List Value} {l l' : List (List A)} (h : LayL R sz cs l) (h' : LayL R sz cs' l') : LayL R sz (cs ++ cs') (l ++ l') := by
  refine ⟨by rw [List.length_append, List.length_append, h.n, h'.n, Nat.add_mul], fun u hu => ?_, fun i e hi => ?_, fun i e j x hi hj => ?_⟩
  · rcases List.mem_append.1 hu with hu | hu
    · exact h.one u hu
    · exact h'.one u hu
  · rw [List.getElem?_append] at hi
    split at hi
    · exact h.len i e hi
    · exact h'.len _ e hi
  · rw [List.getElem?_append] at hi
    split at hi
    · rename_i hlt
      obtain ⟨u, h1, h2⟩ := h.at_ i e j x hi hj
      refine ⟨u, ?_, h2⟩
      rw [List.getElem?_append_left (List.getElem?_eq_some_iff.1 h1).1]
      exact h1
    · rename_i hlt
      obtain ⟨u, h1, h2⟩ := h'.at_ _ e j x hi hj
      refine ⟨u, ?_, h2⟩
      have hle : cs.length ≤ i * sz + j := by
        rw [h.n]
        have : l.length * sz ≤ i * sz := Nat.mul_le_mul_right _ (by omega)
        omega
      rw [List.getElem?_append_right hle, ← h1]
      congr 1
      rw [h.n, Nat.sub_mul]
      have : l.length * sz ≤ i * sz := Nat.mul_le_mul_right _ (by omega)
      omega

theorem LayL.lay {R : A → Value → Prop} {sz o : Nat} {cs pre post : List Value} {l : List (List A)} {cur : Array Value} (h : LayL R sz cs l) (hc : cur.toList = pre ++ cs ++ post) (ho : pre.length = o) : Lay R sz cur o l ∧ o + l.length * sz ≤ cur.size := by
  refine ⟨⟨h.len, fun i e j x hi hj => ?_⟩, ?_⟩
  · obtain ⟨u, h1, h2⟩ := h.at_ i e j x hi hj
    refine ⟨u, ?_, h2⟩
    rw [← Array.getElem?_toList, hc, List.append_assoc, List.getElem?_append_right (by omega), ← ho, Nat.add_sub_cancel_left, List.getElem?_append_left (List.getElem?_eq_some_iff.1 h1).1]
    exact h1
  · rw [← Array.length_toList, hc, List.length_append, List.length_append, h.n]
    omega

/-- the cells that a layout speaks of -/
theorem Lay.cells {sz o : Nat} {l : List (List A)} {cur : Array Value} (h : Lay (IV Z w) sz cur o l) :
    ∃ cs, LayL (IV Z w) sz cs l ∧ ∀ (j : Nat) (u : Value), cs[j]? = some u → cur[o + j]? = some u := by
  refine ⟨(cur.toList.drop o).take (l.length * sz), ⟨?_, ?_, h.len, ?_⟩, ?_⟩
  · rw [List.length_take, List.length_drop, Array.length_toList (xs := cur)]
    by_cases hz : l.length * sz = 0
    · omega
    · have hp : 0 < l.length ∧ 0 < sz := by
        constructor
        · exact Nat.pos_of_ne_zero fun e => hz (by simp [e])
        · exact Nat.pos_of_ne_zero fun e => hz (by simp [e])
      have hi : l[l.length - 1]? = some l[l.length - 1] := List.getElem?_eq_getElem (by omega)
      have hs := h.len _ _ hi
      obtain ⟨u, h1, _⟩ := h.at_ _ _ (sz - 1) (l[l.length - 1])[sz - 1] hi (List.getElem?_eq_getElem (by omega))
      have := (Array.getElem?_eq_some_iff.1 h1).1
      have e : (l.length - 1) * sz + sz = l.length * sz := by
        rw [← Nat.succ_mul]
        congr 1
        omega
      omega
  · intro u hu
    obtain ⟨k, hk, rfl⟩ := List.getElem_of_mem hu
    have hk1 : k < l.length * sz := by rw [List.length_take] at hk; omega
    have hs : 0 < sz := Nat.pos_of_ne_zero fun e => by simp [e] at hk1
    have hi : k / sz < l.length := (Nat.div_lt_iff_lt_mul hs).2 hk1
    have hii : l[k / sz]? = some l[k / sz] := List.getElem?_eq_getElem hi
    have hlen := h.len _ _ hii
    have hj : k % sz < (l[k / sz]).length := by rw [hlen]; exact Nat.mod_lt _ hs
    obtain ⟨u, h1, h2⟩ := h.at_ _ _ (k % sz) _ hii (List.getElem?_eq_getElem hj)
    have e : k / sz * sz + k % sz = k := by rw [Nat.mul_comm]; exact Nat.div_add_mod k sz
    rw [e] at h1
    have : ((cur.toList.drop o).take (l.length * sz))[k]? = some u := by
      rw [List.getElem?_take, if_pos hk1, List.getElem?_drop]
      simpa using h1
    rw [List.getElem?_eq_getElem hk] at this
    rw [Option.some.inj this]
    exact h2.one
  · intro i e j x hi hj
    obtain ⟨u, h1, h2⟩ := h.at_ i e j x hi hj
    refine ⟨u, ?_, h2⟩
    have hlt : i * sz + j < l.length * sz := by
      have h3 := (List.getElem?_eq_some_iff.1 hi).1
      have h4 := (List.getElem?_eq_some_iff.1 hj).1
      rw [h.len i e hi] at h4
      calc i * sz + j < i * sz + sz := by omega
        _ = (i + 1) * sz := (Nat.succ_mul i sz).symm
        _ ≤ l.length * sz := Nat.mul_le_mul_right _ h3
    rw [List.getElem?_take, if_pos hlt, List.getElem?_drop]
    simpa using h1
  · intro j u hj
    rw [List.getElem?_take] at hj
    split at hj
    · simpa using hj
    · cases hj

/-- What a slice's word leads to, as elements that may be kept. -/
theorem HR.elems (H : HR P Z0 w0 hp μ Z w) {x : A} {v : Value} {l : List (List A)} (hv : Vm.view hp x = some l) (h : UR P hp μ Z w x v) :
    ∃ ad c, v = .slice ad l.length c ∧ l.length ≤ c ∧ (l = [] ∨ ∃ b o sz cur t fr, ad = some ⟨b, o, none⟩ ∧ w.heap[b]? = some (.cells cur t fr) ∧ Lay (IV Z w) sz cur o l) := by
  have fromOver : ∀ r t a n g (l0 : List (List A)), Over P μ w r t a n v → hp[r]? = some (.row t g l0) → a + n ≤ l0.length → l = (l0.take (a + n)).drop a →
      ∃ ad c, v = .slice ad l.length c ∧ l.length ≤ c ∧ (l = [] ∨ ∃ b o sz cur t fr, ad = some ⟨b, o, none⟩ ∧ w.heap[b]? = some (.cells cur t fr) ∧ Lay (IV Z w) sz cur o l) := by
    intro r t a n g l0 hO hr ha e
    obtain ⟨c, h1, h2⟩ := hO
    have hlen : l.length = n := by rw [e]; simp; omega
    rcases h2 with ⟨rfl, ad, rfl⟩ | ⟨b, o, sz, cur, h3, h4, rfl, h6, h7⟩
    · obtain rfl : n = 0 := by omega
      exact ⟨ad, 0, by rw [hlen], by omega, .inl (List.eq_nil_of_length_eq_zero hlen)⟩
    · obtain ⟨sz', h8, h9, h10⟩ := H.ob r _ hr
      rw [h4] at h8
      obtain rfl := Option.some.inj h8
      simp only [h3] at h10
      obtain ⟨cur', h11, h12, h13⟩ := h10
      rw [h6] at h11
      obtain rfl : cur = cur' := by
        have := Option.some.inj h11
        injection this
      refine ⟨_, c, by rw [hlen], by omega, .inr ⟨b, _, sz, cur, t, _, rfl, h6, ?_⟩⟩
      have hget : ∀ (i : Nat) (cs : List A), l[i]? = some cs → l0[a + i]? = some cs := by
        intro i cs hi
        rw [e, List.getElem?_drop, List.getElem?_take] at hi
        split at hi
        · exact hi
        · cases hi
      refine ⟨fun i cs hi => h12.len _ _ (hget i cs hi), fun i cs j x hi hj => ?_⟩
      obtain ⟨u, hu1, hu2⟩ := h12.at_ _ _ _ _ (hget i cs hi) hj
      refine ⟨u, ?_, hu2⟩
      rw [← hu1]
      congr 1
      rw [Nat.add_mul]
      omega
  have fromIV : ∀ l', IV Z w (.sl l') v → l = l' → ∃ ad c, v = .slice ad l.length c ∧ l.length ≤ c ∧ (l = [] ∨ ∃ b o sz cur t fr, ad = some ⟨b, o, none⟩ ∧ w.heap[b]? = some (.cells cur t fr) ∧ Lay (IV Z w) sz cur o l) := by
    rintro l' hI rfl
    obtain ⟨ad, c, h1, h2, h3⟩ := hI.lay
    refine ⟨ad, c, h1, h2, ?_⟩
    rcases h3 with h3 | ⟨b, o, sz, cur, t, fr, q1, q2, q3, q4⟩
    · exact .inl h3
    · exact .inr ⟨b, o, sz, cur, t, fr, q1, q3, q4⟩
  cases x with
  | sl l' =>
    obtain rfl := Option.some.inj hv
    exact fromIV _ h rfl
  | nil =>
    obtain rfl := Option.some.inj hv
    obtain ⟨ad, rfl⟩ := (show ∃ ad, v = .slice ad 0 0 from h)
    exact ⟨ad, 0, rfl, Nat.le_refl _, .inl rfl⟩
  | ref r g =>
    obtain ⟨h0, h1, h2, _⟩ := (h : CR P hp μ Z w (.ref r g) v)
    simp only [Vm.view] at hv
    split at hv
    · rename_i t g' l' hr
      split at hv
      · rename_i e
        obtain rfl := Option.some.inj hv
        exact fromOver r t 0 l'.length g' l' ((h1 t g' l' hr).2 e) hr (by omega) (by simp)
      · cases hv
    · rename_i g' l' hr
      split at hv
      · rename_i e
        obtain rfl := Option.some.inj hv
        exact fromIV _ ((h2 g' l' hr).2 e) rfl
      · cases hv
    · cases hv
  | sub r g a e =>
    obtain ⟨h0, h1, h2, _⟩ := (h : CR P hp μ Z w (.sub r g a e) v)
    simp only [Vm.view] at hv
    split at hv
    · rename_i t g' l' hr
      split at hv
      · rename_i e'
        obtain rfl := Option.some.inj hv
        obtain ⟨q1, q2, q3⟩ := (h1 t g' l' hr).2 e'
        exact fromOver r t a (e - a) g' l' q3 hr (by omega) (by rw [show a + (e - a) = e by omega])
      · cases hv
    · rename_i g' l' hr
      split at hv
      · rename_i e'
        obtain rfl := Option.some.inj hv
        exact fromIV _ ((h2 g' l' hr).2 e').2.2 rfl
      · cases hv
    · cases hv
  | _ => simp [Vm.view] at hv

/-! #### a new block -/
theorem HR.newBox (H : HR P Z0 w0 hp μ Z w) {t : TypeId} {cs : List A} {cur : Array Value} (hbel : Below w.heap.size w w') (hnew : w'.heap[w.heap.size]? = some (.cells cur t (0, 0))) (hc : CRs P hp μ Z w cs cur.toList) :
    ∃ μ', HR P Z0 w0 (hp ++ [.box t cs]) μ' Z w' ∧ Ext P hp μ Z w (hp ++ [.box t cs]) μ' Z w' ∧ CR P (hp ++ [.box t cs]) μ' Z w' (.ptr hp.length 0 0 0) (.pointer (some ⟨w.heap.size, 0, none⟩)) := by
  have hlt : w.heap.size < w'.heap.size := (Array.getElem?_eq_some_iff.1 hnew).1
  obtain ⟨H', E⟩ := H.push (o' := .box t cs) (m' := some (w.heap.size, 0)) (w' := w') (H.below.later hbel) hbel.size (fun k hk => hbel.block k hk)
    (by rintro b o e; cases e; exact ⟨Nat.le_refl _, hlt⟩)
    (fun E => ⟨w.heap.size, cur, by simp, hnew, hc.ext E⟩)
  refine ⟨_, H', E, by simp, ?_, ?_, rfl⟩
  · intro t' g' l' h
    simp at h
  · intro t' cs' h
    simp at h
    obtain ⟨rfl, rfl⟩ := h
    exact ⟨rfl, Nat.zero_le _, w.heap.size, by simp, rfl⟩

theorem HR.newRow (H : HR P Z0 w0 hp μ Z w) {t : TypeId} {l : List (List A)} {cur : Array Value} {sz c : Nat} {cs post : List Value} (hbel : Below w.heap.size w w') (hnew : w'.heap[w.heap.size]? = some (.cells cur t (0, 0)))
    (hs : szOf P t = some sz) (hl : LayL (IV Z w) sz cs l) (hcur : cur.toList = cs ++ post) (hc : l.length ≤ c) (hcap : c * sz ≤ cur.size) :
    ∃ μ', HR P Z0 w0 (hp ++ [.row t 0 l]) μ' Z w' ∧ Ext P hp μ Z w (hp ++ [.row t 0 l]) μ' Z w' ∧ CR P (hp ++ [.row t 0 l]) μ' Z w' (.ref hp.length 0) (.slice (some ⟨w.heap.size, 0, none⟩) l.length c) := by
  have hlt : w.heap.size < w'.heap.size := (Array.getElem?_eq_some_iff.1 hnew).1
  obtain ⟨H', E⟩ := H.push (o' := .row t 0 l) (m' := some (w.heap.size, 0)) (w' := w') (H.below.later hbel) hbel.size (fun k hk => hbel.block k hk)
    (by rintro b o e; cases e; exact ⟨Nat.le_refl _, hlt⟩)
    (fun E => by
      refine ⟨sz, hs, hl.len, ?_⟩
      simp only [if_true]
      have := (hl.imp (R' := IV Z w') (fun x v h => h.mono E.z E.zh)).lay (cur := cur) (pre := []) (post := post) (o := 0) (by simpa using hcur) rfl
      exact ⟨cur, hnew, this.1, by simpa using this.2⟩)
  refine ⟨_, H', E, by simp, ?_, ?_, rfl⟩
  · intro t' g' l' h
    simp at h
    obtain ⟨rfl, rfl, rfl⟩ := h
    exact ⟨Nat.le_refl _, fun _ => ⟨c, hc, .inr ⟨w.heap.size, 0, sz, cur, by simp, hs, by simp, hnew, by simpa using hcap⟩⟩⟩
  · intro g' l' h
    simp at h

theorem below_alloc' (w : World) (o : Obj) : Below w.heap.size w (w.alloc o) := (Below.refl _ w).alloc (Nat.le_refl _) o

/-- zero cells -/
def zeroA (P : Program) (t : TypeId) : Option (List A) :=
  match (P.info? t).bind (·.zero) with
  | some z => if z.cells.toList.all (·.oneCell') = true then some (z.cells.toList.map toA) else none
  | none => none

theorem zeroA_run {t : TypeId} {cs : List A} (h : zeroA P t = some cs) (w : World) : ∃ z, (zeroValue t).run P w = .ok z w ∧ CRs P hp μ Z w cs z.cells.toList := by
  unfold zeroA at h
  split at h
  · rename_i z hz
    split at h
    · rename_i h1
      obtain rfl := Option.some.inj h
      obtain ⟨i, hi, hz⟩ := Option.bind_eq_some_iff.1 hz
      refine ⟨z, by simp [zeroValue, typeInfo, hi, hz], by simp, fun j x hj => ?_⟩
      rw [List.getElem?_map] at hj
      obtain ⟨u, hu, rfl⟩ := Option.map_eq_some_iff.1 hj
      exact ⟨u, hu, toA_cr (List.all_eq_true.1 h1 u (List.mem_of_getElem? hu))⟩
    · cases h
  · cases h

theorem run_newVar (t : TypeId) (v : Value) (w : World) : (newVar t v).run P w = .ok ⟨w.heap.size, 0, none⟩ (w.alloc (.cells v.cells t)) := by
  simp [newVar, newRow]

theorem op_alloc {t : TypeId} {cs : List A} (ho : o.op = .alloc t) (hz : zeroA P t = some cs) (h : N (St.put ⟨st.tm, st.hp ++ [.box t cs]⟩ o.dst (.ptr st.hp.length 0 0 0))) : OpS P C o st N :=
  OpS.blk h fun a w μ Z R => by
    obtain ⟨z, h1, h2⟩ := zeroA_run (P := P) (hp := st.hp) (μ := μ) (Z := Z) hz w
    obtain ⟨μ', H', E, C⟩ := R.hr.newBox (t := t) (below_alloc' w (.cells z.cells t)) (heap_alloc_new w _) h2
    refine ⟨_, _, μ', Z, .inl ?_, H', E, UR.of_CR C⟩
    simp [execOp, ho, Instr.alloc, h1, run_newVar]

def cellsA : A → Option (List A)
  | .agg l => some l
  | .tup _ => none
  | .undef => none
  | x => some [x]

theorem UR.cells {x : A} {v : Value} {cs : List A} (hx : UR P hp μ Z w x v) (hc : cellsA x = some cs) : CRs P hp μ Z w cs v.cells.toList := by
  cases x with
  | agg l =>
    obtain rfl := Option.some.inj hc
    obtain ⟨vs, rfl, h⟩ := (show ∃ vs, v = .agg vs ∧ CRs P hp μ Z w l vs.toList from hx)
    exact h
  | tup l => cases hc
  | undef => cases hc
  | _ =>
    obtain rfl := Option.some.inj hc
    simp only [UR, TR] at hx
    have hcr := hx
    have hv : v.cells = #[v] := by
      have := hcr.one
      cases v <;> first | rfl | simp [Value.oneCell'] at this
    rw [hv]
    refine ⟨rfl, fun j y hj => ?_⟩
    cases j with
    | zero => simp at hj; subst hj; exact ⟨v, rfl, hcr⟩
    | succ j => simp at hj

theorem op_box {t : TypeId} {x : Operand} {cs : List A} (ho : o.op = .box t x) (hc : cellsA (st.ev x) = some cs) (h : N (St.put ⟨st.tm, st.hp ++ [.box t cs]⟩ o.dst (.ptr st.hp.length 0 0 0))) : OpS P C o st N :=
  OpS.blk h fun a w μ Z R => by
    obtain ⟨μ', H', E, C⟩ := R.hr.newBox (t := t) (below_alloc' w (.cells (a.eval x).cells t)) (heap_alloc_new w _) ((R.ev x).cells hc)
    refine ⟨_, _, μ', Z, .inl ?_, H', E, UR.of_CR C⟩
    simp [execOp, ho, Instr.box, run_newVar]
end
end Go.Vm
/- A machine of values: stores, structs and rows that are written out. -/
namespace Go.Vm
open Go.RowKit
set_option linter.unusedVariables false
set_option linter.unusedSimpArgs false

/-- new cells from place s on -/
def splice {α : Type} (l : List α) (s : Nat) (new : List α) : List α := l.take s ++ new ++ l.drop (s + new.length)

theorem splice_length {α : Type} {l : List α} {s : Nat} {new : List α} (h : s + new.length ≤ l.length) : (splice l s new).length = l.length := by
  simp only [splice, List.length_append, List.length_take, List.length_drop]
  omega

theorem splice_get {α : Type} {l : List α} {s : Nat} {new : List α} (h : s + new.length ≤ l.length) (q : Nat) :
    (splice l s new)[q]? = if q < s then l[q]? else if q < s + new.length then new[q - s]? else l[q]? := by
  unfold splice
  have hs : (l.take s).length = s := by rw [List.length_take]; omega
  by_cases h1 : q < s
  · rw [if_pos h1, List.append_assoc, List.getElem?_append_left (by omega), List.getElem?_take, if_pos h1]
  · rw [if_neg h1]
    by_cases h2 : q < s + new.length
    · rw [if_pos h2, List.append_assoc, List.getElem?_append_right (by omega), hs, List.getElem?_append_left (by omega)]
    · rw [if_neg h2, List.getElem?_append_right (by rw [List.length_append]; omega), List.getElem?_drop]
      congr 1
      rw [List.length_append, hs]
      omega

section
variable {P : Program} {C : Ctx} {Z0 : Nat → Prop} {w0 : Base} {hp hp' : List Ob} {μ μ' : Mu} {Z Z' : Nat → Prop} {w w' : World} {st : St} {a : Act} {o : Oper} {N : St → Prop}

theorem CRs.splice {cs new : List A} {vs vn : List Value} {j : Nat} (h : CRs P hp μ Z w cs vs) (hn : CRs P hp μ Z w new vn) (hj : j + new.length ≤ cs.length) : CRs P hp μ Z w (splice cs j new) (splice vs j vn) := by
  refine ⟨by rw [splice_length (by rw [hn.1, h.1]; exact hj), splice_length hj, h.1], fun q x hq => ?_⟩
  rw [splice_get hj] at hq
  rw [splice_get (by rw [hn.1, h.1]; exact hj), hn.1]
  split at hq
  · rename_i h1
    rw [if_pos h1]
    exact h.2 q x hq
  · rename_i h1
    rw [if_neg h1]
    split at hq
    · rename_i h2
      rw [if_pos h2]
      exact hn.2 _ x hq
    · rename_i h2
      rw [if_neg h2]
      exact h.2 q x hq

theorem frz_row {x : A} {r : Nat} {t : TypeId} {g : Nat} {l : List (List A)} (h : (frz hp x).1[r]? = some (.row t g l)) : hp[r]? = some (.row t g l) := by
  have key : ∀ (q g' : Nat) (l' : List (List A)), (hp.set q (.fro g' l'))[r]? = some (.row t g l) → hp[r]? = some (.row t g l) := by
    intro q g' l' h
    rw [List.getElem?_set] at h
    split at h
    · split at h <;> cases h
    · exact h
  unfold frz at h
  split at h
  · split at h
    · split at h
      · exact key _ _ _ h
      · exact h
    · split at h <;> exact h
    · exact h
  · split at h
    · split at h
      · exact key _ _ _ h
      · exact h
    · split at h <;> exact h
    · exact h
  all_goals exact h

theorem frzs_row : ∀ {l' : List A} {hp : List Ob} {r : Nat} {t : TypeId} {g : Nat} {l : List (List A)}, (frzs hp l').1[r]? = some (.row t g l) → hp[r]? = some (.row t g l)
  | [], _, _, _, _, _, h => h
  | x :: xs, _, _, _, _, _, h => frz_row (frzs_row (l' := xs) h)

/-- what a store makes of the blocks -/
def storeA (P : Program) (hp : List Ob) (t : TypeId) (p x : A) : Option (List Ob) :=
  match szOf P t, cellsA x, p with
  | some n, some cs, .ptr r g i j => if cs.length = n then
      match hp[r]? with
      | some (.row _ g' _) => match (frzs hp cs).1[r]? with
        | some (.row te _ l) => if g = g' ∧ j + n ≤ (l.getD i []).length then some ((frzs hp cs).1.set r (.row te g (l.set i (splice (l.getD i []) j (frzs hp cs).2)))) else none
        | _ => none
      | some (.box tb bs) => if j + n ≤ bs.length then some (hp.set r (.box tb (splice bs j cs))) else none
      | _ => none
    else none
  | _, _, _ => none

theorem run_storeVar_at {t te : TypeId} {n b s : Nat} {v : Value} {cur : Array Value} (hn : szOf P t = some n) (hb : w.heap[b]? = some (.cells cur te (0, 0))) (hv : v.cells.toList.length = n) (h1 : ∀ u ∈ v.cells.toList, u.oneCell' = true) (hs : s + n ≤ cur.size) :
    (Instr.storeAt t (.pointer (some ⟨b, s, none⟩)) v).run P w = .ok () (w.setRow b (splice cur.toList s v.cells.toList).toArray) := by
  have := run_storeCells_at (P := P) b s te v.cells.toList 0 cur w hb (by omega) h1
  have hsz : v.cells.size = n := by rw [← Array.length_toList]; exact hv
  simp only [Nat.add_zero] at this
  simp only [Instr.storeAt, Instr.sureAddr, Sem.run_bind, Sem.run_pure, Result.andThen_ok, storeVar, run_sizeOf hn, hsz, ne_eq, not_true_eq_false, if_false]
  simp [splice, this]

theorem below_setRow {b : Nat} {cs : Array Value} {B : Nat} (hb : B ≤ b) : Below B w (w.setRow b cs) :=
  ⟨rfl, rfl, rfl, by simp, fun k hk => setRow_other w b k cs (by omega)⟩

theorem Bel.setRow {b : Nat} {cs : Array Value} {B : Base} {w : World} (h : Bel B w) (hb : B.ok b) : Bel B (w.setRow b cs) :=
  h.one hb (below_setRow (w := w) (cs := cs) (Nat.zero_le b)).os (below_setRow (w := w) (cs := cs) (Nat.zero_le b)).tape (below_setRow (w := w) (cs := cs) (Nat.zero_le b)).output (below_setRow (w := w) (cs := cs) (Nat.zero_le b)).size (fun k hk => setRow_other w b k _ hk)
theorem CRs.one {l : List A} {vs : List Value} (h : CRs P hp μ Z w l vs) : ∀ u ∈ vs, u.oneCell' = true := by
  intro u hu
  obtain ⟨k, hk, rfl⟩ := List.getElem_of_mem hu
  obtain ⟨u, h1, h2⟩ := h.2 k (l[k]'(by rw [← h.1]; exact hk)) (List.getElem?_eq_getElem _)
  rw [List.getElem?_eq_getElem hk] at h1
  rw [Option.some.inj h1]
  exact h2.one

theorem div_unique {i i' j j' sz : Nat} (h : i * sz + j = i' * sz + j') (hj : j < sz) (hj' : j' < sz) : i = i' ∧ j = j' := by
  have h1 : (i * sz + j) / sz = i := by rw [Nat.mul_comm, Nat.mul_add_div (by omega), Nat.div_eq_of_lt hj]; rfl
  have h2 : (i' * sz + j') / sz = i' := by rw [Nat.mul_comm, Nat.mul_add_div (by omega), Nat.div_eq_of_lt hj']; rfl
  have : i = i' := by rw [← h1, ← h2, h]
  subst this
  exact ⟨rfl, by omega⟩

theorem HR.store (H : HR P Z0 w0 hp μ Z w) {t : TypeId} {p x : A} {u v : Value} {hp' : List Ob} (hpt : UR P hp μ Z w p u) (hx : UR P hp μ Z w x v) (hst : storeA P hp t p x = some hp') :
    ∃ w' μ' Z', (Instr.storeAt t u v).run P w = .ok () w' ∧ HR P Z0 w0 hp' μ' Z' w' ∧ Ext P hp μ Z w hp' μ' Z' w' := by
  unfold storeA at hst
  split at hst
  · rename_i n cs r g i j hn hcs
    split at hst
    · rename_i hlen
      have hC := hx.cells hcs
      obtain ⟨h0, h1, h2, h3⟩ := (hpt : CR P hp μ Z w (.ptr r g i j) u)
      split at hst
      · rename_i t0 g' l0 hr0
        split at hst
        · rename_i te g2 l hr1
          split at hst
          · rename_i hg
            obtain ⟨hgg, hjn⟩ := hg
            obtain rfl := Option.some.inj hst
            have hr := frzs_row hr1
            have ee := hr.symm.trans hr0
            injection ee with ee
            injection ee with e1 e2 e3
            subst e1; subst e3
            have e2' : g = g2 := hgg.trans e2.symm
            clear e2
            subst hgg
            subst e2'
            obtain ⟨Z1, H1, E1, hl1, I1⟩ := H.frzs hC
            obtain ⟨_, q⟩ := h1 te g l hr0
            obtain ⟨q1, b, o, sz, q2, q3, q4, rfl⟩ := q rfl
            obtain ⟨sz', q5, q6, q7⟩ := H1.ob r _ hr1
            rw [q3] at q5
            obtain rfl := Option.some.inj q5
            simp only [q2] at q7
            obtain ⟨cur, q8, q9, q10⟩ := q7
            have hi : l[i]? = some (l.getD i []) := by rw [List.getD_eq_getElem?_getD, List.getElem?_eq_getElem q1]; rfl
            have hsz := q6 i _ hi
            rw [hsz] at hjn
            have hfit : o + (i * sz + j) + n ≤ cur.size := by
              have : (i + 1) * sz ≤ l.length * sz := Nat.mul_le_mul_right _ q1
              rw [Nat.succ_mul] at this
              omega
            have hrun := run_storeVar_at (P := P) (w := w) hn q8 (by rw [hC.1, hlen]) hC.one hfit
            have hlive : Live (Vm.frzs hp cs).1 r := .inl ⟨te, g, l, hr1⟩
            have hown := H1.own r b o hlive q2
            have hvl : v.cells.toList.length = n := by rw [hC.1, hlen]
            have hfn : (Vm.frzs hp cs).2.length = n := by rw [hl1, hlen]
            obtain ⟨H2, E2⟩ := H1.upd (r := r) (o' := .row te g (l.set i (splice (l.getD i []) j (Vm.frzs hp cs).2))) (m' := μ r) (w' := w.setRow b (splice cur.toList (o + (i * sz + j)) v.cells.toList).toArray) hlive
              (H1.below.setRow hown.1) (by simp)
              (fun k hk hne => setRow_other w b k _ (fun e => hne o (e ▸ q2)))
              (fun b' o' e => .inl ⟨o', e⟩)
              (by
                rintro t' g' l' e
                cases e
                refine .inl ⟨l, hr1, by simp, rfl, fun b' o' cur' e1 e2 => ?_⟩
                rw [q2] at e1
                cases e1
                rw [q8] at e2
                cases e2
                exact ⟨_, setRow_heap w b cur _ te _ q8, by simp [splice_length (l := cur.toList) (s := o + (i * sz + j)) (new := v.cells.toList) (by rw [hvl]; simpa using hfit)]⟩)
              (by intro _ _ e; cases e) (by intro _ _ e; cases e)
              (fun E => by
                refine ⟨sz, q3, ?_, ?_⟩
                · intro i' e he
                  rw [List.getElem?_set] at he
                  split at he
                  · obtain rfl := Option.some.inj he
                    rw [splice_length (by rw [hfn, hsz]; exact hjn), hsz]
                  · exact q6 i' e he
                · simp only [if_true, q2]
                  refine ⟨_, setRow_heap w b cur _ te _ q8, ⟨?_, ?_⟩, ?_⟩
                  · intro i' e he
                    rw [List.getElem?_set] at he
                    split at he
                    · obtain rfl := Option.some.inj he
                      rw [splice_length (by rw [hfn, hsz]; exact hjn), hsz]
                    · exact q6 i' e he
                  · intro i' e j' y he hy
                    have hfit' : o + (i * sz + j) + v.cells.toList.length ≤ cur.toList.length := by rw [hvl]; simpa using hfit
                    have get : ∀ q : Nat, (splice cur.toList (o + (i * sz + j)) v.cells.toList).toArray[q]? = if q < o + (i * sz + j) then cur[q]? else if q < o + (i * sz + j) + n then v.cells.toList[q - (o + (i * sz + j))]? else cur[q]? := by
                      intro q
                      rw [List.getElem?_toArray, splice_get hfit', hvl]
                      simp
                    rw [List.getElem?_set] at he
                    split at he
                    · rename_i hii
                      subst hii
                      obtain rfl := Option.some.inj he
                      rw [splice_get (by rw [hfn, hsz]; exact hjn), hfn] at hy
                      rw [get]
                      split at hy
                      · rename_i a1
                        rw [if_pos (by omega)]
                        obtain ⟨u, p1, p2⟩ := q9.at_ i _ j' y hi hy
                        exact ⟨u, p1, p2.mono E.z E.zh⟩
                      · rename_i a1
                        split at hy
                        · rename_i a2
                          rw [if_neg (by omega), if_pos (by omega)]
                          obtain ⟨u, p1, p2⟩ := I1 _ y hy
                          refine ⟨u, by rw [← p1]; congr 1; omega, p2.mono E.z E.zh⟩
                        · rename_i a2
                          rw [if_neg (by omega), if_neg (by omega)]
                          obtain ⟨u, p1, p2⟩ := q9.at_ i _ j' y hi hy
                          exact ⟨u, p1, p2.mono E.z E.zh⟩
                    · rename_i hii
                      obtain ⟨u, p1, p2⟩ := q9.at_ i' _ j' y he hy
                      refine ⟨u, ?_, p2.mono E.z E.zh⟩
                      rw [get, ← p1]
                      have hj' : j' < sz := by
                        have := (List.getElem?_eq_some_iff.1 hy).1
                        rw [q6 i' e he] at this
                        exact this
                      split
                      · rfl
                      · rename_i a1
                        split
                        · rename_i a2
                          exfalso
                          have : i * sz ≤ i' * sz + j' ∧ i' * sz + j' < i * sz + sz := by omega
                          have e2 := div_unique (i := i) (i' := i') (j := i' * sz + j' - i * sz) (j' := j') (sz := sz) (by omega) (by omega) hj'
                          exact hii e2.1
                        · rfl
                  · simp only [List.length_set]
                    rw [List.size_toArray, splice_length (by rw [hvl]; simpa using hfit)]
                    simpa using q10)
            exact ⟨_, _, Z1, hrun, H2, E1.trans E2⟩
          · cases hst
        · cases hst
      · rename_i tb bs hr
        split at hst
        · rename_i hjn
          obtain rfl := Option.some.inj hst
          obtain ⟨rfl, q2, b, q3, rfl⟩ := h2 tb bs hr
          obtain ⟨b', cur, q4, q5, q6⟩ := H.ob r _ hr
          rw [q3] at q4
          obtain rfl : b = b' := by simpa using q4
          have hsz : cur.toList.length = bs.length := q6.1
          have hvl : v.cells.toList.length = n := by rw [hC.1, hlen]
          have hfit : j + n ≤ cur.size := by rw [← Array.length_toList, hsz]; exact hjn
          have hrun := run_storeVar_at (P := P) (w := w) hn q5 hvl hC.one hfit
          have hlive : Live hp r := .inr ⟨tb, bs, hr⟩
          have hown := H.own r b 0 hlive q3
          obtain ⟨H2, E2⟩ := H.upd (r := r) (o' := .box tb (splice bs j cs)) (m' := μ r) (w' := w.setRow b (splice cur.toList j v.cells.toList).toArray) hlive
            (H.below.setRow hown.1) (by simp)
            (fun k hk hne => setRow_other w b k _ (fun e => hne 0 (e ▸ q3)))
            (fun b' o' e => .inl ⟨o', e⟩)
            (by intro _ _ _ e; cases e) (by intro _ _ e; cases e)
            (by
              rintro t' cs' e
              cases e
              exact ⟨bs, hr, (splice_length (by rw [hlen]; exact hjn)).symm, rfl⟩)
            (fun E => by
              refine ⟨b, _, by simp [q3], setRow_heap w b cur _ tb _ q5, ?_⟩
              have := (q6.ext E).splice (hC.ext E) (j := j) (by rw [hlen]; exact hjn)
              simpa using this)
          exact ⟨_, _, Z, hrun, H2, E2⟩
        · cases hst
      · cases hst
    · cases hst
  · cases hst

theorem op_store {t : TypeId} {p x : Operand} {hp' : List Ob} (ho : o.op = .store t p x) (hs : storeA P st.hp t (st.ev p) (st.ev x) = some hp') (h : N (St.put ⟨st.tm, hp'⟩ o.dst .undef)) : OpS P C o st N :=
  OpS.blk h fun a w μ Z R => by
    obtain ⟨w', μ', Z', h1, h2, h3⟩ := R.hr.store (R.ev p) (R.ev x) hs
    refine ⟨_, w', μ', Z', .inr ⟨?_, rfl⟩, h2, h3, trivial⟩
    simp only [execOp, ho]
    rw [Sem.run_bind, h1]
    rfl
end
end Go.Vm
/- A machine of values: structs and rows that are written out. -/
namespace Go.Vm
open Go.RowKit
set_option linter.unusedVariables false
set_option linter.unusedSimpArgs false
inductive F2 {α β : Type} (R : α → β → Prop) : List α → List β → Prop
  | nil : F2 R [] []
  | cons {x : α} {y : β} {l : List α} {l' : List β} (h : R x y) (hs : F2 R l l') : F2 R (x :: l) (y :: l')

theorem F2.length_eq {α β : Type} {R : α → β → Prop} {l : List α} {l' : List β} (h : F2 R l l') : l.length = l'.length := by
  induction h with
  | nil => rfl
  | cons _ _ ih => simp [ih]

theorem F2.get {α β : Type} {R : α → β → Prop} {l : List α} {l' : List β} (h : F2 R l l') : ∀ (k : Nat) (x : α) (y : β), l[k]? = some x → l'[k]? = some y → R x y := by
  induction h with
  | nil => intro k x y hx; simp at hx
  | cons h _ ih =>
    intro k x y hx hy
    cases k with
    | zero => simp at hx hy; subst hx; subst hy; exact h
    | succ k => exact ih k x y (by simpa using hx) (by simpa using hy)

section
variable {P : Program} {C : Ctx} {Z0 : Nat → Prop} {w0 : Base} {hp hp' : List Ob} {μ μ' : Mu} {Z Z' : Nat → Prop} {w w' : World} {st : St} {a : Act} {o : Oper} {N : St → Prop}

theorem fold_splice (off : Nat) : ∀ (vs : List Value) (k : Nat) (cells : Array Value), off + k + vs.length ≤ cells.size →
    ((vs.zipIdx k).foldl (fun cs (p : Value × Nat) => cs.setIfInBounds (off + p.2) p.1) cells).toList = splice cells.toList (off + k) vs
  | [], k, cells, h => by simp [splice]
  | v :: vs, k, cells, h => by
    simp only [List.length_cons] at h
    rw [List.zipIdx_cons, List.foldl_cons, fold_splice off vs (k + 1) (cells.setIfInBounds (off + k) v) (by simp; omega)]
    apply List.ext_getElem?
    intro q
    rw [splice_get (by simp; omega), splice_get (by simp; omega), Array.toList_setIfInBounds]
    by_cases h1 : q < off + k
    · rw [if_pos (by omega), if_pos h1, List.getElem?_set_ne (by omega)]
    · by_cases h2 : q = off + k
      · subst h2
        rw [if_pos (by omega), if_neg (by omega), if_pos (by simp), List.getElem?_set_self (by simp; omega)]
        simp
      · rw [if_neg (by omega), if_neg h1]
        by_cases h3 : q < off + (k + 1) + vs.length
        · rw [if_pos h3, if_pos (by simp; omega), show q - (off + k) = (q - (off + (k + 1))) + 1 by omega]
          simp
        · rw [if_neg h3, if_neg (by simp; omega), List.getElem?_set_ne (by omega)]

theorem fill_one {place : Nat → Option (Nat × Nat)} {cells : Array Value} {i off size : Nat} {v : Value} {rest : List (Nat × Value)} (hp : place i = some (off, size)) (hs : v.cells.size = size) (hf : off + size ≤ cells.size) :
    Instr.fill place cells ((i, v) :: rest) = Instr.fill place (splice cells.toList off v.cells.toList).toArray rest := by
  have h1 := fold_splice off v.cells.toList 0 cells (by simp; omega)
  have h2 : v.cells.zipIdx.foldl (fun cs (p : Value × Nat) => cs.setIfInBounds (off + p.2) p.1) cells = (splice cells.toList off v.cells.toList).toArray := by
    apply Array.ext'
    rw [← Array.foldl_toList, Array.toList_zipIdx, h1]
    simp
  have hn : ¬ (cells.size < off + v.cells.size) := by omega
  simp only [Instr.fill, hp]
  rw [if_neg (by simp [hs]; omega)]
  congr 1

/-- parts that are laid over cells -/
def fillA (pl : List (Nat × Nat)) : List A → List (Nat × A) → Option (List A)
  | cs, [] => some cs
  | cs, (i, x) :: rest => match pl[i]?, cellsA x with
    | some (off, size), some vs => if vs.length = size ∧ off + size ≤ cs.length then fillA pl (splice cs off vs) rest else none
    | _, _ => none

theorem fillA_run {pl : List (Nat × Nat)} : ∀ {ps : List (Nat × A)} {qs : List (Nat × Value)} {cs cs' : List A} {cells : Array Value}, CRs P hp μ Z w cs cells.toList →
    F2 (fun (p : Nat × A) (q : Nat × Value) => p.1 = q.1 ∧ UR P hp μ Z w p.2 q.2) ps qs → fillA pl cs ps = some cs' →
    ∃ cells', Instr.fill (pl.toArray[·]?) cells qs = some cells' ∧ CRs P hp μ Z w cs' cells'.toList
  | [], _, cs, cs', cells, hc, .nil, h => by
    obtain rfl := Option.some.inj h
    exact ⟨cells, rfl, hc⟩
  | (i, x) :: ps, (_, v) :: qs, cs, cs', cells, hc, .cons ⟨e, hx⟩ hr, h => by
    simp only at e
    subst e
    simp only [fillA] at h
    split at h
    · rename_i off size vs h1 h2
      split at h
      · rename_i h3
        have hC := hx.cells h2
        have hsz : v.cells.size = size := by rw [← Array.length_toList, hC.1, h3.1]
        have hcl : cells.size = cs.length := by rw [← Array.length_toList, hc.1]
        rw [fill_one (by simpa using h1) hsz (by rw [hcl]; exact h3.2)]
        exact fillA_run (by simpa using hc.splice hC (by rw [h3.1]; exact h3.2)) hr h
      · cases h
    · cases h

def placesA (P : Program) (t : TypeId) : Option (List (Nat × Nat)) :=
  match P.underlying t with
  | some (.struct fs) => fs.toList.mapM (fun f => (P.info? f.type).map fun i => (f.offset, i.size))
  | _ => none

def buildA (P : Program) (t : TypeId) (ps : List (Nat × A)) : Option (List A) :=
  match zeroA P t, placesA P t with
  | some z, some pl => fillA pl z ps
  | _, _ => none

theorem parts_rel (R : RelAt P C st a w μ Z) : ∀ (ps : List (Nat × Operand)), F2 (fun (p : Nat × A) (q : Nat × Value) => p.1 = q.1 ∧ UR P st.hp μ Z w p.2 q.2) (ps.map fun p => (p.1, st.ev p.2)) (ps.map fun p => (p.1, a.eval p.2))
  | [] => .nil
  | p :: ps => .cons ⟨rfl, R.ev p.2⟩ (parts_rel R ps)

theorem op_build {t : TypeId} {parts : Array (Nat × Operand)} {cs : List A} (ho : o.op = .build t parts) (hb : buildA P t (parts.toList.map fun p => (p.1, st.ev p.2)) = some cs) (h : N (st.put o.dst (.agg cs))) : OpS P C o st N :=
  OpS.val h fun a w μ Z R => by
    unfold buildA at hb
    split at hb
    · rename_i z pl hz hpl
      unfold zeroA at hz
      split at hz
      · rename_i zv hzv
        split at hz
        · rename_i hz1
          obtain rfl := Option.some.inj hz
          have hz2 : CRs P st.hp μ Z w (zv.cells.toList.map toA) zv.cells.toList := by
            refine ⟨by simp, fun j x hj => ?_⟩
            rw [List.getElem?_map] at hj
            obtain ⟨u, hu, rfl⟩ := Option.map_eq_some_iff.1 hj
            exact ⟨u, hu, toA_cr (List.all_eq_true.1 hz1 u (List.mem_of_getElem? hu))⟩
          obtain ⟨cells', h1, h2⟩ := fillA_run hz2 (parts_rel R parts.toList) hb
          refine ⟨.agg cells', ?_, cells', rfl, h2⟩
          unfold placesA at hpl
          split at hpl
          · rename_i fs hu
            obtain ⟨i, hi, hiz⟩ := Option.bind_eq_some_iff.1 hzv
            have hbuilt : P.built t (parts.map fun p => (p.1, a.eval p.2)).toList = some cells' := by
              unfold Program.built
              simp only [hi, hu, hiz, hpl]
              simpa using h1
            simp only [execOp, ho]
            rw [Sem.run_bind, show (parts.map fun x => match x with | (i, x) => (i, a.eval x)) = (parts.map fun p => (p.1, a.eval p.2)) from rfl, run_build w t _ _ hbuilt]
            rfl
          · cases hpl
        · cases hz
      · cases hz
    · cases hb

/-! #### a row written out -/
/-- the elements, one by one, the first of place k -/
def elemsA (st : St) : Nat → List (Nat × Operand) → Option (List (List A))
  | _, [] => some []
  | k, (i, x) :: ps => match cellsA (st.ev x), elemsA st (k + 1) ps with
    | some c, some r => if i = k then some (c :: r) else none
    | _, _ => none

def frzE (hp : List Ob) : List (List A) → List Ob × List (List A)
  | [] => (hp, [])
  | e :: es => ((frzE (frzs hp e).1 es).1, (frzs hp e).2 :: (frzE (frzs hp e).1 es).2)

theorem HR.frzE : ∀ {es : List (List A)} {vs : List (List Value)} {hp : List Ob} {Z : Nat → Prop}, HR P Z0 w0 hp μ Z w → F2 (CRs P hp μ Z w) es vs →
    ∃ Z', HR P Z0 w0 (Vm.frzE hp es).1 μ Z' w ∧ Ext P hp μ Z w (Vm.frzE hp es).1 μ Z' w ∧
      F2 (fun (e : List A) (v : List Value) => e.length = v.length ∧ ∀ (j : Nat) (x : A), e[j]? = some x → ∃ u, v[j]? = some u ∧ IV Z' w x u) (Vm.frzE hp es).2 vs
  | [], _, hp, Z, H, .nil => ⟨Z, H, Ext.refl .., .nil⟩
  | e :: es, v :: vs, hp, Z, H, .cons he hes => by
    obtain ⟨Z1, H1, E1, l1, I1⟩ := H.frzs he
    have h1 : F2 (CRs P (Vm.frzs hp e).1 μ Z1 w) es vs := by
      clear H he l1 I1 H1
      induction hes with
      | nil => exact .nil
      | cons h _ ih => exact .cons (h.ext E1) ih
    obtain ⟨Z2, H2, E2, I2⟩ := HR.frzE H1 h1
    exact ⟨Z2, H2, E1.trans E2, .cons ⟨by rw [l1, he.1], fun j x hj => let ⟨u, q1, q2⟩ := I1 j x hj; ⟨u, q1, q2.mono E2.z E2.zh⟩⟩ I2⟩

theorem elemsA_rel (R : RelAt P C st a w μ Z) : ∀ {k : Nat} {ps : List (Nat × Operand)} {es : List (List A)}, elemsA st k ps = some es →
    ps.map (·.1) = List.range' k ps.length ∧ F2 (CRs P st.hp μ Z w) es (ps.map fun p => (a.eval p.2).cells.toList)
  | k, [], es, h => by
    obtain rfl := Option.some.inj h
    exact ⟨rfl, .nil⟩
  | k, (i, x) :: ps, es, h => by
    simp only [elemsA] at h
    split at h
    · rename_i c r h1 h2
      split at h
      · rename_i e
        subst e
        obtain rfl := Option.some.inj h
        obtain ⟨q1, q2⟩ := elemsA_rel R h2
        refine ⟨by simp [q1, List.range'_succ], .cons ((R.ev x).cells h1) q2⟩
      · cases h
    · cases h

/-- filling from place k on leaves what is ahead, then the parts -/
theorem fill_rows {m : Nat} : ∀ {qs : List (Nat × Value)} {k : Nat} {cells : Array Value}, (∀ q ∈ qs, q.2.cells.size = m) → qs.map (·.1) = List.range' k qs.length → cells.size = (k + qs.length) * m →
    ∃ cells', Instr.fill (fun i => some (i * m, m)) cells qs = some cells' ∧ cells'.toList = cells.toList.take (k * m) ++ (qs.map fun q => q.2.cells.toList).flatten
  | [], k, cells, _, _, hs => ⟨cells, rfl, by
      simp only [List.map_nil, List.flatten_nil, List.append_nil]
      rw [List.take_of_length_le]
      simp only [Array.length_toList]
      simp at hs
      omega⟩
  | (i, v) :: qs, k, cells, h1, h2, hs => by
    simp only [List.map_cons, List.length_cons, List.range'_succ, List.cons.injEq] at h2
    obtain ⟨rfl, h2⟩ := h2
    have hv : v.cells.size = m := h1 (i, v) (by simp)
    have hs' : cells.size = i * m + m + qs.length * m := by
      rw [hs, List.length_cons, Nat.add_mul, Nat.succ_mul]
      omega
    have hfit : i * m + m ≤ cells.size := by omega
    rw [fill_one (by rfl) hv hfit]
    have hlen : (splice cells.toList (i * m) v.cells.toList).length = cells.size := by
      rw [splice_length (by simp [hv]; exact hfit)]
      simp
    obtain ⟨cells', h3, h4⟩ := fill_rows (k := i + 1) (cells := (splice cells.toList (i * m) v.cells.toList).toArray) (fun q hq => h1 q (by simp [hq])) h2 (by
      rw [List.size_toArray, hlen, hs, List.length_cons, show i + (qs.length + 1) = i + 1 + qs.length by omega])
    refine ⟨cells', h3, ?_⟩
    rw [h4]
    simp only [List.map_cons, List.flatten_cons, ← List.append_assoc]
    congr 1
    have hvl : v.cells.toList.length = m := by simpa using hv
    unfold splice
    rw [Nat.succ_mul, List.take_append_of_le_length (by simp [hv]; omega), List.take_of_length_le (by simp [hv]; omega)]

theorem LayL.of_parts {sz : Nat} : ∀ {es : List (List A)} {vs : List (List Value)}, F2 (fun (e : List A) (v : List Value) => e.length = v.length ∧ ∀ (j : Nat) (x : A), e[j]? = some x → ∃ u, v[j]? = some u ∧ IV Z w x u) es vs →
    (∀ e ∈ es, e.length = sz) → LayL (IV Z w) sz vs.flatten es
  | [], _, .nil, _ => by simpa using LayL.nil
  | e :: es, v :: vs, .cons ⟨h1, h2⟩ hr, hl => by
    have he := hl e (by simp)
    have h := LayL.of_parts hr (fun x hx => hl x (by simp [hx]))
    have h0 : LayL (IV Z w) sz v [e] := by
      refine ⟨by simp; omega, ?_, ?_, ?_⟩
      · intro u hu
        obtain ⟨k, hk, rfl⟩ := List.getElem_of_mem hu
        obtain ⟨u, q1, q2⟩ := h2 k (e[k]'(by omega)) (List.getElem?_eq_getElem _)
        rw [List.getElem?_eq_getElem hk] at q1
        rw [Option.some.inj q1]
        exact q2.one
      · intro i e' hi
        cases i with
        | zero => simp at hi; subst hi; exact he
        | succ i => simp at hi
      · intro i e' j x hi hj
        cases i with
        | zero =>
          simp at hi; subst hi
          obtain ⟨u, q1, q2⟩ := h2 j x hj
          exact ⟨u, by simpa using q1, q2⟩
        | succ i => simp at hi
    simpa using h0.app h

theorem op_buildSlice {t e : TypeId} {n m : Nat} {parts : Array (Nat × Operand)} {es : List (List A)} (ho : o.op = .buildSlice t n parts) (hu : P.underlying t = some (.slice e)) (hm : szOf P e = some m) (hz : (zeroA P e).isSome = true) (hm0 : 0 < m)
    (hes : elemsA st 0 parts.toList = some es) (hn : parts.toList.length = n) (hsm : n * m ≤ 2 ^ 24) (hl : ∀ x ∈ es, x.length = m)
    (h : N (St.put ⟨st.tm, (frzE st.hp es).1 ++ [.row e 0 (frzE st.hp es).2]⟩ o.dst (.ref (frzE st.hp es).1.length 0))) : OpS P C o st N :=
  OpS.blk h fun a w μ Z R => by
    obtain ⟨q1, q2⟩ := elemsA_rel R hes
    obtain ⟨Z1, H1, E1, I1⟩ := R.hr.frzE q2
    obtain ⟨zl, hzl⟩ := Option.isSome_iff_exists.1 hz
    unfold zeroA at hzl
    split at hzl
    · rename_i zv hzv
      obtain ⟨ie, hie, hiz⟩ := Option.bind_eq_some_iff.1 hzv
      have hsz : ie.size = m := by
        simp only [szOf, hie, Option.map_some, Option.some.injEq] at hm
        exact hm
      have hlenes : es.length = n := by
        have := q2.length_eq
        rw [this, List.length_map, hn]
      have hlen2 : (Vm.frzE st.hp es).2.length = n := by
        have := I1.length_eq
        rw [this, List.length_map, hn]
      have hcells : ∀ q ∈ parts.toList.map (fun p => (p.1, a.eval p.2)), q.2.cells.size = m := by
        intro q hq
        obtain ⟨p, hp, rfl⟩ := List.mem_map.1 hq
        obtain ⟨k, hk, rfl⟩ := List.getElem_of_mem hp
        have hk2 : k < es.length := by rw [hlenes, ← hn]; exact hk
        have h3 := (q2.get k es[k] (a.eval (parts.toList[k]).2).cells.toList (List.getElem?_eq_getElem hk2) (by simp [List.getElem?_eq_getElem hk])).1
        have h4 := hl es[k] (List.getElem_mem hk2)
        rw [h4] at h3
        rw [← Array.length_toList]
        exact h3
      have hl2 : ∀ x ∈ (Vm.frzE st.hp es).2, x.length = m := by
        intro x hx
        obtain ⟨k, hk, rfl⟩ := List.getElem_of_mem hx
        have hk2 : k < parts.toList.length := by rw [hn, ← hlen2]; exact hk
        have h3 := (I1.get k _ (a.eval (parts.toList[k]).2).cells.toList (List.getElem?_eq_getElem hk) (by simp [List.getElem?_eq_getElem hk2])).1
        have h4 := hcells ((parts.toList[k]).1, a.eval (parts.toList[k]).2) (List.mem_map.2 ⟨parts.toList[k], List.getElem_mem hk2, rfl⟩)
        rw [h3, Array.length_toList]
        exact h4
      have hL := LayL.of_parts I1 hl2
      by_cases h0 : n = 0
      · subst h0
        have hp0 : parts = #[] := by
          apply Array.ext'
          exact List.eq_nil_of_length_eq_zero hn
        subst hp0
        have he0 : es = [] := List.eq_nil_of_length_eq_zero hlenes
        subst he0
        obtain ⟨μ', H2, E2, C2⟩ := H1.newRow (t := e) (cur := #[]) (c := 0) (post := []) (below_alloc' w (.cells #[] e)) (heap_alloc_new w _) hm hL (by simp) (by simp [hlen2]) (by simp)
        refine ⟨_, _, μ', Z1, .inl ?_, H2, E1.trans E2, UR.of_CR C2⟩
        have h0 : (Array.map (fun x : Nat => (default : Value)) (Array.range 0)) = #[] := by simp
        simp [execOp, ho, Instr.buildSlice, run_underlying hu, run_sizeOf hm, Instr.fill, newRow, Vm.frzE, h0]
      · have hpos : ¬ n * ie.size = 0 := by
          rw [hsz]
          intro h
          rcases Nat.mul_eq_zero.1 h with h | h <;> omega
        obtain ⟨cells', hf, hcl⟩ := fill_rows (m := m) (k := 0) (cells := ((Array.range (n * ie.size)).map (zv.cells[· % zv.cells.size]!))) hcells (by rw [List.map_map, List.length_map]; exact q1) (by simp [hsz, hn])
        have hrun := run_buildSlice (P := P) w t e n (parts.map fun p => (p.1, a.eval p.2)) cells' ie zv hu hie hiz (by rw [hsz]; omega) hpos (by rw [hsz] at hf ⊢; simpa using hf)
        have hcl' : cells'.toList = (parts.toList.map fun p => (a.eval p.2).cells.toList).flatten ++ [] := by
          rw [hcl]
          simp [Function.comp_def]
        obtain ⟨μ', H2, E2, C2⟩ := H1.newRow (t := e) (cur := cells') (c := n) (post := []) (below_alloc' w (.cells cells' e)) (heap_alloc_new w _) hm hL hcl' (by omega) (by
          rw [← Array.length_toList, hcl', List.append_nil, hL.n, hlen2]; exact Nat.le_refl _)
        refine ⟨_, _, μ', Z1, .inl ?_, H2, E1.trans E2, UR.of_CR C2⟩
        simp only [execOp, ho]
        rw [Sem.run_bind, show (parts.map fun x => match x with | (i, x) => (i, a.eval x)) = (parts.map fun p => (p.1, a.eval p.2)) from rfl, hrun, hlen2]
        rfl
    · cases hzl
end
end Go.Vm
