/- A machine of values: elements, cuts, lengths, parts. -/
import Derived.Test.YtekojicaeadepaaVmD
import Derived.Laws.Slices
namespace Go.Vm
open Go.RowKit
set_option linter.unusedVariables false
set_option linter.unusedSimpArgs false
section
variable {P : Program} {C : Ctx} {Z0 : Nat → Prop} {w0 : World} {hp hp' : List Ob} {μ μ' : Mu} {Z Z' : Nat → Prop} {w w' : World} {st : St} {a : Act} {o : Oper} {N : St → Prop}

def lenA (hp : List Ob) : A → Option Nat
  | .sl l => some l.length
  | .nil => some 0
  | .ref r g => match hp[r]? with
    | some (.row _ g' l) => if g = g' then some l.length else none
    | some (.fro g' l) => if g = g' then some l.length else none
    | _ => none
  | .sub r g a e => match hp[r]? with
    | some (.row _ g' l) => if g = g' then some (e - a) else none
    | some (.fro g' l) => if g = g' then some (e - a) else none
    | _ => none
  | _ => none

theorem Over.slice {r a n : Nat} {t : TypeId} {v : Value} (h : Over P μ w r t a n v) : ∃ ad c, v = .slice ad n c ∧ n ≤ c := by
  obtain ⟨c, h1, h2⟩ := h
  rcases h2 with ⟨rfl, ad, rfl⟩ | ⟨b, o, sz, cur, h3, h4, rfl, h6, h7⟩
  · obtain rfl : n = 0 := by omega
    exact ⟨ad, 0, rfl, Nat.le_refl _⟩
  · exact ⟨_, c, rfl, h1⟩

theorem UR.slice {x : A} {v : Value} {n : Nat} (hx : UR P hp μ Z w x v) (hn : lenA hp x = some n) : ∃ ad c, v = .slice ad n c ∧ n ≤ c := by
  cases x with
  | sl l =>
    obtain rfl := Option.some.inj hn
    obtain ⟨ad, c, rfl, h1, _⟩ := IV.lay (show IV Z w (.sl l) v from hx)
    exact ⟨ad, c, rfl, h1⟩
  | nil =>
    obtain rfl := Option.some.inj hn
    obtain ⟨ad, rfl⟩ := (show ∃ ad, v = .slice ad 0 0 from hx)
    exact ⟨ad, 0, rfl, Nat.le_refl _⟩
  | ref r g =>
    obtain ⟨h0, h1, h2, _⟩ := (hx : CR P hp μ Z w (.ref r g) v)
    simp only [lenA] at hn
    split at hn
    · rename_i t g' l hr
      split at hn
      · rename_i e
        obtain rfl := Option.some.inj hn
        exact ((h1 t g' l hr).2 e).slice
      · cases hn
    · rename_i g' l hr
      split at hn
      · rename_i e
        obtain rfl := Option.some.inj hn
        obtain ⟨ad, c, rfl, h3, _⟩ := ((h2 g' l hr).2 e).lay
        exact ⟨ad, c, rfl, h3⟩
      · cases hn
    · cases hn
  | sub r g a e =>
    obtain ⟨h0, h1, h2, _⟩ := (hx : CR P hp μ Z w (.sub r g a e) v)
    simp only [lenA] at hn
    split at hn
    · rename_i t g' l hr
      split at hn
      · rename_i e'
        obtain rfl := Option.some.inj hn
        exact ((h1 t g' l hr).2 e').2.2.slice
      · cases hn
    · rename_i g' l hr
      split at hn
      · rename_i e'
        obtain rfl := Option.some.inj hn
        obtain ⟨q1, q2, q3⟩ := (h2 g' l hr).2 e'
        obtain ⟨ad, c, h3, h4, _⟩ := q3.lay
        have hlen : ((l.take e).drop a).length = e - a := by simp; omega
        rw [hlen] at h3 h4
        exact ⟨ad, c, h3, h4⟩
      · cases hn
    · cases hn
  | _ => simp [lenA] at hn

theorem op_len {t : TypeId} {ts : Array TypeId} {x : Operand} {n : Nat} (ho : o.op = .call { callee := .builtin .len, args := #[x], argTypes := ts }) (hts : ts = #[t]) (ht : P.underlying t = some (.slice (P.elem t)))
    (hn : lenA st.hp (st.ev x) = some n) (h : N (st.put o.dst (.int .i64 n))) : OpS P C o st N :=
  OpS.val h fun a w μ Z R => by
    obtain ⟨ad, c, hv, _⟩ := (R.ev x).slice hn
    subst hts
    refine ⟨.int .i64 n, ?_, UR.of_int _ _⟩
    simp [execOp, ho, resolve, invoke, builtin, hv, run_len_slice w t o.type ad n c ht, goInt]

/-- the address of an element -/
def indexA (hp : List Ob) (t : TypeId) (m : Nat) (x : A) (i : Nat) : Option A :=
  match x with
  | .sl l => if (l.getD i []).length = m then some (.vptr (l.getD i [])) else none
  | .ref r g => match hp[r]? with
    | some (.row t' g' l) => if t = t' then some (.ptr r g i 0) else none
    | some (.fro g' l) => if (l.getD i []).length = m then some (.vptr (l.getD i [])) else none
    | _ => none
  | .sub r g a e => match hp[r]? with
    | some (.row t' g' l) => if t = t' then some (.ptr r g (a + i) 0) else none
    | some (.fro g' l) => if (l.getD (a + i) []).length = m then some (.vptr (l.getD (a + i) [])) else none
    | _ => none
  | _ => none

theorem addr_add (b o n : Nat) : (⟨b, o, none⟩ : Addr).add n = ⟨b, o + n, none⟩ := by unfold Addr.add; split <;> simp_all

theorem IV.index {l : List (List A)} {ad : Option Addr} {n c m i : Nat} (h : IV Z w (.sl l) (.slice ad n c)) (hi : i < l.length) (hm : (l.getD i []).length = m) :
    ∃ x, ad = some x ∧ CR P hp μ Z w (.vptr (l.getD i [])) (.pointer (some (x.add (i * m)))) := by
  obtain ⟨ad', c', e, h1, h2⟩ := h.lay
  injection e with e1 e2 e3
  subst e1
  rcases h2 with rfl | ⟨b, o, sz, cur, t, fr, rfl, q1, q2, q3⟩
  · simp at hi
  · have hg : l[i]? = some (l.getD i []) := by rw [List.getD_eq_getElem?_getD, List.getElem?_eq_getElem hi]; rfl
    have hs := q3.len i _ hg
    obtain rfl : sz = m := hs.symm.trans hm
    refine ⟨_, rfl, b, o + i * sz, cur, t, fr, by rw [addr_add], q1, q2, fun j x hj => ?_⟩
    obtain ⟨u, q4, q5⟩ := q3.at_ i _ j x hg hj
    exact ⟨u, by rw [← q4]; congr 1; omega, q5⟩

theorem Over.index {r a n c m i g : Nat} {t : TypeId} {ad : Option Addr} {l : List (List A)} (h : Over P μ w r t a n (.slice ad n c)) (hr : hp[r]? = some (.row t g l)) (ha : a + n ≤ l.length) (hi : i < n) (hm : szOf P t = some m) :
    ∃ x, ad = some x ∧ CR P hp μ Z w (.ptr r g (a + i) 0) (.pointer (some (x.add (i * m)))) := by
  obtain ⟨c', h1, h2⟩ := h
  rcases h2 with ⟨rfl, ad', e⟩ | ⟨b, o, sz, cur, h3, h4, e, h6, h7⟩
  · omega
  · injection e with e1 e2 e3
    rw [hm] at h4
    obtain rfl := Option.some.inj h4
    refine ⟨_, e1, (List.getElem?_eq_some_iff.1 hr).1, ?_, ?_, rfl⟩
    · intro t' g' l' hr'
      rw [hr] at hr'
      obtain ⟨rfl, rfl, rfl⟩ : t = t' ∧ g = g' ∧ l = l' := by
        have := Option.some.inj hr'
        injection this with e1 e2 e3
        exact ⟨e1, e2, e3⟩
      refine ⟨Nat.le_refl _, fun _ => ⟨by omega, b, o, m, h3, hm, Nat.zero_le _, ?_⟩⟩
      rw [addr_add]
      congr 3
      rw [Nat.add_mul]
      omega
    · intro t' cs hr'
      rw [hr] at hr'
      cases hr'

theorem UR.index {x y : A} {n c m i : Nat} {t : TypeId} {ad : Option Addr} (hx : UR P hp μ Z w x (.slice ad n c)) (hn : lenA hp x = some n) (hi : i < n) (hm : szOf P t = some m) (hy : indexA hp t m x i = some y) :
    ∃ z, ad = some z ∧ UR P hp μ Z w y (.pointer (some (z.add (i * m)))) := by
  cases x with
  | sl l =>
    simp only [lenA, Option.some.injEq] at hn
    simp only [indexA] at hy
    split at hy
    · rename_i hlen
      obtain rfl := Option.some.inj hy
      obtain ⟨z, h1, h2⟩ := IV.index (P := P) (hp := hp) (μ := μ) (show IV Z w (.sl l) _ from hx) (by omega) hlen
      exact ⟨z, h1, h2⟩
    · cases hy
  | ref r g =>
    obtain ⟨h0, h1, h2, _⟩ := (hx : CR P hp μ Z w (.ref r g) _)
    simp only [lenA] at hn
    simp only [indexA] at hy
    split at hn
    · rename_i t' g' l hr
      split at hn
      · rename_i e
        subst e
        obtain rfl := Option.some.inj hn
        simp only [hr] at hy
        split at hy
        · rename_i e
          subst e
          obtain rfl := Option.some.inj hy
          obtain ⟨z, q1, q2⟩ := ((h1 t g l hr).2 rfl).index (Z := Z) hr (by omega) hi hm
          exact ⟨z, q1, by rw [Nat.zero_add] at q2; exact q2⟩
        · cases hy
      · cases hn
    · rename_i g' l hr
      split at hn
      · rename_i e
        subst e
        obtain rfl := Option.some.inj hn
        simp only [hr] at hy
        split at hy
        · rename_i hlen
          obtain rfl := Option.some.inj hy
          obtain ⟨z, q1, q2⟩ := ((h2 g l hr).2 rfl).index (P := P) (hp := hp) (μ := μ) hi hlen
          exact ⟨z, q1, q2⟩
        · cases hy
      · cases hn
    · cases hn
  | sub r g a e =>
    obtain ⟨h0, h1, h2, _⟩ := (hx : CR P hp μ Z w (.sub r g a e) _)
    simp only [lenA] at hn
    simp only [indexA] at hy
    split at hn
    · rename_i t' g' l hr
      split at hn
      · rename_i e'
        subst e'
        obtain rfl := Option.some.inj hn
        simp only [hr] at hy
        split at hy
        · rename_i e'
          subst e'
          obtain rfl := Option.some.inj hy
          obtain ⟨q3, q4, q5⟩ := (h1 t g l hr).2 rfl
          obtain ⟨z, q1, q2⟩ := q5.index (Z := Z) hr (by omega) hi hm
          exact ⟨z, q1, q2⟩
        · cases hy
      · cases hn
    · rename_i g' l hr
      split at hn
      · rename_i e'
        subst e'
        obtain rfl := Option.some.inj hn
        simp only [hr] at hy
        split at hy
        · rename_i hlen
          obtain rfl := Option.some.inj hy
          obtain ⟨q3, q4, q5⟩ := (h2 g l hr).2 rfl
          have hg : ((l.take e).drop a).getD i [] = l.getD (a + i) [] := by
            have hlt : a + i < e := by omega
            simp only [List.getD_eq_getElem?_getD, List.getElem?_drop, List.getElem?_take, hlt, if_true]
          obtain ⟨z, q1, q2⟩ := q5.index (P := P) (hp := hp) (μ := μ) (i := i) (m := m) (by simp; omega) (by rw [hg]; exact hlen)
          rw [hg] at q2
          exact ⟨z, q1, q2⟩
        · cases hy
      · cases hn
    · cases hn
  | _ => simp [indexA] at hy

theorem op_indexAddr {t e : TypeId} {x ix : Operand} {k : IntKind} {i : Int} {n m : Nat} {y : A} (ho : o.op = .indexAddr t x ix) (hu : P.underlying t = some (.slice e)) (hm : szOf P e = some m)
    (hn : lenA st.hp (st.ev x) = some n) (hi : st.ev ix = .int k i) (h0 : 0 ≤ i) (h1 : i < n) (hy : indexA st.hp e m (st.ev x) i.toNat = some y) (h : N (st.put o.dst y)) : OpS P C o st N :=
  OpS.val h fun a w μ Z R => by
    obtain ⟨ad, c, hv, _⟩ := (R.ev x).slice hn
    have hx := R.ev x
    rw [hv] at hx
    obtain ⟨z, rfl, q⟩ := hx.index hn (by omega : i.toNat < n) hm hy
    have hix := R.ev ix
    rw [hi] at hix
    have he : P.elem t = e := by simp [Program.elem, hu]
    refine ⟨_, ?_, q⟩
    simp only [execOp, ho, hv, hix.int]
    rw [Sem.run_bind, run_indexAt_slice w t z n c k i (by rw [he]; exact hu), if_pos ⟨h0, h1⟩, he, run_sizeOf hm]
    rfl

/-! #### a cut -/
def sliceA (x : A) (lo hi : Nat) : Option A :=
  match x with
  | .sl l => some (.sl ((l.take hi).drop lo))
  | .nil => some .nil
  | .ref r g => some (.sub r g lo hi)
  | .sub r g a e => some (.sub r g (a + lo) (a + hi))
  | _ => none

/-- the bound of a cut, if it is one -/
def St.bnd (st : St) (d : Int) : Option Operand → Option Int
  | none => some d
  | some x => match st.ev x with
    | .int _ i => some i
    | _ => none

theorem IV.cut {l : List (List A)} {ad : Option Addr} {n c m lo hi : Nat} (h : IV Z w (.sl l) (.slice ad n c)) (h1 : lo ≤ hi) (h2 : hi ≤ l.length) (hm : ∀ cs ∈ l, cs.length = m) : IV Z w (.sl ((l.take hi).drop lo)) (sliced ad lo hi c m) := by
  obtain ⟨ad', c', e, h3, h4⟩ := h.lay
  injection e with e1 e2 e3
  subst e1; subst e3
  have hlen : ((l.take hi).drop lo).length = hi - lo := by simp; omega
  have hz : lo = hi → IV Z w (.sl ((l.take hi).drop lo)) (sliced ad lo hi c m) := by
    intro e
    rw [List.eq_nil_of_length_eq_zero (by omega : ((l.take hi).drop lo).length = 0)]
    simp only [sliced, e, Nat.sub_self]
    exact .sl0 _ _
  by_cases e : lo = hi
  · exact hz e
  · rcases h4 with rfl | ⟨b, o, sz, cur, t, fr, rfl, q1, q2, q3⟩
    · simp at h2; omega
    · have hc : c ≠ lo := by omega
      have hs : sz = m := by
        have hg : l[lo]? = some l[lo] := List.getElem?_eq_getElem (by omega)
        rw [← q3.len lo _ hg]
        exact hm _ (List.getElem_mem _)
      subst hs
      have := IV.of_lay (Z := Z) (w := w) (l := (l.take hi).drop lo) (b := b) (o := o + lo * sz) (c := c - lo) (sz := sz) q1 q2 (by omega) ?_
      · rw [hlen] at this
        simp only [sliced, if_neg hc, Option.map_some, addr_add]
        exact this
      · have hget : ∀ (i : Nat) (cs : List A), ((l.take hi).drop lo)[i]? = some cs → l[lo + i]? = some cs := by
          intro i cs hi
          rw [List.getElem?_drop, List.getElem?_take] at hi
          split at hi
          · exact hi
          · cases hi
        refine ⟨fun i cs hi => q3.len _ _ (hget i cs hi), fun i cs j x hi hj => ?_⟩
        obtain ⟨u, hu1, hu2⟩ := q3.at_ _ _ _ _ (hget i cs hi) hj
        refine ⟨u, ?_, hu2⟩
        rw [← hu1]
        congr 1
        rw [Nat.add_mul]
        omega

theorem Over.cut {r a n c m lo hi : Nat} {t : TypeId} {ad : Option Addr} (h : Over P μ w r t a n (.slice ad n c)) (h1 : lo ≤ hi) (h2 : hi ≤ n) (hm : szOf P t = some m) : Over P μ w r t (a + lo) (hi - lo) (sliced ad lo hi c m) := by
  obtain ⟨c', h3, h4⟩ := h
  rcases h4 with ⟨rfl, ad', e⟩ | ⟨b, o, sz, cur, q1, q2, e, q4, q5⟩
  · injection e with e1 e2 e3
    subst e1; subst e2; subst e3
    obtain rfl : hi = 0 := by omega
    obtain rfl : lo = 0 := by omega
    exact ⟨0, Nat.zero_le _, .inl ⟨rfl, ad, by simp [sliced]⟩⟩
  · injection e with e1 e2 e3
    subst e1; subst e3
    rw [hm] at q2
    obtain rfl := Option.some.inj q2
    by_cases hc : c = lo
    · obtain rfl : hi = lo := by omega
      exact ⟨0, by omega, .inl ⟨rfl, some ⟨b, o + a * m, none⟩, by simp [sliced, hc]⟩⟩
    · refine ⟨c - lo, by omega, .inr ⟨b, o, m, cur, q1, hm, ?_, q4, ?_⟩⟩
      · simp only [sliced, if_neg hc, Option.map_some, addr_add]
        congr 3
        rw [Nat.add_mul]
        omega
      · rw [show a + lo + (c - lo) = a + c by omega]
        exact q5

/-- elements of one size, as the type has it -/
def sizeA (P : Program) (hp : List Ob) (t : TypeId) (m : Nat) : A → Prop
  | .sl l => ∀ cs ∈ l, cs.length = m
  | .nil => True
  | .ref r _ => match hp[r]? with
    | some (.row t' _ _) => t = t'
    | some (.fro _ l) => ∀ cs ∈ l, cs.length = m
    | _ => False
  | .sub r _ _ _ => match hp[r]? with
    | some (.row t' _ _) => t = t'
    | some (.fro _ l) => ∀ cs ∈ l, cs.length = m
    | _ => False
  | _ => False

theorem UR.cut {x y : A} {n c m lo hi : Nat} {t : TypeId} {ad : Option Addr} (hx : UR P hp μ Z w x (.slice ad n c)) (hn : lenA hp x = some n) (h1 : lo ≤ hi) (h2 : hi ≤ n) (hm : szOf P t = some m) (hs : sizeA P hp t m x) (hy : sliceA x lo hi = some y) :
    UR P hp μ Z w y (sliced ad lo hi c m) := by
  cases x with
  | sl l =>
    simp only [lenA, Option.some.injEq] at hn
    obtain rfl := Option.some.inj hy
    exact IV.cut (show IV Z w (.sl l) _ from hx) h1 (by omega) hs
  | nil =>
    simp only [lenA, Option.some.injEq] at hn
    obtain rfl := Option.some.inj hy
    obtain ⟨ad', e⟩ := (show ∃ ad', Value.slice ad n c = .slice ad' 0 0 from hx)
    injection e with e1 e2 e3
    subst e3
    obtain rfl : hi = 0 := by omega
    obtain rfl : lo = 0 := by omega
    exact ⟨ad, by simp [sliced]⟩
  | ref r g =>
    obtain ⟨h0, q1, q2, _⟩ := (hx : CR P hp μ Z w (.ref r g) _)
    obtain rfl := Option.some.inj hy
    simp only [lenA] at hn
    simp only [sizeA] at hs
    split at hn
    · rename_i t' g' l hr
      split at hn
      · rename_i e
        subst e
        obtain rfl := Option.some.inj hn
        simp only [hr] at hs
        subst hs
        have := ((q1 t g l hr).2 rfl).cut h1 h2 hm
        rw [Nat.zero_add] at this
        refine ⟨h0, ?_, ?_, by simp [sliced, Value.oneCell']⟩
        · intro t' g' l' hr'
          rw [hr] at hr'
          cases hr'
          exact ⟨Nat.le_refl _, fun _ => ⟨h1, h2, this⟩⟩
        · intro g' l' hr'
          rw [hr] at hr'
          cases hr'
      · cases hn
    · rename_i g' l hr
      split at hn
      · rename_i e
        subst e
        obtain rfl := Option.some.inj hn
        simp only [hr] at hs
        refine ⟨h0, ?_, ?_, by simp [sliced, Value.oneCell']⟩
        · intro t' g' l' hr'
          rw [hr] at hr'
          cases hr'
        · intro g' l' hr'
          rw [hr] at hr'
          cases hr'
          exact ⟨Nat.le_refl _, fun _ => ⟨h1, h2, ((q2 g l hr).2 rfl).cut h1 h2 hs⟩⟩
      · cases hn
    · cases hn
  | sub r g a e =>
    obtain ⟨h0, q1, q2, _⟩ := (hx : CR P hp μ Z w (.sub r g a e) _)
    obtain rfl := Option.some.inj hy
    simp only [lenA] at hn
    simp only [sizeA] at hs
    split at hn
    · rename_i t' g' l hr
      split at hn
      · rename_i e'
        subst e'
        obtain rfl := Option.some.inj hn
        simp only [hr] at hs
        subst hs
        obtain ⟨q3, q4, q5⟩ := (q1 t g l hr).2 rfl
        have := q5.cut h1 h2 hm
        refine ⟨h0, ?_, ?_, by simp [sliced, Value.oneCell']⟩
        · intro t' g' l' hr'
          rw [hr] at hr'
          cases hr'
          refine ⟨Nat.le_refl _, fun _ => ⟨by omega, by omega, ?_⟩⟩
          rw [show a + hi - (a + lo) = hi - lo by omega]
          exact this
        · intro g' l' hr'
          rw [hr] at hr'
          cases hr'
      · cases hn
    · rename_i g' l hr
      split at hn
      · rename_i e'
        subst e'
        obtain rfl := Option.some.inj hn
        simp only [hr] at hs
        obtain ⟨q3, q4, q5⟩ := (q2 g l hr).2 rfl
        have := q5.cut (m := m) (lo := lo) (hi := hi) h1 (by simp; omega) (fun cs hcs => hs cs (List.mem_of_mem_take (List.mem_of_mem_drop hcs)))
        refine ⟨h0, ?_, ?_, by simp [sliced, Value.oneCell']⟩
        · intro t' g' l' hr'
          rw [hr] at hr'
          cases hr'
        · intro g' l' hr'
          rw [hr] at hr'
          cases hr'
          refine ⟨Nat.le_refl _, fun _ => ⟨by omega, by omega, ?_⟩⟩
          have e : ((((l.take e).drop a).take hi).drop lo) = (l.take (a + hi)).drop (a + lo) := by
            apply List.ext_getElem?
            intro i
            simp only [List.getElem?_drop, List.getElem?_take]
            split <;> split <;> first | (congr 1; omega) | rfl | omega | (split <;> first | (congr 1; omega) | omega | rfl)
          rw [e] at this
          exact this
      · cases hn
    · cases hn
  | _ => simp [sliceA] at hy

theorem op_slice {t e : TypeId} {x : Operand} {lo hi : Option Operand} {L H : Int} {n m : Nat} {y : A} (ho : o.op = .slice t x lo hi none) (hu : P.underlying t = some (.slice e)) (hm : szOf P e = some m)
    (hn : lenA st.hp (st.ev x) = some n) (hlo : st.bnd 0 lo = some L) (hhi : st.bnd n hi = some H) (h0 : 0 ≤ L) (h1 : L ≤ H) (h2 : H ≤ n) (hs : sizeA P st.hp e m (st.ev x)) (hy : sliceA (st.ev x) L.toNat H.toNat = some y) (h : N (st.put o.dst y)) : OpS P C o st N :=
  OpS.val h fun a w μ Z R => by
    obtain ⟨ad, c, hv, hc⟩ := (R.ev x).slice hn
    have hx := R.ev x
    rw [hv] at hx
    have hcut := hx.cut hn (by omega : L.toNat ≤ H.toNat) (by omega) hm hs hy
    have he : P.elem t = e := by simp [Program.elem, hu]
    have hu' : P.underlying t = some (.slice (P.elem t)) := by rw [he]; exact hu
    refine ⟨_, ?_, hcut⟩
    have hB : ∀ (d : Int) (b : Option Operand) (B : Int), st.bnd d b = some B → (b = none ∧ B = d) ∨ ∃ x k, b = some x ∧ a.eval x = .int k B := by
      intro d b B hb
      cases b with
      | none => exact .inl ⟨rfl, (Option.some.inj hb).symm⟩
      | some z =>
        refine .inr ⟨z, ?_⟩
        have hz := R.ev z
        simp only [St.bnd] at hb
        split at hb
        · rename_i k i hki
          obtain rfl := Option.some.inj hb
          rw [hki] at hz
          exact ⟨k, rfl, hz.int⟩
        · cases hb
    simp only [execOp, ho, hv]
    rw [Sem.run_bind, run_sliceAt_slice w t _ _ _ _ hu']
    rcases hB 0 lo L hlo with ⟨rfl, rfl⟩ | ⟨X, k, rfl, hX⟩ <;> rcases hB n hi H hhi with ⟨rfl, rfl⟩ | ⟨Y, k', rfl, hY⟩
    · simp only [Option.map_none]
      rw [run_slice_any w t ad n c hu']
      simp [Instr.sliceBounds, he, run_sizeOf hm]
    · simp only [Option.map_none, Option.map_some, hY]
      rw [run_slice_h w t ad n c hu' k' H (by omega) (by omega), he, run_sizeOf hm]
      rfl
    · simp only [Option.map_none, Option.map_some, hX]
      rw [run_slice_l w t ad n c hu' k L (by omega) (by omega), he, run_sizeOf hm]
      simp
    · simp only [Option.map_some, Option.map_none, hX, hY]
      rw [run_slice_lh w t ad n c hu' k k' L H (by omega) (by omega) (by omega), he, run_sizeOf hm]
      rfl

/-! #### parts -/
theorem op_extract {x : Operand} {i : Nat} {l : List A} {y : A} (ho : o.op = .extract x i) (hx : st.ev x = .tup l) (hy : l[i]? = some y) (h : N (st.put o.dst y)) : OpS P C o st N :=
  OpS.val h fun a w μ Z R => by
    have h1 := R.ev x
    rw [hx] at h1
    obtain ⟨vs, hv, hl, h2⟩ := h1
    obtain ⟨u, h3, h4⟩ := h2 i y hy
    refine ⟨u, ?_, UR.of_TR h4⟩
    have : vs[i]? = some u := by rw [← Array.getElem?_toList]; exact h3
    simp [execOp, ho, hv, Instr.extract, this]

def partA (P : Program) (t : TypeId) (f : Nat) (l : List A) : Option A :=
  match P.underlying t with
  | some (.struct fs) => match fs[f]? with
    | some fd => match aggOf P fd.type, szOf P fd.type with
      | some true, some n => some (.agg ((l.drop fd.offset).take n))
      | some false, _ => l[fd.offset]?
      | _, _ => none
    | none => none
  | _ => none

theorem op_field {t : TypeId} {x : Operand} {f : Nat} {l : List A} {y : A} (ho : o.op = .field t x f) (hx : st.ev x = .agg l) (hy : partA P t f l = some y) (h : N (st.put o.dst y)) : OpS P C o st N :=
  OpS.val h fun a w μ Z R => by
    have h1 := R.ev x
    rw [hx] at h1
    obtain ⟨vs, hv, hl, h2⟩ := h1
    unfold partA at hy
    split at hy
    · rename_i fs hu
      split at hy
      · rename_i fd hfd
        split at hy
        · rename_i n e1 e2
          obtain rfl := Option.some.inj hy
          refine ⟨.agg (vs.extract fd.offset (fd.offset + n)), ?_, _, rfl, ?_, ?_⟩
          · simp [execOp, ho, hv, Instr.field, run_underlying hu, hfd, asAgg, part, run_isAgg e1, run_sizeOf e2]
          · simp [hl]
          · intro j z hj
            rw [List.getElem?_take] at hj
            split at hj
            · rename_i hlt
              rw [List.getElem?_drop] at hj
              obtain ⟨u, h3, h4⟩ := h2 _ z hj
              refine ⟨u, ?_, h4⟩
              rw [Array.toList_extract, List.extract_eq_drop_take']
              have hlt2 : fd.offset + j < fd.offset + n := by omega
              simp only [List.getElem?_drop, List.getElem?_take, hlt2, if_true]
              exact h3
            · cases hj
        · rename_i e1
          obtain ⟨u, h3, h4⟩ := h2 _ y hy
          refine ⟨u, ?_, UR.of_CR h4⟩
          have : vs[fd.offset]? = some u := by rw [← Array.getElem?_toList]; exact h3
          simp [execOp, ho, hv, Instr.field, run_underlying hu, hfd, asAgg, part, run_isAgg e1, this]
        · cases hy
      · cases hy
    · cases hy
end
end Go.Vm
