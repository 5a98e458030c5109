/- A part of a proof that statements of this seat hold of the given program; no conditions but the statements' own. -/
import Derived.Test.YtekojicaeadepaaZ8651976f7b
import Derived.Deep.Slices
import Derived.ChangeSame
import Derived.ChangeSlices
set_option linter.unusedVariables false
set_option linter.unusedSimpArgs false
/- A machine of values: what came in, told in words; a law's row. -/
namespace Go.Vm
open Go.RowKit Go.ChangeShapes Go.WideShapes Go.Deep
set_option linter.unusedVariables false
section
variable {H : Type} {enc : TypeId × Value → H} {P : Program} {w : World} {t e : TypeId}

def Cells (w : World) (xs : List A) (cs : List Value) : Prop := cs.length = xs.length ∧ ∀ (j : Nat) (y : A), xs[j]? = some y → ∃ u, cs[j]? = some u ∧ IV (All w) w y u

/-- a type's cells read as words: n of them -/
def OpA (enc : TypeId × Value → H) (P : Program) (w : World) (t : TypeId) (n : Nat) (ok : List A → Prop) : Prop :=
  ∀ (fuel : Nat) (cs : List Value) (x : DataW H × List MemPlace), DataW.trod enc P w 0 (fun _ => true) true fuel t cs = some x → ∃ xs, xs.length = n ∧ Cells w xs cs ∧ ok xs

theorem Cells.one {x : A} {v : Value} (h : IV (All w) w x v) : Cells w [x] [v] :=
  ⟨rfl, fun j y hj => by
    match j, hj with
    | 0, hj => exact ⟨v, rfl, by cases hj; exact h⟩
    | j + 1, hj => simp at hj⟩

theorem OpA.int {k : IntKind} (ht : P.underlying t = some (.int k)) : OpA enc P w t 1 (fun xs => ∃ n, xs = [.int k n] ∧ (Lit.int k n).wf = true) := fun fuel cs x h => by
  obtain ⟨n, rfl, _, hw⟩ := DataW.trod_int ht h
  exact ⟨[.int k n], rfl, Cells.one (.int k n), n, rfl, hw⟩
theorem OpA.bool (ht : P.underlying t = some .bool) : OpA enc P w t 1 (fun xs => ∃ b, xs = [.bool b]) := fun fuel cs x h => by
  obtain ⟨b, rfl, _⟩ := DataW.trod_bool ht h
  exact ⟨[.bool b], rfl, Cells.one (.bool b), b, rfl⟩

theorem opa_list {α : Type} {Q : Nat → α → Prop} : ∀ n, (∀ i, i < n → ∃ v, Q i v) → ∃ l : List α, l.length = n ∧ ∀ (i : Nat) (v : α), l[i]? = some v → Q i v
  | 0, _ => ⟨[], rfl, fun i v h => by simp at h⟩
  | n + 1, h => by
    obtain ⟨l, hl, hq⟩ := opa_list n (fun i hi => h i (by omega))
    obtain ⟨v, hv⟩ := h n (by omega)
    refine ⟨l ++ [v], by simp [hl], fun i u hu => ?_⟩
    rcases Nat.lt_or_ge i l.length with h1 | h1
    · rw [List.getElem?_append_left h1] at hu
      exact hq i u hu
    · rw [List.getElem?_append_right h1] at hu
      have : i - l.length = 0 := by
        rcases Nat.eq_zero_or_pos (i - l.length) with e | e
        · exact e
        · rw [List.getElem?_eq_none (by simp; omega)] at hu; cases hu
      rw [this] at hu
      obtain rfl : v = u := by simpa using hu
      have : i = n := by omega
      rw [this]; exact hv

theorem OpA.slice {m : Nat} {ok : List A → Prop} (ht : P.underlying t = some (.slice e)) (hC : P.cellsOf e = m) (hm0 : 0 < m) (he : OpA enc P w e m ok) :
    OpA enc P w t 1 (fun xs => ∃ l, xs = [.sl l] ∧ l.length ≤ maxLen ∧ ∀ c ∈ l, ok c) := fun fuel cs x h => by
  rcases open_slice ht h with ⟨rfl, _⟩ | ⟨a, len, cap, mm, n, D, Pl, rfl, hb, hl, hm, hmm, hx, hi⟩
  · exact ⟨[.sl []], rfl, Cells.one (.sl0 _ _), [], rfl, by simp, fun v hv => by simp at hv⟩
  · have hlm : len ≤ mm := by
      rw [hmm]; split
      · exact hl
      · exact Nat.le_refl _
    have hQ : ∀ i, i < len → ∃ v : List A, (v.length = m ∧ ∀ (j : Nat) (y : A), v[j]? = some y → ∃ u, w.cell? (a.add (i * m + j)) = some u ∧ IV (All w) w y u) ∧ ok v := by
      intro i hi'
      obtain ⟨cs', hc, ht'⟩ := hi i (by omega)
      rw [hC] at hc
      obtain ⟨v, hv, hK, hok⟩ := he _ _ _ ht'
      obtain ⟨_, hcl, hat⟩ := World.cells?_some hc
      refine ⟨v, ⟨hv, fun j y hj => ?_⟩, hok⟩
      obtain ⟨u, hu, hI⟩ := hK.2 j y hj
      have hj' : j < m := by
        have := (List.getElem?_eq_some_iff.1 hj).1
        omega
      refine ⟨u, ?_, hI⟩
      rw [← Go.Deep.add_add, hat j hj', hu]
    obtain ⟨l, hll, hq⟩ := opa_list len hQ
    subst hll
    refine ⟨[.sl l], rfl, Cells.one ?_, l, rfl, Nat.le_trans hl hm, fun v hv => ?_⟩
    · cases l with
      | nil => exact .sl0 _ _
      | cons v0 vs =>
        obtain ⟨⟨h1, h2⟩, _⟩ := hq 0 v0 rfl
        obtain ⟨y0, hy0⟩ : ∃ y, v0[0]? = some y := ⟨v0[0]'(by omega), List.getElem?_eq_getElem (by omega)⟩
        obtain ⟨u0, h3, _⟩ := h2 0 y0 hy0
        rw [show 0 * m + 0 = 0 by omega] at h3
        obtain ⟨b, o, sp⟩ := a
        have hsp : sp = none := by
          have := World.cell?_spot h3
          simpa [Addr.add] using this
        subst hsp
        obtain ⟨cur, t', fr, hheap⟩ : ∃ cur t' fr, w.heap[b]? = some (.cells cur t' fr) := by
          simp only [addr_add, World.cell?] at h3
          split at h3
          · rename_i c t' fr hh
            exact ⟨c, t', fr, hh⟩
          · cases h3
        refine IV.of_lay (sz := m) (show All w b from by
          unfold All
          rcases Nat.lt_or_ge b w.heap.size with h | h
          · exact h
          · rw [Array.getElem?_eq_none h] at hheap
            cases hheap) hheap hl ⟨fun i c hc => (hq i c hc).1.1, fun i c j y hc hy => ?_⟩
        obtain ⟨u, h5, h6⟩ := (hq i c hc).1.2 j y hy
        refine ⟨u, ?_, h6⟩
        simpa [addr_add, World.cell?, hheap] using h5
    · obtain ⟨i, hi', rfl⟩ := List.getElem_of_mem hv
      exact (hq i _ (List.getElem?_eq_getElem hi')).2

def OpF (enc : TypeId × Value → H) (P : Program) (w : World) (fs : List Field) (o n : Nat) (ok : List A → Prop) : Prop :=
  ∀ (f : Nat) (cs : List Value), cs.length = o + n → (∀ fd ∈ fs, ∃ x, DataW.trod enc P w 0 (fun _ => true) true f fd.type ((cs.drop fd.offset).take (P.cellsOf fd.type)) = some x) → ∃ xs, xs.length = n ∧ Cells w xs (cs.drop o) ∧ ok xs

theorem OpF.last {f : Field} {o n : Nat} {ok : List A → Prop} (ho : f.offset = o) (hC : P.cellsOf f.type = n) (h : OpA enc P w f.type n ok) : OpF enc P w [f] o n ok := fun fuel cs hl hf => by
  obtain ⟨x, hx⟩ := hf f (by simp)
  rw [ho, hC, List.take_of_length_le (by rw [List.length_drop]; omega)] at hx
  exact h _ _ _ hx

theorem OpF.cons {f : Field} {fs : List Field} {o n m : Nat} {ok ok' : List A → Prop} (ho : f.offset = o) (hC : P.cellsOf f.type = n) (h : OpA enc P w f.type n ok) (h' : OpF enc P w fs (o + n) m ok') :
    OpF enc P w (f :: fs) o (n + m) (fun xs => ∃ ys zs, xs = ys ++ zs ∧ ok ys ∧ ok' zs) := fun fuel cs hl hf => by
  obtain ⟨x, hx⟩ := hf f (by simp)
  rw [ho, hC] at hx
  obtain ⟨ys, hy, hK, hok⟩ := h _ _ _ hx
  obtain ⟨zs, hz, hK', hok'⟩ := h' fuel cs (by omega) (fun g hg => hf g (by simp [hg]))
  refine ⟨ys ++ zs, by simp [hy, hz], ⟨?_, fun j y hj => ?_⟩, ys, zs, rfl, hok, hok'⟩
  · rw [List.length_drop, List.length_append]
    omega
  · rcases Nat.lt_or_ge j ys.length with h1 | h1
    · rw [List.getElem?_append_left h1] at hj
      obtain ⟨u, hu, hI⟩ := hK.2 j y hj
      refine ⟨u, ?_, hI⟩
      rw [List.getElem?_take, if_pos (by omega)] at hu
      exact hu
    · rw [List.getElem?_append_right h1] at hj
      obtain ⟨u, hu, hI⟩ := hK'.2 _ y hj
      refine ⟨u, ?_, hI⟩
      rw [List.getElem?_drop] at hu ⊢
      rw [← hu]
      congr 1
      omega

theorem OpA.struct {fs : List Field} {n : Nat} {ok : List A → Prop} (ht : P.underlying t = some (.struct fs.toArray)) (hC : P.cellsOf t = n) (h : OpF enc P w fs 0 n ok) : OpA enc P w t n ok := fun fuel cs x hx => by
  obtain ⟨xs, n', _, _, hlen, hl, hf⟩ := DataW.trod_struct ht hx
  obtain ⟨ys, h1, h2, h3⟩ := h n' cs (by rw [hlen, hC]; omega) (fun fd hfd => by
    obtain ⟨i, hi, rfl⟩ := List.getElem_of_mem hfd
    have h1 := hf i fs[i] (by simp [hi])
    have hi2 : i < xs.length := by rw [hl]; simpa using hi
    exact ⟨_, h1.trans (List.getElem?_eq_getElem hi2)⟩)
  exact ⟨ys, h1, by simpa using h2, h3⟩

theorem OpA.trod {v : Value} {d : DataW H} {p : List MemPlace} {n : Nat} {ok : List A → Prop} (h : OpA enc P w t n ok) (hT : DataW.Trod enc P w 0 (fun _ => true) true t v d p) : ∃ xs, xs.length = n ∧ Cells w xs v.cells.toList ∧ ok xs := by
  obtain ⟨fuel, hf⟩ := hT
  exact h _ _ _ hf

theorem IV.tr {x : A} {v : Value} {Z : Nat → Prop} (h : IV Z w x v) : TR P [] noMu Z w x v := TR.of_IV h
theorem Cells.tr1 {x : A} {v : Value} (h : Cells w [x] v.cells.toList) (hv : v.cells = #[v]) : TR P [] noMu (All w) w x v := by
  rw [hv] at h
  obtain ⟨u, h1, h2⟩ := h.2 0 x rfl
  obtain rfl : v = u := by simpa using h1
  exact TR.of_IV h2
theorem Cells.agg {xs : List A} {vs : Array Value} (h : Cells w xs vs.toList) : TR P [] noMu (All w) w (.agg xs) (.agg vs) :=
  ⟨vs, rfl, h.1, fun j x hj => let ⟨u, q1, q2⟩ := h.2 j x hj; ⟨u, q1, CR.of_IV q2⟩⟩

/-- what a law tells: called from its arguments' words -/
theorem Does.row {f : FuncId} {args : List A} {b : Bool} {hr : List Ob} {vs : Array Value} (h : Does P f args (.bool b) hr) (hl : vs.toList.length = args.length)
    (ha : ∀ (j : Nat) (x : A), args[j]? = some x → ∃ u, vs.toList[j]? = some u ∧ TR P [] noMu (All w) w x u) : Calls P f vs w fun e w' => e = .returned (.bool b) ∧ Below w.heap.size w w' := by
  refine Calls.mono (h (All w) w vs (fun b hb => hb) hl ha) ?_
  rintro e w' ⟨v, μ, Z', rfl, H, hv⟩
  exact ⟨by rw [hv.bool], H.below.below⟩
end
end Go.Vm
