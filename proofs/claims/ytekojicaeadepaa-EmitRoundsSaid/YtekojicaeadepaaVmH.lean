/- A machine of values: structs and rows that are written out. -/
import Derived.Test.YtekojicaeadepaaVmG
namespace Go.Vm
open Go.RowKit
set_option linter.unusedVariables false
set_option linter.unusedSimpArgs false
inductive F2 {α β : Type} (R : α → β → Prop) : List α → List β → Prop
  | nil : F2 R [] []
  | cons {x : α} {y : β} {l : List α} {l' : List β} (h : R x y) (hs : F2 R l l') : F2 R (x :: l) (y :: l')

theorem F2.length_eq {α β : Type} {R : α → β → Prop} {l : List α} {l' : List β} (h : F2 R l l') : l.length = l'.length := by
  induction h with
  | nil => rfl
  | cons _ _ ih => simp [ih]

theorem F2.get {α β : Type} {R : α → β → Prop} {l : List α} {l' : List β} (h : F2 R l l') : ∀ (k : Nat) (x : α) (y : β), l[k]? = some x → l'[k]? = some y → R x y := by
  induction h with
  | nil => intro k x y hx; simp at hx
  | cons h _ ih =>
    intro k x y hx hy
    cases k with
    | zero => simp at hx hy; subst hx; subst hy; exact h
    | succ k => exact ih k x y (by simpa using hx) (by simpa using hy)

section
variable {P : Program} {C : Ctx} {Z0 : Nat → Prop} {w0 : World} {hp hp' : List Ob} {μ μ' : Mu} {Z Z' : Nat → Prop} {w w' : World} {st : St} {a : Act} {o : Oper} {N : St → Prop}

theorem fold_splice (off : Nat) : ∀ (vs : List Value) (k : Nat) (cells : Array Value), off + k + vs.length ≤ cells.size →
    ((vs.zipIdx k).foldl (fun cs (p : Value × Nat) => cs.setIfInBounds (off + p.2) p.1) cells).toList = splice cells.toList (off + k) vs
  | [], k, cells, h => by simp [splice]
  | v :: vs, k, cells, h => by
    simp only [List.length_cons] at h
    rw [List.zipIdx_cons, List.foldl_cons, fold_splice off vs (k + 1) (cells.setIfInBounds (off + k) v) (by simp; omega)]
    apply List.ext_getElem?
    intro q
    rw [splice_get (by simp; omega), splice_get (by simp; omega), Array.toList_setIfInBounds]
    by_cases h1 : q < off + k
    · rw [if_pos (by omega), if_pos h1, List.getElem?_set_ne (by omega)]
    · by_cases h2 : q = off + k
      · subst h2
        rw [if_pos (by omega), if_neg (by omega), if_pos (by simp), List.getElem?_set_self (by simp; omega)]
        simp
      · rw [if_neg (by omega), if_neg h1]
        by_cases h3 : q < off + (k + 1) + vs.length
        · rw [if_pos h3, if_pos (by simp; omega), show q - (off + k) = (q - (off + (k + 1))) + 1 by omega]
          simp
        · rw [if_neg h3, if_neg (by simp; omega), List.getElem?_set_ne (by omega)]

theorem fill_one {place : Nat → Option (Nat × Nat)} {cells : Array Value} {i off size : Nat} {v : Value} {rest : List (Nat × Value)} (hp : place i = some (off, size)) (hs : v.cells.size = size) (hf : off + size ≤ cells.size) :
    Instr.fill place cells ((i, v) :: rest) = Instr.fill place (splice cells.toList off v.cells.toList).toArray rest := by
  have h1 := fold_splice off v.cells.toList 0 cells (by simp; omega)
  have h2 : v.cells.zipIdx.foldl (fun cs (p : Value × Nat) => cs.setIfInBounds (off + p.2) p.1) cells = (splice cells.toList off v.cells.toList).toArray := by
    apply Array.ext'
    rw [← Array.foldl_toList, Array.toList_zipIdx, h1]
    simp
  have hn : ¬ (cells.size < off + v.cells.size) := by omega
  simp only [Instr.fill, hp]
  rw [if_neg (by simp [hs]; omega)]
  congr 1

/-- parts that are laid over cells -/
def fillA (pl : List (Nat × Nat)) : List A → List (Nat × A) → Option (List A)
  | cs, [] => some cs
  | cs, (i, x) :: rest => match pl[i]?, cellsA x with
    | some (off, size), some vs => if vs.length = size ∧ off + size ≤ cs.length then fillA pl (splice cs off vs) rest else none
    | _, _ => none

theorem fillA_run {pl : List (Nat × Nat)} : ∀ {ps : List (Nat × A)} {qs : List (Nat × Value)} {cs cs' : List A} {cells : Array Value}, CRs P hp μ Z w cs cells.toList →
    F2 (fun (p : Nat × A) (q : Nat × Value) => p.1 = q.1 ∧ UR P hp μ Z w p.2 q.2) ps qs → fillA pl cs ps = some cs' →
    ∃ cells', Instr.fill (pl.toArray[·]?) cells qs = some cells' ∧ CRs P hp μ Z w cs' cells'.toList
  | [], _, cs, cs', cells, hc, .nil, h => by
    obtain rfl := Option.some.inj h
    exact ⟨cells, rfl, hc⟩
  | (i, x) :: ps, (_, v) :: qs, cs, cs', cells, hc, .cons ⟨e, hx⟩ hr, h => by
    simp only at e
    subst e
    simp only [fillA] at h
    split at h
    · rename_i off size vs h1 h2
      split at h
      · rename_i h3
        have hC := hx.cells h2
        have hsz : v.cells.size = size := by rw [← Array.length_toList, hC.1, h3.1]
        have hcl : cells.size = cs.length := by rw [← Array.length_toList, hc.1]
        rw [fill_one (by simpa using h1) hsz (by rw [hcl]; exact h3.2)]
        exact fillA_run (by simpa using hc.splice hC (by rw [h3.1]; exact h3.2)) hr h
      · cases h
    · cases h

def placesA (P : Program) (t : TypeId) : Option (List (Nat × Nat)) :=
  match P.underlying t with
  | some (.struct fs) => fs.toList.mapM (fun f => (P.info? f.type).map fun i => (f.offset, i.size))
  | _ => none

def buildA (P : Program) (t : TypeId) (ps : List (Nat × A)) : Option (List A) :=
  match zeroA P t, placesA P t with
  | some z, some pl => fillA pl z ps
  | _, _ => none

theorem parts_rel (R : RelAt P C st a w μ Z) : ∀ (ps : List (Nat × Operand)), F2 (fun (p : Nat × A) (q : Nat × Value) => p.1 = q.1 ∧ UR P st.hp μ Z w p.2 q.2) (ps.map fun p => (p.1, st.ev p.2)) (ps.map fun p => (p.1, a.eval p.2))
  | [] => .nil
  | p :: ps => .cons ⟨rfl, R.ev p.2⟩ (parts_rel R ps)

theorem op_build {t : TypeId} {parts : Array (Nat × Operand)} {cs : List A} (ho : o.op = .build t parts) (hb : buildA P t (parts.toList.map fun p => (p.1, st.ev p.2)) = some cs) (h : N (st.put o.dst (.agg cs))) : OpS P C o st N :=
  OpS.val h fun a w μ Z R => by
    unfold buildA at hb
    split at hb
    · rename_i z pl hz hpl
      unfold zeroA at hz
      split at hz
      · rename_i zv hzv
        split at hz
        · rename_i hz1
          obtain rfl := Option.some.inj hz
          have hz2 : CRs P st.hp μ Z w (zv.cells.toList.map toA) zv.cells.toList := by
            refine ⟨by simp, fun j x hj => ?_⟩
            rw [List.getElem?_map] at hj
            obtain ⟨u, hu, rfl⟩ := Option.map_eq_some_iff.1 hj
            exact ⟨u, hu, toA_cr (List.all_eq_true.1 hz1 u (List.mem_of_getElem? hu))⟩
          obtain ⟨cells', h1, h2⟩ := fillA_run hz2 (parts_rel R parts.toList) hb
          refine ⟨.agg cells', ?_, cells', rfl, h2⟩
          unfold placesA at hpl
          split at hpl
          · rename_i fs hu
            obtain ⟨i, hi, hiz⟩ := Option.bind_eq_some_iff.1 hzv
            have hbuilt : P.built t (parts.map fun p => (p.1, a.eval p.2)).toList = some cells' := by
              unfold Program.built
              simp only [hi, hu, hiz, hpl]
              simpa using h1
            simp only [execOp, ho]
            rw [Sem.run_bind, show (parts.map fun x => match x with | (i, x) => (i, a.eval x)) = (parts.map fun p => (p.1, a.eval p.2)) from rfl, run_build w t _ _ hbuilt]
            rfl
          · cases hpl
        · cases hz
      · cases hz
    · cases hb

/-! #### a row written out -/
/-- the elements, one by one, the first of place k -/
def elemsA (st : St) : Nat → List (Nat × Operand) → Option (List (List A))
  | _, [] => some []
  | k, (i, x) :: ps => match cellsA (st.ev x), elemsA st (k + 1) ps with
    | some c, some r => if i = k then some (c :: r) else none
    | _, _ => none

def frzE (hp : List Ob) : List (List A) → List Ob × List (List A)
  | [] => (hp, [])
  | e :: es => ((frzE (frzs hp e).1 es).1, (frzs hp e).2 :: (frzE (frzs hp e).1 es).2)

theorem HR.frzE : ∀ {es : List (List A)} {vs : List (List Value)} {hp : List Ob} {Z : Nat → Prop}, HR P Z0 w0 hp μ Z w → F2 (CRs P hp μ Z w) es vs →
    ∃ Z', HR P Z0 w0 (Vm.frzE hp es).1 μ Z' w ∧ Ext P hp μ Z w (Vm.frzE hp es).1 μ Z' w ∧
      F2 (fun (e : List A) (v : List Value) => e.length = v.length ∧ ∀ (j : Nat) (x : A), e[j]? = some x → ∃ u, v[j]? = some u ∧ IV Z' w x u) (Vm.frzE hp es).2 vs
  | [], _, hp, Z, H, .nil => ⟨Z, H, Ext.refl .., .nil⟩
  | e :: es, v :: vs, hp, Z, H, .cons he hes => by
    obtain ⟨Z1, H1, E1, l1, I1⟩ := H.frzs he
    have h1 : F2 (CRs P (Vm.frzs hp e).1 μ Z1 w) es vs := by
      clear H he l1 I1 H1
      induction hes with
      | nil => exact .nil
      | cons h _ ih => exact .cons (h.ext E1) ih
    obtain ⟨Z2, H2, E2, I2⟩ := HR.frzE H1 h1
    exact ⟨Z2, H2, E1.trans E2, .cons ⟨by rw [l1, he.1], fun j x hj => let ⟨u, q1, q2⟩ := I1 j x hj; ⟨u, q1, q2.mono E2.z E2.zh⟩⟩ I2⟩

theorem elemsA_rel (R : RelAt P C st a w μ Z) : ∀ {k : Nat} {ps : List (Nat × Operand)} {es : List (List A)}, elemsA st k ps = some es →
    ps.map (·.1) = List.range' k ps.length ∧ F2 (CRs P st.hp μ Z w) es (ps.map fun p => (a.eval p.2).cells.toList)
  | k, [], es, h => by
    obtain rfl := Option.some.inj h
    exact ⟨rfl, .nil⟩
  | k, (i, x) :: ps, es, h => by
    simp only [elemsA] at h
    split at h
    · rename_i c r h1 h2
      split at h
      · rename_i e
        subst e
        obtain rfl := Option.some.inj h
        obtain ⟨q1, q2⟩ := elemsA_rel R h2
        refine ⟨by simp [q1, List.range'_succ], .cons ((R.ev x).cells h1) q2⟩
      · cases h
    · cases h

/-- filling from place k on leaves what is ahead, then the parts -/
theorem fill_rows {m : Nat} : ∀ {qs : List (Nat × Value)} {k : Nat} {cells : Array Value}, (∀ q ∈ qs, q.2.cells.size = m) → qs.map (·.1) = List.range' k qs.length → cells.size = (k + qs.length) * m →
    ∃ cells', Instr.fill (fun i => some (i * m, m)) cells qs = some cells' ∧ cells'.toList = cells.toList.take (k * m) ++ (qs.map fun q => q.2.cells.toList).flatten
  | [], k, cells, _, _, hs => ⟨cells, rfl, by
      simp only [List.map_nil, List.flatten_nil, List.append_nil]
      rw [List.take_of_length_le]
      simp only [Array.length_toList]
      simp at hs
      omega⟩
  | (i, v) :: qs, k, cells, h1, h2, hs => by
    simp only [List.map_cons, List.length_cons, List.range'_succ, List.cons.injEq] at h2
    obtain ⟨rfl, h2⟩ := h2
    have hv : v.cells.size = m := h1 (i, v) (by simp)
    have hs' : cells.size = i * m + m + qs.length * m := by
      rw [hs, List.length_cons, Nat.add_mul, Nat.succ_mul]
      omega
    have hfit : i * m + m ≤ cells.size := by omega
    rw [fill_one (by rfl) hv hfit]
    have hlen : (splice cells.toList (i * m) v.cells.toList).length = cells.size := by
      rw [splice_length (by simp [hv]; exact hfit)]
      simp
    obtain ⟨cells', h3, h4⟩ := fill_rows (k := i + 1) (cells := (splice cells.toList (i * m) v.cells.toList).toArray) (fun q hq => h1 q (by simp [hq])) h2 (by
      rw [List.size_toArray, hlen, hs, List.length_cons, show i + (qs.length + 1) = i + 1 + qs.length by omega])
    refine ⟨cells', h3, ?_⟩
    rw [h4]
    simp only [List.map_cons, List.flatten_cons, ← List.append_assoc]
    congr 1
    have hvl : v.cells.toList.length = m := by simpa using hv
    unfold splice
    rw [Nat.succ_mul, List.take_append_of_le_length (by simp [hv]; omega), List.take_of_length_le (by simp [hv]; omega)]

theorem LayL.of_parts {sz : Nat} : ∀ {es : List (List A)} {vs : List (List Value)}, F2 (fun (e : List A) (v : List Value) => e.length = v.length ∧ ∀ (j : Nat) (x : A), e[j]? = some x → ∃ u, v[j]? = some u ∧ IV Z w x u) es vs →
    (∀ e ∈ es, e.length = sz) → LayL (IV Z w) sz vs.flatten es
  | [], _, .nil, _ => by simpa using LayL.nil
  | e :: es, v :: vs, .cons ⟨h1, h2⟩ hr, hl => by
    have he := hl e (by simp)
    have h := LayL.of_parts hr (fun x hx => hl x (by simp [hx]))
    have h0 : LayL (IV Z w) sz v [e] := by
      refine ⟨by simp; omega, ?_, ?_, ?_⟩
      · intro u hu
        obtain ⟨k, hk, rfl⟩ := List.getElem_of_mem hu
        obtain ⟨u, q1, q2⟩ := h2 k (e[k]'(by omega)) (List.getElem?_eq_getElem _)
        rw [List.getElem?_eq_getElem hk] at q1
        rw [Option.some.inj q1]
        exact q2.one
      · intro i e' hi
        cases i with
        | zero => simp at hi; subst hi; exact he
        | succ i => simp at hi
      · intro i e' j x hi hj
        cases i with
        | zero =>
          simp at hi; subst hi
          obtain ⟨u, q1, q2⟩ := h2 j x hj
          exact ⟨u, by simpa using q1, q2⟩
        | succ i => simp at hi
    simpa using h0.app h

theorem op_buildSlice {t e : TypeId} {n m : Nat} {parts : Array (Nat × Operand)} {es : List (List A)} (ho : o.op = .buildSlice t n parts) (hu : P.underlying t = some (.slice e)) (hm : szOf P e = some m) (hz : (zeroA P e).isSome = true) (hm0 : 0 < m)
    (hes : elemsA st 0 parts.toList = some es) (hn : parts.toList.length = n) (hsm : n * m ≤ 2 ^ 24) (hl : ∀ x ∈ es, x.length = m)
    (h : N (St.put ⟨st.tm, (frzE st.hp es).1 ++ [.row e 0 (frzE st.hp es).2]⟩ o.dst (.ref (frzE st.hp es).1.length 0))) : OpS P C o st N :=
  OpS.blk h fun a w μ Z R => by
    obtain ⟨q1, q2⟩ := elemsA_rel R hes
    obtain ⟨Z1, H1, E1, I1⟩ := R.hr.frzE q2
    obtain ⟨zl, hzl⟩ := Option.isSome_iff_exists.1 hz
    unfold zeroA at hzl
    split at hzl
    · rename_i zv hzv
      obtain ⟨ie, hie, hiz⟩ := Option.bind_eq_some_iff.1 hzv
      have hsz : ie.size = m := by
        simp only [szOf, hie, Option.map_some, Option.some.injEq] at hm
        exact hm
      have hlenes : es.length = n := by
        have := q2.length_eq
        rw [this, List.length_map, hn]
      have hlen2 : (Vm.frzE st.hp es).2.length = n := by
        have := I1.length_eq
        rw [this, List.length_map, hn]
      have hcells : ∀ q ∈ parts.toList.map (fun p => (p.1, a.eval p.2)), q.2.cells.size = m := by
        intro q hq
        obtain ⟨p, hp, rfl⟩ := List.mem_map.1 hq
        obtain ⟨k, hk, rfl⟩ := List.getElem_of_mem hp
        have hk2 : k < es.length := by rw [hlenes, ← hn]; exact hk
        have h3 := (q2.get k es[k] (a.eval (parts.toList[k]).2).cells.toList (List.getElem?_eq_getElem hk2) (by simp [List.getElem?_eq_getElem hk])).1
        have h4 := hl es[k] (List.getElem_mem hk2)
        rw [h4] at h3
        rw [← Array.length_toList]
        exact h3
      have hl2 : ∀ x ∈ (Vm.frzE st.hp es).2, x.length = m := by
        intro x hx
        obtain ⟨k, hk, rfl⟩ := List.getElem_of_mem hx
        have hk2 : k < parts.toList.length := by rw [hn, ← hlen2]; exact hk
        have h3 := (I1.get k _ (a.eval (parts.toList[k]).2).cells.toList (List.getElem?_eq_getElem hk) (by simp [List.getElem?_eq_getElem hk2])).1
        have h4 := hcells ((parts.toList[k]).1, a.eval (parts.toList[k]).2) (List.mem_map.2 ⟨parts.toList[k], List.getElem_mem hk2, rfl⟩)
        rw [h3, Array.length_toList]
        exact h4
      have hL := LayL.of_parts I1 hl2
      by_cases h0 : n = 0
      · subst h0
        have hp0 : parts = #[] := by
          apply Array.ext'
          exact List.eq_nil_of_length_eq_zero hn
        subst hp0
        have he0 : es = [] := List.eq_nil_of_length_eq_zero hlenes
        subst he0
        obtain ⟨μ', H2, E2, C2⟩ := H1.newRow (t := e) (cur := #[]) (c := 0) (post := []) (below_alloc' w (.cells #[] e)) (heap_alloc_new w _) hm hL (by simp) (by simp [hlen2]) (by simp)
        refine ⟨_, _, μ', Z1, .inl ?_, H2, E1.trans E2, UR.of_CR C2⟩
        have h0 : (Array.map (fun x : Nat => (default : Value)) (Array.range 0)) = #[] := by simp
        simp [execOp, ho, Instr.buildSlice, run_underlying hu, run_sizeOf hm, Instr.fill, newRow, Vm.frzE, h0]
      · have hpos : ¬ n * ie.size = 0 := by
          rw [hsz]
          intro h
          rcases Nat.mul_eq_zero.1 h with h | h <;> omega
        obtain ⟨cells', hf, hcl⟩ := fill_rows (m := m) (k := 0) (cells := ((Array.range (n * ie.size)).map (zv.cells[· % zv.cells.size]!))) hcells (by rw [List.map_map, List.length_map]; exact q1) (by simp [hsz, hn])
        have hrun := run_buildSlice (P := P) w t e n (parts.map fun p => (p.1, a.eval p.2)) cells' ie zv hu hie hiz (by rw [hsz]; omega) hpos (by rw [hsz] at hf ⊢; simpa using hf)
        have hcl' : cells'.toList = (parts.toList.map fun p => (a.eval p.2).cells.toList).flatten ++ [] := by
          rw [hcl]
          simp [Function.comp_def]
        obtain ⟨μ', H2, E2, C2⟩ := H1.newRow (t := e) (cur := cells') (c := n) (post := []) (below_alloc' w (.cells cells' e)) (heap_alloc_new w _) hm hL hcl' (by omega) (by
          rw [← Array.length_toList, hcl', List.append_nil, hL.n, hlen2]; exact Nat.le_refl _)
        refine ⟨_, _, μ', Z1, .inl ?_, H2, E1.trans E2, UR.of_CR C2⟩
        simp only [execOp, ho]
        rw [Sem.run_bind, show (parts.map fun x => match x with | (i, x) => (i, a.eval x)) = (parts.map fun p => (p.1, a.eval p.2)) from rfl, hrun, hlen2]
        rfl
    · cases hzl
end
end Go.Vm
