/- A machine of values: blocks that are made; what is stored. -/
import Derived.Test.YtekojicaeadepaaVmE
import Derived.ArgAppend
namespace Go.Vm
open Go.RowKit
set_option linter.unusedVariables false
set_option linter.unusedSimpArgs false
section
variable {P : Program} {C : Ctx} {Z0 : Nat → Prop} {w0 : World} {hp hp' : List Ob} {μ μ' : Mu} {Z Z' : Nat → Prop} {w w' : World} {st : St} {a : Act} {o : Oper} {N : St → Prop}

theorem toA_cr {v : Value} (h : v.oneCell' = true) : CR P hp μ Z w (toA v) v := by
  unfold toA
  split
  · exact IV.int _ _
  · exact IV.bool _
  · exact IV.str _
  · exact ⟨none, rfl⟩
  · rw [if_pos h]; exact IV.val _ h

/-- cells side by side that hold elements -/
structure LayL (R : A → Value → Prop) (sz : Nat) (cs : List Value) (l : List (List A)) : Prop where
  n : cs.length = l.length * sz
  one : ∀ u ∈ cs, u.oneCell' = true
  len : ∀ (i : Nat) (e : List A), l[i]? = some e → e.length = sz
  at_ : ∀ (i : Nat) (e : List A) (j : Nat) (x : A), l[i]? = some e → e[j]? = some x → ∃ u, cs[i * sz + j]? = some u ∧ R x u

theorem LayL.nil {R : A → Value → Prop} {sz : Nat} : LayL R sz [] [] := ⟨by simp, by simp, by simp, by simp⟩

theorem LayL.imp {R R' : A → Value → Prop} {sz : Nat} {cs : List Value} {l : List (List A)} (h : LayL R sz cs l) (hr : ∀ x v, R x v → R' x v) : LayL R' sz cs l :=
  ⟨h.n, h.one, h.len, fun i e j x hi hj => let ⟨u, h1, h2⟩ := h.at_ i e j x hi hj; ⟨u, h1, hr _ _ h2⟩⟩

theorem LayL.app {R : A → Value → Prop} {sz : Nat} {cs cs' : List Value} {l l' : List (List A)} (h : LayL R sz cs l) (h' : LayL R sz cs' l') : LayL R sz (cs ++ cs') (l ++ l') := by
  refine ⟨by rw [List.length_append, List.length_append, h.n, h'.n, Nat.add_mul], fun u hu => ?_, fun i e hi => ?_, fun i e j x hi hj => ?_⟩
  · rcases List.mem_append.1 hu with hu | hu
    · exact h.one u hu
    · exact h'.one u hu
  · rw [List.getElem?_append] at hi
    split at hi
    · exact h.len i e hi
    · exact h'.len _ e hi
  · rw [List.getElem?_append] at hi
    split at hi
    · rename_i hlt
      obtain ⟨u, h1, h2⟩ := h.at_ i e j x hi hj
      refine ⟨u, ?_, h2⟩
      rw [List.getElem?_append_left (List.getElem?_eq_some_iff.1 h1).1]
      exact h1
    · rename_i hlt
      obtain ⟨u, h1, h2⟩ := h'.at_ _ e j x hi hj
      refine ⟨u, ?_, h2⟩
      have hle : cs.length ≤ i * sz + j := by
        rw [h.n]
        have : l.length * sz ≤ i * sz := Nat.mul_le_mul_right _ (by omega)
        omega
      rw [List.getElem?_append_right hle, ← h1]
      congr 1
      rw [h.n, Nat.sub_mul]
      have : l.length * sz ≤ i * sz := Nat.mul_le_mul_right _ (by omega)
      omega

theorem LayL.lay {R : A → Value → Prop} {sz o : Nat} {cs pre post : List Value} {l : List (List A)} {cur : Array Value} (h : LayL R sz cs l) (hc : cur.toList = pre ++ cs ++ post) (ho : pre.length = o) : Lay R sz cur o l ∧ o + l.length * sz ≤ cur.size := by
  refine ⟨⟨h.len, fun i e j x hi hj => ?_⟩, ?_⟩
  · obtain ⟨u, h1, h2⟩ := h.at_ i e j x hi hj
    refine ⟨u, ?_, h2⟩
    rw [← Array.getElem?_toList, hc, List.append_assoc, List.getElem?_append_right (by omega), ← ho, Nat.add_sub_cancel_left, List.getElem?_append_left (List.getElem?_eq_some_iff.1 h1).1]
    exact h1
  · rw [← Array.length_toList, hc, List.length_append, List.length_append, h.n]
    omega

/-- the cells that a layout speaks of -/
theorem Lay.cells {sz o : Nat} {l : List (List A)} {cur : Array Value} (h : Lay (IV Z w) sz cur o l) :
    ∃ cs, LayL (IV Z w) sz cs l ∧ ∀ (j : Nat) (u : Value), cs[j]? = some u → cur[o + j]? = some u := by
  refine ⟨(cur.toList.drop o).take (l.length * sz), ⟨?_, ?_, h.len, ?_⟩, ?_⟩
  · rw [List.length_take, List.length_drop, Array.length_toList (xs := cur)]
    by_cases hz : l.length * sz = 0
    · omega
    · have hp : 0 < l.length ∧ 0 < sz := by
        constructor
        · exact Nat.pos_of_ne_zero fun e => hz (by simp [e])
        · exact Nat.pos_of_ne_zero fun e => hz (by simp [e])
      have hi : l[l.length - 1]? = some l[l.length - 1] := List.getElem?_eq_getElem (by omega)
      have hs := h.len _ _ hi
      obtain ⟨u, h1, _⟩ := h.at_ _ _ (sz - 1) (l[l.length - 1])[sz - 1] hi (List.getElem?_eq_getElem (by omega))
      have := (Array.getElem?_eq_some_iff.1 h1).1
      have e : (l.length - 1) * sz + sz = l.length * sz := by
        rw [← Nat.succ_mul]
        congr 1
        omega
      omega
  · intro u hu
    obtain ⟨k, hk, rfl⟩ := List.getElem_of_mem hu
    have hk1 : k < l.length * sz := by rw [List.length_take] at hk; omega
    have hs : 0 < sz := Nat.pos_of_ne_zero fun e => by simp [e] at hk1
    have hi : k / sz < l.length := (Nat.div_lt_iff_lt_mul hs).2 hk1
    have hii : l[k / sz]? = some l[k / sz] := List.getElem?_eq_getElem hi
    have hlen := h.len _ _ hii
    have hj : k % sz < (l[k / sz]).length := by rw [hlen]; exact Nat.mod_lt _ hs
    obtain ⟨u, h1, h2⟩ := h.at_ _ _ (k % sz) _ hii (List.getElem?_eq_getElem hj)
    have e : k / sz * sz + k % sz = k := by rw [Nat.mul_comm]; exact Nat.div_add_mod k sz
    rw [e] at h1
    have : ((cur.toList.drop o).take (l.length * sz))[k]? = some u := by
      rw [List.getElem?_take, if_pos hk1, List.getElem?_drop]
      simpa using h1
    rw [List.getElem?_eq_getElem hk] at this
    rw [Option.some.inj this]
    exact h2.one
  · intro i e j x hi hj
    obtain ⟨u, h1, h2⟩ := h.at_ i e j x hi hj
    refine ⟨u, ?_, h2⟩
    have hlt : i * sz + j < l.length * sz := by
      have h3 := (List.getElem?_eq_some_iff.1 hi).1
      have h4 := (List.getElem?_eq_some_iff.1 hj).1
      rw [h.len i e hi] at h4
      calc i * sz + j < i * sz + sz := by omega
        _ = (i + 1) * sz := (Nat.succ_mul i sz).symm
        _ ≤ l.length * sz := Nat.mul_le_mul_right _ h3
    rw [List.getElem?_take, if_pos hlt, List.getElem?_drop]
    simpa using h1
  · intro j u hj
    rw [List.getElem?_take] at hj
    split at hj
    · simpa using hj
    · cases hj

/-- What a slice's word leads to, as elements that may be kept. -/
theorem HR.elems (H : HR P Z0 w0 hp μ Z w) {x : A} {v : Value} {l : List (List A)} (hv : Vm.view hp x = some l) (h : UR P hp μ Z w x v) :
    ∃ ad c, v = .slice ad l.length c ∧ l.length ≤ c ∧ (l = [] ∨ ∃ b o sz cur t fr, ad = some ⟨b, o, none⟩ ∧ w.heap[b]? = some (.cells cur t fr) ∧ Lay (IV Z w) sz cur o l) := by
  have fromOver : ∀ r t a n g (l0 : List (List A)), Over P μ w r t a n v → hp[r]? = some (.row t g l0) → a + n ≤ l0.length → l = (l0.take (a + n)).drop a →
      ∃ ad c, v = .slice ad l.length c ∧ l.length ≤ c ∧ (l = [] ∨ ∃ b o sz cur t fr, ad = some ⟨b, o, none⟩ ∧ w.heap[b]? = some (.cells cur t fr) ∧ Lay (IV Z w) sz cur o l) := by
    intro r t a n g l0 hO hr ha e
    obtain ⟨c, h1, h2⟩ := hO
    have hlen : l.length = n := by rw [e]; simp; omega
    rcases h2 with ⟨rfl, ad, rfl⟩ | ⟨b, o, sz, cur, h3, h4, rfl, h6, h7⟩
    · obtain rfl : n = 0 := by omega
      exact ⟨ad, 0, by rw [hlen], by omega, .inl (List.eq_nil_of_length_eq_zero hlen)⟩
    · obtain ⟨sz', h8, h9, h10⟩ := H.ob r _ hr
      rw [h4] at h8
      obtain rfl := Option.some.inj h8
      simp only [h3] at h10
      obtain ⟨cur', h11, h12, h13⟩ := h10
      rw [h6] at h11
      obtain rfl : cur = cur' := by
        have := Option.some.inj h11
        injection this
      refine ⟨_, c, by rw [hlen], by omega, .inr ⟨b, _, sz, cur, t, _, rfl, h6, ?_⟩⟩
      have hget : ∀ (i : Nat) (cs : List A), l[i]? = some cs → l0[a + i]? = some cs := by
        intro i cs hi
        rw [e, List.getElem?_drop, List.getElem?_take] at hi
        split at hi
        · exact hi
        · cases hi
      refine ⟨fun i cs hi => h12.len _ _ (hget i cs hi), fun i cs j x hi hj => ?_⟩
      obtain ⟨u, hu1, hu2⟩ := h12.at_ _ _ _ _ (hget i cs hi) hj
      refine ⟨u, ?_, hu2⟩
      rw [← hu1]
      congr 1
      rw [Nat.add_mul]
      omega
  have fromIV : ∀ l', IV Z w (.sl l') v → l = l' → ∃ ad c, v = .slice ad l.length c ∧ l.length ≤ c ∧ (l = [] ∨ ∃ b o sz cur t fr, ad = some ⟨b, o, none⟩ ∧ w.heap[b]? = some (.cells cur t fr) ∧ Lay (IV Z w) sz cur o l) := by
    rintro l' hI rfl
    obtain ⟨ad, c, h1, h2, h3⟩ := hI.lay
    refine ⟨ad, c, h1, h2, ?_⟩
    rcases h3 with h3 | ⟨b, o, sz, cur, t, fr, q1, q2, q3, q4⟩
    · exact .inl h3
    · exact .inr ⟨b, o, sz, cur, t, fr, q1, q3, q4⟩
  cases x with
  | sl l' =>
    obtain rfl := Option.some.inj hv
    exact fromIV _ h rfl
  | nil =>
    obtain rfl := Option.some.inj hv
    obtain ⟨ad, rfl⟩ := (show ∃ ad, v = .slice ad 0 0 from h)
    exact ⟨ad, 0, rfl, Nat.le_refl _, .inl rfl⟩
  | ref r g =>
    obtain ⟨h0, h1, h2, _⟩ := (h : CR P hp μ Z w (.ref r g) v)
    simp only [Vm.view] at hv
    split at hv
    · rename_i t g' l' hr
      split at hv
      · rename_i e
        obtain rfl := Option.some.inj hv
        exact fromOver r t 0 l'.length g' l' ((h1 t g' l' hr).2 e) hr (by omega) (by simp)
      · cases hv
    · rename_i g' l' hr
      split at hv
      · rename_i e
        obtain rfl := Option.some.inj hv
        exact fromIV _ ((h2 g' l' hr).2 e) rfl
      · cases hv
    · cases hv
  | sub r g a e =>
    obtain ⟨h0, h1, h2, _⟩ := (h : CR P hp μ Z w (.sub r g a e) v)
    simp only [Vm.view] at hv
    split at hv
    · rename_i t g' l' hr
      split at hv
      · rename_i e'
        obtain rfl := Option.some.inj hv
        obtain ⟨q1, q2, q3⟩ := (h1 t g' l' hr).2 e'
        exact fromOver r t a (e - a) g' l' q3 hr (by omega) (by rw [show a + (e - a) = e by omega])
      · cases hv
    · rename_i g' l' hr
      split at hv
      · rename_i e'
        obtain rfl := Option.some.inj hv
        exact fromIV _ ((h2 g' l' hr).2 e').2.2 rfl
      · cases hv
    · cases hv
  | _ => simp [Vm.view] at hv

/-! #### a new block -/
theorem HR.newBox (H : HR P Z0 w0 hp μ Z w) {t : TypeId} {cs : List A} {cur : Array Value} (hbel : Below w.heap.size w w') (hnew : w'.heap[w.heap.size]? = some (.cells cur t (0, 0))) (hc : CRs P hp μ Z w cs cur.toList) :
    ∃ μ', HR P Z0 w0 (hp ++ [.box t cs]) μ' Z w' ∧ Ext P hp μ Z w (hp ++ [.box t cs]) μ' Z w' ∧ CR P (hp ++ [.box t cs]) μ' Z w' (.ptr hp.length 0 0 0) (.pointer (some ⟨w.heap.size, 0, none⟩)) := by
  have hlt : w.heap.size < w'.heap.size := (Array.getElem?_eq_some_iff.1 hnew).1
  obtain ⟨H', E⟩ := H.push (o' := .box t cs) (m' := some (w.heap.size, 0)) (w' := w') (H.below.trans (hbel.mono H.below.size)) hbel.size (fun k hk => hbel.block k hk)
    (by rintro b o e; cases e; exact ⟨Nat.le_refl _, hlt⟩)
    (fun E => ⟨w.heap.size, cur, by simp, hnew, hc.ext E⟩)
  refine ⟨_, H', E, by simp, ?_, ?_, rfl⟩
  · intro t' g' l' h
    simp at h
  · intro t' cs' h
    simp at h
    obtain ⟨rfl, rfl⟩ := h
    exact ⟨rfl, Nat.zero_le _, w.heap.size, by simp, rfl⟩

theorem HR.newRow (H : HR P Z0 w0 hp μ Z w) {t : TypeId} {l : List (List A)} {cur : Array Value} {sz c : Nat} {cs post : List Value} (hbel : Below w.heap.size w w') (hnew : w'.heap[w.heap.size]? = some (.cells cur t (0, 0)))
    (hs : szOf P t = some sz) (hl : LayL (IV Z w) sz cs l) (hcur : cur.toList = cs ++ post) (hc : l.length ≤ c) (hcap : c * sz ≤ cur.size) :
    ∃ μ', HR P Z0 w0 (hp ++ [.row t 0 l]) μ' Z w' ∧ Ext P hp μ Z w (hp ++ [.row t 0 l]) μ' Z w' ∧ CR P (hp ++ [.row t 0 l]) μ' Z w' (.ref hp.length 0) (.slice (some ⟨w.heap.size, 0, none⟩) l.length c) := by
  have hlt : w.heap.size < w'.heap.size := (Array.getElem?_eq_some_iff.1 hnew).1
  obtain ⟨H', E⟩ := H.push (o' := .row t 0 l) (m' := some (w.heap.size, 0)) (w' := w') (H.below.trans (hbel.mono H.below.size)) hbel.size (fun k hk => hbel.block k hk)
    (by rintro b o e; cases e; exact ⟨Nat.le_refl _, hlt⟩)
    (fun E => by
      refine ⟨sz, hs, hl.len, ?_⟩
      simp only [if_true]
      have := (hl.imp (R' := IV Z w') (fun x v h => h.mono E.z E.zh)).lay (cur := cur) (pre := []) (post := post) (o := 0) (by simpa using hcur) rfl
      exact ⟨cur, hnew, this.1, by simpa using this.2⟩)
  refine ⟨_, H', E, by simp, ?_, ?_, rfl⟩
  · intro t' g' l' h
    simp at h
    obtain ⟨rfl, rfl, rfl⟩ := h
    exact ⟨Nat.le_refl _, fun _ => ⟨c, hc, .inr ⟨w.heap.size, 0, sz, cur, by simp, hs, by simp, hnew, by simpa using hcap⟩⟩⟩
  · intro g' l' h
    simp at h

theorem below_alloc' (w : World) (o : Obj) : Below w.heap.size w (w.alloc o) := (Below.refl _ w).alloc (Nat.le_refl _) o

/-- zero cells -/
def zeroA (P : Program) (t : TypeId) : Option (List A) :=
  match (P.info? t).bind (·.zero) with
  | some z => if z.cells.toList.all (·.oneCell') = true then some (z.cells.toList.map toA) else none
  | none => none

theorem zeroA_run {t : TypeId} {cs : List A} (h : zeroA P t = some cs) (w : World) : ∃ z, (zeroValue t).run P w = .ok z w ∧ CRs P hp μ Z w cs z.cells.toList := by
  unfold zeroA at h
  split at h
  · rename_i z hz
    split at h
    · rename_i h1
      obtain rfl := Option.some.inj h
      obtain ⟨i, hi, hz⟩ := Option.bind_eq_some_iff.1 hz
      refine ⟨z, by simp [zeroValue, typeInfo, hi, hz], by simp, fun j x hj => ?_⟩
      rw [List.getElem?_map] at hj
      obtain ⟨u, hu, rfl⟩ := Option.map_eq_some_iff.1 hj
      exact ⟨u, hu, toA_cr (List.all_eq_true.1 h1 u (List.mem_of_getElem? hu))⟩
    · cases h
  · cases h

theorem run_newVar (t : TypeId) (v : Value) (w : World) : (newVar t v).run P w = .ok ⟨w.heap.size, 0, none⟩ (w.alloc (.cells v.cells t)) := by
  simp [newVar, newRow]

theorem op_alloc {t : TypeId} {cs : List A} (ho : o.op = .alloc t) (hz : zeroA P t = some cs) (h : N (St.put ⟨st.tm, st.hp ++ [.box t cs]⟩ o.dst (.ptr st.hp.length 0 0 0))) : OpS P C o st N :=
  OpS.blk h fun a w μ Z R => by
    obtain ⟨z, h1, h2⟩ := zeroA_run (P := P) (hp := st.hp) (μ := μ) (Z := Z) hz w
    obtain ⟨μ', H', E, C⟩ := R.hr.newBox (t := t) (below_alloc' w (.cells z.cells t)) (heap_alloc_new w _) h2
    refine ⟨_, _, μ', Z, .inl ?_, H', E, UR.of_CR C⟩
    simp [execOp, ho, Instr.alloc, h1, run_newVar]

def cellsA : A → Option (List A)
  | .agg l => some l
  | .tup _ => none
  | .undef => none
  | x => some [x]

theorem UR.cells {x : A} {v : Value} {cs : List A} (hx : UR P hp μ Z w x v) (hc : cellsA x = some cs) : CRs P hp μ Z w cs v.cells.toList := by
  cases x with
  | agg l =>
    obtain rfl := Option.some.inj hc
    obtain ⟨vs, rfl, h⟩ := (show ∃ vs, v = .agg vs ∧ CRs P hp μ Z w l vs.toList from hx)
    exact h
  | tup l => cases hc
  | undef => cases hc
  | _ =>
    obtain rfl := Option.some.inj hc
    simp only [UR, TR] at hx
    have hcr := hx
    have hv : v.cells = #[v] := by
      have := hcr.one
      cases v <;> first | rfl | simp [Value.oneCell'] at this
    rw [hv]
    refine ⟨rfl, fun j y hj => ?_⟩
    cases j with
    | zero => simp at hj; subst hj; exact ⟨v, rfl, hcr⟩
    | succ j => simp at hj

theorem op_box {t : TypeId} {x : Operand} {cs : List A} (ho : o.op = .box t x) (hc : cellsA (st.ev x) = some cs) (h : N (St.put ⟨st.tm, st.hp ++ [.box t cs]⟩ o.dst (.ptr st.hp.length 0 0 0))) : OpS P C o st N :=
  OpS.blk h fun a w μ Z R => by
    obtain ⟨μ', H', E, C⟩ := R.hr.newBox (t := t) (below_alloc' w (.cells (a.eval x).cells t)) (heap_alloc_new w _) ((R.ev x).cells hc)
    refine ⟨_, _, μ', Z, .inl ?_, H', E, UR.of_CR C⟩
    simp [execOp, ho, Instr.box, run_newVar]
end
end Go.Vm
