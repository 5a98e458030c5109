/- A part of a proof that statements of this seat hold of the given program; no conditions but the statements' own. -/
import Derived.Test.YtekojicaeadepaaZee80f29355
set_option linter.unusedVariables false
set_option linter.unusedSimpArgs false
/- A machine of values: what is appended. -/
namespace Go.Vm
open Go.RowKit
set_option linter.unusedVariables false
set_option linter.unusedSimpArgs false
section
variable {P : Program} {C : Ctx} {Z0 : Nat → Prop} {w0 : Base} {hp hp' : List Ob} {μ μ' : Mu} {Z Z' : Nat → Prop} {w w' : World} {st : St} {a : Act} {o : Oper} {N : St → Prop}

theorem run_append_zero {t ty e : TypeId} {m : Nat} (ht : P.underlying t = some (.slice e)) (hm : szOf P e = some m) {ad ad2 : Option Addr} {n c c2 : Nat} (h : n ≤ c) :
    (Builtin.append_ #[t, t] ty #[.slice ad n c, .slice ad2 0 c2]).run P w = .ok (.slice ad n c) w := by
  cases ad <;> cases ad2 <;> simp [Builtin.append_, run_underlying ht, run_sizeOf hm, Builtin.lenOf, Builtin.firstCells, h, loadCells, loadCellsFrom, storeCells]

def appendA (hp : List Ob) (e : TypeId) (x : A) (ys : List (List A)) : Option (List Ob × A) :=
  match x with
  | .nil => some (hp ++ [.row e 0 ys], .ref hp.length 0)
  | .ref r g => match hp[r]? with
    | some (.row t g' l) => if g = g' ∧ t = e then some (hp.set r (.row e (g + 1) (l ++ ys)), .ref r (g + 1)) else none
    | _ => none
  | .sub r g a b => match hp[r]? with
    | some (.row t g' l) => if g = g' ∧ t = e then some (hp.set r (.row e (g + 1) ((l.take b).drop a ++ ys)), .ref r (g + 1)) else none
    | _ => none
  | _ => none

/-- what a type says that is appended to -/
structure Elt (P : Program) (t e : TypeId) (m bytes : Nat) : Prop where
  u : P.underlying t = some (.slice e)
  i : ∃ i z, P.info? e = some i ∧ i.zero = some z ∧ i.size = m ∧ i.bytes = bytes ∧ z.cells.size = m
  pos : 0 < m

theorem Elt.sz {t e : TypeId} {m bytes : Nat} (h : Elt P t e m bytes) : szOf P e = some m := by
  obtain ⟨i, z, h1, h2, h3, h4, h5⟩ := h.i
  simp [szOf, h1, h3]

theorem ref_self {r g : Nat} {t : TypeId} {l : List (List A)} {v : Value} (hlt : r < hp.length) (h : Over P μ w r t 0 l.length v) (h1 : v.oneCell' = true) (hr : hp[r]? = some (.row t g l)) : CR P hp μ Z w (.ref r g) v := by
  refine ⟨hlt, ?_, ?_, h1⟩
  · intro t' g' l' hr'
    rw [hr] at hr'
    cases hr'
    exact ⟨Nat.le_refl _, fun _ => h⟩
  · intro g' l' hr'
    rw [hr] at hr'
    cases hr'

/-- append to a row of the call's own, or to a part of it -/
theorem HR.append (H : HR P Z0 w0 hp μ Z w) {t e ty : TypeId} {m bytes : Nat} (T : Elt P t e m bytes) {r g0 p n : Nat} {l : List (List A)} {v v2 : Value} {y : A} {ys : List (List A)}
    (hr : hp[r]? = some (.row e g0 l)) (hpn : p + n ≤ l.length) (hO : Over P μ w r e p n v) (hy : UR P hp μ Z w y v2) (hv : Vm.view hp y = some ys) (hys : ∀ c ∈ ys, c.length = m)
    (hb : (n + ys.length) * bytes ≤ 140737488355328) (h63 : n + ys.length ≤ maxLen) :
    ∃ v' w' μ', (Builtin.append_ #[t, t] ty #[v, v2]).run P w = .ok v' w' ∧ HR P Z0 w0 (hp.set r (.row e (g0 + 1) ((l.take (p + n)).drop p ++ ys))) μ' Z w' ∧
      Ext P hp μ Z w (hp.set r (.row e (g0 + 1) ((l.take (p + n)).drop p ++ ys))) μ' Z w' ∧ CR P (hp.set r (.row e (g0 + 1) ((l.take (p + n)).drop p ++ ys))) μ' Z w' (.ref r (g0 + 1)) v' := by
  have hlive : Live hp r := .inl ⟨e, g0, l, hr⟩
  have hlt : r < hp.length := (List.getElem?_eq_some_iff.1 hr).1
  obtain ⟨i, z, hi, hz, hsize, hby, hzs⟩ := T.i
  have hm := T.sz
  have hlen : ((l.take (p + n)).drop p).length = n := by simp; omega
  obtain ⟨ad2, c2, rfl, hc2, hy2⟩ := H.elems hv hy
  -- the new elements' cells
  have hnews : ∃ news, LayL (IV Z w) m news ys ∧ (ys = [] ∨ ∃ z2, ad2 = some z2 ∧ ∀ (j : Nat) (u : Value), news[j]? = some u → w.cell? (z2.add j) = some u) := by
    rcases hy2 with rfl | ⟨b, o, sz, cur, t', fr, rfl, q1, q2⟩
    · exact ⟨[], LayL.nil, .inl rfl⟩
    · obtain ⟨cs, q3, q4⟩ := q2.cells
      by_cases h0 : ys = []
      · subst h0
        exact ⟨[], LayL.nil, .inl rfl⟩
      · have hsz : sz = m := by
          cases ys with
          | nil => exact absurd rfl h0
          | cons c ys => rw [← q2.len 0 c rfl]; exact hys c (by simp)
        subst hsz
        exact ⟨cs, q3, .inr ⟨_, rfl, fun j u hj => cell_of q1 (q4 j u hj)⟩⟩
  obtain ⟨news, hL, hcell⟩ := hnews
  -- a block's word anew, with the new cells in place
  have fin : ∀ (v' : Value) (w' : World) (m' : Option (Nat × Nat)), (Builtin.append_ #[t, t] ty #[v, .slice ad2 ys.length c2]).run P w = .ok v' w' → v'.oneCell' = true →
      Bel w0 w' → w.heap.size ≤ w'.heap.size → (∀ k, k < w.heap.size → (∀ o, μ r ≠ some (k, o)) → w'.heap[k]? = w.heap[k]?) →
      (∀ b o, m' = some (b, o) → (∃ o0, μ r = some (b, o0)) ∨ (w.heap.size ≤ b ∧ b < w'.heap.size)) →
      ((m' = none → (l.take (p + n)).drop p ++ ys = []) ∧ ∀ b o, m' = some (b, o) → ∃ cur, w'.heap[b]? = some (.cells cur e (0, 0)) ∧ Lay (IV Z w) m cur o ((l.take (p + n)).drop p ++ ys) ∧ o + ((l.take (p + n)).drop p ++ ys).length * m ≤ cur.size) →
      Over P (fun q => if q = r then m' else μ q) w' r e 0 ((l.take (p + n)).drop p ++ ys).length v' →
      ∃ v' w' μ', (Builtin.append_ #[t, t] ty #[v, .slice ad2 ys.length c2]).run P w = .ok v' w' ∧ HR P Z0 w0 (hp.set r (.row e (g0 + 1) ((l.take (p + n)).drop p ++ ys))) μ' Z w' ∧
        Ext P hp μ Z w (hp.set r (.row e (g0 + 1) ((l.take (p + n)).drop p ++ ys))) μ' Z w' ∧ CR P (hp.set r (.row e (g0 + 1) ((l.take (p + n)).drop p ++ ys))) μ' Z w' (.ref r (g0 + 1)) v' := by
    intro v' w' m' hrun hone hbel hsz hoth hmm hob hov
    obtain ⟨sz', h8, h9, _⟩ := H.ob r _ hr
    rw [hm] at h8
    obtain rfl := Option.some.inj h8
    obtain ⟨H2, E2⟩ := H.upd (r := r) (o' := .row e (g0 + 1) ((l.take (p + n)).drop p ++ ys)) (m' := m') (w' := w') hlive hbel hsz hoth hmm
      (by rintro t' g' l' ee; cases ee; exact .inr ⟨e, g0, l, hr, Nat.lt_succ_self _⟩)
      (by intro _ _ ee; cases ee) (by intro _ _ ee; cases ee)
      (fun E => by
        refine ⟨m, hm, ?_, ?_⟩
        · intro k c hk
          rcases List.mem_append.1 (List.mem_of_getElem? hk) with h | h
          · obtain ⟨q, hq, rfl⟩ := List.getElem_of_mem (List.mem_of_mem_take (List.mem_of_mem_drop h))
            exact h9 q _ (List.getElem?_eq_getElem hq)
          · exact hys c h
        · simp only [if_true]
          cases m' with
          | none => exact hob.1 rfl
          | some bo =>
            obtain ⟨b, o⟩ := bo
            obtain ⟨cur, q1, q2, q3⟩ := hob.2 b o rfl
            exact ⟨cur, q1, q2.imp (fun x v h => h.mono E.z E.zh), q3⟩)
    exact ⟨v', w', _, hrun, H2, E2, ref_self (by simpa using hlt) hov hone (by simp [hlt])⟩
  obtain ⟨c, hnc, hO2⟩ := hO
  by_cases hk : ys = []
  · -- nothing is appended
    subst hk
    have hrunz : ∀ ad, (Builtin.append_ #[t, t] ty #[.slice ad n c, .slice ad2 ([] : List (List A)).length c2]).run P w = .ok (.slice ad n c) w := fun ad => run_append_zero T.u hm hnc
    rcases hO2 with ⟨rfl, ad, rfl⟩ | ⟨b, o, sz, cur, h3, h4, rfl, h6, h7⟩
    · obtain rfl : n = 0 := by omega
      have hnil : (l.take (p + 0)).drop p ++ ([] : List (List A)) = [] := by
        rw [List.append_nil]
        exact List.eq_nil_of_length_eq_zero hlen
      exact fin _ w none (hrunz ad) rfl H.below (Nat.le_refl _) (fun _ _ _ => rfl) (by intro _ _ e; cases e) ⟨fun _ => hnil, by intro _ _ e; cases e⟩ (by rw [hnil]; exact ⟨0, Nat.le_refl _, .inl ⟨rfl, ad, rfl⟩⟩)
    · rw [hm] at h4
      obtain rfl := Option.some.inj h4
      obtain ⟨sz', h8, h9, h10⟩ := H.ob r _ hr
      rw [hm] at h8
      obtain rfl := Option.some.inj h8
      simp only [h3] at h10
      obtain ⟨cur', h11, h12, h13⟩ := h10
      rw [h6] at h11
      obtain rfl : cur = cur' := by
        have := Option.some.inj h11
        injection this
      refine fin _ w (some (b, o + p * m)) (hrunz _) rfl H.below (Nat.le_refl _) (fun _ _ _ => rfl) (by rintro b' o' ee; cases ee; exact .inl ⟨o, h3⟩) ⟨(by intro ee; cases ee), ?_⟩ ?_
      · rintro b' o' ee
        cases ee
        rw [List.append_nil, hlen]
        refine ⟨cur, h6, ?_, ?_⟩
        · have hget : ∀ (i : Nat) (cs : List A), ((l.take (p + n)).drop p)[i]? = some cs → l[p + i]? = some cs := by
            intro i cs hi
            rw [List.getElem?_drop, List.getElem?_take] at hi
            split at hi
            · exact hi
            · cases hi
          refine ⟨fun i cs hi => h12.len _ _ (hget i cs hi), fun i cs j x hi hj => ?_⟩
          obtain ⟨u, hu1, hu2⟩ := h12.at_ _ _ _ _ (hget i cs hi) hj
          refine ⟨u, ?_, hu2⟩
          rw [← hu1]
          congr 1
          rw [Nat.add_mul]
          omega
        · have : n * m ≤ c * m := Nat.mul_le_mul_right _ hnc
          rw [Nat.add_mul] at h7
          omega
      · rw [List.append_nil, hlen]
        exact ⟨c, hnc, .inr ⟨b, o + p * m, m, cur, by simp, hm, by simp, h6, by rw [Nat.zero_add]; rw [Nat.add_mul] at h7; omega⟩⟩
  · have hkpos : 0 < ys.length := List.length_pos_iff.2 hk
    obtain ⟨z2, rfl, hce⟩ := hcell.resolve_left hk
    have hlenall : ((l.take (p + n)).drop p ++ ys).length = n + ys.length := by rw [List.length_append, hlen]
    -- a new block
    have fresh : ∀ (olds : List Value) (cap : Nat), LayL (IV Z w) m olds ((l.take (p + n)).drop p) → cap < n + ys.length →
        (Builtin.append_ #[t, t] ty #[v, .slice (some z2) ys.length c2]).run P w = .ok (.slice (some ⟨w.heap.size, 0, none⟩) (n + ys.length) (grownCap w (n + ys.length) cap e))
          (w.drew.alloc (.cells (olds.toArray ++ news.toArray ++ Builtin.zeroCells z.cells (grownCap w (n + ys.length) cap e - (n + ys.length))) e)) →
        ∃ v' w' μ', (Builtin.append_ #[t, t] ty #[v, .slice (some z2) ys.length c2]).run P w = .ok v' w' ∧ HR P Z0 w0 (hp.set r (.row e (g0 + 1) ((l.take (p + n)).drop p ++ ys))) μ' Z w' ∧
          Ext P hp μ Z w (hp.set r (.row e (g0 + 1) ((l.take (p + n)).drop p ++ ys))) μ' Z w' ∧ CR P (hp.set r (.row e (g0 + 1) ((l.take (p + n)).drop p ++ ys))) μ' Z w' (.ref r (g0 + 1)) v' := by
      intro olds cap hLo hcap hrun
      have hge := grownCap_ge w (n + ys.length) cap e
      have hLL := hLo.app hL
      have hbel : Below w.heap.size w (w.drew.alloc (.cells (olds.toArray ++ news.toArray ++ Builtin.zeroCells z.cells (grownCap w (n + ys.length) cap e - (n + ys.length))) e)) := ((Below.refl _ w).drew).alloc (Nat.le_refl _) _
      refine fin _ _ (some (w.heap.size, 0)) hrun rfl (H.below.later hbel) hbel.size (fun k hk _ => hbel.block k hk) (by rintro b o ee; cases ee; exact .inr ⟨Nat.le_refl _, by simp⟩) ⟨(by intro ee; cases ee), ?_⟩ ?_
      · rintro b o ee
        cases ee
        have := hLL.lay (cur := olds.toArray ++ news.toArray ++ Builtin.zeroCells z.cells (grownCap w (n + ys.length) cap e - (n + ys.length))) (pre := []) (post := (Builtin.zeroCells z.cells (grownCap w (n + ys.length) cap e - (n + ys.length))).toList) (o := 0) (by simp) rfl
        exact ⟨_, heap_alloc_new w.drew _, this.1, this.2⟩
      · rw [hlenall]
        refine ⟨grownCap w (n + ys.length) cap e, hge, .inr ⟨w.heap.size, 0, m, _, by simp, hm, by simp, heap_alloc_new w.drew _, ?_⟩⟩
        rw [Nat.zero_add, Nat.zero_add]
        simp only [Array.size_append, List.size_toArray, size_zeroCells, hzs, hLo.n, hL.n, hlen, ← Nat.add_mul]
        exact Nat.mul_le_mul_right _ (by omega)
    have hbytes : (n + ys.length) * i.bytes ≤ 140737488355328 := by rw [hby]; exact hb
    have h63' : n + ys.length ≤ 9223372036854775807 := by simp only [maxLen] at h63; omega
    rcases hO2 with ⟨rfl, ad, rfl⟩ | ⟨b, o, sz, cur, h3, h4, rfl, h6, h7⟩
    · obtain rfl : n = 0 := by omega
      have hnil : (l.take (p + 0)).drop p = [] := List.eq_nil_of_length_eq_zero hlen
      cases ad with
      | none =>
        have hr := run_append_nil (P := P) w t ty e i z T.u hi hz z2 ys.length c2 news (by rw [hsize]; exact hL.n) hce hkpos (by omega) (by rw [Nat.zero_add] at hbytes; omega)
        refine fresh [] 0 (by rw [hnil]; exact LayL.nil) (by omega) ?_
        rw [hr]
        simp
      | some b =>
        have hr := run_append_grow (P := P) w t ty e i z T.u hi hz b 0 0 [] (by simp) (by simp) z2 ys.length c2 news (by rw [hsize]; exact hL.n) hce (by omega) (by omega) (growslice_fits (by omega) hbytes)
        exact fresh [] 0 (by rw [hnil]; exact LayL.nil) (by omega) hr
    · rw [hm] at h4
      obtain rfl := Option.some.inj h4
      obtain ⟨sz', h8, h9, h10⟩ := H.ob r _ hr
      rw [hm] at h8
      obtain rfl := Option.some.inj h8
      simp only [h3] at h10
      obtain ⟨cur', h11, h12, h13⟩ := h10
      rw [h6] at h11
      obtain rfl : cur = cur' := by
        have := Option.some.inj h11
        injection this
      have hLay : Lay (IV Z w) m cur (o + p * m) ((l.take (p + n)).drop p) := by
        have hget : ∀ (i : Nat) (cs : List A), ((l.take (p + n)).drop p)[i]? = some cs → l[p + i]? = some cs := by
          intro i cs hi
          rw [List.getElem?_drop, List.getElem?_take] at hi
          split at hi
          · exact hi
          · cases hi
        refine ⟨fun i cs hi => h12.len _ _ (hget i cs hi), fun i cs j x hi hj => ?_⟩
        obtain ⟨u, hu1, hu2⟩ := h12.at_ _ _ _ _ (hget i cs hi) hj
        refine ⟨u, ?_, hu2⟩
        rw [← hu1]
        congr 1
        rw [Nat.add_mul]
        omega
      obtain ⟨olds, hLo, holds⟩ := hLay.cells
      by_cases hroom : n + ys.length ≤ c
      · -- in place
        have hfit : o + p * m + n * m + news.length ≤ cur.size := by
          rw [hL.n]
          have : (n + ys.length) * m ≤ c * m := Nat.mul_le_mul_right _ hroom
          rw [Nat.add_mul] at this h7
          omega
        have hst := run_storeCells_at (P := P) b (o + p * m + n * m) e news 0 cur w h6 (by omega) hL.one
        have hf := run_firstCells_some (P := P) w m ys.length z2 ys.length c2 news hL.n hce
        have hrun : (Builtin.append_ #[t, t] ty #[.slice (some ⟨b, o + p * m, none⟩) n c, .slice (some z2) ys.length c2]).run P w =
            .ok (.slice (some ⟨b, o + p * m, none⟩) (n + ys.length) c) (w.setRow b (splice cur.toList (o + p * m + n * m) news).toArray) := by
          simp only [Nat.add_zero] at hst
          simp [Builtin.append_, run_underlying T.u, run_sizeOf hm, Builtin.lenOf, hroom, hf, addr_add, hst, splice]
        have hown := H.own r b o hlive h3
        refine fin _ _ (some (b, o + p * m)) hrun rfl (H.below.setRow hown.1) (by simp) (fun k hk hne => setRow_other w b k _ (fun ee => hne o (ee ▸ h3))) (by rintro b' o' ee; cases ee; exact .inl ⟨o, h3⟩) ⟨(by intro ee; cases ee), ?_⟩ ?_
        · rintro b' o' ee
          cases ee
          refine ⟨_, setRow_heap w b cur _ e _ h6, ?_⟩
          have hLL := hLo.app hL
          refine hLL.lay (pre := cur.toList.take (o + p * m)) (post := cur.toList.drop (o + p * m + n * m + news.length)) ?_ (by rw [List.length_take, Array.length_toList]; omega)
          apply List.ext_getElem?
          intro q
          have holen : olds.length = n * m := by rw [hLo.n, hlen]
          have hfit2 : o + p * m + n * m + news.length ≤ cur.toList.length := by rw [Array.length_toList]; exact hfit
          rw [show (splice cur.toList (o + p * m + n * m) news).toArray.toList = splice cur.toList (o + p * m + n * m) news from rfl, splice_get hfit2]
          have e1 : cur.toList.take (o + p * m) ++ (olds ++ news) ++ cur.toList.drop (o + p * m + n * m + news.length) = splice cur.toList (o + p * m) (olds ++ news) := by
            unfold splice
            rw [List.length_append, holen, Nat.add_assoc (o + p * m)]
          rw [e1, splice_get (by rw [List.length_append, holen]; omega), List.length_append, holen]
          by_cases a1 : q < o + p * m
          · rw [if_pos (by omega), if_pos a1]
          · rw [if_neg a1]
            by_cases a2 : q < o + p * m + n * m
            · rw [if_pos a2, if_pos (by omega), List.getElem?_append_left (by omega)]
              have hq : q - (o + p * m) < olds.length := by omega
              have := holds (q - (o + p * m)) olds[q - (o + p * m)] (List.getElem?_eq_getElem hq)
              rw [List.getElem?_eq_getElem hq, Array.getElem?_toList, ← this]
              congr 1
              omega
            · rw [if_neg a2]
              by_cases a3 : q < o + p * m + n * m + news.length
              · rw [if_pos a3, if_pos (by omega), List.getElem?_append_right (by omega)]
                congr 1
                omega
              · rw [if_neg a3, if_neg (by omega)]
        · rw [hlenall]
          refine ⟨c, hroom, .inr ⟨b, o + p * m, m, _, by simp, hm, by simp, setRow_heap w b cur _ e _ h6, ?_⟩⟩
          rw [List.size_toArray, splice_length (by rw [Array.length_toList]; exact hfit), Array.length_toList, Nat.zero_add]
          rw [Nat.add_mul] at h7
          omega
      · have hr := run_append_grow (P := P) w t ty e i z T.u hi hz ⟨b, o + p * m, none⟩ n c olds (by rw [hsize, hLo.n, hlen]) (fun j u hj => cell_of h6 (holds j u hj)) z2 ys.length c2 news (by rw [hsize]; exact hL.n) hce (by omega) (by omega) (growslice_fits (by omega) hbytes)
        exact fresh olds c hLo (by omega) hr

/-- append where there is no room: to nothing -/
theorem HR.append0 (H : HR P Z0 w0 hp μ Z w) {t e ty : TypeId} {m bytes : Nat} (T : Elt P t e m bytes) {ad : Option Addr} {v2 : Value} {y : A} {ys : List (List A)}
    (hy : UR P hp μ Z w y v2) (hv : Vm.view hp y = some ys) (hys : ∀ c ∈ ys, c.length = m) (hb : ys.length * bytes ≤ 140737488355328) (h63 : ys.length ≤ maxLen) :
    ∃ v' w' μ', (Builtin.append_ #[t, t] ty #[.slice ad 0 0, v2]).run P w = .ok v' w' ∧ HR P Z0 w0 (hp ++ [.row e 0 ys]) μ' Z w' ∧ Ext P hp μ Z w (hp ++ [.row e 0 ys]) μ' Z w' ∧ CR P (hp ++ [.row e 0 ys]) μ' Z w' (.ref hp.length 0) v' := by
  obtain ⟨i, z, hi, hz, hsize, hby, hzs⟩ := T.i
  have hm := T.sz
  obtain ⟨ad2, c2, rfl, hc2, hy2⟩ := H.elems hv hy
  by_cases hk : ys = []
  · subst hk
    obtain ⟨H', E⟩ := H.push (o' := .row e 0 []) (m' := none) (w' := w) H.below (Nat.le_refl _) (fun _ _ => rfl) (by intro _ _ ee; cases ee) (fun E => ⟨m, hm, by simp, by simp⟩)
    exact ⟨_, w, _, run_append_zero T.u hm (Nat.le_refl _), H', E, ref_self (t := e) (l := []) (by simp) ⟨0, Nat.le_refl _, .inl ⟨rfl, ad, rfl⟩⟩ rfl (by simp)⟩
  · have hkpos : 0 < ys.length := List.length_pos_iff.2 hk
    rcases hy2 with rfl | ⟨b, o, sz, cur, t', fr, rfl, q1, q2⟩
    · exact absurd rfl hk
    · obtain ⟨news, q3, q4⟩ := q2.cells
      have hsz : sz = m := by
        cases ys with
        | nil => exact absurd rfl hk
        | cons c ys => rw [← q2.len 0 c rfl]; exact hys c (by simp)
      subst hsz
      have hce : ∀ (j : Nat) (u : Value), news[j]? = some u → w.cell? ((⟨b, o, none⟩ : Addr).add j) = some u := fun j u hj => cell_of q1 (q4 j u hj)
      have hbytes : ys.length * i.bytes ≤ 140737488355328 := by rw [hby]; exact hb
      have h63' : ys.length ≤ 9223372036854775807 := by simp only [maxLen] at h63; omega
      have hge := grownCap_ge w ys.length 0 e
      have key : (Builtin.append_ #[t, t] ty #[.slice ad 0 0, .slice (some ⟨b, o, none⟩) ys.length c2]).run P w = .ok (.slice (some ⟨w.heap.size, 0, none⟩) ys.length (grownCap w ys.length 0 e)) (w.drew.alloc (.cells (news.toArray ++ Builtin.zeroCells z.cells (grownCap w ys.length 0 e - ys.length)) e)) := by
        cases ad with
        | none => exact run_append_nil (P := P) w t ty e i z T.u hi hz _ ys.length c2 news (by rw [hsize]; exact q3.n) hce hkpos (by omega) (by omega)
        | some b' =>
          have := run_append_grow (P := P) w t ty e i z T.u hi hz b' 0 0 [] (by simp) (by simp) _ ys.length c2 news (by rw [hsize]; exact q3.n) hce (by omega) (by omega) (growslice_fits (by omega) (by rw [Nat.zero_add]; exact hbytes))
          simpa using this
      have hbel : Below w.heap.size w (w.drew.alloc (.cells (news.toArray ++ Builtin.zeroCells z.cells (grownCap w ys.length 0 e - ys.length)) e)) := ((Below.refl _ w).drew).alloc (Nat.le_refl _) _
      obtain ⟨μ', H', E, C⟩ := H.newRow (c := grownCap w ys.length 0 e) (post := (Builtin.zeroCells z.cells (grownCap w ys.length 0 e - ys.length)).toList) hbel (heap_alloc_new w.drew _) hm q3 (by simp) hge (by
        simp only [Array.size_append, List.size_toArray, size_zeroCells, hzs, q3.n, ← Nat.add_mul]
        exact Nat.mul_le_mul_right _ (by omega))
      exact ⟨_, _, μ', key, H', E, C⟩

/-- how long the first row is -/
theorem op_append {t e : TypeId} {x y : Operand} {m bytes n : Nat} {ys : List (List A)} {hp' : List Ob} {r : A} (ho : o.op = .call { callee := .builtin .append, args := #[x, y], argTypes := #[t, t] }) (T : Elt P t e m bytes)
    (hn : lenA st.hp (st.ev x) = some n) (hv : view st.hp (st.ev y) = some ys) (hys : ∀ c ∈ ys, c.length = m) (hb : (n + ys.length) * bytes ≤ 140737488355328) (h63 : n + ys.length ≤ maxLen)
    (ha : appendA st.hp e (st.ev x) ys = some (hp', r)) (h : N (St.put ⟨st.tm, hp'⟩ o.dst r)) : OpS P C o st N :=
  OpS.blk h fun a w μ Z R => by
    have hy := R.ev y
    have hx := R.ev x
    have go : ∀ v' w' (r' : A) hp' μ', (Builtin.append_ #[t, t] o.type #[a.eval x, a.eval y]).run P w = .ok v' w' → HR P C.Z0 C.w0 hp' μ' Z w' → Ext P st.hp μ Z w hp' μ' Z w' → CR P hp' μ' Z w' r' v' →
        ∃ v w' μ' Z', ((execOp a.eval o).run P w = .ok (.value v) w' ∨ (execOp a.eval o).run P w = .ok .skip w' ∧ v = Go.undef) ∧ HR P C.Z0 C.w0 hp' μ' Z' w' ∧ Ext P st.hp μ Z w hp' μ' Z' w' ∧ UR P hp' μ' Z' w' r' v := by
      intro v' w' r' hp' μ' h1 h2 h3 h4
      refine ⟨v', w', μ', Z, .inl ?_, h2, h3, UR.of_CR h4⟩
      simp [execOp, ho, resolve, invoke, builtin, h1]
    cases hev : st.ev x with
    | nil =>
      rw [hev] at ha hx hn
      simp only [appendA, Option.some.injEq, Prod.mk.injEq] at ha
      obtain ⟨rfl, rfl⟩ := ha
      simp only [lenA, Option.some.injEq] at hn
      subst hn
      rw [Nat.zero_add] at hb h63
      obtain ⟨ad, hvx⟩ := (show ∃ ad, a.eval x = .slice ad 0 0 from hx)
      obtain ⟨v', w', μ', h1, h2, h3, h4⟩ := R.hr.append0 (ad := ad) (ty := o.type) T hy hv hys hb h63
      exact go v' w' _ _ μ' (by rw [hvx]; exact h1) h2 h3 h4
    | ref q g =>
      rw [hev] at ha hx hn
      simp only [appendA] at ha
      simp only [lenA] at hn
      split at ha
      · rename_i t' g' l hr
        simp only [hr] at hn
        split at ha
        · rename_i hg
          obtain ⟨hg, rfl⟩ := hg
          simp only [Option.some.injEq, Prod.mk.injEq] at ha
          obtain ⟨rfl, rfl⟩ := ha
          rw [if_pos hg] at hn
          obtain rfl := Option.some.inj hn
          subst hg
          obtain ⟨h0, h1, _⟩ := (hx : CR P st.hp μ Z w (.ref q g) _)
          have hO := (h1 t' g l hr).2 rfl
          obtain ⟨v', w', μ', h1, h2, h3, h4⟩ := R.hr.append (ty := o.type) T hr (by omega : 0 + l.length ≤ l.length) hO hy hv hys hb h63
          simp only [Nat.zero_add, List.take_length, List.drop_zero] at h2 h3 h4
          exact go v' w' _ _ μ' h1 h2 h3 h4
        · cases ha
      · cases ha
    | sub q g p s =>
      rw [hev] at ha hx hn
      simp only [appendA] at ha
      simp only [lenA] at hn
      split at ha
      · rename_i t' g' l hr
        simp only [hr] at hn
        split at ha
        · rename_i hg
          obtain ⟨hg, rfl⟩ := hg
          simp only [Option.some.injEq, Prod.mk.injEq] at ha
          obtain ⟨rfl, rfl⟩ := ha
          rw [if_pos hg] at hn
          obtain rfl := Option.some.inj hn
          subst hg
          obtain ⟨h0, h1, _⟩ := (hx : CR P st.hp μ Z w (.sub q g p s) _)
          obtain ⟨q1, q2, hO⟩ := (h1 t' g l hr).2 rfl
          obtain ⟨v', w', μ', h1, h2, h3, h4⟩ := R.hr.append (ty := o.type) T hr (by omega : p + (s - p) ≤ l.length) hO hy hv hys hb h63
          rw [show p + (s - p) = s by omega] at h2 h3 h4
          exact go v' w' _ _ μ' h1 h2 h3 h4
        · cases ha
      · cases ha
    | _ => rw [hev] at ha; simp [appendA] at ha
end
end Go.Vm
/- A machine of values: what a function comes to; its call. -/
namespace Go.Vm
open Go.RowKit
set_option linter.unusedVariables false
set_option linter.unusedSimpArgs false

def noMu : Mu := fun _ => none

/-- A function of values: at these arguments it comes to these results; rows of its own making go with them. -/
def Does (P : Program) (f : FuncId) (args : List A) (res : A) (hr : List Ob) : Prop :=
  ∀ (Z : Nat → Prop) (w : World) (vs : Array Value), (∀ b, Z b → b < w.heap.size) → vs.toList.length = args.length → (∀ (j : Nat) (x : A), args[j]? = some x → ∃ u, vs.toList[j]? = some u ∧ TR P [] noMu Z w x u) →
    Calls P f vs w fun e w' => ∃ v μ Z', e = .returned v ∧ HR P Z (Base.of w) hr μ Z' w' ∧ UR P hr μ Z' w' res v

def noslc : A → Bool
  | .sl _ => false
  | .vptr _ => false
  | _ => true
def nosl1 : A → Bool
  | .agg l => l.all noslc
  | x => noslc x
def nosl2 : A → Bool
  | .tup l => l.all nosl1
  | x => nosl1 x

def shc (n : Nat) : A → A
  | .ref r g => .ref (n + r) g
  | .sub r g a e => .sub (n + r) g a e
  | .ptr r g i j => .ptr (n + r) g i j
  | .clo f r i => .clo f (n + r) i
  | x => x
def sh1 (n : Nat) : A → A
  | .agg l => .agg (l.map (shc n))
  | x => shc n x
def shift (n : Nat) : A → A
  | .tup l => .tup (l.map (sh1 n))
  | x => sh1 n x

section
variable {P : Program} {C : Ctx} {Z0 : Nat → Prop} {w0 : Base} {hp hp' : List Ob} {μ μ' : Mu} {Z Z' : Nat → Prop} {w w' : World} {st : St} {a : Act} {o : Oper} {N : St → Prop}

theorem IV.nosl {x : A} {v : Value} (h : IV Z w x v) (hx : noslc x = true) (Z2 : Nat → Prop) (w2 : World) : IV Z2 w2 x v := by
  cases h with
  | int k n => exact .int k n
  | bool b => exact .bool b
  | str s => exact .str s
  | val v h => exact .val v h
  | undef v h => exact .undef v h
  | sl0 a c => simp [noslc] at hx
  | sl l b o c sz cur t fr u => simp [noslc] at hx

/-- The caller's blocks, and those that came with a result. -/
theorem HR.join (H : HR P Z0 w0 hp μ Z w) {hr : List Ob} {μr : Mu} {Zc Zr Z2 : Nat → Prop} (Hr : HR P Zc (Base.of w) hr μr Zr w') (hrow : ∀ o ∈ hr, (∃ t g l, o = .row t g l) ∨ o = .dead)
    (h1 : ∀ b, Z b → Z2 b) (h2 : ∀ b, Z2 b → Z b ∨ (Zr b ∧ w.heap.size ≤ b)) (hiv : ∀ t g l, Ob.row t g l ∈ hr → ∀ e ∈ l, ∀ x ∈ e, ∀ v, IV Zr w' x v → IV Z2 w' x v) :
    HR P Z0 w0 (hp ++ hr) (fun q => if q < hp.length then μ q else μr (q - hp.length)) Z2 w' ∧ Ext P hp μ Z w (hp ++ hr) (fun q => if q < hp.length then μ q else μr (q - hp.length)) Z2 w' := by
  have hbel : Below w.heap.size w w' := Hr.below.below
  have hleft : ∀ q, q < hp.length → (hp ++ hr)[q]? = hp[q]? := fun q h => List.getElem?_append_left h
  have hright : ∀ q, hp.length ≤ q → (hp ++ hr)[q]? = hr[q - hp.length]? := fun q h => List.getElem?_append_right h
  have hlive : ∀ q, q < hp.length → Live (hp ++ hr) q → Live hp q := fun q h hl => by unfold Live at *; rwa [hleft q h] at hl
  have hlive2 : ∀ q, hp.length ≤ q → Live (hp ++ hr) q → Live hr (q - hp.length) := fun q h hl => by unfold Live at *; rwa [hright q h] at hl
  have E : Ext P hp μ Z w (hp ++ hr) (fun q => if q < hp.length then μ q else μr (q - hp.length)) Z2 w' := by
    refine ⟨by simp, h1, fun b hb => hbel.block b (H.zlt b hb).1, ?_, ?_, ?_⟩
    · intro q t g l hq h
      rw [hleft q hq] at h
      exact .inl ⟨l, h, rfl, by simp [hq], fun b o cur e1 e2 => ⟨cur, (hbel.block b (H.own q b o (.inl ⟨t, g, l, h⟩) e1).2.1).trans e2, rfl⟩⟩
    · intro q g l hq h
      rw [hleft q hq] at h
      exact .inl h
    · intro q t cs hq h
      rw [hleft q hq] at h
      exact ⟨cs, h, rfl, by simp [hq]⟩
  refine ⟨⟨H.below.later hbel, fun b hb => h1 b (H.z0 b hb), ?_, ?_, ?_, ?_⟩, E⟩
  · intro b hb
    rcases h2 b hb with h | ⟨h, h'⟩
    · exact ⟨Nat.lt_of_lt_of_le (H.zlt b h).1 hbel.size, (H.zlt b h).2⟩
    · exact ⟨(Hr.zlt b h).1, .inr (.inl (Nat.le_trans H.below.size h'))⟩
  · intro q o hq
    rcases Nat.lt_or_ge q hp.length with h | h
    · rw [hleft q h] at hq
      have hO := H.ob q o hq
      cases o with
      | dead => trivial
      | fro g l => trivial
      | row t g l => exact hO.ext E (by simp [h]) (fun b o e => hbel.block b (H.own q b o (.inl ⟨t, g, l, hq⟩) e).2.1)
      | box t cs => exact hO.ext E (by simp [h]) (fun b o e => hbel.block b (H.own q b o (.inr ⟨t, cs, hq⟩) e).2.1)
    · rw [hright q h] at hq
      have hO := Hr.ob _ o hq
      rcases hrow o (List.mem_of_getElem? hq) with ⟨t, g, l, rfl⟩ | rfl
      · obtain ⟨sz, q1, q2, q3⟩ := hO
        refine ⟨sz, q1, q2, ?_⟩
        simp only [if_neg (show ¬ q < hp.length by omega)]
        cases hm : μr (q - hp.length) with
        | none => simpa [hm] using q3
        | some bo =>
          obtain ⟨b, o⟩ := bo
          simp only [hm] at q3 ⊢
          obtain ⟨cur, q4, q5, q6⟩ := q3
          refine ⟨cur, q4, ⟨q5.len, fun i e j x hi hj => ?_⟩, q6⟩
          obtain ⟨u, q7, q8⟩ := q5.at_ i e j x hi hj
          exact ⟨u, q7, hiv t g l (List.mem_of_getElem? hq) e (List.mem_of_getElem? hi) x (List.mem_of_getElem? hj) u q8⟩
      · trivial
  · intro q b o hl hm
    rcases Nat.lt_or_ge q hp.length with h | h
    · simp only [if_pos h] at hm
      have := H.own q b o (hlive q h hl) hm
      refine ⟨this.1, Nat.lt_of_lt_of_le this.2.1 hbel.size, fun hz => ?_⟩
      rcases h2 b hz with h3 | ⟨_, h3⟩
      · exact this.2.2 h3
      · omega
    · simp only [if_neg (by omega : ¬ q < hp.length)] at hm
      have := Hr.own _ b o (hlive2 q h hl) hm
      have this0 := Base.ok_of this.1
      refine ⟨.inl (Nat.le_trans H.below.size this0), this.2.1, fun hz => ?_⟩
      rcases h2 b hz with h3 | ⟨h3, _⟩
      · have := (H.zlt b h3).1
        omega
      · exact this.2.2 h3
  · intro q q' b o o2 l1 l2 e1 e2
    rcases Nat.lt_or_ge q hp.length with h | h <;> rcases Nat.lt_or_ge q' hp.length with h' | h'
    · simp only [if_pos h, if_pos h'] at e1 e2
      exact H.inj q q' b o o2 (hlive q h l1) (hlive q' h' l2) e1 e2
    · exfalso
      simp only [if_pos h, if_neg (by omega : ¬ q' < hp.length)] at e1 e2
      have a1 := H.own q b o (hlive q h l1) e1
      have a2 := Hr.own _ b o2 (hlive2 q' h' l2) e2
      have a3 := Base.ok_of a2.1
      omega
    · exfalso
      simp only [if_neg (by omega : ¬ q < hp.length), if_pos h'] at e1 e2
      have a1 := H.own q' b o2 (hlive q' h' l2) e2
      have a2 := Hr.own _ b o (hlive2 q h l1) e1
      have a3 := Base.ok_of a2.1
      omega
    · simp only [if_neg (by omega : ¬ q < hp.length), if_neg (by omega : ¬ q' < hp.length)] at e1 e2
      have := Hr.inj _ _ b o o2 (hlive2 q h l1) (hlive2 q' h' l2) e1 e2
      omega

theorem CR.shift {hr : List Ob} {μr : Mu} {Zr Z2 : Nat → Prop} {x : A} {v : Value} (h : CR P hr μr Zr w' x v) (hrow : ∀ o ∈ hr, (∃ t g l, o = .row t g l) ∨ o = .dead)
    (hx : noslc x = true ∨ ∀ b, Zr b → Z2 b) :
    CR P (hp ++ hr) (fun q => if q < hp.length then μ q else μr (q - hp.length)) Z2 w' (shc hp.length x) v := by
  have hget : ∀ r, (hp ++ hr)[hp.length + r]? = hr[r]? := fun r => by rw [List.getElem?_append_right (by omega)]; congr 1; omega
  have hmu : ∀ r, (if hp.length + r < hp.length then μ (hp.length + r) else μr (hp.length + r - hp.length)) = μr r := fun r => by rw [if_neg (by omega)]; congr 1; omega
  have hov : ∀ {r t a n v}, Over P μr w' r t a n v → Over P (fun q => if q < hp.length then μ q else μr (q - hp.length)) w' (hp.length + r) t a n v := by
    intro r t a n v h
    exact (h.ext (μ' := fun _ => μr r) rfl (fun b o cur _ h2 => ⟨cur, h2, rfl⟩)) |> fun ⟨c, h1, h2⟩ => ⟨c, h1, by
      rcases h2 with h2 | ⟨b, o, sz, cur, h3, h4⟩
      · exact .inl h2
      · exact .inr ⟨b, o, sz, cur, (hmu r).trans h3, h4⟩⟩
  have hnf : ∀ r g l, hr[r]? ≠ some (Ob.fro g l) := fun r g l e => by
    rcases hrow _ (List.mem_of_getElem? e) with ⟨_, _, _, h⟩ | h <;> cases h
  have hnb : ∀ r t l, hr[r]? ≠ some (Ob.box t l) := fun r g l e => by
    rcases hrow _ (List.mem_of_getElem? e) with ⟨_, _, _, h⟩ | h <;> cases h
  cases x with
  | ref r g =>
    obtain ⟨h0, h1, h2, h3⟩ := h
    refine ⟨by simp; omega, fun t g' l hr' => ?_, fun g' l hr' => ?_, h3⟩
    · rw [hget] at hr'
      exact ⟨(h1 t g' l hr').1, fun e => hov ((h1 t g' l hr').2 e)⟩
    · rw [hget] at hr'
      exact absurd hr' (hnf r g' l)
  | sub r g a e =>
    obtain ⟨h0, h1, h2, h3⟩ := h
    refine ⟨by simp; omega, fun t g' l hr' => ?_, fun g' l hr' => ?_, h3⟩
    · rw [hget] at hr'
      exact ⟨(h1 t g' l hr').1, fun e => ⟨((h1 t g' l hr').2 e).1, ((h1 t g' l hr').2 e).2.1, hov ((h1 t g' l hr').2 e).2.2⟩⟩
    · rw [hget] at hr'
      exact absurd hr' (hnf r g' l)
  | ptr r g i j =>
    obtain ⟨h0, h1, h2, h3⟩ := h
    refine ⟨by simp; omega, fun t g' l hr' => ?_, fun t cs hr' => ?_, h3⟩
    · rw [hget] at hr'
      refine ⟨(h1 t g' l hr').1, fun e => ?_⟩
      obtain ⟨q1, b, o, sz, q2, q3⟩ := (h1 t g' l hr').2 e
      exact ⟨q1, b, o, sz, (hmu r).trans q2, q3⟩
    · rw [hget] at hr'
      exact absurd hr' (hnb r t cs)
  | clo f r i =>
    obtain ⟨u, h0, h1, h2⟩ := h
    refine ⟨u, h0, by simp; omega, fun t cs hr' => ?_⟩
    rw [hget] at hr'
    exact absurd hr' (hnb r t cs)
  | vptr cs =>
    rcases hx with hx | hx
    · simp [noslc] at hx
    · obtain ⟨b, o, cur, t, fr, rfl, q1, q2, q3⟩ := h
      exact ⟨b, o, cur, t, fr, rfl, hx b q1, q2, fun j x hj => let ⟨u, q4, q5⟩ := q3 j x hj; ⟨u, q4, q5.mono hx (fun _ _ => rfl)⟩⟩
  | nil => exact h
  | agg l => exact h
  | tup l => exact h
  | sl l =>
    rcases hx with hx | hx
    · simp [noslc] at hx
    · exact IV.mono h hx (fun _ _ => rfl)
  | int k n => exact IV.nosl (show IV Zr w' _ v from h) rfl _ _
  | bool b => exact IV.nosl (show IV Zr w' _ v from h) rfl _ _
  | str s => exact IV.nosl (show IV Zr w' _ v from h) rfl _ _
  | val u => exact IV.nosl (show IV Zr w' _ v from h) rfl _ _
  | undef => exact IV.nosl (show IV Zr w' _ v from h) rfl _ _

theorem TR.shift {hr : List Ob} {μr : Mu} {Zr Z2 : Nat → Prop} {x : A} {v : Value} (h : TR P hr μr Zr w' x v) (hrow : ∀ o ∈ hr, (∃ t g l, o = .row t g l) ∨ o = .dead) (hx : nosl1 x = true ∨ ∀ b, Zr b → Z2 b) :
    TR P (hp ++ hr) (fun q => if q < hp.length then μ q else μr (q - hp.length)) Z2 w' (sh1 hp.length x) v := by
  cases x with
  | agg l =>
    obtain ⟨vs, rfl, h1, h2⟩ := h
    refine ⟨vs, rfl, by simpa using h1, fun j x hj => ?_⟩
    rw [List.getElem?_map] at hj
    obtain ⟨y, hy, rfl⟩ := Option.map_eq_some_iff.1 hj
    obtain ⟨u, q1, q2⟩ := h2 j y hy
    refine ⟨u, q1, q2.shift hrow ?_⟩
    rcases hx with hx | hx
    · exact .inl (List.all_eq_true.1 hx y (List.mem_of_getElem? hy))
    · exact .inr hx
  | undef => trivial
  | _ =>
    simp only [TR] at h
    have := CR.shift (hp := hp) (μ := μ) (Z2 := Z2) h hrow hx
    simpa only [sh1, shc, TR] using this

theorem UR.shift {hr : List Ob} {μr : Mu} {Zr Z2 : Nat → Prop} {x : A} {v : Value} (h : UR P hr μr Zr w' x v) (hrow : ∀ o ∈ hr, (∃ t g l, o = .row t g l) ∨ o = .dead) (hx : nosl2 x = true ∨ ∀ b, Zr b → Z2 b) :
    UR P (hp ++ hr) (fun q => if q < hp.length then μ q else μr (q - hp.length)) Z2 w' (Vm.shift hp.length x) v := by
  cases x with
  | tup l =>
    obtain ⟨vs, rfl, h1, h2⟩ := h
    refine ⟨vs, rfl, by simpa using h1, fun j x hj => ?_⟩
    rw [List.getElem?_map] at hj
    obtain ⟨y, hy, rfl⟩ := Option.map_eq_some_iff.1 hj
    obtain ⟨u, q1, q2⟩ := h2 j y hy
    refine ⟨u, q1, q2.shift hrow ?_⟩
    rcases hx with hx | hx
    · exact .inl (List.all_eq_true.1 hx y (List.mem_of_getElem? hy))
    · exact .inr hx
  | _ =>
    simp only [UR] at h
    exact UR.of_TR (TR.shift (hp := hp) (μ := μ) (Z2 := Z2) h hrow hx)

/-! #### what is handed over, read -/
def argc (hp : List Ob) : A → Option A
  | .ref r g => (view hp (.ref r g)).map .sl
  | .sub r g a e => (view hp (.sub r g a e)).map .sl
  | .nil => some (.sl [])
  | .ptr _ _ _ _ => none
  | .vptr _ => none
  | .clo _ _ _ => none
  | .agg _ => none
  | .tup _ => none
  | x => some x
def argcs (hp : List Ob) : List A → Option (List A)
  | [] => some []
  | x :: xs => match argc hp x, argcs hp xs with
    | some y, some ys => some (y :: ys)
    | _, _ => none
def arg1 (hp : List Ob) : A → Option A
  | .agg l => (argcs hp l).map .agg
  | x => argc hp x
def argl (st : St) : List Operand → Option (List A)
  | [] => some []
  | x :: xs => match arg1 st.hp (st.ev x), argl st xs with
    | some y, some ys => some (y :: ys)
    | _, _ => none

theorem CR.of_IV {x : A} {v : Value} (h : IV Z w x v) : CR P hp μ Z w x v := by
  cases x <;> first | exact h | cases h

theorem HR.argc (H : HR P Z0 w0 hp μ Z w) {x y : A} {v : Value} (h : CR P hp μ Z w x v) (hy : Vm.argc hp x = some y) : CR P [] noMu (All w) w y v := by
  have hz : ∀ b, Z b → All w b := fun b hb => (H.zlt b hb).1
  have gen : ∀ l, Vm.view hp x = some l → CR P [] noMu (All w) w (.sl l) v := fun l hl => CR.of_IV (H.view hl h)
  cases x with
  | ref r g =>
    obtain ⟨l, hl, rfl⟩ := Option.map_eq_some_iff.1 hy
    exact gen l hl
  | sub r g a e =>
    obtain ⟨l, hl, rfl⟩ := Option.map_eq_some_iff.1 hy
    exact gen l hl
  | nil =>
    obtain rfl := Option.some.inj hy
    exact gen [] rfl
  | ptr r g i j => cases hy
  | vptr cs => cases hy
  | clo f r i => cases hy
  | agg l => cases hy
  | tup l => cases hy
  | _ =>
    obtain rfl := Option.some.inj hy
    simp only [CR] at h ⊢
    exact h.mono hz (fun _ _ => rfl)

theorem HR.argcs (H : HR P Z0 w0 hp μ Z w) : ∀ {l l' : List A} {vs : List Value}, CRs P hp μ Z w l vs → Vm.argcs hp l = some l' → CRs P [] noMu (All w) w l' vs
  | [], l', vs, h, hy => by
    obtain rfl := Option.some.inj hy
    exact ⟨h.1, fun j x hj => by simp at hj⟩
  | x :: xs, l', vs, ⟨h1, h2⟩, hy => by
    simp only [Vm.argcs] at hy
    split at hy
    · rename_i y ys e1 e2
      obtain rfl := Option.some.inj hy
      cases vs with
      | nil => simp at h1
      | cons v vs =>
        obtain ⟨u, q1, q2⟩ := h2 0 x rfl
        obtain rfl : v = u := by simpa using q1
        have ih := HR.argcs H (l := xs) (vs := vs) ⟨by simpa using h1, fun j z hj => by simpa using h2 (j + 1) z (by simpa using hj)⟩ e2
        refine ⟨by simp [ih.1], fun j z hj => ?_⟩
        cases j with
        | zero => simp at hj; subst hj; exact ⟨v, rfl, H.argc q2 e1⟩
        | succ j => simpa using ih.2 j z (by simpa using hj)
    · cases hy

theorem HR.arg1 (H : HR P Z0 w0 hp μ Z w) {x y : A} {v : Value} (h : UR P hp μ Z w x v) (hy : Vm.arg1 hp x = some y) : TR P [] noMu (All w) w y v := by
  have gen : CR P hp μ Z w x v → Vm.argc hp x = some y → TR P [] noMu (All w) w y v := fun h hy => by
    have := H.argc h hy
    cases y <;> first | exact this | trivial | exact (this : False).elim
  cases x with
  | agg l =>
    obtain ⟨l', e, rfl⟩ := Option.map_eq_some_iff.1 hy
    obtain ⟨vs, rfl, h⟩ := h
    exact ⟨vs, rfl, H.argcs h e⟩
  | tup l => cases hy
  | undef =>
    obtain rfl := Option.some.inj hy
    trivial
  | _ =>
    simp only [UR, TR] at h
    exact gen h hy

theorem argl_run (R : RelAt P C st a w μ Z) : ∀ {xs : List Operand} {ys : List A}, argl st xs = some ys → (xs.map a.eval).length = ys.length ∧ ∀ (j : Nat) (y : A), ys[j]? = some y → ∃ u, (xs.map a.eval)[j]? = some u ∧ TR P [] noMu (All w) w y u
  | [], ys, h => by
    obtain rfl := Option.some.inj h
    exact ⟨rfl, fun j y hj => by simp at hj⟩
  | x :: xs, ys, h => by
    simp only [argl] at h
    split at h
    · rename_i y zs e1 e2
      obtain rfl := Option.some.inj h
      obtain ⟨q1, q2⟩ := argl_run R e2
      refine ⟨by simpa using q1, fun j z hj => ?_⟩
      cases j with
      | zero => simp at hj; subst hj; exact ⟨_, rfl, R.hr.arg1 (R.ev x) e1⟩
      | succ j => simpa using q2 j z (by simpa using hj)
    · cases h

/-- a function's rows that come with a result are rows -/
def rowsOnly (hr : List Ob) : Prop := ∀ o ∈ hr, (∃ t g l, o = .row t g l) ∨ o = .dead

theorem op_call {f : FuncId} {xs : Array Operand} {ts : Array TypeId} {ys : List A} {res : A} {hr : List Ob} (ho : o.op = .call { callee := .value (.func f), args := xs, argTypes := ts })
    (hE : ∀ args w, (callFunc f args).run P w = .ok (.enter f args) w) (ha : argl st xs.toList = some ys) (hF : Does P f ys res hr) (hrow : rowsOnly hr) (hns : nosl2 res = true) (hnr : ∀ t g l, Ob.row t g l ∈ hr → ∀ e ∈ l, ∀ x ∈ e, noslc x = true)
    (h : N (St.put ⟨st.tm, st.hp ++ hr⟩ o.dst (shift st.hp.length res))) : OpS P C o st N := by
  rintro a w ⟨μ, Z, R⟩ K Q hK
  obtain ⟨q1, q2⟩ := argl_run R ha
  have hc := hF (All w) w (xs.map a.eval) (fun b hb => hb) (by simpa using q1) (by simpa using q2)
  have hrun : (execOp a.eval o).run P w = .ok (.enter f (xs.map a.eval)) w := by
    simp [execOp, ho, resolve, Deferred.ofValue, Act.eval, invoke, hE]
  unfold Oper.wp
  rw [hrun]
  refine Calls.mono hc ?_
  rintro e w' ⟨v, μr, Zr, rfl, Hr, hv⟩
  obtain ⟨H2, E2⟩ := R.hr.join (Z2 := Z) Hr hrow (fun _ h => h) (fun _ h => .inl h) (fun t g l hm e he x hx v hv => hv.nosl (hnr t g l hm e he x hx) _ _)
  exact hK _ _ _ h ⟨_, Z, R.step H2 E2 (UR.shift hv hrow (.inl hns)) _⟩ ⟨_, rfl⟩

/-! #### what is handed over, and kept as it is from now on -/
def frz1 (hp : List Ob) : A → List Ob × A
  | .agg l => ((frzs hp l).1, .agg (frzs hp l).2)
  | .tup _ => (hp, .undef)
  | x => frz hp x
def frzl (hp : List Ob) : List A → List Ob × List A
  | [] => (hp, [])
  | x :: xs => ((frzl (frz1 hp x).1 xs).1, (frz1 hp x).2 :: (frzl (frz1 hp x).1 xs).2)

theorem TR.of_IV {x : A} {v : Value} (h : IV Z w x v) : TR P hp μ Z w x v := by
  cases x <;> first | exact h | trivial | cases h

theorem HR.frz1 (H : HR P Z0 w0 hp μ Z w) {x : A} {v : Value} (h : UR P hp μ Z w x v) :
    ∃ Z', HR P Z0 w0 (Vm.frz1 hp x).1 μ Z' w ∧ Ext P hp μ Z w (Vm.frz1 hp x).1 μ Z' w ∧ TR P [] noMu Z' w (Vm.frz1 hp x).2 v := by
  cases x with
  | agg l =>
    obtain ⟨vs, rfl, h⟩ := h
    obtain ⟨Z', H', E, hl, I⟩ := H.frzs h
    exact ⟨Z', H', E, vs, rfl, by rw [h.1]; exact hl.symm, fun j x hj => let ⟨u, q1, q2⟩ := I j x hj; ⟨u, q1, CR.of_IV q2⟩⟩
  | tup l => exact ⟨Z, H, Ext.refl .., trivial⟩
  | undef => exact ⟨Z, H, Ext.refl .., trivial⟩
  | _ =>
    simp only [UR, TR] at h
    obtain ⟨Z', H', E, I⟩ := H.frz h
    exact ⟨Z', H', E, TR.of_IV I⟩

theorem HR.frzl : ∀ {l : List A} {vs : List Value} {hp : List Ob} {Z : Nat → Prop}, HR P Z0 w0 hp μ Z w → TRs P hp μ Z w l vs →
    ∃ Z', HR P Z0 w0 (Vm.frzl hp l).1 μ Z' w ∧ Ext P hp μ Z w (Vm.frzl hp l).1 μ Z' w ∧ (Vm.frzl hp l).2.length = l.length ∧ ∀ (j : Nat) (x : A), (Vm.frzl hp l).2[j]? = some x → ∃ u, vs[j]? = some u ∧ TR P [] noMu Z' w x u
  | [], vs, hp, Z, H, h => ⟨Z, H, Ext.refl .., rfl, fun j x hj => by simp [Vm.frzl] at hj⟩
  | x :: xs, vs, hp, Z, H, h => by
    obtain ⟨hl, h⟩ := h
    cases vs with
    | nil => simp at hl
    | cons v vs =>
      obtain ⟨u, hu, hx⟩ := h 0 x rfl
      obtain rfl : v = u := by simpa using hu
      obtain ⟨Z1, H1, E1, I1⟩ := H.frz1 hx
      have h1 : TRs P (Vm.frz1 hp x).1 μ Z1 w xs vs := ⟨by simpa using hl, fun j y hj => by
        obtain ⟨u, q1, q2⟩ := h (j + 1) y (by simpa using hj)
        exact ⟨u, by simpa using q1, q2.ext E1⟩⟩
      obtain ⟨Z2, H2, E2, hlen, I2⟩ := HR.frzl H1 h1
      refine ⟨Z2, H2, E1.trans E2, by simp [Vm.frzl, hlen], fun j y hj => ?_⟩
      cases j with
      | zero =>
        simp only [Vm.frzl, List.getElem?_cons_zero, Option.some.injEq] at hj
        subst hj
        refine ⟨v, rfl, I1.ext ?_⟩
        exact ⟨Nat.le_refl _, E2.z, E2.zh, fun r _ _ _ h => by simp at h, fun r _ _ h => by simp at h, fun r _ _ h => by simp at h⟩
      | succ j =>
        simp only [Vm.frzl, List.getElem?_cons_succ] at hj
        obtain ⟨u, q1, q2⟩ := I2 j y hj
        exact ⟨u, by simpa using q1, q2⟩

theorem op_callk {f : FuncId} {xs : Array Operand} {ts : Array TypeId} {res : A} {hr : List Ob} (ho : o.op = .call { callee := .value (.func f), args := xs, argTypes := ts })
    (hE : ∀ args w, (callFunc f args).run P w = .ok (.enter f args) w) (hF : Does P f (frzl st.hp (xs.toList.map st.ev)).2 res hr) (hrow : rowsOnly hr)
    (h : N (St.put ⟨st.tm, (frzl st.hp (xs.toList.map st.ev)).1 ++ hr⟩ o.dst (shift (frzl st.hp (xs.toList.map st.ev)).1.length res))) : OpS P C o st N := by
  rintro a w ⟨μ, Z, R⟩ K Q hK
  have hT : TRs P st.hp μ Z w (xs.toList.map st.ev) (xs.toList.map a.eval) := ⟨by simp, fun j y hj => by
    rw [List.getElem?_map] at hj
    obtain ⟨x, hx, rfl⟩ := Option.map_eq_some_iff.1 hj
    exact ⟨a.eval x, by rw [List.getElem?_map, hx]; rfl, R.ev x⟩⟩
  obtain ⟨Z1, H1, E1, hl, I1⟩ := R.hr.frzl hT
  have hc := hF Z1 w (xs.map a.eval) (fun b hb => (H1.zlt b hb).1) (by simp [hl]) (by simpa using I1)
  have hrun : (execOp a.eval o).run P w = .ok (.enter f (xs.map a.eval)) w := by
    simp [execOp, ho, resolve, Deferred.ofValue, Act.eval, invoke, hE]
  unfold Oper.wp
  rw [hrun]
  refine Calls.mono hc ?_
  rintro e w' ⟨v, μr, Zr, rfl, Hr, hv⟩
  obtain ⟨H2, E2⟩ := H1.join (Z2 := Zr) Hr hrow Hr.z0 (fun b h => by
    rcases (Hr.zlt b h).2 with h1 | h1
    · exact .inl h1
    · exact .inr ⟨h, Base.ok_of h1⟩) (fun _ _ _ _ _ _ _ _ _ h => h)
  exact hK _ _ _ h ⟨_, Zr, R.step H2 (E1.trans E2) (UR.shift hv hrow (.inr fun _ h => h)) _⟩ ⟨_, rfl⟩
end
end Go.Vm
/- A machine of values: code. -/
namespace Go.Vm
open Go.RowKit
set_option linter.unusedVariables false
set_option linter.unusedSimpArgs false

def lift (P : Program) (C : Ctx) (K : Exit → St → Prop) : Exit → Act → World → Prop := fun e a w => ∃ st, K e st ∧ Rel P C st a w

def OpsS (P : Program) (C : Ctx) (ops : Array Oper) (l : List Oper) (st : St) (K : Exit → St → Prop) : Prop :=
  ∀ a w, Rel P C st a w → wpList P ops (lift P C K) l a w

def CodeS (P : Program) (C : Ctx) (c : Code) (st : St) (K : Exit → St → Prop) : Prop :=
  ∀ a w, Rel P C st a w → c.wp P (lift P C K) a w

section
variable {P : Program} {C : Ctx} {Z0 : Nat → Prop} {w0 : Base} {hp hp' : List Ob} {μ μ' : Mu} {Z Z' : Nat → Prop} {w w' : World} {st st' : St} {a : Act} {o : Oper} {K : Exit → St → Prop}
variable {ops : Array Oper} {l : List Oper}

theorem OpsS.nil (h : K .normal st) : OpsS P C ops [] st K := fun a w R => ⟨st, h, R⟩

theorem OpsS.cons (hg : o.guard = none) (h : OpS P C o st (fun st' => OpsS P C ops l st' K)) : OpsS P C ops (o :: l) st K :=
  fun a w R => wpList_plain hg fun K' hK' => h a w R K' _ fun st' a' w' hN R' _ => hK' _ _ (hN a' w' R')

/-- An operation that is done where a slot says so. -/
theorem OpsS.guard {j d : Nat} {want b : Bool} {g : Oper} (hg : o.guard = some (j, want)) (hj : ops[j]? = some g) (hd : g.dst = some d) (hv : st.ev (.tmp d) = .bool b)
    (h1 : b = want → OpS P C o st (fun st' => OpsS P C ops l st' K)) (h2 : b ≠ want → OpsS P C ops l (st.put o.dst (.tup [])) K) : OpsS P C ops (o :: l) st K := by
  rintro a w ⟨μ, Z, R⟩
  have hb := R.ev (.tmp d)
  rw [hv] at hb
  have hb := hb.bool
  have hy : yielded ops a.tmps j = some b := by
    have : a.tmps[d]? = some (.bool b) := by
      simp only [Act.eval, Array.getD_eq_getD_getElem?] at hb
      cases h : a.tmps[d]? with
      | none => rw [h] at hb; cases hb
      | some v => rw [h] at hb; simpa using hb
    simp [yielded, hj, hd, this]
  unfold wpList
  by_cases e : b = want
  · rw [if_pos (by simp [Region.wanted, hg, hy, e])]
    exact .inl (h1 e a w ⟨μ, Z, R⟩ _ _ fun st' a' w' hN R' _ => hN a' w' R')
  · rw [if_neg (by simp [Region.wanted, hg, hy, e])]
    exact h2 e _ w ⟨μ, Z, R.put (show UR P st.hp μ Z w (.tup []) Go.undef from ⟨#[], rfl, rfl, fun j x hj => by simp at hj⟩) _⟩

/-- .. of a slot that was passed over itself -/
theorem OpsS.guard_skip {j d : Nat} {want : Bool} {g : Oper} (hg : o.guard = some (j, want)) (hj : ops[j]? = some g) (hd : g.dst = some d) (hv : st.ev (.tmp d) = .tup [])
    (h2 : OpsS P C ops l (st.put o.dst (.tup [])) K) : OpsS P C ops (o :: l) st K := by
  rintro a w ⟨μ, Z, R⟩
  have hb := R.ev (.tmp d)
  rw [hv] at hb
  obtain ⟨vs, hb, _⟩ := hb
  have hy : yielded ops a.tmps j = none := by
    simp only [Act.eval, Array.getD_eq_getD_getElem?] at hb
    cases h : a.tmps[d]? with
    | none => simp [yielded, hj, hd, h]
    | some v =>
      rw [h] at hb
      have : v = .tuple vs := by simpa using hb
      subst this
      simp [yielded, hj, hd, h]
  unfold wpList
  rw [if_neg (by simp [Region.wanted, hg, hy])]
  exact h2 _ w ⟨μ, Z, R.put (show UR P st.hp μ Z w (.tup []) Go.undef from ⟨#[], rfl, rfl, fun j x hj => by simp at hj⟩) _⟩

theorem CodeS.region {id : Nat} {l : List Oper} (h : OpsS P C l.toArray l st K) : CodeS P C (.region id l.toArray false) st K :=
  fun a w R => wp_region_lit (h a w R)

theorem CodeS.seq {x y : Code} (h : CodeS P C x st (fun e st' => match e with | .normal => CodeS P C y st' K | e => K e st')) : CodeS P C (.seq x y) st K :=
  fun a w R => wp_seq (Code.wp_mono (fun e a' w' ⟨st', hk, R'⟩ => by
    cases e with
    | normal => exact hk a' w' R'
    | _ => exact ⟨st', hk, R'⟩) (h a w R))

theorem CodeS.cond {c : Operand} {x y : Code} {b : Bool} (hc : st.ev c = .bool b) (h1 : b = true → CodeS P C x st K) (h2 : b = false → CodeS P C y st K) : CodeS P C (.cond c x y) st K := by
  rintro a w ⟨μ, Z, R⟩
  have hb := R.ev c
  rw [hc] at hb
  exact wp_cond_split hb.bool (fun e => h1 e a w ⟨μ, Z, R⟩) (fun e => h2 e a w ⟨μ, Z, R⟩)

theorem CodeS.block {id : Nat} {c : Code} (h : CodeS P C c st (fun e st' => match e with | .exit i => if i = id then K .normal st' else K (.exit i) st' | e => K e st')) : CodeS P C (.block id c) st K :=
  fun a w R => wp_block (Code.wp_mono (fun e a' w' ⟨st', hk, R'⟩ => by
    cases e with
    | exit i =>
      simp only [Exit.inBlock]
      simp only at hk
      split
      · rename_i e; rw [if_pos e] at hk; exact ⟨st', hk, R'⟩
      · rename_i e; rw [if_neg e] at hk; exact ⟨st', hk, R'⟩
    | _ => exact ⟨st', hk, R'⟩) (h a w R))

theorem CodeS.exit {id : Nat} (h : K (.exit id) st) : CodeS P C (.exit id) st K := fun a w R => wp_exit ⟨st, h, R⟩
theorem CodeS.ret (h : K .ret st) : CodeS P C .ret st K := fun a w R => wp_ret ⟨st, h, R⟩
theorem CodeS.skip (h : K .normal st) : CodeS P C .skip st K := fun a w R => wp_skip ⟨st, h, R⟩

theorem CodeS.mono {c : Code} {K' : Exit → St → Prop} (h : CodeS P C c st K) (hk : ∀ e st, K e st → K' e st) : CodeS P C c st K' :=
  fun a w R => Code.wp_mono (fun e a' w' ⟨st', h1, R'⟩ => ⟨st', hk _ _ h1, R'⟩) (h a w R)

/-- What is told of a state, told more loosely. -/
def Le (P : Program) (C : Ctx) (st st' : St) : Prop := ∀ a w, Rel P C st a w → Rel P C st' a w

theorem CodeS.le {c : Code} (hl : Le P C st st') (h : CodeS P C c st' K) : CodeS P C c st K := fun a w R => h a w (hl a w R)

/-- A loop, by a family of states, of which each round comes to a lesser one. -/
theorem CodeS.loop {c : Code} {ι : Type} (I : ι → St) (m : ι → Nat) (i0 : ι) (h0 : Le P C st (I i0))
    (h : ∀ i, CodeS P C c (I i) (fun e st' => match e with | .normal => ∃ j, m j < m i ∧ Le P C st' (I j) | e => K e st')) : CodeS P C (.loop c) st K := by
  intro a w R
  have dec : ∀ a w, (∃ i, Rel P C (I i) a w) → ∃ n, (∃ i, m i = n ∧ Rel P C (I i) a w) ∧ ∀ i, Rel P C (I i) a w → n ≤ m i := by
    rintro a w ⟨i, hi⟩
    have : ∀ n, ∀ i, m i = n → Rel P C (I i) a w → ∃ n, (∃ i, m i = n ∧ Rel P C (I i) a w) ∧ ∀ i, Rel P C (I i) a w → n ≤ m i := by
      intro n
      induction n using Nat.strongRecOn with
      | _ n ih =>
        intro i hi hr
        by_cases hlt : ∃ j, m j < n ∧ Rel P C (I j) a w
        · obtain ⟨j, hj, hr'⟩ := hlt
          exact ih (m j) hj j rfl hr'
        · refine ⟨n, ⟨i, hi, hr⟩, fun j hj => ?_⟩
          exact Nat.le_of_not_lt fun h => hlt ⟨j, h, hj⟩
    exact this _ i rfl hi
  classical
  let M : Act → World → Nat := fun a w => if h : ∃ i, Rel P C (I i) a w then (dec a w h).choose else 0
  have hM : ∀ a w (h : ∃ i, Rel P C (I i) a w), (∃ i, m i = M a w ∧ Rel P C (I i) a w) ∧ ∀ i, Rel P C (I i) a w → M a w ≤ m i := by
    intro a w h
    have : M a w = (dec a w h).choose := dif_pos h
    rw [this]
    exact (dec a w h).choose_spec
  refine wp_loop (fun a w => ∃ i, Rel P C (I i) a w) M ⟨i0, h0 a w R⟩ ?_
  intro a w hI
  obtain ⟨⟨i, hi, hr⟩, _⟩ := hM a w hI
  refine Code.wp_mono (fun e a' w' ⟨st', hk, R'⟩ => ?_) (h i a w hr)
  cases e with
  | normal =>
    obtain ⟨j, hj, hl⟩ := hk
    have hr' := hl a' w' R'
    refine ⟨⟨j, hr'⟩, ?_⟩
    have := (hM a' w' ⟨j, hr'⟩).2 j hr'
    omega
  | _ => exact ⟨st', hk, R'⟩
end

/-! #### telling a state more loosely: slots forgotten, blocks named anew -/
section
variable {P : Program} {C : Ctx} {Z0 : Nat → Prop} {w0 : Base} {hp hp' : List Ob} {μ μ' : Mu} {Z Z' : Nat → Prop} {w w' : World}

/-- a cell's word, told more loosely: ρ tells where the block of a new name was -/
def VC (ρ : Nat → Option Nat) (hp hp' : List Ob) : A → A → Prop
  | _, .undef => True
  | .ref s g, .ref r g' => g' = 0 ∧ ρ r = some s ∧ r < hp'.length ∧ ∃ t l, hp[s]? = some (.row t g l)
  | .ref s g, .sub r g' a e => g' = 0 ∧ ρ r = some s ∧ r < hp'.length ∧ a = 0 ∧ ∃ t l, hp[s]? = some (.row t g l) ∧ e = l.length
  | .nil, .ref r g' => g' = 0 ∧ ρ r = none ∧ ∃ t, hp'[r]? = some (.row t 0 [])
  | .ref s g, .sl l => hp[s]? = some (.fro g l)
  | .nil, .sl l => l = []
  | .nil, .nil => True
  | .sub s g a e, .sub r g' a' e' => g' = 0 ∧ ρ r = some s ∧ r < hp'.length ∧ a = a' ∧ e = e' ∧ ∃ t l, hp[s]? = some (.row t g l)
  | .sub s g a e, .sl l => ∃ l0, hp[s]? = some (.fro g l0) ∧ l = (l0.take e).drop a
  | .ptr s g i j, .ptr r g' i' j' => g' = 0 ∧ ρ r = some s ∧ r < hp'.length ∧ i = i' ∧ j = j' ∧ ((∃ t l, hp[s]? = some (.row t g l)) ∨ ∃ t l, hp[s]? = some (.box t l))
  | .int k n, .int k' n' => k = k' ∧ n = n'
  | .bool b, .bool b' => b = b'
  | .str b, .str b' => b = b'
  | .sl l, .sl l' => l = l'
  | .vptr l, .vptr l' => l = l'
  | .val v, .val v' => v = v'
  | _, _ => False

def VCs (ρ : Nat → Option Nat) (hp hp' : List Ob) : List A → List A → Prop
  | [], [] => True
  | x :: xs, y :: ys => VC ρ hp hp' x y ∧ VCs ρ hp hp' xs ys
  | _, _ => False

def V1 (ρ : Nat → Option Nat) (hp hp' : List Ob) : A → A → Prop
  | _, .undef => True
  | .agg l, .agg l' => VCs ρ hp hp' l l'
  | x, y => VC ρ hp hp' x y

def V1s (ρ : Nat → Option Nat) (hp hp' : List Ob) : List A → List A → Prop
  | [], [] => True
  | x :: xs, y :: ys => V1 ρ hp hp' x y ∧ V1s ρ hp hp' xs ys
  | _, _ => False

def V2 (ρ : Nat → Option Nat) (hp hp' : List Ob) : A → A → Prop
  | _, .undef => True
  | .tup l, .tup l' => V1s ρ hp hp' l l'
  | x, y => V1 ρ hp hp' x y

def V2s (ρ : Nat → Option Nat) (hp hp' : List Ob) : List A → List A → Prop
  | [], [] => True
  | x :: xs, y :: ys => V2 ρ hp hp' x y ∧ V2s ρ hp hp' xs ys
  | _, _ => False

/-- a block's word, told anew -/
def VO (ρ : Nat → Option Nat) (hp hp' : List Ob) (szs : TypeId → Option Nat) (s : Option Nat) : Ob → Prop
  | .dead => True
  | .fro _ _ => False
  | .row t g l => g = 0 ∧ match s with
    | some s => ∃ g0, hp[s]? = some (.row t g0 l)
    | none => l = [] ∧ (szs t).isSome = true
  | .box t cs => match s with
    | some s => ∃ cs0, hp[s]? = some (.box t cs0) ∧ VCs ρ hp hp' cs0 cs
    | none => False

def VOs (ρ : Nat → Option Nat) (hp hp' : List Ob) (szs : TypeId → Option Nat) : Nat → List Ob → Prop
  | _, [] => True
  | k, o :: os => VO ρ hp hp' szs (ρ k) o ∧ VOs ρ hp hp' szs (k + 1) os

theorem VOs.get {ρ : Nat → Option Nat} {szs : TypeId → Option Nat} : ∀ {os : List Ob} {k : Nat}, VOs ρ hp hp' szs k os → ∀ (i : Nat) (o : Ob), os[i]? = some o → VO ρ hp hp' szs (ρ (k + i)) o
  | [], k, _, i, o, h => by simp at h
  | o' :: os, k, ⟨h1, h2⟩, i, o, h => by
    cases i with
    | zero => simp at h; subst h; exact h1
    | succ i =>
      have := VOs.get h2 i o (by simpa using h)
      rwa [show k + 1 + i = k + (i + 1) by omega] at this

def muOf (ρ : Nat → Option Nat) (μ : Mu) : Mu := fun r => (ρ r).bind μ

theorem Over.ren {ρ : Nat → Option Nat} {r s a n : Nat} {t : TypeId} {v : Value} (h : Over P μ w s t a n v) (hr : ρ r = some s) : Over P (muOf ρ μ) w r t a n v := by
  obtain ⟨c, h1, h2⟩ := h
  refine ⟨c, h1, ?_⟩
  rcases h2 with h2 | ⟨b, o, sz, cur, h3, h4⟩
  · exact .inl h2
  · exact .inr ⟨b, o, sz, cur, by simp [muOf, hr, h3], h4⟩

theorem VC.cr {ρ : Nat → Option Nat} {szs : TypeId → Option Nat} (HO : VOs ρ hp hp' szs 0 hp') (H : HR P Z0 w0 hp μ Z w) {x y : A} {v : Value} (h : VC ρ hp hp' x y) (hx : CR P hp μ Z w x v) : CR P hp' (muOf ρ μ) Z w y v := by
  have hone := hx.one
  have hO : ∀ r o, hp'[r]? = some o → VO ρ hp hp' szs (ρ r) o := fun r o hr => by simpa using HO.get r o hr
  have hnf : ∀ r g l, hp'[r]? ≠ some (Ob.fro g l) := fun r g l e => hO r _ e
  by_cases hu : y = .undef
  · subst hu
    exact IV.undef v hone
  · unfold VC at h
    split at h
    · exact absurd rfl hu
    · -- ref, ref
      rename_i s g r g'
      obtain ⟨rfl, hr, hlt, t, l, hs⟩ := h
      obtain ⟨h0, h1, h2, h3⟩ := hx
      refine ⟨hlt, fun t' g'' l' hr' => ?_, fun g'' l' hr' => absurd hr' (hnf r g'' l'), hone⟩
      have hV := hO r _ hr'
      rw [hr] at hV
      obtain ⟨rfl, g0, hs'⟩ := hV
      refine ⟨Nat.le_refl _, fun _ => ?_⟩
      rw [hs] at hs'
      cases hs'
      exact ((h1 t g l hs).2 rfl).ren hr
    · -- ref, sub
      rename_i s g r g' a' e'
      obtain ⟨rfl, hr, hlt, rfl, t, l, hs, rfl⟩ := h
      obtain ⟨h0, h1, h2, h3⟩ := hx
      refine ⟨hlt, fun t' g'' l' hr' => ?_, fun g'' l' hr' => absurd hr' (hnf r g'' l'), hone⟩
      have hV := hO r _ hr'
      rw [hr] at hV
      obtain ⟨rfl, g0, hs'⟩ := hV
      refine ⟨Nat.le_refl _, fun _ => ?_⟩
      rw [hs] at hs'
      cases hs'
      have q3 := (h1 t g l hs).2 rfl
      exact ⟨Nat.zero_le _, Nat.le_refl _, by simpa using q3.ren hr⟩
    · rename_i r g'
      obtain ⟨rfl, hr, t, hr'⟩ := h
      obtain ⟨ad, rfl⟩ := hx
      refine ⟨(List.getElem?_eq_some_iff.1 hr').1, fun t' g'' l' hr'' => ?_, fun g'' l' hr'' => absurd hr'' (hnf r g'' l'), rfl⟩
      rw [hr'] at hr''
      cases hr''
      exact ⟨Nat.le_refl _, fun _ => ⟨0, Nat.le_refl _, .inl ⟨rfl, ad, rfl⟩⟩⟩
    · rename_i s g l
      exact (hx.2.2.1 g l h).2 rfl
    · subst h
      obtain ⟨ad, rfl⟩ := hx
      exact IV.sl0 ad 0
    · exact hx
    · rename_i s g a e r g' a' e'
      obtain ⟨rfl, hr, hlt, rfl, rfl, t, l, hs⟩ := h
      obtain ⟨h0, h1, h2, h3⟩ := hx
      refine ⟨hlt, fun t' g'' l' hr' => ?_, fun g'' l' hr' => absurd hr' (hnf r g'' l'), hone⟩
      have hV := hO r _ hr'
      rw [hr] at hV
      obtain ⟨rfl, g0, hs'⟩ := hV
      refine ⟨Nat.le_refl _, fun _ => ?_⟩
      rw [hs] at hs'
      cases hs'
      obtain ⟨q1, q2, q3⟩ := (h1 t g l hs).2 rfl
      exact ⟨q1, q2, q3.ren hr⟩
    · rename_i s g a e l
      obtain ⟨l0, h1, rfl⟩ := h
      exact ((hx.2.2.1 g l0 h1).2 rfl).2.2
    · rename_i s g i j r g' i' j'
      obtain ⟨rfl, hr, hlt, rfl, rfl, hs⟩ := h
      obtain ⟨h0, h1, h2, h3⟩ := hx
      refine ⟨hlt, fun t' g'' l' hr' => ?_, fun t' cs hr' => ?_, hone⟩
      · have hV := hO r _ hr'
        rw [hr] at hV
        obtain ⟨rfl, g0, hs'⟩ := hV
        rcases hs with ⟨t, l, hs⟩ | ⟨t, l, hs⟩
        · rw [hs] at hs'
          cases hs'
          refine ⟨Nat.le_refl _, fun _ => ?_⟩
          obtain ⟨q1, b, o, sz, q2, q3⟩ := (h1 _ _ _ hs).2 rfl
          exact ⟨q1, b, o, sz, by simp [muOf, hr, q2], q3⟩
        · rw [hs] at hs'
          cases hs'
      · have hV := hO r _ hr'
        rw [hr] at hV
        obtain ⟨cs0, hs', hcs⟩ := hV
        obtain ⟨q1, q2, b, q3, q4⟩ := h2 t' cs0 hs'
        refine ⟨q1, ?_, b, by simp [muOf, hr, q3], q4⟩
        have : ∀ (a b : List A), VCs ρ hp hp' a b → a.length = b.length := by
          intro a
          induction a with
          | nil => intro b h; cases b with
            | nil => rfl
            | cons _ _ => exact h.elim
          | cons x xs ih => intro b h; cases b with
            | nil => exact h.elim
            | cons y ys => simp [ih ys h.2]
        rw [← this _ _ hcs]
        exact q2
    · obtain ⟨rfl, rfl⟩ := h; exact hx
    · subst h; exact hx
    · subst h; exact hx
    · subst h; exact hx
    · subst h
      exact hx
    · subst h; exact hx
    · exact h.elim

theorem VCs.cr {ρ : Nat → Option Nat} {szs : TypeId → Option Nat} (HO : VOs ρ hp hp' szs 0 hp') (H : HR P Z0 w0 hp μ Z w) : ∀ {l l' : List A} {vs : List Value}, VCs ρ hp hp' l l' → CRs P hp μ Z w l vs → CRs P hp' (muOf ρ μ) Z w l' vs
  | [], [], vs, _, h => ⟨h.1, fun j x hj => by simp at hj⟩
  | [], _ :: _, _, h, _ => h.elim
  | _ :: _, [], _, h, _ => h.elim
  | x :: xs, y :: ys, vs, ⟨h1, h2⟩, ⟨q1, q2⟩ => by
    cases vs with
    | nil => simp at q1
    | cons v vs =>
      obtain ⟨u, e1, e2⟩ := q2 0 x rfl
      obtain rfl : v = u := by simpa using e1
      have ih := VCs.cr HO H h2 (vs := vs) ⟨by simpa using q1, fun j z hj => by simpa using q2 (j + 1) z (by simpa using hj)⟩
      refine ⟨by simp [ih.1], fun j z hj => ?_⟩
      cases j with
      | zero => simp at hj; subst hj; exact ⟨v, rfl, h1.cr HO H e2⟩
      | succ j => simpa using ih.2 j z (by simpa using hj)

theorem CR.notr {x : A} {v : Value} (h : CR P hp μ Z w x v) : TR P hp μ Z w x v := by
  cases x <;> first | exact h | trivial | exact (h : False).elim

theorem V1.tr {ρ : Nat → Option Nat} {szs : TypeId → Option Nat} (HO : VOs ρ hp hp' szs 0 hp') (H : HR P Z0 w0 hp μ Z w) {x y : A} {v : Value} (h : V1 ρ hp hp' x y) (hx : TR P hp μ Z w x v) : TR P hp' (muOf ρ μ) Z w y v := by
  unfold V1 at h
  split at h
  · trivial
  · obtain ⟨vs, rfl, hx⟩ := hx
    exact ⟨vs, rfl, h.cr HO H hx⟩
  · rename_i h1 h2
    have hcr : CR P hp μ Z w x v := by
      cases x with
      | agg l =>
        exfalso
        cases y <;> first | exact h1 rfl | exact h2 _ _ rfl rfl | exact h
      | undef =>
        exfalso
        cases y <;> first | exact h1 rfl | exact h
      | _ => exact hx
    exact (h.cr HO H hcr).notr

theorem V1s.tr {ρ : Nat → Option Nat} {szs : TypeId → Option Nat} (HO : VOs ρ hp hp' szs 0 hp') (H : HR P Z0 w0 hp μ Z w) : ∀ {l l' : List A} {vs : List Value}, V1s ρ hp hp' l l' → vs.length = l.length → (∀ (j : Nat) (x : A), l[j]? = some x → ∃ u, vs[j]? = some u ∧ TR P hp μ Z w x u) →
    vs.length = l'.length ∧ ∀ (j : Nat) (x : A), l'[j]? = some x → ∃ u, vs[j]? = some u ∧ TR P hp' (muOf ρ μ) Z w x u
  | [], [], vs, _, q1, _ => ⟨q1, fun j x hj => by simp at hj⟩
  | [], _ :: _, _, h, _, _ => h.elim
  | _ :: _, [], _, h, _, _ => h.elim
  | x :: xs, y :: ys, vs, ⟨h1, h2⟩, q1, q2 => by
    cases vs with
    | nil => simp at q1
    | cons v vs =>
      obtain ⟨u, e1, e2⟩ := q2 0 x rfl
      obtain rfl : v = u := by simpa using e1
      have ih := V1s.tr HO H h2 (vs := vs) (by simpa using q1) (fun j z hj => by simpa using q2 (j + 1) z (by simpa using hj))
      refine ⟨by simp [ih.1], fun j z hj => ?_⟩
      cases j with
      | zero => simp at hj; subst hj; exact ⟨v, rfl, h1.tr HO H e2⟩
      | succ j => simpa using ih.2 j z (by simpa using hj)

theorem V2.ur {ρ : Nat → Option Nat} {szs : TypeId → Option Nat} (HO : VOs ρ hp hp' szs 0 hp') (H : HR P Z0 w0 hp μ Z w) {x y : A} {v : Value} (h : V2 ρ hp hp' x y) (hx : UR P hp μ Z w x v) : UR P hp' (muOf ρ μ) Z w y v := by
  unfold V2 at h
  split at h
  · trivial
  · obtain ⟨vs, rfl, q1, q2⟩ := hx
    exact ⟨vs, rfl, h.tr HO H q1 q2⟩
  · rename_i h1 h2
    have htr : TR P hp μ Z w x v := by
      cases x with
      | tup l =>
        exfalso
        cases y <;> first | exact h1 rfl | exact h2 _ _ rfl rfl | exact h
      | _ => exact hx
    exact UR.of_TR (h.tr HO H htr)

theorem V2s.ur {ρ : Nat → Option Nat} {szs : TypeId → Option Nat} (HO : VOs ρ hp hp' szs 0 hp') (H : HR P Z0 w0 hp μ Z w) : ∀ {l l' : List A} {vs : List Value}, V2s ρ hp hp' l l' → TRs P hp μ Z w l vs → TRs P hp' (muOf ρ μ) Z w l' vs
  | [], [], vs, _, h => ⟨h.1, fun j x hj => by simp at hj⟩
  | [], _ :: _, _, h, _ => h.elim
  | _ :: _, [], _, h, _ => h.elim
  | x :: xs, y :: ys, vs, ⟨h1, h2⟩, ⟨q1, q2⟩ => by
    cases vs with
    | nil => simp at q1
    | cons v vs =>
      obtain ⟨u, e1, e2⟩ := q2 0 x rfl
      obtain rfl : v = u := by simpa using e1
      have ih := V2s.ur HO H h2 (vs := vs) ⟨by simpa using q1, fun j z hj => by simpa using q2 (j + 1) z (by simpa using hj)⟩
      refine ⟨by simp [ih.1], fun j z hj => ?_⟩
      cases j with
      | zero => simp at hj; subst hj; exact ⟨v, rfl, h1.ur HO H e2⟩
      | succ j => simpa using ih.2 j z (by simpa using hj)

/-- no block is told twice -/
def inj (ρ : Nat → Option Nat) (n : Nat) : Prop := ∀ r r' s, r < n → r' < n → ρ r = some s → ρ r' = some s → r = r'

theorem HR.ren (H : HR P Z0 w0 hp μ Z w) {ρ : Nat → Option Nat} (HO : VOs ρ hp hp' (szOf P) 0 hp') (hi : Vm.inj ρ hp'.length) : HR P Z0 w0 hp' (muOf ρ μ) Z w := by
  have hO : ∀ r o, hp'[r]? = some o → VO ρ hp hp' (szOf P) (ρ r) o := fun r o hr => by simpa using HO.get r o hr
  have hlive : ∀ r b o, Live hp' r → muOf ρ μ r = some (b, o) → ∃ s, ρ r = some s ∧ μ s = some (b, o) ∧ Live hp s := by
    intro r b o hl hm
    obtain ⟨s, h1, h2⟩ := Option.bind_eq_some_iff.1 hm
    refine ⟨s, h1, h2, ?_⟩
    rcases hl with ⟨t, g, l, h⟩ | ⟨t, cs, h⟩
    · have := hO r _ h
      rw [h1] at this
      obtain ⟨_, g0, h3⟩ := this
      exact .inl ⟨t, g0, l, h3⟩
    · have := hO r _ h
      rw [h1] at this
      obtain ⟨cs0, h3, _⟩ := this
      exact .inr ⟨t, cs0, h3⟩
  refine ⟨H.below, H.z0, H.zlt, ?_, ?_, ?_⟩
  · intro r o hr
    have hV := hO r o hr
    cases o with
    | dead => trivial
    | fro g l => trivial
    | row t g l =>
      obtain ⟨rfl, hV⟩ := hV
      cases hs : ρ r with
      | none =>
        rw [hs] at hV
        obtain ⟨rfl, hsz⟩ := hV
        obtain ⟨sz, hsz⟩ := Option.isSome_iff_exists.1 hsz
        refine ⟨sz, hsz, by simp, ?_⟩
        simp [muOf, hs]
      | some s =>
        rw [hs] at hV
        obtain ⟨g0, hs'⟩ := hV
        obtain ⟨sz, q1, q2, q3⟩ := H.ob s _ hs'
        refine ⟨sz, q1, q2, ?_⟩
        have : muOf ρ μ r = μ s := by simp [muOf, hs]
        rw [this]
        exact q3
    | box t cs =>
      cases hs : ρ r with
      | none => rw [hs] at hV; exact hV.elim
      | some s =>
        rw [hs] at hV
        obtain ⟨cs0, hs', hcs⟩ := hV
        obtain ⟨b, cur, q1, q2, q3⟩ := H.ob s _ hs'
        exact ⟨b, cur, by simp [muOf, hs, q1], q2, hcs.cr HO H q3⟩
  · intro r b o hl hm
    obtain ⟨s, _, h2, h3⟩ := hlive r b o hl hm
    exact H.own s b o h3 h2
  · intro r r' b o o2 hl hl' e1 e2
    obtain ⟨s, p1, p2, p3⟩ := hlive r b o hl e1
    obtain ⟨s', p4, p5, p6⟩ := hlive r' b o2 hl' e2
    obtain rfl := H.inj s s' b o o2 p3 p6 p2 p5
    have lt : ∀ q, Live hp' q → q < hp'.length := by
      rintro q (⟨_, _, _, h⟩ | ⟨_, _, h⟩) <;> exact (List.getElem?_eq_some_iff.1 h).1
    exact hi r r' s (lt r hl) (lt r' hl') p1 p4

/-- what a list tells of names -/
def names (l : List (Option Nat)) : Nat → Option Nat := fun r => (l[r]?).join

theorem names_inj : ∀ {l : List (Option Nat)}, (l.filterMap id).Nodup → ∀ r r' s, names l r = some s → names l r' = some s → r = r'
  | [], _, r, r', s, h1, _ => by simp [names] at h1
  | x :: xs, h, r, r', s, h1, h2 => by
    have mem : ∀ q, names xs q = some s → s ∈ xs.filterMap id := by
      intro q hq
      unfold names at hq
      cases hx : xs[q]? with
      | none => rw [hx] at hq; cases hq
      | some y =>
        rw [hx] at hq
        exact List.mem_filterMap.2 ⟨y, List.mem_of_getElem? hx, by simpa using hq⟩
    have hcons : ∀ q, names (x :: xs) (q + 1) = names xs q := fun q => by simp [names]
    have h0 : names (x :: xs) 0 = x := by simp [names]
    have hn : (xs.filterMap id).Nodup := by
      cases x with
      | none => simpa using h
      | some y => simp at h; exact h.2
    have hno : x = some s → s ∉ xs.filterMap id := by
      rintro rfl hm
      simp at h hm
      exact h.1 hm
    cases r with
    | zero =>
      cases r' with
      | zero => rfl
      | succ r' =>
        rw [h0] at h1
        rw [hcons] at h2
        exact absurd (mem r' h2) (hno h1)
    | succ r =>
      cases r' with
      | zero =>
        rw [h0] at h2
        rw [hcons] at h1
        exact absurd (mem r h1) (hno h2)
      | succ r' =>
        rw [hcons] at h1 h2
        rw [names_inj hn r r' s h1 h2]

theorem inj_names {l : List (Option Nat)} {n : Nat} (h : (l.filterMap id).Nodup) : inj (names l) n := fun r r' s _ _ h1 h2 => names_inj h r r' s h1 h2

theorem Le.of {st st' : St} (hC : C.F = []) (l : List (Option Nat)) (hn : (l.filterMap id).Nodup) (HO : VOs (names l) st.hp st'.hp (szOf P) 0 st'.hp) (ht : V2s (names l) st.hp st'.hp st.tm st'.tm) : Le P C st st' := by
  rintro a w ⟨μ, Z, R⟩
  exact ⟨_, Z, R.hr.ren HO (inj_names hn), ht.ur HO R.hr R.tm, R.df, by rw [hC]; exact ⟨by have := R.fr.1; rw [hC] at this; exact this, fun j x hj => by simp at hj⟩⟩
end
end Go.Vm
/- A machine of values: functions. -/
namespace Go.Vm
open Go.RowKit
set_option linter.unusedVariables false
set_option linter.unusedSimpArgs false

def isTup : A → Bool
  | .tup _ => true
  | _ => false

def resA (P : Program) (st : St) : ResultVar → Option A
  | .tmp t => if isTup (st.tm.getD t .undef) then none else some (st.tm.getD t .undef)
  | .cell p t => loadA P st.hp t (st.tm.getD p .undef)

def resAs (P : Program) (st : St) : List ResultVar → Option (List A)
  | [] => some []
  | r :: rs => match resA P st r, resAs P st rs with
    | some x, some xs => some (x :: xs)
    | _, _ => none

def tupOf : List A → A
  | [x] => x
  | l => .tup l

section
variable {P : Program} {C : Ctx} {Z0 : Nat → Prop} {w0 : Base} {hp hp' : List Ob} {μ μ' : Mu} {Z Z' : Nat → Prop} {w w' : World} {st : St} {a : Act}

theorem UR.tr {x : A} {v : Value} (h : UR P hp μ Z w x v) (hx : isTup x = false) : TR P hp μ Z w x v := by
  cases x <;> first | exact h | simp [isTup] at hx

theorem resAs_run (R : RelAt P C st a w μ Z) {f : ResultVar → Sem Value} (f1 : ∀ t, f (.tmp t) = pure (a.tmps.getD t Go.undef)) (f2 : ∀ p t, f (.cell p t) = do loadVar t (← asAddr (a.tmps.getD p Go.undef))) : ∀ {rs : List ResultVar} {xs : List A}, resAs P st rs = some xs →
    ∃ vs : List Value, (rs.mapM f).run P w = .ok vs w ∧ vs.length = xs.length ∧ ∀ (j : Nat) (x : A), xs[j]? = some x → ∃ u, vs[j]? = some u ∧ TR P st.hp μ Z w x u
  | [], xs, h => by
    obtain rfl := Option.some.inj h
    exact ⟨[], by simp, rfl, fun j x hj => by simp at hj⟩
  | r :: rs, xs, h => by
    simp only [resAs] at h
    split at h
    · rename_i x ys e1 e2
      obtain rfl := Option.some.inj h
      obtain ⟨vs, h1, h2, h3⟩ := resAs_run R f1 f2 e2
      have key : ∃ v, (f r).run P w = .ok v w ∧ TR P st.hp μ Z w x v := by
        cases r with
        | tmp t =>
          simp only [resA] at e1
          split at e1
          · cases e1
          · rename_i hn
            obtain rfl := Option.some.inj e1
            have := R.ev (.tmp t)
            exact ⟨_, by rw [f1]; rfl, UR.tr this (by simpa using hn)⟩
        | cell p t =>
          have hp := R.ev (.tmp p)
          obtain ⟨u, q1, q2⟩ := R.hr.load hp e1
          refine ⟨u, ?_, q2⟩
          have hsome : ∃ cs, from_ st.hp (st.tm.getD p .undef) = some cs := by
            simp only [resA, loadA] at e1
            cases hf : from_ st.hp (st.tm.getD p .undef) with
            | none =>
              rw [hf] at e1
              split at e1 <;> simp_all
            | some cs => exact ⟨cs, rfl⟩
          obtain ⟨cs, hcs⟩ := hsome
          obtain ⟨b, o, cur, t', fr, hv, _⟩ := R.hr.from_ hp hcs
          have hv' : a.tmps.getD p Go.undef = .pointer (some ⟨b, o, none⟩) := hv
          rw [hv] at q1
          simp only [f2, hv', asAddr, Sem.run_bind, Sem.run_pure, Result.andThen_ok]
          simpa [Instr.loadAt, Instr.sureAddr] using q1
      obtain ⟨v, k1, k2⟩ := key
      refine ⟨v :: vs, ?_, by simp [h2], fun j z hj => ?_⟩
      · rw [List.mapM_cons, Sem.run_bind, k1]
        simp only [Result.andThen_ok]
        rw [Sem.run_bind, h1]
        rfl
      · cases j with
        | zero => simp at hj; subst hj; exact ⟨v, rfl, k2⟩
        | succ j => simpa using h3 j z (by simpa using hj)
    · cases h

theorem results_run {fn : Func} (R : RelAt P C st a w μ Z) {xs : List A} (h : resAs P st fn.results.toList = some xs) :
    ∃ vs : List Value, (results fn a.tmps).run P w = .ok (if h : vs.length = 1 then vs[0] else .tuple vs.toArray) w ∧ vs.length = xs.length ∧ ∀ (j : Nat) (x : A), xs[j]? = some x → ∃ u, vs[j]? = some u ∧ TR P st.hp μ Z w x u := by
  unfold results
  have hm : ∀ f : ResultVar → Sem Value, (fn.results.mapM f).run P w = ((fn.results.toList.mapM f).run P w).andThen fun l w => .ok l.toArray w := by
    intro f
    conv => lhs; rw [show fn.results = fn.results.toList.toArray by simp]
    rw [List.mapM_toArray, Sem.run_map]
  obtain ⟨vs, h1, h2, h3⟩ := resAs_run R (f := fun r => match r with | .tmp t => pure (a.tmps.getD t Go.undef) | .cell p t => do loadVar t (← asAddr (a.tmps.getD p Go.undef))) (fun t => rfl) (fun p t => rfl) h
  refine ⟨vs, ?_, h2, h3⟩
  rw [Sem.run_bind, hm]
  refine (congrArg (fun r => (Result.andThen (Result.andThen r _) _)) h1).trans ?_
  simp only [Result.andThen_ok, Sem.run_pure, List.size_toArray, List.getElem_toArray]

/-- what is left of a state is these results -/
def Out (P : Program) (fn : Func) (st : St) (res : A) (hr : List Ob) : Prop :=
  ∃ rs rs' l, resAs P st fn.results.toList = some rs ∧ (l.filterMap id).Nodup ∧ VOs (names l) st.hp hr (szOf P) 0 hr ∧ V1s (names l) st.hp hr rs rs' ∧ res = tupOf rs'

theorem Out.run {fn : Func} {res : A} {hr : List Ob} (R : RelAt P C st a w μ Z) (h : Out P fn st res hr) :
    ∃ v μ' Z', (results fn a.tmps).run P w = .ok v w ∧ HR P C.Z0 C.w0 hr μ' Z' w ∧ UR P hr μ' Z' w res v := by
  obtain ⟨rs, rs', l, h1, h2, h3, h4, rfl⟩ := h
  obtain ⟨vs, q1, q2, q3⟩ := results_run R h1
  have hH := R.hr.ren h3 (inj_names h2)
  obtain ⟨q4, q5⟩ := V1s.tr h3 R.hr h4 q2 q3
  refine ⟨_, _, Z, q1, hH, ?_⟩
  by_cases e : vs.length = 1
  · obtain ⟨v, rfl⟩ : ∃ v, vs = [v] := List.length_eq_one_iff.1 e
    rw [dif_pos e]
    cases rs' with
    | nil => simp at q4
    | cons x xs =>
      cases xs with
      | nil =>
        obtain ⟨u, e1, e2⟩ := q5 0 x rfl
        obtain rfl : v = u := by simpa using e1
        exact UR.of_TR e2
      | cons _ _ => simp at q4
  · rw [dif_neg e]
    have : tupOf rs' = .tup rs' := by
      cases rs' with
      | nil => rfl
      | cons x xs => cases xs with
        | nil => simp at q4; exact absurd q4 e
        | cons _ _ => rfl
    rw [this]
    exact ⟨vs.toArray, rfl, by simpa using q4, by simpa using q5⟩

theorem Does.of {f : FuncId} {fn : Func} {c : Code} {n : Nat} {args : List A} {res : A} {hr : List Ob} (hf : P.funcs[f]? = some fn) (hb : fn.body = some c) (hn : fn.ntmps = n)
    (h : ∀ C : Ctx, C.F = [] → CodeS P C c ⟨args ++ List.replicate (n - args.length) (.tup []), []⟩ (fun e st' => match e with | .ret => Out P fn st' res hr | .normal => Out P fn st' res hr | _ => False)) : Does P f args res hr := by
  intro Z w vs hZ hl ha
  refine calls_of_wp hf hb ?_
  have hlen : vs.size = args.length := by rw [← Array.length_toList]; exact hl
  have R : Rel P ⟨Z, Base.of w, [], []⟩ ⟨args ++ List.replicate (n - args.length) (.tup []), []⟩ { tmps := vs ++ Array.replicate (fn.ntmps - vs.size) Go.undef, defers := [] } w := by
    refine ⟨noMu, Z, ⟨Bel.refl _ _, fun _ h => h, fun b hb => ⟨hZ b hb, .inl hb⟩, fun r o h => by simp at h, fun r b o hl => ?_, fun r r' b o o2 hl => ?_⟩, ⟨?_, ?_⟩, rfl, ⟨rfl, fun j x hj => by simp at hj⟩⟩
    · rcases hl with ⟨_, _, _, h⟩ | ⟨_, _, h⟩ <;> simp at h
    · rcases hl with ⟨_, _, _, h⟩ | ⟨_, _, h⟩ <;> simp at h
    · simp [hlen, hn]
    · intro j x hj
      simp only [Array.toList_append, Array.toList_replicate, hn, hlen]
      rw [List.getElem?_append] at hj ⊢
      rw [hl]
      split at hj
      · rename_i hlt
        rw [if_pos hlt]
        obtain ⟨u, h1, h2⟩ := ha j x hj
        exact ⟨u, h1, UR.of_TR h2⟩
      · rename_i hlt
        rw [if_neg hlt]
        rw [List.getElem?_replicate] at hj
        split at hj
        · rename_i h2
          obtain rfl := Option.some.inj hj
          exact ⟨Go.undef, by rw [List.getElem?_replicate, if_pos h2], #[], rfl, rfl, fun j x hj => by simp at hj⟩
        · cases hj
  refine Code.wp_mono (fun e a' w' ⟨st', hk, μ, Z', R'⟩ => ?_) (h ⟨Z, Base.of w, [], []⟩ rfl _ w R)
  cases e with
  | ret =>
    obtain ⟨v, μ', Z2, h1, h2, h3⟩ := hk.run R'
    exact ⟨R'.df, v, h1, v, μ', Z2, rfl, h2, h3⟩
  | normal =>
    obtain ⟨v, μ', Z2, h1, h2, h3⟩ := hk.run R'
    exact ⟨R'.df, v, h1, v, μ', Z2, rfl, h2, h3⟩
  | _ => exact hk.elim

/-- the blocks that are handed over -/
def Lent (hp : List Ob) (μ : Mu) : Nat → Prop := fun b => ∃ r o, Live hp r ∧ μ r = some (b, o)
/-- A function that is handed rows of its caller's to write: hp0 when it begins, hp1 when it returns. -/
def DoesM (P : Program) (f : FuncId) (hp0 : List Ob) (args : List A) (res : A) (hp1 : List Ob) : Prop :=
  ∀ (Z : Nat → Prop) (w : World) (vs : Array Value) (μ : Mu), HR P Z ⟨w, Lent hp0 μ⟩ hp0 μ Z w → vs.toList.length = args.length → (∀ (j : Nat) (x : A), args[j]? = some x → ∃ u, vs.toList[j]? = some u ∧ TR P hp0 μ Z w x u) →
    Calls P f vs w fun e w' => ∃ v μ' Z', e = .returned v ∧ HR P Z ⟨w, Lent hp0 μ⟩ hp1 μ' Z' w' ∧ UR P hp1 μ' Z' w' res v
theorem DoesM.of {f : FuncId} {fn : Func} {c : Code} {n : Nat} {hp0 : List Ob} {args : List A} {res : A} {hp1 : List Ob} (hf : P.funcs[f]? = some fn) (hb : fn.body = some c) (hn : fn.ntmps = n)
    (h : ∀ C : Ctx, C.F = [] → CodeS P C c ⟨args ++ List.replicate (n - args.length) (.tup []), hp0⟩ (fun e st' => match e with | .ret => Out P fn st' res hp1 | .normal => Out P fn st' res hp1 | _ => False)) : DoesM P f hp0 args res hp1 := by
  intro Z w vs μ0 H0 hl ha
  refine calls_of_wp hf hb ?_
  have hlen : vs.size = args.length := by rw [← Array.length_toList]; exact hl
  have R : Rel P ⟨Z, ⟨w, Lent hp0 μ0⟩, [], []⟩ ⟨args ++ List.replicate (n - args.length) (.tup []), hp0⟩ { tmps := vs ++ Array.replicate (fn.ntmps - vs.size) Go.undef, defers := [] } w := by
    refine ⟨μ0, Z, H0, ⟨?_, ?_⟩, rfl, ⟨rfl, fun j x hj => by simp at hj⟩⟩
    · simp [hlen, hn]
    · intro j x hj
      simp only [Array.toList_append, Array.toList_replicate, hn, hlen]
      rw [List.getElem?_append] at hj ⊢
      rw [hl]
      split at hj
      · rename_i hlt
        rw [if_pos hlt]
        obtain ⟨u, h1, h2⟩ := ha j x hj
        exact ⟨u, h1, UR.of_TR h2⟩
      · rename_i hlt
        rw [if_neg hlt]
        rw [List.getElem?_replicate] at hj
        split at hj
        · rename_i h2
          obtain rfl := Option.some.inj hj
          exact ⟨Go.undef, by rw [List.getElem?_replicate, if_pos h2], #[], rfl, rfl, fun j x hj => by simp at hj⟩
        · cases hj
  refine Code.wp_mono (fun e a' w' ⟨st', hk, μ, Z', R'⟩ => ?_) (h ⟨Z, ⟨w, Lent hp0 μ0⟩, [], []⟩ rfl _ w R)
  cases e with
  | ret =>
    obtain ⟨v, μ', Z2, h1, h2, h3⟩ := hk.run R'
    exact ⟨R'.df, v, h1, v, μ', Z2, rfl, h2, h3⟩
  | normal =>
    obtain ⟨v, μ', Z2, h1, h2, h3⟩ := hk.run R'
    exact ⟨R'.df, v, h1, v, μ', Z2, rfl, h2, h3⟩
  | _ => exact hk.elim
end
end Go.Vm
