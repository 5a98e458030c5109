/- A machine of values: what is appended. -/
import Derived.Test.YtekojicaeadepaaVmH
namespace Go.Vm
open Go.RowKit
set_option linter.unusedVariables false
set_option linter.unusedSimpArgs false
section
variable {P : Program} {C : Ctx} {Z0 : Nat → Prop} {w0 : World} {hp hp' : List Ob} {μ μ' : Mu} {Z Z' : Nat → Prop} {w w' : World} {st : St} {a : Act} {o : Oper} {N : St → Prop}

theorem run_append_zero {t ty e : TypeId} {m : Nat} (ht : P.underlying t = some (.slice e)) (hm : szOf P e = some m) {ad ad2 : Option Addr} {n c c2 : Nat} (h : n ≤ c) :
    (Builtin.append_ #[t, t] ty #[.slice ad n c, .slice ad2 0 c2]).run P w = .ok (.slice ad n c) w := by
  cases ad <;> cases ad2 <;> simp [Builtin.append_, run_underlying ht, run_sizeOf hm, Builtin.lenOf, Builtin.firstCells, h, loadCells, loadCellsFrom, storeCells]

def appendA (hp : List Ob) (e : TypeId) (x : A) (ys : List (List A)) : Option (List Ob × A) :=
  match x with
  | .nil => some (hp ++ [.row e 0 ys], .ref hp.length 0)
  | .ref r g => match hp[r]? with
    | some (.row t g' l) => if g = g' ∧ t = e then some (hp.set r (.row e (g + 1) (l ++ ys)), .ref r (g + 1)) else none
    | _ => none
  | .sub r g a b => match hp[r]? with
    | some (.row t g' l) => if g = g' ∧ t = e then some (hp.set r (.row e (g + 1) ((l.take b).drop a ++ ys)), .ref r (g + 1)) else none
    | _ => none
  | _ => none

/-- what a type says that is appended to -/
structure Elt (P : Program) (t e : TypeId) (m bytes : Nat) : Prop where
  u : P.underlying t = some (.slice e)
  i : ∃ i z, P.info? e = some i ∧ i.zero = some z ∧ i.size = m ∧ i.bytes = bytes ∧ z.cells.size = m
  pos : 0 < m

theorem Elt.sz {t e : TypeId} {m bytes : Nat} (h : Elt P t e m bytes) : szOf P e = some m := by
  obtain ⟨i, z, h1, h2, h3, h4, h5⟩ := h.i
  simp [szOf, h1, h3]

theorem ref_self {r g : Nat} {t : TypeId} {l : List (List A)} {v : Value} (hlt : r < hp.length) (h : Over P μ w r t 0 l.length v) (h1 : v.oneCell' = true) (hr : hp[r]? = some (.row t g l)) : CR P hp μ Z w (.ref r g) v := by
  refine ⟨hlt, ?_, ?_, h1⟩
  · intro t' g' l' hr'
    rw [hr] at hr'
    cases hr'
    exact ⟨Nat.le_refl _, fun _ => h⟩
  · intro g' l' hr'
    rw [hr] at hr'
    cases hr'

/-- append to a row of the call's own, or to a part of it -/
theorem HR.append (H : HR P Z0 w0 hp μ Z w) {t e ty : TypeId} {m bytes : Nat} (T : Elt P t e m bytes) {r g0 p n : Nat} {l : List (List A)} {v v2 : Value} {y : A} {ys : List (List A)}
    (hr : hp[r]? = some (.row e g0 l)) (hpn : p + n ≤ l.length) (hO : Over P μ w r e p n v) (hy : UR P hp μ Z w y v2) (hv : Vm.view hp y = some ys) (hys : ∀ c ∈ ys, c.length = m)
    (hb : (n + ys.length) * bytes ≤ 140737488355328) (h63 : n + ys.length ≤ maxLen) :
    ∃ v' w' μ', (Builtin.append_ #[t, t] ty #[v, v2]).run P w = .ok v' w' ∧ HR P Z0 w0 (hp.set r (.row e (g0 + 1) ((l.take (p + n)).drop p ++ ys))) μ' Z w' ∧
      Ext P hp μ Z w (hp.set r (.row e (g0 + 1) ((l.take (p + n)).drop p ++ ys))) μ' Z w' ∧ CR P (hp.set r (.row e (g0 + 1) ((l.take (p + n)).drop p ++ ys))) μ' Z w' (.ref r (g0 + 1)) v' := by
  have hlive : Live hp r := .inl ⟨e, g0, l, hr⟩
  have hlt : r < hp.length := (List.getElem?_eq_some_iff.1 hr).1
  obtain ⟨i, z, hi, hz, hsize, hby, hzs⟩ := T.i
  have hm := T.sz
  have hlen : ((l.take (p + n)).drop p).length = n := by simp; omega
  obtain ⟨ad2, c2, rfl, hc2, hy2⟩ := H.elems hv hy
  -- the new elements' cells
  have hnews : ∃ news, LayL (IV Z w) m news ys ∧ (ys = [] ∨ ∃ z2, ad2 = some z2 ∧ ∀ (j : Nat) (u : Value), news[j]? = some u → w.cell? (z2.add j) = some u) := by
    rcases hy2 with rfl | ⟨b, o, sz, cur, t', fr, rfl, q1, q2⟩
    · exact ⟨[], LayL.nil, .inl rfl⟩
    · obtain ⟨cs, q3, q4⟩ := q2.cells
      by_cases h0 : ys = []
      · subst h0
        exact ⟨[], LayL.nil, .inl rfl⟩
      · have hsz : sz = m := by
          cases ys with
          | nil => exact absurd rfl h0
          | cons c ys => rw [← q2.len 0 c rfl]; exact hys c (by simp)
        subst hsz
        exact ⟨cs, q3, .inr ⟨_, rfl, fun j u hj => cell_of q1 (q4 j u hj)⟩⟩
  obtain ⟨news, hL, hcell⟩ := hnews
  -- a block's word anew, with the new cells in place
  have fin : ∀ (v' : Value) (w' : World) (m' : Option (Nat × Nat)), (Builtin.append_ #[t, t] ty #[v, .slice ad2 ys.length c2]).run P w = .ok v' w' → v'.oneCell' = true →
      Below w0.heap.size w0 w' → w.heap.size ≤ w'.heap.size → (∀ k, k < w.heap.size → (∀ o, μ r ≠ some (k, o)) → w'.heap[k]? = w.heap[k]?) →
      (∀ b o, m' = some (b, o) → (∃ o0, μ r = some (b, o0)) ∨ (w.heap.size ≤ b ∧ b < w'.heap.size)) →
      ((m' = none → (l.take (p + n)).drop p ++ ys = []) ∧ ∀ b o, m' = some (b, o) → ∃ cur, w'.heap[b]? = some (.cells cur e (0, 0)) ∧ Lay (IV Z w) m cur o ((l.take (p + n)).drop p ++ ys) ∧ o + ((l.take (p + n)).drop p ++ ys).length * m ≤ cur.size) →
      Over P (fun q => if q = r then m' else μ q) w' r e 0 ((l.take (p + n)).drop p ++ ys).length v' →
      ∃ v' w' μ', (Builtin.append_ #[t, t] ty #[v, .slice ad2 ys.length c2]).run P w = .ok v' w' ∧ HR P Z0 w0 (hp.set r (.row e (g0 + 1) ((l.take (p + n)).drop p ++ ys))) μ' Z w' ∧
        Ext P hp μ Z w (hp.set r (.row e (g0 + 1) ((l.take (p + n)).drop p ++ ys))) μ' Z w' ∧ CR P (hp.set r (.row e (g0 + 1) ((l.take (p + n)).drop p ++ ys))) μ' Z w' (.ref r (g0 + 1)) v' := by
    intro v' w' m' hrun hone hbel hsz hoth hmm hob hov
    obtain ⟨sz', h8, h9, _⟩ := H.ob r _ hr
    rw [hm] at h8
    obtain rfl := Option.some.inj h8
    obtain ⟨H2, E2⟩ := H.upd (r := r) (o' := .row e (g0 + 1) ((l.take (p + n)).drop p ++ ys)) (m' := m') (w' := w') hlive hbel hsz hoth hmm
      (by rintro t' g' l' ee; cases ee; exact .inr ⟨e, g0, l, hr, Nat.lt_succ_self _⟩)
      (by intro _ _ ee; cases ee) (by intro _ _ ee; cases ee)
      (fun E => by
        refine ⟨m, hm, ?_, ?_⟩
        · intro k c hk
          rcases List.mem_append.1 (List.mem_of_getElem? hk) with h | h
          · obtain ⟨q, hq, rfl⟩ := List.getElem_of_mem (List.mem_of_mem_take (List.mem_of_mem_drop h))
            exact h9 q _ (List.getElem?_eq_getElem hq)
          · exact hys c h
        · simp only [if_true]
          cases m' with
          | none => exact hob.1 rfl
          | some bo =>
            obtain ⟨b, o⟩ := bo
            obtain ⟨cur, q1, q2, q3⟩ := hob.2 b o rfl
            exact ⟨cur, q1, q2.imp (fun x v h => h.mono E.z E.zh), q3⟩)
    exact ⟨v', w', _, hrun, H2, E2, ref_self (by simpa using hlt) hov hone (by simp [hlt])⟩
  obtain ⟨c, hnc, hO2⟩ := hO
  by_cases hk : ys = []
  · -- nothing is appended
    subst hk
    have hrunz : ∀ ad, (Builtin.append_ #[t, t] ty #[.slice ad n c, .slice ad2 ([] : List (List A)).length c2]).run P w = .ok (.slice ad n c) w := fun ad => run_append_zero T.u hm hnc
    rcases hO2 with ⟨rfl, ad, rfl⟩ | ⟨b, o, sz, cur, h3, h4, rfl, h6, h7⟩
    · obtain rfl : n = 0 := by omega
      have hnil : (l.take (p + 0)).drop p ++ ([] : List (List A)) = [] := by
        rw [List.append_nil]
        exact List.eq_nil_of_length_eq_zero hlen
      exact fin _ w none (hrunz ad) rfl H.below (Nat.le_refl _) (fun _ _ _ => rfl) (by intro _ _ e; cases e) ⟨fun _ => hnil, by intro _ _ e; cases e⟩ (by rw [hnil]; exact ⟨0, Nat.le_refl _, .inl ⟨rfl, ad, rfl⟩⟩)
    · rw [hm] at h4
      obtain rfl := Option.some.inj h4
      obtain ⟨sz', h8, h9, h10⟩ := H.ob r _ hr
      rw [hm] at h8
      obtain rfl := Option.some.inj h8
      simp only [h3] at h10
      obtain ⟨cur', h11, h12, h13⟩ := h10
      rw [h6] at h11
      obtain rfl : cur = cur' := by
        have := Option.some.inj h11
        injection this
      refine fin _ w (some (b, o + p * m)) (hrunz _) rfl H.below (Nat.le_refl _) (fun _ _ _ => rfl) (by rintro b' o' ee; cases ee; exact .inl ⟨o, h3⟩) ⟨(by intro ee; cases ee), ?_⟩ ?_
      · rintro b' o' ee
        cases ee
        rw [List.append_nil, hlen]
        refine ⟨cur, h6, ?_, ?_⟩
        · have hget : ∀ (i : Nat) (cs : List A), ((l.take (p + n)).drop p)[i]? = some cs → l[p + i]? = some cs := by
            intro i cs hi
            rw [List.getElem?_drop, List.getElem?_take] at hi
            split at hi
            · exact hi
            · cases hi
          refine ⟨fun i cs hi => h12.len _ _ (hget i cs hi), fun i cs j x hi hj => ?_⟩
          obtain ⟨u, hu1, hu2⟩ := h12.at_ _ _ _ _ (hget i cs hi) hj
          refine ⟨u, ?_, hu2⟩
          rw [← hu1]
          congr 1
          rw [Nat.add_mul]
          omega
        · have : n * m ≤ c * m := Nat.mul_le_mul_right _ hnc
          rw [Nat.add_mul] at h7
          omega
      · rw [List.append_nil, hlen]
        exact ⟨c, hnc, .inr ⟨b, o + p * m, m, cur, by simp, hm, by simp, h6, by rw [Nat.zero_add]; rw [Nat.add_mul] at h7; omega⟩⟩
  · have hkpos : 0 < ys.length := List.length_pos_iff.2 hk
    obtain ⟨z2, rfl, hce⟩ := hcell.resolve_left hk
    have hlenall : ((l.take (p + n)).drop p ++ ys).length = n + ys.length := by rw [List.length_append, hlen]
    -- a new block
    have fresh : ∀ (olds : List Value) (cap : Nat), LayL (IV Z w) m olds ((l.take (p + n)).drop p) → cap < n + ys.length →
        (Builtin.append_ #[t, t] ty #[v, .slice (some z2) ys.length c2]).run P w = .ok (.slice (some ⟨w.heap.size, 0, none⟩) (n + ys.length) (grownCap w (n + ys.length) cap e))
          (w.drew.alloc (.cells (olds.toArray ++ news.toArray ++ Builtin.zeroCells z.cells (grownCap w (n + ys.length) cap e - (n + ys.length))) e)) →
        ∃ v' w' μ', (Builtin.append_ #[t, t] ty #[v, .slice (some z2) ys.length c2]).run P w = .ok v' w' ∧ HR P Z0 w0 (hp.set r (.row e (g0 + 1) ((l.take (p + n)).drop p ++ ys))) μ' Z w' ∧
          Ext P hp μ Z w (hp.set r (.row e (g0 + 1) ((l.take (p + n)).drop p ++ ys))) μ' Z w' ∧ CR P (hp.set r (.row e (g0 + 1) ((l.take (p + n)).drop p ++ ys))) μ' Z w' (.ref r (g0 + 1)) v' := by
      intro olds cap hLo hcap hrun
      have hge := grownCap_ge w (n + ys.length) cap e
      have hLL := hLo.app hL
      have hbel : Below w.heap.size w (w.drew.alloc (.cells (olds.toArray ++ news.toArray ++ Builtin.zeroCells z.cells (grownCap w (n + ys.length) cap e - (n + ys.length))) e)) := ((Below.refl _ w).drew).alloc (Nat.le_refl _) _
      refine fin _ _ (some (w.heap.size, 0)) hrun rfl (H.below.trans (hbel.mono H.below.size)) hbel.size (fun k hk _ => hbel.block k hk) (by rintro b o ee; cases ee; exact .inr ⟨Nat.le_refl _, by simp⟩) ⟨(by intro ee; cases ee), ?_⟩ ?_
      · rintro b o ee
        cases ee
        have := hLL.lay (cur := olds.toArray ++ news.toArray ++ Builtin.zeroCells z.cells (grownCap w (n + ys.length) cap e - (n + ys.length))) (pre := []) (post := (Builtin.zeroCells z.cells (grownCap w (n + ys.length) cap e - (n + ys.length))).toList) (o := 0) (by simp) rfl
        exact ⟨_, heap_alloc_new w.drew _, this.1, this.2⟩
      · rw [hlenall]
        refine ⟨grownCap w (n + ys.length) cap e, hge, .inr ⟨w.heap.size, 0, m, _, by simp, hm, by simp, heap_alloc_new w.drew _, ?_⟩⟩
        rw [Nat.zero_add, Nat.zero_add]
        simp only [Array.size_append, List.size_toArray, size_zeroCells, hzs, hLo.n, hL.n, hlen, ← Nat.add_mul]
        exact Nat.mul_le_mul_right _ (by omega)
    have hbytes : (n + ys.length) * i.bytes ≤ 140737488355328 := by rw [hby]; exact hb
    have h63' : n + ys.length ≤ 9223372036854775807 := by simp only [maxLen] at h63; omega
    rcases hO2 with ⟨rfl, ad, rfl⟩ | ⟨b, o, sz, cur, h3, h4, rfl, h6, h7⟩
    · obtain rfl : n = 0 := by omega
      have hnil : (l.take (p + 0)).drop p = [] := List.eq_nil_of_length_eq_zero hlen
      cases ad with
      | none =>
        have hr := run_append_nil (P := P) w t ty e i z T.u hi hz z2 ys.length c2 news (by rw [hsize]; exact hL.n) hce hkpos (by omega) (by rw [Nat.zero_add] at hbytes; omega)
        refine fresh [] 0 (by rw [hnil]; exact LayL.nil) (by omega) ?_
        rw [hr]
        simp
      | some b =>
        have hr := run_append_grow (P := P) w t ty e i z T.u hi hz b 0 0 [] (by simp) (by simp) z2 ys.length c2 news (by rw [hsize]; exact hL.n) hce (by omega) (by omega) (growslice_fits (by omega) hbytes)
        exact fresh [] 0 (by rw [hnil]; exact LayL.nil) (by omega) hr
    · rw [hm] at h4
      obtain rfl := Option.some.inj h4
      obtain ⟨sz', h8, h9, h10⟩ := H.ob r _ hr
      rw [hm] at h8
      obtain rfl := Option.some.inj h8
      simp only [h3] at h10
      obtain ⟨cur', h11, h12, h13⟩ := h10
      rw [h6] at h11
      obtain rfl : cur = cur' := by
        have := Option.some.inj h11
        injection this
      have hLay : Lay (IV Z w) m cur (o + p * m) ((l.take (p + n)).drop p) := by
        have hget : ∀ (i : Nat) (cs : List A), ((l.take (p + n)).drop p)[i]? = some cs → l[p + i]? = some cs := by
          intro i cs hi
          rw [List.getElem?_drop, List.getElem?_take] at hi
          split at hi
          · exact hi
          · cases hi
        refine ⟨fun i cs hi => h12.len _ _ (hget i cs hi), fun i cs j x hi hj => ?_⟩
        obtain ⟨u, hu1, hu2⟩ := h12.at_ _ _ _ _ (hget i cs hi) hj
        refine ⟨u, ?_, hu2⟩
        rw [← hu1]
        congr 1
        rw [Nat.add_mul]
        omega
      obtain ⟨olds, hLo, holds⟩ := hLay.cells
      by_cases hroom : n + ys.length ≤ c
      · -- in place
        have hfit : o + p * m + n * m + news.length ≤ cur.size := by
          rw [hL.n]
          have : (n + ys.length) * m ≤ c * m := Nat.mul_le_mul_right _ hroom
          rw [Nat.add_mul] at this h7
          omega
        have hst := run_storeCells_at (P := P) b (o + p * m + n * m) e news 0 cur w h6 (by omega) hL.one
        have hf := run_firstCells_some (P := P) w m ys.length z2 ys.length c2 news hL.n hce
        have hrun : (Builtin.append_ #[t, t] ty #[.slice (some ⟨b, o + p * m, none⟩) n c, .slice (some z2) ys.length c2]).run P w =
            .ok (.slice (some ⟨b, o + p * m, none⟩) (n + ys.length) c) (w.setRow b (splice cur.toList (o + p * m + n * m) news).toArray) := by
          simp only [Nat.add_zero] at hst
          simp [Builtin.append_, run_underlying T.u, run_sizeOf hm, Builtin.lenOf, hroom, hf, addr_add, hst, splice]
        have hown := H.own r b o hlive h3
        refine fin _ _ (some (b, o + p * m)) hrun rfl (H.below.trans (below_setRow hown.1)) (by simp) (fun k hk hne => setRow_other w b k _ (fun ee => hne o (ee ▸ h3))) (by rintro b' o' ee; cases ee; exact .inl ⟨o, h3⟩) ⟨(by intro ee; cases ee), ?_⟩ ?_
        · rintro b' o' ee
          cases ee
          refine ⟨_, setRow_heap w b cur _ e _ h6, ?_⟩
          have hLL := hLo.app hL
          refine hLL.lay (pre := cur.toList.take (o + p * m)) (post := cur.toList.drop (o + p * m + n * m + news.length)) ?_ (by rw [List.length_take, Array.length_toList]; omega)
          apply List.ext_getElem?
          intro q
          have holen : olds.length = n * m := by rw [hLo.n, hlen]
          have hfit2 : o + p * m + n * m + news.length ≤ cur.toList.length := by rw [Array.length_toList]; exact hfit
          rw [show (splice cur.toList (o + p * m + n * m) news).toArray.toList = splice cur.toList (o + p * m + n * m) news from rfl, splice_get hfit2]
          have e1 : cur.toList.take (o + p * m) ++ (olds ++ news) ++ cur.toList.drop (o + p * m + n * m + news.length) = splice cur.toList (o + p * m) (olds ++ news) := by
            unfold splice
            rw [List.length_append, holen, Nat.add_assoc (o + p * m)]
          rw [e1, splice_get (by rw [List.length_append, holen]; omega), List.length_append, holen]
          by_cases a1 : q < o + p * m
          · rw [if_pos (by omega), if_pos a1]
          · rw [if_neg a1]
            by_cases a2 : q < o + p * m + n * m
            · rw [if_pos a2, if_pos (by omega), List.getElem?_append_left (by omega)]
              have hq : q - (o + p * m) < olds.length := by omega
              have := holds (q - (o + p * m)) olds[q - (o + p * m)] (List.getElem?_eq_getElem hq)
              rw [List.getElem?_eq_getElem hq, Array.getElem?_toList, ← this]
              congr 1
              omega
            · rw [if_neg a2]
              by_cases a3 : q < o + p * m + n * m + news.length
              · rw [if_pos a3, if_pos (by omega), List.getElem?_append_right (by omega)]
                congr 1
                omega
              · rw [if_neg a3, if_neg (by omega)]
        · rw [hlenall]
          refine ⟨c, hroom, .inr ⟨b, o + p * m, m, _, by simp, hm, by simp, setRow_heap w b cur _ e _ h6, ?_⟩⟩
          rw [List.size_toArray, splice_length (by rw [Array.length_toList]; exact hfit), Array.length_toList, Nat.zero_add]
          rw [Nat.add_mul] at h7
          omega
      · have hr := run_append_grow (P := P) w t ty e i z T.u hi hz ⟨b, o + p * m, none⟩ n c olds (by rw [hsize, hLo.n, hlen]) (fun j u hj => cell_of h6 (holds j u hj)) z2 ys.length c2 news (by rw [hsize]; exact hL.n) hce (by omega) (by omega) (growslice_fits (by omega) hbytes)
        exact fresh olds c hLo (by omega) hr

/-- append where there is no room: to nothing -/
theorem HR.append0 (H : HR P Z0 w0 hp μ Z w) {t e ty : TypeId} {m bytes : Nat} (T : Elt P t e m bytes) {ad : Option Addr} {v2 : Value} {y : A} {ys : List (List A)}
    (hy : UR P hp μ Z w y v2) (hv : Vm.view hp y = some ys) (hys : ∀ c ∈ ys, c.length = m) (hb : ys.length * bytes ≤ 140737488355328) (h63 : ys.length ≤ maxLen) :
    ∃ v' w' μ', (Builtin.append_ #[t, t] ty #[.slice ad 0 0, v2]).run P w = .ok v' w' ∧ HR P Z0 w0 (hp ++ [.row e 0 ys]) μ' Z w' ∧ Ext P hp μ Z w (hp ++ [.row e 0 ys]) μ' Z w' ∧ CR P (hp ++ [.row e 0 ys]) μ' Z w' (.ref hp.length 0) v' := by
  obtain ⟨i, z, hi, hz, hsize, hby, hzs⟩ := T.i
  have hm := T.sz
  obtain ⟨ad2, c2, rfl, hc2, hy2⟩ := H.elems hv hy
  by_cases hk : ys = []
  · subst hk
    obtain ⟨H', E⟩ := H.push (o' := .row e 0 []) (m' := none) (w' := w) H.below (Nat.le_refl _) (fun _ _ => rfl) (by intro _ _ ee; cases ee) (fun E => ⟨m, hm, by simp, by simp⟩)
    exact ⟨_, w, _, run_append_zero T.u hm (Nat.le_refl _), H', E, ref_self (t := e) (l := []) (by simp) ⟨0, Nat.le_refl _, .inl ⟨rfl, ad, rfl⟩⟩ rfl (by simp)⟩
  · have hkpos : 0 < ys.length := List.length_pos_iff.2 hk
    rcases hy2 with rfl | ⟨b, o, sz, cur, t', fr, rfl, q1, q2⟩
    · exact absurd rfl hk
    · obtain ⟨news, q3, q4⟩ := q2.cells
      have hsz : sz = m := by
        cases ys with
        | nil => exact absurd rfl hk
        | cons c ys => rw [← q2.len 0 c rfl]; exact hys c (by simp)
      subst hsz
      have hce : ∀ (j : Nat) (u : Value), news[j]? = some u → w.cell? ((⟨b, o, none⟩ : Addr).add j) = some u := fun j u hj => cell_of q1 (q4 j u hj)
      have hbytes : ys.length * i.bytes ≤ 140737488355328 := by rw [hby]; exact hb
      have h63' : ys.length ≤ 9223372036854775807 := by simp only [maxLen] at h63; omega
      have hge := grownCap_ge w ys.length 0 e
      have key : (Builtin.append_ #[t, t] ty #[.slice ad 0 0, .slice (some ⟨b, o, none⟩) ys.length c2]).run P w = .ok (.slice (some ⟨w.heap.size, 0, none⟩) ys.length (grownCap w ys.length 0 e)) (w.drew.alloc (.cells (news.toArray ++ Builtin.zeroCells z.cells (grownCap w ys.length 0 e - ys.length)) e)) := by
        cases ad with
        | none => exact run_append_nil (P := P) w t ty e i z T.u hi hz _ ys.length c2 news (by rw [hsize]; exact q3.n) hce hkpos (by omega) (by omega)
        | some b' =>
          have := run_append_grow (P := P) w t ty e i z T.u hi hz b' 0 0 [] (by simp) (by simp) _ ys.length c2 news (by rw [hsize]; exact q3.n) hce (by omega) (by omega) (growslice_fits (by omega) (by rw [Nat.zero_add]; exact hbytes))
          simpa using this
      have hbel : Below w.heap.size w (w.drew.alloc (.cells (news.toArray ++ Builtin.zeroCells z.cells (grownCap w ys.length 0 e - ys.length)) e)) := ((Below.refl _ w).drew).alloc (Nat.le_refl _) _
      obtain ⟨μ', H', E, C⟩ := H.newRow (c := grownCap w ys.length 0 e) (post := (Builtin.zeroCells z.cells (grownCap w ys.length 0 e - ys.length)).toList) hbel (heap_alloc_new w.drew _) hm q3 (by simp) hge (by
        simp only [Array.size_append, List.size_toArray, size_zeroCells, hzs, q3.n, ← Nat.add_mul]
        exact Nat.mul_le_mul_right _ (by omega))
      exact ⟨_, _, μ', key, H', E, C⟩

/-- how long the first row is -/
theorem op_append {t e : TypeId} {x y : Operand} {m bytes n : Nat} {ys : List (List A)} {hp' : List Ob} {r : A} (ho : o.op = .call { callee := .builtin .append, args := #[x, y], argTypes := #[t, t] }) (T : Elt P t e m bytes)
    (hn : lenA st.hp (st.ev x) = some n) (hv : view st.hp (st.ev y) = some ys) (hys : ∀ c ∈ ys, c.length = m) (hb : (n + ys.length) * bytes ≤ 140737488355328) (h63 : n + ys.length ≤ maxLen)
    (ha : appendA st.hp e (st.ev x) ys = some (hp', r)) (h : N (St.put ⟨st.tm, hp'⟩ o.dst r)) : OpS P C o st N :=
  OpS.blk h fun a w μ Z R => by
    have hy := R.ev y
    have hx := R.ev x
    have go : ∀ v' w' (r' : A) hp' μ', (Builtin.append_ #[t, t] o.type #[a.eval x, a.eval y]).run P w = .ok v' w' → HR P C.Z0 C.w0 hp' μ' Z w' → Ext P st.hp μ Z w hp' μ' Z w' → CR P hp' μ' Z w' r' v' →
        ∃ v w' μ' Z', ((execOp a.eval o).run P w = .ok (.value v) w' ∨ (execOp a.eval o).run P w = .ok .skip w' ∧ v = Go.undef) ∧ HR P C.Z0 C.w0 hp' μ' Z' w' ∧ Ext P st.hp μ Z w hp' μ' Z' w' ∧ UR P hp' μ' Z' w' r' v := by
      intro v' w' r' hp' μ' h1 h2 h3 h4
      refine ⟨v', w', μ', Z, .inl ?_, h2, h3, UR.of_CR h4⟩
      simp [execOp, ho, resolve, invoke, builtin, h1]
    cases hev : st.ev x with
    | nil =>
      rw [hev] at ha hx hn
      simp only [appendA, Option.some.injEq, Prod.mk.injEq] at ha
      obtain ⟨rfl, rfl⟩ := ha
      simp only [lenA, Option.some.injEq] at hn
      subst hn
      rw [Nat.zero_add] at hb h63
      obtain ⟨ad, hvx⟩ := (show ∃ ad, a.eval x = .slice ad 0 0 from hx)
      obtain ⟨v', w', μ', h1, h2, h3, h4⟩ := R.hr.append0 (ad := ad) (ty := o.type) T hy hv hys hb h63
      exact go v' w' _ _ μ' (by rw [hvx]; exact h1) h2 h3 h4
    | ref q g =>
      rw [hev] at ha hx hn
      simp only [appendA] at ha
      simp only [lenA] at hn
      split at ha
      · rename_i t' g' l hr
        simp only [hr] at hn
        split at ha
        · rename_i hg
          obtain ⟨hg, rfl⟩ := hg
          simp only [Option.some.injEq, Prod.mk.injEq] at ha
          obtain ⟨rfl, rfl⟩ := ha
          rw [if_pos hg] at hn
          obtain rfl := Option.some.inj hn
          subst hg
          obtain ⟨h0, h1, _⟩ := (hx : CR P st.hp μ Z w (.ref q g) _)
          have hO := (h1 t' g l hr).2 rfl
          obtain ⟨v', w', μ', h1, h2, h3, h4⟩ := R.hr.append (ty := o.type) T hr (by omega : 0 + l.length ≤ l.length) hO hy hv hys hb h63
          simp only [Nat.zero_add, List.take_length, List.drop_zero] at h2 h3 h4
          exact go v' w' _ _ μ' h1 h2 h3 h4
        · cases ha
      · cases ha
    | sub q g p s =>
      rw [hev] at ha hx hn
      simp only [appendA] at ha
      simp only [lenA] at hn
      split at ha
      · rename_i t' g' l hr
        simp only [hr] at hn
        split at ha
        · rename_i hg
          obtain ⟨hg, rfl⟩ := hg
          simp only [Option.some.injEq, Prod.mk.injEq] at ha
          obtain ⟨rfl, rfl⟩ := ha
          rw [if_pos hg] at hn
          obtain rfl := Option.some.inj hn
          subst hg
          obtain ⟨h0, h1, _⟩ := (hx : CR P st.hp μ Z w (.sub q g p s) _)
          obtain ⟨q1, q2, hO⟩ := (h1 t' g l hr).2 rfl
          obtain ⟨v', w', μ', h1, h2, h3, h4⟩ := R.hr.append (ty := o.type) T hr (by omega : p + (s - p) ≤ l.length) hO hy hv hys hb h63
          rw [show p + (s - p) = s by omega] at h2 h3 h4
          exact go v' w' _ _ μ' h1 h2 h3 h4
        · cases ha
      · cases ha
    | _ => rw [hev] at ha; simp [appendA] at ha
end
end Go.Vm
