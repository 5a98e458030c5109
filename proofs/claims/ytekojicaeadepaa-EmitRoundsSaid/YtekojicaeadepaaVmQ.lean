/- A machine of values: what is deleted from a row of its own. -/
import Derived.Test.YtekojicaeadepaaVmP
import Derived.Sort.WalkB12
import Derived.Lib.SliceRun
import Derived.Lib.SlicesDelete
namespace Go.Vm
open Go.RowKit
/-- slices.Delete, elements of one cell -/
def Deletes (P : Program) (f : FuncId) (z : Value) : Prop :=
  ∀ (b o c i j : Nat) (d : Array Value) (w : World), (∀ u ∈ d.toList, u.oneCell' = true) → Sort.Holds id w b o d → d.size ≤ c → d.size ≤ 9223372036854775807 → i ≤ j → j ≤ d.size →
    Calls P f #[.slice (some ⟨b, o, none⟩) d.size c, .int .i64 i, .int .i64 j] w fun e w' => e = .returned (.slice (some ⟨b, o, none⟩) (d.size - (j - i)) c) ∧ ∃ q, w' = Sort.putRow id (Sort.ahead w q) b o (d.toList.take i ++ d.toList.drop j ++ List.replicate (j - i) z).toArray

section
set_option linter.unusedVariables false
variable {P : Program} {C : Ctx} {Z0 : Nat → Prop} {w0 : World} {hp hp' : List Ob} {μ μ' : Mu} {Z Z' : Nat → Prop} {w w' : World} {st : St} {a : Act}

theorem putRow_setRow {b o : Nat} {cur : Array Value} {t : TypeId} {fr : Nat × Nat} (d : Array Value) (hb : w.heap[b]? = some (.cells cur t fr)) (q : Nat) :
    (Sort.putRow id (Sort.ahead w q) b o d).heap = w.heap.modify b (Sort.onCells fun c => Sort.putCells id o d c) := rfl

theorem row_delete (H : HR P Z0 w0 hp μ Z w) {r g : Nat} {t : TypeId} {l : List (List A)} {i j : Nat} {v : Value} (hr : hp[r]? = some (.row t g l)) (hsz : szOf P t = some 1)
    (hv : UR P hp μ Z w (.ref r g) v) (h0 : 0 < l.length) (hij : i ≤ j) (hj : j ≤ l.length) :
    ∃ b o c, ∃ d : Array Value, v = .slice (some ⟨b, o, none⟩) d.size c ∧ d.size = l.length ∧ d.size ≤ c ∧ (∀ u ∈ d.toList, u.oneCell' = true) ∧ Sort.Holds id w b o d ∧
      ∀ q zs, zs.length = j - i → HR P Z0 w0 (hp.set r (.row t (g + 1) (l.take i ++ l.drop j))) μ Z (Sort.putRow id (Sort.ahead w q) b o (d.toList.take i ++ d.toList.drop j ++ zs).toArray) ∧
        Ext P hp μ Z w (hp.set r (.row t (g + 1) (l.take i ++ l.drop j))) μ Z (Sort.putRow id (Sort.ahead w q) b o (d.toList.take i ++ d.toList.drop j ++ zs).toArray) ∧
        UR P (hp.set r (.row t (g + 1) (l.take i ++ l.drop j))) μ Z (Sort.putRow id (Sort.ahead w q) b o (d.toList.take i ++ d.toList.drop j ++ zs).toArray) (.ref r (g + 1)) (.slice (some ⟨b, o, none⟩) (d.size - (j - i)) c) := by
  obtain ⟨hlt, h1, _, _⟩ := (hv : CR P hp μ Z w (.ref r g) v)
  obtain ⟨c, hc, hov⟩ := (h1 t g l hr).2 rfl
  rcases hov with ⟨rfl, _⟩ | ⟨b, o, sz, cur, h3, h4, rfl, h6, h7⟩
  · omega
  rw [hsz] at h4
  obtain rfl := Option.some.inj h4
  obtain ⟨sz', q1, q2, q3⟩ := H.ob r _ hr
  rw [hsz] at q1
  obtain rfl := Option.some.inj q1
  simp only [h3] at q3
  obtain ⟨cur', q4, q5, q6⟩ := q3
  rw [h6] at q4
  obtain ⟨rfl⟩ : cur = cur' := by
    have := Option.some.inj q4
    injection this
  have hlive : Live hp r := .inl ⟨t, g, l, hr⟩
  have hown := H.own r b o hlive h3
  have hcz : o + c ≤ cur.size := by omega
  let d : Array Value := ((cur.toList.drop o).take l.length).toArray
  have hd : d.size = l.length := by
    simp only [d, List.size_toArray, List.length_take, List.length_drop, Array.length_toList]
    omega
  have hdget : ∀ k, k < l.length → d[k]? = cur[o + k]? := by
    intro k hk
    simp only [d, List.getElem?_toArray, List.getElem?_take, if_pos hk, List.getElem?_drop, Array.getElem?_toList]
  -- each element
  have hel : ∀ k e, l[k]? = some e → ∃ x u, e = [x] ∧ cur[o + k]? = some u ∧ IV Z w x u := by
    intro k e hk
    have hl1 := q2 k e hk
    match e, hl1 with
    | [x], _ =>
      obtain ⟨u, p1, p2⟩ := q5.at_ k [x] 0 x hk rfl
      exact ⟨x, u, rfl, by rw [← p1]; congr 1; omega, p2⟩
  refine ⟨b, o, c, d, by rw [hd]; simp, hd, by omega, ?_, ?_, ?_⟩
  · intro u hu
    obtain ⟨k, hk, rfl⟩ := List.getElem_of_mem hu
    have hk' : k < l.length := by rw [← hd]; simpa using hk
    obtain ⟨x, u, _, p1, p2⟩ := hel k _ (List.getElem?_eq_getElem hk')
    have := hdget k hk'
    rw [p1, Array.getElem?_eq_getElem (by omega)] at this
    have := Option.some.inj this
    rw [show d.toList[k] = d[k] from by simp, this]
    exact p2.one
  · intro k hk
    have hk' : k < l.length := by omega
    have hin : o + k < cur.size := by omega
    have := hdget k hk'
    refine ⟨?_, ?_⟩
    · simp only [World.cell?, h6, id]
      rw [getElem!_pos d k hk]
      rw [Array.getElem?_eq_getElem hk] at this
      simpa using this.symm
    · simp [World.frozen?, h6]
  · intro q zs hzs
    obtain ⟨nd, hnd⟩ : ∃ nd : List Value, nd = d.toList.take i ++ d.toList.drop j ++ zs := ⟨_, rfl⟩
    have hndl : nd.length = l.length := by
      rw [hnd]
      simp only [List.length_append, List.length_take, List.length_drop, Array.length_toList, hd, hzs]
      omega
    rw [← hnd]
    have hlen : (l.take i ++ l.drop j).length = l.length - (j - i) := by
      simp only [List.length_append, List.length_take, List.length_drop]
      omega
    have hget : ∀ k, k < l.length - (j - i) → nd[k]? = cur[o + if k < i then k else k + (j - i)]? := by
      intro k hk
      rw [hnd, List.append_assoc]
      by_cases hki : k < i
      · rw [if_pos hki, List.getElem?_append_left (by simp; omega), List.getElem?_take, if_pos hki, Array.getElem?_toList, hdget k (by omega)]
      · rw [if_neg hki, List.getElem?_append_right (by simp; omega), List.getElem?_append_left (by simp; omega), List.getElem?_drop, Array.getElem?_toList]
        rw [show j + (k - (d.toList.take i).length) = k + (j - i) by simp; omega]
        exact hdget _ (by omega)
    have hheap : (Sort.putRow id (Sort.ahead w q) b o nd.toArray).heap[b]? = some (.cells (Sort.putCells id o nd.toArray cur) t (0, 0)) := by
      simp [Sort.putRow, Sort.mapBlock, Sort.ahead, Array.getElem?_modify, h6, Sort.onCells]
    have hother : ∀ k, k ≠ b → (Sort.putRow id (Sort.ahead w q) b o nd.toArray).heap[k]? = w.heap[k]? := by
      intro k hk
      simp [Sort.putRow, Sort.mapBlock, Sort.ahead, Array.getElem?_modify, Ne.symm hk]
    have hsize : (Sort.putRow id (Sort.ahead w q) b o nd.toArray).heap.size = w.heap.size := by simp [Sort.putRow, Sort.mapBlock, Sort.ahead]
    have hcells : ∀ k, k < l.length → (Sort.putCells id o nd.toArray cur)[o + k]? = nd[k]? := by
      intro k hk
      have hin : o + k < cur.size := by omega
      simp only [Sort.putCells, Array.getElem?_mapIdx, Array.getElem?_eq_getElem hin, Option.map_some, List.size_toArray, hndl]
      rw [if_pos (by omega), show o + k - o = k by omega, List.getElem?_eq_getElem (by omega), getElem!_pos nd.toArray k (by simp; omega)]
      simp
    have hpsz : (Sort.putCells id o nd.toArray cur).size = cur.size := by simp [Sort.putCells]
    obtain ⟨H2, E2⟩ := H.upd (r := r) (o' := .row t (g + 1) (l.take i ++ l.drop j)) (m' := μ r) (w' := Sort.putRow id (Sort.ahead w q) b o nd.toArray) hlive
      (H.below.trans ⟨rfl, rfl, rfl, by rw [hsize]; exact Nat.le_refl _, fun k hk => hother k (by omega)⟩) (by rw [hsize]; exact Nat.le_refl _)
      (fun k hk hne => hother k (fun e => hne o (e ▸ h3)))
      (fun b' o' e => .inl ⟨o', e⟩)
      (by
        rintro t' g' l' e
        cases e
        exact .inr ⟨t, g, l, hr, Nat.lt_succ_self _⟩)
      (by intro _ _ e; cases e) (by intro _ _ e; cases e)
      (fun E => by
        have hsub : ∀ k e, (l.take i ++ l.drop j)[k]? = some e → k < l.length - (j - i) ∧ l[if k < i then k else k + (j - i)]? = some e := by
          intro k e he
          have hk : k < l.length - (j - i) := by
            rw [← hlen]
            exact (List.getElem?_eq_some_iff.1 he).1
          refine ⟨hk, ?_⟩
          by_cases hki : k < i
          · rw [if_pos hki]
            rw [List.getElem?_append_left (by simp; omega), List.getElem?_take, if_pos hki] at he
            exact he
          · rw [if_neg hki]
            rw [List.getElem?_append_right (by simp; omega), List.getElem?_drop] at he
            rw [← he]
            congr 1
            simp
            omega
        refine ⟨1, hsz, fun k e he => q2 _ e (hsub k e he).2, ?_⟩
        simp only [if_true, h3]
        refine ⟨_, hheap, ⟨fun k e he => q2 _ e (hsub k e he).2, ?_⟩, ?_⟩
        · intro k e jj x he hx
          obtain ⟨hk, he'⟩ := hsub k e he
          obtain ⟨y, u, rfl, p1, p2⟩ := hel _ e he'
          have hjj : jj = 0 := by
            have := (List.getElem?_eq_some_iff.1 hx).1
            simp at this
            omega
          subst hjj
          obtain rfl : y = x := by simpa using hx
          refine ⟨u, ?_, p2.mono E.z E.zh⟩
          rw [show o + (k * 1 + 0) = o + k by omega, hcells k (by omega), hget k hk]
          exact p1
        · rw [hpsz, hlen]
          omega)
    have hμ : (fun q => if q = r then μ r else μ q) = μ := by
      funext q
      split
      · rename_i e; rw [e]
      · rfl
    rw [hμ] at H2 E2
    refine ⟨H2, E2, ?_⟩
    show CR P _ μ Z _ (.ref r (g + 1)) _
    refine ⟨by simpa using hlt, ?_, ?_, rfl⟩
    · intro t' g' l' e
      rw [List.getElem?_set, if_pos rfl, if_pos hlt] at e
      cases e
      refine ⟨Nat.le_refl _, fun _ => ⟨c, by rw [hlen]; omega, .inr ⟨b, o, 1, _, h3, hsz, ?_, hheap, by rw [hpsz]; omega⟩⟩⟩
      rw [hlen, hd]
      simp
    · intro g' l' e
      rw [List.getElem?_set, if_pos rfl, if_pos hlt] at e
      cases e

theorem Stp.delete {f : FuncId} {x y y' : Operand} {r g : Nat} {t : TypeId} {l : List (List A)} {i j : Int} {d : Option Tmp} {z : Value} {ts : Array TypeId} {tm : List A} {hp : List Ob} [hE : En P f] [hsz : Sz P t 1] (hF : Deletes P f z)
    (hx : St.evo ⟨tm, hp⟩ x = some (.ref r g) := by rfl) (hy : St.evo ⟨tm, hp⟩ y = some (.int .i64 i) := by rfl) (hy' : St.evo ⟨tm, hp⟩ y' = some (.int .i64 j) := by rfl) (hr : hp[r]? = some (.row t g l) := by rfl)
    (h0 : 0 < l.length) (hm : l.length ≤ 9223372036854775807) (hi : 0 ≤ i) (hij : i ≤ j) (hj : j ≤ l.length) :
    Stp P (.call { callee := .value (.func f), args := #[x, y, y'], argTypes := ts }) d ⟨tm, hp⟩ (St.put ⟨tm, hp.set r (.row t (g + 1) (l.take i.toNat ++ l.drop j.toNat))⟩ d (.ref r (g + 1))) := by
  rintro o ho hd C N hN a w ⟨μ, Z, R⟩ K Q hK
  have e1 := R.ev x
  have e2 := R.ev y
  have e3 := R.ev y'
  rw [evo_ev hx] at e1
  rw [evo_ev hy] at e2
  rw [evo_ev hy'] at e3
  have e2 := e2.int
  have e3 := e3.int
  obtain ⟨b, o', c, dd, q1, q2, q3, q4, q5, q6⟩ := row_delete (i := i.toNat) (j := j.toNat) R.hr hr hsz.h e1 h0 (by omega) (by omega)
  have hrun : (execOp a.eval o).run P w = .ok (.enter f #[a.eval x, a.eval y, a.eval y']) w := by
    simp [execOp, ho, resolve, Deferred.ofValue, Act.eval, invoke, hE.h]
  unfold Oper.wp
  rw [hrun, q1, e2, e3, show i = (i.toNat : Int) by omega, show j = (j.toNat : Int) by omega]
  refine Calls.mono (hF b o' c i.toNat j.toNat dd w q4 q5 q3 (by omega) (by omega) (by omega)) ?_
  rintro e w' ⟨rfl, q, rfl⟩
  obtain ⟨H2, E2, U2⟩ := q6 q (List.replicate (j.toNat - i.toNat) z) (by simp)
  subst hd
  exact hK _ _ _ hN ⟨μ, Z, R.step H2 E2 U2 _⟩ ⟨_, rfl⟩
end
end Go.Vm
