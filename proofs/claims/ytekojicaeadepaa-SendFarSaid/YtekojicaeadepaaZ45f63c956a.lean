/- A part of a proof that statements of this seat hold of the given program; no conditions but the statements' own. -/
import Derived.Test.YtekojicaeadepaaZ5a1b345723
import Derived.Sort.WalkB12
import Derived.Lib.SliceRun
import Derived.Lib.SlicesDelete
import Derived.Laws.AppendOwn
import Derived.Deep.Slices
import Derived.Laws.MakeOwn
import Derived.Test.YtekojicaeadepaaProg
import Derived.Shelf.Abstract
import Derived.Test.YtekojicaeadepaaSched
import Derived.Test.YtekojicaeadepaaNib
set_option linter.unusedVariables false
set_option linter.unusedSimpArgs false
/- A machine of values: what is deleted from a row of its own. -/
namespace Go.Vm
open Go.RowKit
/-- slices.Delete, elements of one cell -/
def Deletes (P : Program) (f : FuncId) (z : Value) : Prop :=
  ∀ (b o c i j : Nat) (d : Array Value) (w : World), (∀ u ∈ d.toList, u.oneCell' = true) → Sort.Holds id w b o d → d.size ≤ c → d.size ≤ 9223372036854775807 → i ≤ j → j ≤ d.size →
    Calls P f #[.slice (some ⟨b, o, none⟩) d.size c, .int .i64 i, .int .i64 j] w fun e w' => e = .returned (.slice (some ⟨b, o, none⟩) (d.size - (j - i)) c) ∧ ∃ q, w' = Sort.putRow id (Sort.ahead w q) b o (d.toList.take i ++ d.toList.drop j ++ List.replicate (j - i) z).toArray

section
set_option linter.unusedVariables false
variable {P : Program} {C : Ctx} {Z0 : Nat → Prop} {w0 : Base} {hp hp' : List Ob} {μ μ' : Mu} {Z Z' : Nat → Prop} {w w' : World} {st : St} {a : Act}

theorem putRow_setRow {b o : Nat} {cur : Array Value} {t : TypeId} {fr : Nat × Nat} (d : Array Value) (hb : w.heap[b]? = some (.cells cur t fr)) (q : Nat) :
    (Sort.putRow id (Sort.ahead w q) b o d).heap = w.heap.modify b (Sort.onCells fun c => Sort.putCells id o d c) := rfl

theorem row_delete (H : HR P Z0 w0 hp μ Z w) {r g : Nat} {t : TypeId} {l : List (List A)} {i j : Nat} {v : Value} (hr : hp[r]? = some (.row t g l)) (hsz : szOf P t = some 1)
    (hv : UR P hp μ Z w (.ref r g) v) (h0 : 0 < l.length) (hij : i ≤ j) (hj : j ≤ l.length) :
    ∃ b o c, ∃ d : Array Value, v = .slice (some ⟨b, o, none⟩) d.size c ∧ d.size = l.length ∧ d.size ≤ c ∧ (∀ u ∈ d.toList, u.oneCell' = true) ∧ Sort.Holds id w b o d ∧
      ∀ q zs, zs.length = j - i → HR P Z0 w0 (hp.set r (.row t (g + 1) (l.take i ++ l.drop j))) μ Z (Sort.putRow id (Sort.ahead w q) b o (d.toList.take i ++ d.toList.drop j ++ zs).toArray) ∧
        Ext P hp μ Z w (hp.set r (.row t (g + 1) (l.take i ++ l.drop j))) μ Z (Sort.putRow id (Sort.ahead w q) b o (d.toList.take i ++ d.toList.drop j ++ zs).toArray) ∧
        UR P (hp.set r (.row t (g + 1) (l.take i ++ l.drop j))) μ Z (Sort.putRow id (Sort.ahead w q) b o (d.toList.take i ++ d.toList.drop j ++ zs).toArray) (.ref r (g + 1)) (.slice (some ⟨b, o, none⟩) (d.size - (j - i)) c) := by
  obtain ⟨hlt, h1, _, _⟩ := (hv : CR P hp μ Z w (.ref r g) v)
  obtain ⟨c, hc, hov⟩ := (h1 t g l hr).2 rfl
  rcases hov with ⟨rfl, _⟩ | ⟨b, o, sz, cur, h3, h4, rfl, h6, h7⟩
  · omega
  rw [hsz] at h4
  obtain rfl := Option.some.inj h4
  obtain ⟨sz', q1, q2, q3⟩ := H.ob r _ hr
  rw [hsz] at q1
  obtain rfl := Option.some.inj q1
  simp only [h3] at q3
  obtain ⟨cur', q4, q5, q6⟩ := q3
  rw [h6] at q4
  obtain ⟨rfl⟩ : cur = cur' := by
    have := Option.some.inj q4
    injection this
  have hlive : Live hp r := .inl ⟨t, g, l, hr⟩
  have hown := H.own r b o hlive h3
  have hcz : o + c ≤ cur.size := by omega
  let d : Array Value := ((cur.toList.drop o).take l.length).toArray
  have hd : d.size = l.length := by
    simp only [d, List.size_toArray, List.length_take, List.length_drop, Array.length_toList]
    omega
  have hdget : ∀ k, k < l.length → d[k]? = cur[o + k]? := by
    intro k hk
    simp only [d, List.getElem?_toArray, List.getElem?_take, if_pos hk, List.getElem?_drop, Array.getElem?_toList]
  -- each element
  have hel : ∀ k e, l[k]? = some e → ∃ x u, e = [x] ∧ cur[o + k]? = some u ∧ IV Z w x u := by
    intro k e hk
    have hl1 := q2 k e hk
    match e, hl1 with
    | [x], _ =>
      obtain ⟨u, p1, p2⟩ := q5.at_ k [x] 0 x hk rfl
      exact ⟨x, u, rfl, by rw [← p1]; congr 1; omega, p2⟩
  refine ⟨b, o, c, d, by rw [hd]; simp, hd, by omega, ?_, ?_, ?_⟩
  · intro u hu
    obtain ⟨k, hk, rfl⟩ := List.getElem_of_mem hu
    have hk' : k < l.length := by rw [← hd]; simpa using hk
    obtain ⟨x, u, _, p1, p2⟩ := hel k _ (List.getElem?_eq_getElem hk')
    have := hdget k hk'
    rw [p1, Array.getElem?_eq_getElem (by omega)] at this
    have := Option.some.inj this
    rw [show d.toList[k] = d[k] from by simp, this]
    exact p2.one
  · intro k hk
    have hk' : k < l.length := by omega
    have hin : o + k < cur.size := by omega
    have := hdget k hk'
    refine ⟨?_, ?_⟩
    · simp only [World.cell?, h6, id]
      rw [getElem!_pos d k hk]
      rw [Array.getElem?_eq_getElem hk] at this
      simpa using this.symm
    · simp [World.frozen?, h6]
  · intro q zs hzs
    obtain ⟨nd, hnd⟩ : ∃ nd : List Value, nd = d.toList.take i ++ d.toList.drop j ++ zs := ⟨_, rfl⟩
    have hndl : nd.length = l.length := by
      rw [hnd]
      simp only [List.length_append, List.length_take, List.length_drop, Array.length_toList, hd, hzs]
      omega
    rw [← hnd]
    have hlen : (l.take i ++ l.drop j).length = l.length - (j - i) := by
      simp only [List.length_append, List.length_take, List.length_drop]
      omega
    have hget : ∀ k, k < l.length - (j - i) → nd[k]? = cur[o + if k < i then k else k + (j - i)]? := by
      intro k hk
      rw [hnd, List.append_assoc]
      by_cases hki : k < i
      · rw [if_pos hki, List.getElem?_append_left (by simp; omega), List.getElem?_take, if_pos hki, Array.getElem?_toList, hdget k (by omega)]
      · rw [if_neg hki, List.getElem?_append_right (by simp; omega), List.getElem?_append_left (by simp; omega), List.getElem?_drop, Array.getElem?_toList]
        rw [show j + (k - (d.toList.take i).length) = k + (j - i) by simp; omega]
        exact hdget _ (by omega)
    have hheap : (Sort.putRow id (Sort.ahead w q) b o nd.toArray).heap[b]? = some (.cells (Sort.putCells id o nd.toArray cur) t (0, 0)) := by
      simp [Sort.putRow, Sort.mapBlock, Sort.ahead, Array.getElem?_modify, h6, Sort.onCells]
    have hother : ∀ k, k ≠ b → (Sort.putRow id (Sort.ahead w q) b o nd.toArray).heap[k]? = w.heap[k]? := by
      intro k hk
      simp [Sort.putRow, Sort.mapBlock, Sort.ahead, Array.getElem?_modify, Ne.symm hk]
    have hsize : (Sort.putRow id (Sort.ahead w q) b o nd.toArray).heap.size = w.heap.size := by simp [Sort.putRow, Sort.mapBlock, Sort.ahead]
    have hcells : ∀ k, k < l.length → (Sort.putCells id o nd.toArray cur)[o + k]? = nd[k]? := by
      intro k hk
      have hin : o + k < cur.size := by omega
      simp only [Sort.putCells, Array.getElem?_mapIdx, Array.getElem?_eq_getElem hin, Option.map_some, List.size_toArray, hndl]
      rw [if_pos (by omega), show o + k - o = k by omega, List.getElem?_eq_getElem (by omega), getElem!_pos nd.toArray k (by simp; omega)]
      simp
    have hpsz : (Sort.putCells id o nd.toArray cur).size = cur.size := by simp [Sort.putCells]
    obtain ⟨H2, E2⟩ := H.upd (r := r) (o' := .row t (g + 1) (l.take i ++ l.drop j)) (m' := μ r) (w' := Sort.putRow id (Sort.ahead w q) b o nd.toArray) hlive
      (H.below.one hown.1 rfl rfl rfl (by rw [hsize]; exact Nat.le_refl _) hother) (by rw [hsize]; exact Nat.le_refl _)
      (fun k hk hne => hother k (fun e => hne o (e ▸ h3)))
      (fun b' o' e => .inl ⟨o', e⟩)
      (by
        rintro t' g' l' e
        cases e
        exact .inr ⟨t, g, l, hr, Nat.lt_succ_self _⟩)
      (by intro _ _ e; cases e) (by intro _ _ e; cases e)
      (fun E => by
        have hsub : ∀ k e, (l.take i ++ l.drop j)[k]? = some e → k < l.length - (j - i) ∧ l[if k < i then k else k + (j - i)]? = some e := by
          intro k e he
          have hk : k < l.length - (j - i) := by
            rw [← hlen]
            exact (List.getElem?_eq_some_iff.1 he).1
          refine ⟨hk, ?_⟩
          by_cases hki : k < i
          · rw [if_pos hki]
            rw [List.getElem?_append_left (by simp; omega), List.getElem?_take, if_pos hki] at he
            exact he
          · rw [if_neg hki]
            rw [List.getElem?_append_right (by simp; omega), List.getElem?_drop] at he
            rw [← he]
            congr 1
            simp
            omega
        refine ⟨1, hsz, fun k e he => q2 _ e (hsub k e he).2, ?_⟩
        simp only [if_true, h3]
        refine ⟨_, hheap, ⟨fun k e he => q2 _ e (hsub k e he).2, ?_⟩, ?_⟩
        · intro k e jj x he hx
          obtain ⟨hk, he'⟩ := hsub k e he
          obtain ⟨y, u, rfl, p1, p2⟩ := hel _ e he'
          have hjj : jj = 0 := by
            have := (List.getElem?_eq_some_iff.1 hx).1
            simp at this
            omega
          subst hjj
          obtain rfl : y = x := by simpa using hx
          refine ⟨u, ?_, p2.mono E.z E.zh⟩
          rw [show o + (k * 1 + 0) = o + k by omega, hcells k (by omega), hget k hk]
          exact p1
        · rw [hpsz, hlen]
          omega)
    have hμ : (fun q => if q = r then μ r else μ q) = μ := by
      funext q
      split
      · rename_i e; rw [e]
      · rfl
    rw [hμ] at H2 E2
    refine ⟨H2, E2, ?_⟩
    show CR P _ μ Z _ (.ref r (g + 1)) _
    refine ⟨by simpa using hlt, ?_, ?_, rfl⟩
    · intro t' g' l' e
      rw [List.getElem?_set, if_pos rfl, if_pos hlt] at e
      cases e
      refine ⟨Nat.le_refl _, fun _ => ⟨c, by rw [hlen]; omega, .inr ⟨b, o, 1, _, h3, hsz, ?_, hheap, by rw [hpsz]; omega⟩⟩⟩
      rw [hlen, hd]
      simp
    · intro g' l' e
      rw [List.getElem?_set, if_pos rfl, if_pos hlt] at e
      cases e

theorem Stp.delete {f : FuncId} {x y y' : Operand} {r g : Nat} {t : TypeId} {l : List (List A)} {i j : Int} {d : Option Tmp} {z : Value} {ts : Array TypeId} {tm : List A} {hp : List Ob} [hE : En P f] [hsz : Sz P t 1] (hF : Deletes P f z)
    (hx : St.evo ⟨tm, hp⟩ x = some (.ref r g) := by rfl) (hy : St.evo ⟨tm, hp⟩ y = some (.int .i64 i) := by rfl) (hy' : St.evo ⟨tm, hp⟩ y' = some (.int .i64 j) := by rfl) (hr : hp[r]? = some (.row t g l) := by rfl)
    (h0 : 0 < l.length) (hm : l.length ≤ 9223372036854775807) (hi : 0 ≤ i) (hij : i ≤ j) (hj : j ≤ l.length) :
    Stp P (.call { callee := .value (.func f), args := #[x, y, y'], argTypes := ts }) d ⟨tm, hp⟩ (St.put ⟨tm, hp.set r (.row t (g + 1) (l.take i.toNat ++ l.drop j.toNat))⟩ d (.ref r (g + 1))) := by
  rintro o ho hd C N hN a w ⟨μ, Z, R⟩ K Q hK
  have e1 := R.ev x
  have e2 := R.ev y
  have e3 := R.ev y'
  rw [evo_ev hx] at e1
  rw [evo_ev hy] at e2
  rw [evo_ev hy'] at e3
  have e2 := e2.int
  have e3 := e3.int
  obtain ⟨b, o', c, dd, q1, q2, q3, q4, q5, q6⟩ := row_delete (i := i.toNat) (j := j.toNat) R.hr hr hsz.h e1 h0 (by omega) (by omega)
  have hrun : (execOp a.eval o).run P w = .ok (.enter f #[a.eval x, a.eval y, a.eval y']) w := by
    simp [execOp, ho, resolve, Deferred.ofValue, Act.eval, invoke, hE.h]
  unfold Oper.wp
  rw [hrun, q1, e2, e3, show i = (i.toNat : Int) by omega, show j = (j.toNat : Int) by omega]
  refine Calls.mono (hF b o' c i.toNat j.toNat dd w q4 q5 q3 (by omega) (by omega) (by omega)) ?_
  rintro e w' ⟨rfl, q, rfl⟩
  obtain ⟨H2, E2, U2⟩ := q6 q (List.replicate (j.toNat - i.toNat) z) (by simp)
  subst hd
  exact hK _ _ _ hN ⟨μ, Z, R.step H2 E2 U2 _⟩ ⟨_, rfl⟩
end
end Go.Vm
/- A machine of values: the lesser of two numbers. -/
namespace Go.Vm
open Go.RowKit
section
variable {P : Program} {st : St} {d : Option Tmp}
theorem Stp.min {x y : Operand} {k : IntKind} {a b : Int} {ts : Array TypeId} (hx : st.evo x = some (.int k a) := by rfl) (hy : st.evo y = some (.int k b) := by rfl) :
    Stp P (.call { callee := .builtin .min, args := #[x, y], argTypes := ts }) d st (st.put d (.int k (if b < a then b else a))) := by
  intro o ho hd C N hN
  subst hd
  refine OpS.val hN fun a' w μ Z R => ?_
  have h1 := R.ev x
  have h2 := R.ev y
  rw [evo_ev hx] at h1
  rw [evo_ev hy] at h2
  have h1 := h1.int
  have h2 := h2.int
  refine ⟨_, ?_, UR.of_int _ _⟩
  simp [execOp, ho, resolve, invoke, builtin, h1, h2, Builtin.min_, Builtin.min2]
  try (split <;> rfl)
end
end Go.Vm
/- A machine of values: walking on by itself, the script told once. -/
namespace Go.Vm
theorem vw {p q : Prop} (h : q → p := by (intro h; (repeat (first | refine go_seq ?_ | refine go_reg ?_ | refine go_blk ?_ | refine o_g1 (h := ?_) | refine o_g0 (h := ?_) | refine o_gs (h := ?_) | refine o_step Stp.move (h := ?_) | refine o_step Stp.assign (h := ?_) | refine o_step Stp.len (h := ?_) | refine o_step Stp.bin (h := ?_) | refine o_step Stp.load (h := ?_) | refine o_step Stp.field (h := ?_) | refine o_step Stp.extract (h := ?_) | refine o_step Stp.nilCheck (h := ?_) | refine o_step Stp.fieldAddr (h := ?_) | refine o_step Stp.pick (h := ?_) | refine o_step Stp.un (h := ?_) | refine o_step Stp.conv (h := ?_) | refine o_step Stp.build (h := ?_) | refine o_step Stp.eqb (h := ?_) | refine o_step Stp.neb (h := ?_) | refine o_nil rfl ?_ | refine k_seq ?_ | refine k_blk ?_ | refine k_ret ?_ | refine k_bret ?_ | refine k_exit ?_ | refine k_bexit ?_ | refine k_bexit' (h := ?_) | refine CodeS.skip ?_ | refine CodeS.exit ?_ | refine CodeS.ret ?_)); exact h)) (hq : q) : p := h hq
theorem dw {p q : Prop} (h : q → p := by (intro h; (repeat (first | refine d_g (h := ?_) | refine d_step0 Stp.move (h := ?_) | refine d_step0 Stp.assign (h := ?_) | refine d_step0 Stp.len (h := ?_) | refine d_step0 Stp.bin (h := ?_) | refine d_step0 Stp.load (h := ?_) | refine d_step0 Stp.field (h := ?_) | refine d_step0 Stp.extract (h := ?_) | refine d_step0 Stp.nilCheck (h := ?_) | refine d_step0 Stp.fieldAddr (h := ?_) | refine d_step0 Stp.pick (h := ?_) | refine d_step0 Stp.un (h := ?_) | refine d_step0 Stp.conv (h := ?_) | refine d_step0 Stp.build (h := ?_) | refine d_step0 Stp.eqb (h := ?_) | refine d_step0 Stp.neb (h := ?_) | refine d_nil ?_)); exact h)) (hq : q) : p := h hq
end Go.Vm
/- A machine of values: contracts told in the kit's own words, told as what a function of values comes to. -/
namespace Go.Vm
open Go.RowKit Go.Deep
set_option linter.unusedVariables false
set_option linter.unusedSimpArgs false
section
variable {P : Program} {Z : Nat → Prop} {w w' : World}

/-- whole numbers, one in each cell -/
def ints (k : IntKind) (l : List Int) : List (List A) := l.map fun n => [A.int k n]

theorem hr_none (hz : ∀ b, Z b → b < w.heap.size) (hb : Below w.heap.size w w') : HR P Z (Base.of w) [] noMu Z w' :=
  ⟨Bel.of hb, fun _ h => h, fun b h => ⟨Nat.lt_of_lt_of_le (hz b h) hb.size, .inl h⟩, fun r o h => by simp at h, fun r b o h => by rcases h with ⟨_, _, _, h⟩ | ⟨_, _, h⟩ <;> simp at h, fun r r' b o o' h => by rcases h with ⟨_, _, _, h⟩ | ⟨_, _, h⟩ <;> simp at h⟩

theorem hr_owned (hz : ∀ b, Z b → b < w.heap.size) (hb : Below w.heap.size w w') {t : TypeId} {k : IntKind} {r : List Int} {v : Value} (hs : szOf P t = some 1) (h : w'.ownsRow w.heap.size t 1 v r.length (r.map (Value.int k))) :
    ∃ μ, HR P Z (Base.of w) [.row t 0 (ints k r)] μ Z w' ∧ CR P [.row t 0 (ints k r)] μ Z w' (.ref 0 0) v := by
  obtain ⟨hl, h⟩ := h
  rcases h with ⟨rfl, h0⟩ | ⟨g, cap, cur, rfl, hg, hh, hn, hm, hsz, hxs⟩
  · have : r = [] := List.length_eq_zero_iff.1 h0
    subst this
    refine ⟨noMu, ⟨Bel.of hb, fun _ h => h, fun b h => ⟨Nat.lt_of_lt_of_le (hz b h) hb.size, .inl h⟩, ?_, ?_, ?_⟩, ?_⟩
    · intro q o hq
      match q, hq with
      | 0, hq =>
        obtain rfl := Option.some.inj hq
        exact ⟨1, hs, fun i cs h => by simp [ints] at h, rfl⟩
      | q + 1, hq => simp at hq
    · intro q b o _ h
      simp [noMu] at h
    · intro q q' b o o' _ _ h
      simp [noMu] at h
    · refine ⟨by simp, fun t' g' l hr => ?_, fun g' l hr => by simp at hr, rfl⟩
      simp only [List.getElem?_cons_zero, Option.some.injEq, Ob.row.injEq] at hr
      obtain ⟨rfl, rfl, rfl⟩ := hr
      exact ⟨Nat.le_refl _, fun _ => ⟨0, by simp [ints], .inl ⟨rfl, none, by simp [ints]⟩⟩⟩
  · have hget : ∀ i, i < r.length → cur[0 + (i * 1 + 0)]? = some (.int k (r.getD i 0)) := by
      intro i hi
      have h1 : (cur.toList.take (r.length * 1))[i]? = some (.int k (r.getD i 0)) := by
        rw [hxs, List.getElem?_map, List.getElem?_eq_getElem hi, List.getD_eq_getElem?_getD, List.getElem?_eq_getElem hi]
        rfl
      rw [List.getElem?_take, if_pos (by omega), Array.getElem?_toList] at h1
      rw [← h1]
      congr 1
      omega
    have hgl : g < w'.heap.size := by
      rcases Nat.lt_or_ge g w'.heap.size with h | h
      · exact h
      · rw [Array.getElem?_eq_none h] at hh; cases hh
    have hlen : (ints k r).length = r.length := by simp [ints]
    refine ⟨fun _ => some (g, 0), ⟨Bel.of hb, fun _ h => h, fun b h => ⟨Nat.lt_of_lt_of_le (hz b h) hb.size, .inl h⟩, ?_, ?_, ?_⟩, ?_⟩
    · intro q o hq
      match q, hq with
      | 0, hq =>
        obtain rfl := Option.some.inj hq
        have h1 : ∀ (i : Nat) (cs : List A), (ints k r)[i]? = some cs → i < r.length ∧ cs = [.int k (r.getD i 0)] := by
          intro i cs h
          rw [ints, List.getElem?_map] at h
          obtain ⟨x, hx, rfl⟩ := Option.map_eq_some_iff.1 h
          refine ⟨(List.getElem?_eq_some_iff.1 hx).1, ?_⟩
          rw [List.getD_eq_getElem?_getD, hx]
          rfl
        refine ⟨1, hs, fun i cs h => by rw [(h1 i cs h).2]; rfl, cur, hh, ⟨fun i cs h => by rw [(h1 i cs h).2]; rfl, fun i cs j x hi hj => ?_⟩, by rw [hlen]; omega⟩
        obtain ⟨h2, rfl⟩ := h1 i cs hi
        match j, hj with
        | 0, hj =>
          obtain rfl := Option.some.inj hj
          exact ⟨_, hget i h2, .int k _⟩
        | j + 1, hj => simp at hj
      | q + 1, hq => simp at hq
    · intro q b o _ h
      obtain ⟨rfl, rfl⟩ : g = b ∧ 0 = o := by simpa using h
      exact ⟨.inl hg, hgl, fun hz' => by have := hz _ hz'; omega⟩
    · intro q q' b o o' l1 l2 h1 h2
      have : ∀ q, Live [.row t 0 (ints k r)] q → q = 0 := by
        intro q h
        rcases Nat.eq_zero_or_pos q with e | e
        · exact e
        · obtain ⟨m, rfl⟩ : ∃ m, q = m + 1 := ⟨q - 1, by omega⟩
          rcases h with ⟨_, _, _, h⟩ | ⟨_, _, h⟩ <;> simp at h
      rw [this q l1, this q' l2]
    · refine ⟨by simp, fun t' g' l hr => ?_, fun g' l hr => by simp at hr, rfl⟩
      simp only [List.getElem?_cons_zero, Option.some.injEq, Ob.row.injEq] at hr
      obtain ⟨rfl, rfl, rfl⟩ := hr
      refine ⟨Nat.le_refl _, fun _ => ⟨cap, by rw [hlen]; exact hn, .inr ⟨g, 0, 1, cur, rfl, hs, ?_, hh, by omega⟩⟩⟩
      rw [hlen]

/-- a row of whole numbers that is read -/
theorem iv_ints {k : IntKind} {l : List Int} {v : Value} (h : IV Z w (.sl (ints k l)) v) :
    ∃ ad c, v = .slice ad l.length c ∧ l.length ≤ c ∧ (0 < l.length → ∃ x, ad = some x ∧ ∀ (i : Nat) (n : Int), l[i]? = some n → w.cell? (x.add i) = some (.int k n)) := by
  obtain ⟨a, c, e, hc, h⟩ := h.lay
  have hlen : (ints k l).length = l.length := by simp [ints]
  rw [hlen] at e hc
  refine ⟨a, c, e, hc, fun h0 => ?_⟩
  rcases h with h | ⟨b, o, sz, cur, t, fr, rfl, hb, hh, hlay⟩
  · rw [ints, List.map_eq_nil_iff] at h
    rw [h] at h0; simp at h0
  · refine ⟨_, rfl, fun i n hi => ?_⟩
    have hi' : (ints k l)[i]? = some [.int k n] := by rw [ints, List.getElem?_map, hi]; rfl
    have h1 := hlay.len i _ hi'
    obtain ⟨u, hu, hI⟩ := hlay.at_ i _ 0 _ hi' rfl
    have h2 : sz = 1 := by simpa using h1.symm
    subst h2
    cases hI
    rw [show i * 1 + 0 = i by omega] at hu
    simp [addr_add, World.cell?, hh, hu]

theorem hr_drop {Z0 : Nat → Prop} {w0 : Base} {hp : List Ob} {μ : Mu} (H : HR P Z0 w0 hp μ Z w) : HR P Z0 w0 [] noMu Z w :=
  ⟨H.below, H.z0, H.zlt, fun r o h => by simp at h, fun r b o h => by rcases h with ⟨_, _, _, h⟩ | ⟨_, _, h⟩ <;> simp at h, fun r r' b o o' h => by rcases h with ⟨_, _, _, h⟩ | ⟨_, _, h⟩ <;> simp at h⟩

/-- what comes of a call, kept as it is from then on -/
def frz2 (hp : List Ob) : A → A
  | .tup l => .tup (frzl hp l).2
  | x => (frz1 hp x).2
theorem Does.sl {f : FuncId} {args : List A} {res : A} {hr : List Ob} (h : Does P f args res hr) {res' : A} (e : frz2 hr res = res' := by rfl) : Does P f args res' [] := by
  intro Z w vs hZ hl ha
  refine Calls.mono (h Z w vs hZ hl ha) ?_
  rintro e' w' ⟨v, μ, Z', rfl, H, U⟩
  subst e
  have gen : ∀ x, UR P hr μ Z' w' x v → frz2 hr res = (frz1 hr x).2 → ∃ v' μ' Z'', Ending.returned v = .returned v' ∧ HR P Z (Base.of w) [] μ' Z'' w' ∧ UR P [] μ' Z'' w' (frz2 hr res) v' := by
    intro x hx hE
    obtain ⟨Z2, H2, _, T⟩ := H.frz1 hx
    exact ⟨v, noMu, Z2, rfl, hr_drop H2, hE ▸ UR.of_TR T⟩
  cases res with
  | tup l =>
    obtain ⟨vs', rfl, hl', hat⟩ := U
    obtain ⟨Z2, H2, _, hlen, T⟩ := HR.frzl (l := l) (vs := vs'.toList) H ⟨hl', fun j x hj => by
      obtain ⟨u, h1, h2⟩ := hat j x hj
      exact ⟨u, h1, UR.of_TR h2⟩⟩
    exact ⟨_, noMu, Z2, rfl, hr_drop H2, vs', rfl, by rw [hl', hlen], T⟩
  | _ => exact gen _ U rfl
end
end Go.Vm
/- A machine of values: a row that is made of zeroes; bytes of a text. -/
namespace Go.Vm
open Go.RowKit
set_option linter.unusedVariables false
set_option linter.unusedSimpArgs false
section
variable {P : Program} {C : Ctx} {Z0 : Nat → Prop} {w0 : Base} {hp hp' : List Ob} {μ μ' : Mu} {Z Z' : Nat → Prop} {w w' : World} {st : St} {a : Act} {o : Oper} {N : St → Prop}

theorem toA_int {v : Value} {k : IntKind} {n : Int} (h : toA v = .int k n) : v = .int k n := by
  unfold toA at h
  split at h
  · cases h; rfl
  · cases h
  · cases h
  · cases h
  · split at h <;> cases h

theorem op_make {t e : TypeId} {x y : Operand} {k k1 k2 : IntKind} {n : Int} {bytes : Nat} (ho : o.op = .makeSlice t x y) (T : Elt P t e 1 bytes) (hz : zeroA P e = some [.int k 0]) (hx : st.ev x = .int k1 n) (hy : st.ev y = .int k2 n)
    (h0 : 0 ≤ n) (hb : (bytes : Int) * n ≤ 281474976710656) (h63 : n ≤ 9223372036854775807)
    (h : N (St.put ⟨st.tm, st.hp ++ [.row e 0 (List.replicate n.toNat [.int k 0])]⟩ o.dst (.ref st.hp.length 0))) : OpS P C o st N :=
  OpS.blk h fun a w μ Z R => by
    have hsz := T.sz
    obtain ⟨hu, ⟨i, z, h1, h2, h3, h4, h5⟩, hm0⟩ := T
    unfold zeroA at hz
    rw [h1] at hz
    simp only [Option.bind_some, h2] at hz
    split at hz
    · have hz := Option.some.inj hz
      obtain ⟨v, hv⟩ : ∃ v, z.cells.toList = [v] := List.length_eq_one_iff.1 (by simpa using h5)
      rw [hv] at hz
      obtain rfl : v = .int k 0 := toA_int (by simpa using hz)
      have hc : z.cells = #[.int k 0] := by
        apply Array.ext'
        exact hv
      have ex := R.ev x
      have ey := R.ev y
      rw [hx] at ex
      rw [hy] at ey
      have ex := ex.int
      have ey := ey.int
      have hr := run_make (P := P) w t e i z hu h1 h2 k1 k2 n n h0 (Int.le_refl _) (by rw [h4]; exact hb) h63
      have hcells : (madeCells z.cells (n.toNat * i.size)).toList = List.replicate n.toNat (.int k 0) := by
        rw [h3, hc, Nat.mul_one]
        apply List.ext_getElem
        · simp [madeCells]
        · intro j q1 q2
          have e : j % 1 = 0 := Nat.mod_one j
          simp [madeCells, e]
      have hL : LayL (IV Z w) 1 (List.replicate n.toNat (.int k 0)) (List.replicate n.toNat [A.int k 0]) := by
        refine ⟨by simp, fun u hu => ?_, fun i cs h => ?_, fun i cs j x h hj => ?_⟩
        · rw [List.eq_of_mem_replicate hu]
          rfl
        · rw [List.getElem?_replicate] at h
          split at h
          · cases h; rfl
          · cases h
        · rw [List.getElem?_replicate] at h
          split at h
          · rename_i hi
            cases h
            match j, hj with
            | 0, hj =>
              cases hj
              exact ⟨.int k 0, by rw [List.getElem?_replicate, if_pos (by omega)], .int _ _⟩
            | j + 1, hj => simp at hj
          · cases h
      obtain ⟨μ', H2, E2, C2⟩ := R.hr.newRow (t := e) (cur := madeCells z.cells (n.toNat * i.size)) (c := n.toNat) (post := []) (below_alloc' w (.cells (madeCells z.cells (n.toNat * i.size)) e)) (heap_alloc_new w _) hsz hL (by rw [hcells, List.append_nil]) (by simp) (by rw [size_madeCells, h3]; exact Nat.le_refl _)
      refine ⟨_, _, μ', Z, .inl ?_, H2, E2, UR.of_CR C2⟩
      simp only [execOp, ho, ex, ey]
      rw [Sem.run_bind, hr]
      simp
    · cases hz

theorem Stp.make {t e : TypeId} {x y : Operand} {k k1 k2 : IntKind} {n : Int} {bytes : Nat} {d : Option Tmp} [T : EltI P t e 1 bytes] [hz : Zr P e [.int k 0]] (hx : st.evo x = some (.int k1 n) := by rfl) (hy : st.evo y = some (.int k2 n) := by rfl)
    (h0 : 0 ≤ n) (hb : (bytes : Int) * n ≤ 281474976710656) (h63 : n ≤ 9223372036854775807) {m : Nat} (hid : st.hp.length = m := by first | (simp only [List.length_cons, List.length_nil, Nat.zero_add, Nat.reduceAdd]; rfl) | rfl) :
    Stp P (.makeSlice t x y) d st (St.put ⟨st.tm, st.hp ++ [.row e 0 (List.replicate n.toNat [.int k 0])]⟩ d (.ref m 0)) :=
  fun o ho hd _ _ hN => op_make ho T.h hz.h (evo_ev hx) (evo_ev hy) h0 hb h63 (by subst hid; exact hd ▸ hN)
end
end Go.Vm
/- What the program says of its types, for the walks. -/
namespace Go.Proofs.Ytekojicaeadepaa.Vm
open Go.Vm
set_option maxRecDepth 10000
instance : IntT Try.prog 3 .i64 := ⟨by kernel_rfl⟩
instance : Sz Try.prog 3 1 := ⟨by kernel_rfl⟩
instance : Ag Try.prog 3 false := ⟨by kernel_rfl⟩
instance : Zr Try.prog 3 ([.int .i64 0]) := ⟨by kernel_rfl⟩
instance : BoolT Try.prog 4 := ⟨by kernel_rfl⟩
instance : Sz Try.prog 4 1 := ⟨by kernel_rfl⟩
instance : Ag Try.prog 4 false := ⟨by kernel_rfl⟩
instance : Zr Try.prog 4 ([.bool false]) := ⟨by kernel_rfl⟩
instance : IntT Try.prog 5 .u8 := ⟨by kernel_rfl⟩
instance : Sz Try.prog 5 1 := ⟨by kernel_rfl⟩
instance : Ag Try.prog 5 false := ⟨by kernel_rfl⟩
instance : Zr Try.prog 5 ([.int .u8 0]) := ⟨by kernel_rfl⟩
instance : Sz Try.prog 23 10 := ⟨by kernel_rfl⟩
instance : Ag Try.prog 23 true := ⟨by kernel_rfl⟩
instance : Zr Try.prog 23 ([.int .i64 0, .int .i64 0, .int .i64 0, .int .i64 0, .int .i64 0, .int .i64 0, .int .i64 0, .int .i64 0, .int .i64 0, .int .i64 0]) := ⟨by kernel_rfl⟩
instance : Pl Try.prog 23 ([(0, 1), (1, 1), (2, 1), (3, 1), (4, 1), (5, 1), (6, 1), (7, 1), (8, 1), (9, 1)]) := ⟨by kernel_rfl⟩
instance : Fo Try.prog 23 0 0 := ⟨by kernel_rfl⟩
instance : Fo Try.prog 23 1 1 := ⟨by kernel_rfl⟩
instance : Fo Try.prog 23 2 2 := ⟨by kernel_rfl⟩
instance : Fo Try.prog 23 3 3 := ⟨by kernel_rfl⟩
instance : Fo Try.prog 23 4 4 := ⟨by kernel_rfl⟩
instance : Fo Try.prog 23 5 5 := ⟨by kernel_rfl⟩
instance : Fo Try.prog 23 6 6 := ⟨by kernel_rfl⟩
instance : Fo Try.prog 23 7 7 := ⟨by kernel_rfl⟩
instance : Fo Try.prog 23 8 8 := ⟨by kernel_rfl⟩
instance : Fo Try.prog 23 9 9 := ⟨by kernel_rfl⟩
instance : SlT Try.prog 24 5 := ⟨by kernel_rfl⟩
instance : EltI Try.prog 24 5 1 1 := ⟨elt_of (z := .int .u8 0) (by kernel_rfl) (by kernel_rfl) (by decide) (by rfl)⟩
instance : Sz Try.prog 24 1 := ⟨by kernel_rfl⟩
instance : Ag Try.prog 24 false := ⟨by kernel_rfl⟩
instance : Zr Try.prog 24 ([.nil]) := ⟨by kernel_rfl⟩
instance : IntT Try.prog 26 .u64 := ⟨by kernel_rfl⟩
instance : Sz Try.prog 26 1 := ⟨by kernel_rfl⟩
instance : Ag Try.prog 26 false := ⟨by kernel_rfl⟩
instance : Zr Try.prog 26 ([.int .u64 0]) := ⟨by kernel_rfl⟩
instance : Sz Try.prog 28 5 := ⟨by kernel_rfl⟩
instance : Ag Try.prog 28 true := ⟨by kernel_rfl⟩
instance : Zr Try.prog 28 ([.int .i64 0, .int .i64 0, .int .i64 0, .bool false, .nil]) := ⟨by kernel_rfl⟩
instance : Pl Try.prog 28 ([(0, 1), (1, 1), (2, 1), (3, 1), (4, 1)]) := ⟨by kernel_rfl⟩
instance : Fo Try.prog 28 0 0 := ⟨by kernel_rfl⟩
instance : Fo Try.prog 28 1 1 := ⟨by kernel_rfl⟩
instance : Fo Try.prog 28 2 2 := ⟨by kernel_rfl⟩
instance : Fo Try.prog 28 3 3 := ⟨by kernel_rfl⟩
instance : Fo Try.prog 28 4 4 := ⟨by kernel_rfl⟩
instance : IntT Try.prog 29 .i64 := ⟨by kernel_rfl⟩
instance : Sz Try.prog 29 1 := ⟨by kernel_rfl⟩
instance : Ag Try.prog 29 false := ⟨by kernel_rfl⟩
instance : Zr Try.prog 29 ([.int .i64 0]) := ⟨by kernel_rfl⟩
instance : Sz Try.prog 36 4 := ⟨by kernel_rfl⟩
instance : Ag Try.prog 36 true := ⟨by kernel_rfl⟩
instance : Zr Try.prog 36 ([.int .i64 0, .int .i64 0, .int .i64 0, .nil]) := ⟨by kernel_rfl⟩
instance : Pl Try.prog 36 ([(0, 1), (1, 1), (2, 1), (3, 1)]) := ⟨by kernel_rfl⟩
instance : Fo Try.prog 36 0 0 := ⟨by kernel_rfl⟩
instance : Fo Try.prog 36 1 1 := ⟨by kernel_rfl⟩
instance : Fo Try.prog 36 2 2 := ⟨by kernel_rfl⟩
instance : Fo Try.prog 36 3 3 := ⟨by kernel_rfl⟩
instance : SlT Try.prog 43 24 := ⟨by kernel_rfl⟩
instance : EltI Try.prog 43 24 1 24 := ⟨elt_of (z := .slice none 0 0) (by kernel_rfl) (by kernel_rfl) (by decide) (by rfl)⟩
instance : Sz Try.prog 43 1 := ⟨by kernel_rfl⟩
instance : Ag Try.prog 43 false := ⟨by kernel_rfl⟩
instance : Zr Try.prog 43 ([.nil]) := ⟨by kernel_rfl⟩
instance : IntT Try.prog 44 .u32 := ⟨by kernel_rfl⟩
instance : Sz Try.prog 44 1 := ⟨by kernel_rfl⟩
instance : Ag Try.prog 44 false := ⟨by kernel_rfl⟩
instance : Zr Try.prog 44 ([.int .u32 0]) := ⟨by kernel_rfl⟩
instance : SlT Try.prog 46 3 := ⟨by kernel_rfl⟩
instance : EltI Try.prog 46 3 1 8 := ⟨elt_of (z := .int .i64 0) (by kernel_rfl) (by kernel_rfl) (by decide) (by rfl)⟩
instance : Sz Try.prog 46 1 := ⟨by kernel_rfl⟩
instance : Ag Try.prog 46 false := ⟨by kernel_rfl⟩
instance : Zr Try.prog 46 ([.nil]) := ⟨by kernel_rfl⟩
instance : SlT Try.prog 47 28 := ⟨by kernel_rfl⟩
instance : EltI Try.prog 47 28 5 56 := ⟨elt_of (z := .agg #[.int .i64 0, .int .i64 0, .int .i64 0, .bool false, .slice none 0 0]) (by kernel_rfl) (by kernel_rfl) (by decide) (by rfl)⟩
instance : Sz Try.prog 47 1 := ⟨by kernel_rfl⟩
instance : Ag Try.prog 47 false := ⟨by kernel_rfl⟩
instance : Zr Try.prog 47 ([.nil]) := ⟨by kernel_rfl⟩
instance : Sz Try.prog 49 19 := ⟨by kernel_rfl⟩
instance : Ag Try.prog 49 true := ⟨by kernel_rfl⟩
instance : Zr Try.prog 49 ([.int .i64 0, .int .i64 0, .int .i64 0, .int .i64 0, .int .i64 0, .int .i64 0, .int .i64 0, .int .i64 0, .int .i64 0, .int .i64 0, .bool false, .int .i64 0, .int .i64 0, .int .i64 0, .int .i64 0, .int .i64 0, .int .i64 0, .nil, .nil]) := ⟨by kernel_rfl⟩
instance : Pl Try.prog 49 ([(0, 10), (10, 1), (11, 1), (12, 1), (13, 1), (14, 1), (15, 1), (16, 1), (17, 1), (18, 1)]) := ⟨by kernel_rfl⟩
instance : Fo Try.prog 49 0 0 := ⟨by kernel_rfl⟩
instance : Fo Try.prog 49 1 10 := ⟨by kernel_rfl⟩
instance : Fo Try.prog 49 2 11 := ⟨by kernel_rfl⟩
instance : Fo Try.prog 49 3 12 := ⟨by kernel_rfl⟩
instance : Fo Try.prog 49 4 13 := ⟨by kernel_rfl⟩
instance : Fo Try.prog 49 5 14 := ⟨by kernel_rfl⟩
instance : Fo Try.prog 49 6 15 := ⟨by kernel_rfl⟩
instance : Fo Try.prog 49 7 16 := ⟨by kernel_rfl⟩
instance : Fo Try.prog 49 8 17 := ⟨by kernel_rfl⟩
instance : Fo Try.prog 49 9 18 := ⟨by kernel_rfl⟩
instance : Sz Try.prog 55 2 := ⟨by kernel_rfl⟩
instance : Ag Try.prog 55 true := ⟨by kernel_rfl⟩
instance : Zr Try.prog 55 ([.int .i64 0, .int .u32 0]) := ⟨by kernel_rfl⟩
instance : Pl Try.prog 55 ([(0, 1), (1, 1)]) := ⟨by kernel_rfl⟩
instance : Fo Try.prog 55 0 0 := ⟨by kernel_rfl⟩
instance : Fo Try.prog 55 1 1 := ⟨by kernel_rfl⟩
instance : SlT Try.prog 62 67 := ⟨by kernel_rfl⟩
instance : EltI Try.prog 62 67 3 40 := ⟨elt_of (z := .agg #[.int .i64 0, .int .i64 0, .slice none 0 0]) (by kernel_rfl) (by kernel_rfl) (by decide) (by rfl)⟩
instance : Sz Try.prog 62 1 := ⟨by kernel_rfl⟩
instance : Ag Try.prog 62 false := ⟨by kernel_rfl⟩
instance : Zr Try.prog 62 ([.nil]) := ⟨by kernel_rfl⟩
instance : Sz Try.prog 67 3 := ⟨by kernel_rfl⟩
instance : Ag Try.prog 67 true := ⟨by kernel_rfl⟩
instance : Zr Try.prog 67 ([.int .i64 0, .int .i64 0, .nil]) := ⟨by kernel_rfl⟩
instance : Pl Try.prog 67 ([(0, 1), (1, 1), (2, 1)]) := ⟨by kernel_rfl⟩
instance : Fo Try.prog 67 0 0 := ⟨by kernel_rfl⟩
instance : Fo Try.prog 67 1 1 := ⟨by kernel_rfl⟩
instance : Fo Try.prog 67 2 2 := ⟨by kernel_rfl⟩
instance : SlT Try.prog 74 77 := ⟨by kernel_rfl⟩
instance : EltI Try.prog 74 77 4 48 := ⟨elt_of (z := .agg #[.int .i64 0, .slice none 0 0, .int .i64 0, .int .u32 0]) (by kernel_rfl) (by kernel_rfl) (by decide) (by rfl)⟩
instance : Sz Try.prog 74 1 := ⟨by kernel_rfl⟩
instance : Ag Try.prog 74 false := ⟨by kernel_rfl⟩
instance : Zr Try.prog 74 ([.nil]) := ⟨by kernel_rfl⟩
instance : Sz Try.prog 77 4 := ⟨by kernel_rfl⟩
instance : Ag Try.prog 77 true := ⟨by kernel_rfl⟩
instance : Zr Try.prog 77 ([.int .i64 0, .nil, .int .i64 0, .int .u32 0]) := ⟨by kernel_rfl⟩
instance : Pl Try.prog 77 ([(0, 1), (1, 1), (2, 1), (3, 1)]) := ⟨by kernel_rfl⟩
instance : Fo Try.prog 77 0 0 := ⟨by kernel_rfl⟩
instance : Fo Try.prog 77 1 1 := ⟨by kernel_rfl⟩
instance : Fo Try.prog 77 2 2 := ⟨by kernel_rfl⟩
instance : Fo Try.prog 77 3 3 := ⟨by kernel_rfl⟩
instance : SlT Try.prog 84 44 := ⟨by kernel_rfl⟩
instance : EltI Try.prog 84 44 1 4 := ⟨elt_of (z := .int .u32 0) (by kernel_rfl) (by kernel_rfl) (by decide) (by rfl)⟩
instance : Sz Try.prog 84 1 := ⟨by kernel_rfl⟩
instance : Ag Try.prog 84 false := ⟨by kernel_rfl⟩
instance : Zr Try.prog 84 ([.nil]) := ⟨by kernel_rfl⟩
instance : Sz Try.prog 107 1 := ⟨by kernel_rfl⟩
instance : Ag Try.prog 107 false := ⟨by kernel_rfl⟩
instance : Zr Try.prog 107 ([.val .nilFunc]) := ⟨by kernel_rfl⟩
instance : Sz Try.prog 131 8 := ⟨by kernel_rfl⟩
instance : Ag Try.prog 131 true := ⟨by kernel_rfl⟩
instance : Zr Try.prog 131 ([.int .i64 0, .int .i64 0, .int .i64 0, .int .i64 0, .int .i64 0, .int .i64 0, .int .i64 0, .int .i64 0]) := ⟨by kernel_rfl⟩
instance : En Try.prog 3 := ⟨enters_of Try.func3 (by kernel_rfl) rfl⟩
instance : En Try.prog 4 := ⟨enters_of Try.func4 (by kernel_rfl) rfl⟩
instance : En Try.prog 5 := ⟨enters_of Try.func5 (by kernel_rfl) rfl⟩
instance : En Try.prog 6 := ⟨enters_of Try.func6 (by kernel_rfl) rfl⟩
instance : En Try.prog 7 := ⟨enters_of Try.func7 (by kernel_rfl) rfl⟩
instance : En Try.prog 8 := ⟨enters_of Try.func8 (by kernel_rfl) rfl⟩
instance : En Try.prog 9 := ⟨enters_of Try.func9 (by kernel_rfl) rfl⟩
instance : En Try.prog 10 := ⟨enters_of Try.func10 (by kernel_rfl) rfl⟩
instance : En Try.prog 11 := ⟨enters_of Try.func11 (by kernel_rfl) rfl⟩
instance : En Try.prog 12 := ⟨enters_of Try.func12 (by kernel_rfl) rfl⟩
instance : En Try.prog 13 := ⟨enters_of Try.func13 (by kernel_rfl) rfl⟩
instance : En Try.prog 14 := ⟨enters_of Try.func14 (by kernel_rfl) rfl⟩
instance : En Try.prog 15 := ⟨enters_of Try.func15 (by kernel_rfl) rfl⟩
instance : En Try.prog 16 := ⟨enters_of Try.func16 (by kernel_rfl) rfl⟩
instance : En Try.prog 17 := ⟨enters_of Try.func17 (by kernel_rfl) rfl⟩
instance : En Try.prog 18 := ⟨enters_of Try.func18 (by kernel_rfl) rfl⟩
instance : En Try.prog 19 := ⟨enters_of Try.func19 (by kernel_rfl) rfl⟩
instance : En Try.prog 20 := ⟨enters_of Try.func20 (by kernel_rfl) rfl⟩
instance : En Try.prog 21 := ⟨enters_of Try.func21 (by kernel_rfl) rfl⟩
instance : En Try.prog 22 := ⟨enters_of Try.func22 (by kernel_rfl) rfl⟩
instance : En Try.prog 23 := ⟨enters_of Try.func23 (by kernel_rfl) rfl⟩
instance : En Try.prog 24 := ⟨enters_of Try.func24 (by kernel_rfl) rfl⟩
instance : En Try.prog 25 := ⟨enters_of Try.func25 (by kernel_rfl) rfl⟩
instance : En Try.prog 26 := ⟨enters_of Try.func26 (by kernel_rfl) rfl⟩
instance : En Try.prog 27 := ⟨enters_of Try.func27 (by kernel_rfl) rfl⟩
instance : En Try.prog 28 := ⟨enters_of Try.func28 (by kernel_rfl) rfl⟩
instance : En Try.prog 29 := ⟨enters_of Try.func29 (by kernel_rfl) rfl⟩
instance : En Try.prog 30 := ⟨enters_of Try.func30 (by kernel_rfl) rfl⟩
instance : En Try.prog 31 := ⟨enters_of Try.func31 (by kernel_rfl) rfl⟩
instance : En Try.prog 32 := ⟨enters_of Try.func32 (by kernel_rfl) rfl⟩
instance : En Try.prog 33 := ⟨enters_of Try.func33 (by kernel_rfl) rfl⟩
instance : En Try.prog 34 := ⟨enters_of Try.func34 (by kernel_rfl) rfl⟩
instance : En Try.prog 35 := ⟨enters_of Try.func35 (by kernel_rfl) rfl⟩
instance : En Try.prog 36 := ⟨enters_of Try.func36 (by kernel_rfl) rfl⟩
instance : En Try.prog 37 := ⟨enters_of Try.func37 (by kernel_rfl) rfl⟩
instance : En Try.prog 38 := ⟨enters_of Try.func38 (by kernel_rfl) rfl⟩
instance : En Try.prog 39 := ⟨enters_of Try.func39 (by kernel_rfl) rfl⟩
instance : En Try.prog 40 := ⟨enters_of Try.func40 (by kernel_rfl) rfl⟩
instance : En Try.prog 41 := ⟨enters_of Try.func41 (by kernel_rfl) rfl⟩
instance : En Try.prog 42 := ⟨enters_of Try.func42 (by kernel_rfl) rfl⟩
instance : En Try.prog 43 := ⟨enters_of Try.func43 (by kernel_rfl) rfl⟩
instance : En Try.prog 44 := ⟨enters_of Try.func44 (by kernel_rfl) rfl⟩
instance : En Try.prog 45 := ⟨enters_of Try.func45 (by kernel_rfl) rfl⟩
instance : En Try.prog 46 := ⟨enters_of Try.func46 (by kernel_rfl) rfl⟩
instance : En Try.prog 47 := ⟨enters_of Try.func47 (by kernel_rfl) rfl⟩
instance : En Try.prog 48 := ⟨enters_of Try.func48 (by kernel_rfl) rfl⟩
instance : En Try.prog 49 := ⟨enters_of Try.func49 (by kernel_rfl) rfl⟩
instance : En Try.prog 50 := ⟨enters_of Try.func50 (by kernel_rfl) rfl⟩
instance : En Try.prog 51 := ⟨enters_of Try.func51 (by kernel_rfl) rfl⟩
instance : En Try.prog 52 := ⟨enters_of Try.func52 (by kernel_rfl) rfl⟩
instance : En Try.prog 53 := ⟨enters_of Try.func53 (by kernel_rfl) rfl⟩
instance : En Try.prog 54 := ⟨enters_of Try.func54 (by kernel_rfl) rfl⟩
instance : En Try.prog 55 := ⟨enters_of Try.func55 (by kernel_rfl) rfl⟩
instance : En Try.prog 56 := ⟨enters_of Try.func56 (by kernel_rfl) rfl⟩
instance : En Try.prog 57 := ⟨enters_of Try.func57 (by kernel_rfl) rfl⟩
instance : En Try.prog 58 := ⟨enters_of Try.func58 (by kernel_rfl) rfl⟩
instance : En Try.prog 59 := ⟨enters_of Try.func59 (by kernel_rfl) rfl⟩
instance : En Try.prog 60 := ⟨enters_of Try.func60 (by kernel_rfl) rfl⟩
instance : En Try.prog 61 := ⟨enters_of Try.func61 (by kernel_rfl) rfl⟩
instance : En Try.prog 62 := ⟨enters_of Try.func62 (by kernel_rfl) rfl⟩
instance : En Try.prog 63 := ⟨enters_of Try.func63 (by kernel_rfl) rfl⟩
instance : En Try.prog 64 := ⟨enters_of Try.func64 (by kernel_rfl) rfl⟩
instance : En Try.prog 65 := ⟨enters_of Try.func65 (by kernel_rfl) rfl⟩
instance : En Try.prog 66 := ⟨enters_of Try.func66 (by kernel_rfl) rfl⟩
instance : En Try.prog 67 := ⟨enters_of Try.func67 (by kernel_rfl) rfl⟩
instance : En Try.prog 68 := ⟨enters_of Try.func68 (by kernel_rfl) rfl⟩
instance : En Try.prog 69 := ⟨enters_of Try.func69 (by kernel_rfl) rfl⟩
instance : En Try.prog 70 := ⟨enters_of Try.func70 (by kernel_rfl) rfl⟩
instance : En Try.prog 71 := ⟨enters_of Try.func71 (by kernel_rfl) rfl⟩
instance : En Try.prog 72 := ⟨enters_of Try.func72 (by kernel_rfl) rfl⟩
instance : En Try.prog 73 := ⟨enters_of Try.func73 (by kernel_rfl) rfl⟩
instance : En Try.prog 74 := ⟨enters_of Try.func74 (by kernel_rfl) rfl⟩
instance : En Try.prog 75 := ⟨enters_of Try.func75 (by kernel_rfl) rfl⟩
instance : En Try.prog 76 := ⟨enters_of Try.func76 (by kernel_rfl) rfl⟩
instance : En Try.prog 77 := ⟨enters_of Try.func77 (by kernel_rfl) rfl⟩
instance : En Try.prog 78 := ⟨enters_of Try.func78 (by kernel_rfl) rfl⟩
instance : En Try.prog 79 := ⟨enters_of Try.func79 (by kernel_rfl) rfl⟩
instance : En Try.prog 80 := ⟨enters_of Try.func80 (by kernel_rfl) rfl⟩
instance : En Try.prog 81 := ⟨enters_of Try.func81 (by kernel_rfl) rfl⟩
instance : En Try.prog 82 := ⟨enters_of Try.func82 (by kernel_rfl) rfl⟩
instance : En Try.prog 83 := ⟨enters_of Try.func83 (by kernel_rfl) rfl⟩
instance : En Try.prog 84 := ⟨enters_of Try.func84 (by kernel_rfl) rfl⟩
instance : En Try.prog 85 := ⟨enters_of Try.func85 (by kernel_rfl) rfl⟩
instance : En Try.prog 86 := ⟨enters_of Try.func86 (by kernel_rfl) rfl⟩
instance : En Try.prog 87 := ⟨enters_of Try.func87 (by kernel_rfl) rfl⟩
instance : En Try.prog 88 := ⟨enters_of Try.func88 (by kernel_rfl) rfl⟩
instance : En Try.prog 89 := ⟨enters_of Try.func89 (by kernel_rfl) rfl⟩
instance : En Try.prog 90 := ⟨enters_of Try.func90 (by kernel_rfl) rfl⟩
instance : En Try.prog 91 := ⟨enters_of Try.func91 (by kernel_rfl) rfl⟩
instance : En Try.prog 92 := ⟨enters_of Try.func92 (by kernel_rfl) rfl⟩
instance : En Try.prog 93 := ⟨enters_of Try.func93 (by kernel_rfl) rfl⟩
instance : Mixed Try.prog := ⟨by kernel_rfl⟩
end Go.Proofs.Ytekojicaeadepaa.Vm
/- A machine of values: rows of whole numbers, and of rows of bytes. -/
namespace Go.Vm
set_option linter.unusedSimpArgs false

@[simp] theorem ints_len (k : IntKind) (l : List Int) : (ints k l).length = l.length := by simp [ints]
theorem ints_one (k : IntKind) (l : List Int) : ∀ c ∈ ints k l, c.length = 1 := by
  intro c hc
  obtain ⟨n, _, rfl⟩ := List.mem_map.1 hc
  rfl
def rowsA (l : List (List Int)) : List (List A) := l.map fun r => [A.sl (ints .u8 r)]
@[simp] theorem rowsA_len (l : List (List Int)) : (rowsA l).length = l.length := by simp [rowsA]
theorem rowsA_one (l : List (List Int)) : ∀ c ∈ rowsA l, c.length = 1 := by
  intro c hc
  obtain ⟨n, _, rfl⟩ := List.mem_map.1 hc
  rfl
theorem rowsA_get (l : List (List Int)) (i : Nat) (h : i < l.length) : (rowsA l).getD i [] = [A.sl (ints .u8 (l.getD i []))] := by
  simp [rowsA, List.getD_eq_getElem?_getD, List.getElem?_eq_getElem h]

theorem noslc_ints {k t0 g0 l0} : ∀ t g l, Ob.row t g l ∈ [Ob.row t0 g0 (ints k l0)] → ∀ e ∈ l, ∀ x ∈ e, noslc x = true := by
  intro t g l h e he x hx
  simp at h
  obtain ⟨rfl, rfl, rfl⟩ := h
  obtain ⟨n, _, rfl⟩ := List.mem_map.1 he
  simp at hx
  subst hx
  rfl
theorem ints_get (k : IntKind) (l : List Int) (i : Nat) (h : i < l.length) : (ints k l).getD i [] = [A.int k (l.getD i 0)] := by
  simp [ints, List.getD_eq_getElem?_getD, List.getElem?_eq_getElem h]
theorem wrap_le {n : Int} (h0 : 0 ≤ n) (h : n < 9223372036854775808) : IntKind.i64.wrap n = n := by
  simp [IntKind.wrap, IntKind.bits, IntKind.signed]
  omega
theorem rowsA_succ (l : List (List Int)) (k : Nat) (h : k < l.length) : rowsA (l.take (k + 1)) = rowsA (l.take k) ++ [[A.sl (ints .u8 (l.getD k []))]] := by
  rw [rowsA, List.take_add_one, List.getElem?_eq_getElem h, List.map_append]
  simp [rowsA, List.getD_eq_getElem?_getD, List.getElem?_eq_getElem h, -List.map_take]
theorem ints_take (k : IntKind) (l : List Int) (n : Nat) : (ints k l).take n = ints k (l.take n) := by simp [ints, List.map_take]
theorem ints_drop (k : IntKind) (l : List Int) (n : Nat) : (ints k l).drop n = ints k (l.drop n) := by simp [ints, List.map_drop]
theorem rowsA_take (l : List (List Int)) (n : Nat) : (rowsA l).take n = rowsA (l.take n) := by simp [rowsA, List.map_take]
theorem rowsA_drop (l : List (List Int)) (n : Nat) : (rowsA l).drop n = rowsA (l.drop n) := by simp [rowsA, List.map_drop]
theorem rowsA_app (l m : List (List Int)) : rowsA l ++ rowsA m = rowsA (l ++ m) := by simp [rowsA]

theorem ints_app (k : IntKind) (l m : List Int) : ints k l ++ ints k m = ints k (l ++ m) := by simp [ints]
theorem ints_snoc (k : IntKind) (l : List Int) (n : Int) : ints k l ++ [[A.int k n]] = ints k (l ++ [n]) := by simp [ints]
theorem ints_cons (k : IntKind) (n : Int) (l : List Int) : [A.int k n] :: ints k l = ints k (n :: l) := rfl
theorem ints_rep (k : IntKind) (n : Int) (m : Nat) : List.replicate m [A.int k n] = ints k (List.replicate m n) := by simp [ints]
theorem ints_set (t : IntKind) (l : List Int) (k : Nat) (v : Int) : (ints t l).set k [A.int t v] = ints t (l.set k v) := by simp [ints, List.map_set]
theorem take_eq_succ {α : Type} {a b : List α} {d : α} {k : Nat} (ha : k < a.length) (hb : k < b.length) (hpre : a.take k = b.take k) (he : a.getD k d = b.getD k d) : a.take (k + 1) = b.take (k + 1) := by
  rw [List.take_add_one, List.take_add_one, hpre]
  congr 1
  rw [List.getElem?_eq_getElem ha, List.getElem?_eq_getElem hb]
  simpa [List.getD_eq_getElem?_getD, List.getElem?_eq_getElem ha, List.getElem?_eq_getElem hb] using he
theorem take_getD {α : Type} (a : List α) (d : α) (k : Nat) (h : k < a.length) : a.take (k + 1) = a.take k ++ [a.getD k d] := by
  rw [List.take_add_one, List.getElem?_eq_getElem h, List.getD_eq_getElem?_getD, List.getElem?_eq_getElem h]
  rfl
end Go.Vm
/- A machine of values: functions of plain values, called by themselves; the walking script. -/
namespace Go.Vm
open Go.RowKit
set_option linter.unusedVariables false

/-- a function that comes to a value whatever it is handed (of that form) -/
class Fu (P : Program) (f : FuncId) (args : List A) (res : outParam A) : Prop where h : Does P f args res []

def noref : A → Bool
  | .ref _ _ => false
  | .sub _ _ _ _ => false
  | .ptr _ _ _ _ => false
  | _ => true
def noref1 : A → Bool
  | .agg l => l.all noref
  | x => noref x
def noref2 : A → Bool
  | .tup l => l.all noref1
  | x => noref1 x
section
variable {P : Program} {C : Ctx} {Z0 : Nat → Prop} {w0 : Base} {st : St} {d : Option Tmp}

/-- words that stay as they are when they are handed over -/
def plain : A → Bool
  | .int _ _ => true
  | .bool _ => true
  | .str _ => true
  | .sl _ => true
  | .val _ => true
  | _ => false
def plain1 : A → Bool
  | .agg l => l.all plain
  | x => plain x
theorem frz_plain {hp : List Ob} {x : A} (h : plain x = true) : frz hp x = (hp, x) := by
  cases x <;> first | rfl | simp [plain] at h
theorem frzs_plain {hp : List Ob} : ∀ {l : List A}, l.all plain = true → frzs hp l = (hp, l)
  | [], _ => rfl
  | x :: xs, h => by
    simp only [List.all_cons, Bool.and_eq_true] at h
    simp only [frzs, frz_plain h.1, frzs_plain h.2]
theorem frz1_plain {hp : List Ob} {x : A} (h : plain1 x = true) : frz1 hp x = (hp, x) := by
  cases x <;> first | rfl | skip
  all_goals first | (simp [plain1, plain] at h; done) | skip
  simp only [plain1] at h
  simp only [frz1, frzs_plain h]
theorem sh_int {n : Nat} {k : IntKind} {a : Int} : sh1 n (.int k a) = .int k a := rfl
theorem sh_bool {n : Nat} {b : Bool} : sh1 n (.bool b) = .bool b := rfl
theorem sh_str {n : Nat} {b : ByteArray} : sh1 n (.str b) = .str b := rfl
theorem sh_sl {n : Nat} {l : List (List A)} : sh1 n (.sl l) = .sl l := rfl
theorem sh_nil {n : Nat} : sh1 n .nil = .nil := rfl
theorem sh_ref {n r g : Nat} : sh1 n (.ref r g) = .ref (n + r) g := rfl
theorem sh_agg {n : Nat} {l : List A} : sh1 n (.agg l) = .agg (l.map (shc n)) := rfl
theorem sc_int {n : Nat} {k : IntKind} {a : Int} : shc n (.int k a) = .int k a := rfl
theorem sc_bool {n : Nat} {b : Bool} : shc n (.bool b) = .bool b := rfl
theorem sc_str {n : Nat} {b : ByteArray} : shc n (.str b) = .str b := rfl
theorem sc_sl {n : Nat} {l : List (List A)} : shc n (.sl l) = .sl l := rfl
theorem sc_nil {n : Nat} : shc n .nil = .nil := rfl
theorem sc_ref {n r g : Nat} : shc n (.ref r g) = .ref (n + r) g := rfl
theorem sf_tup {n : Nat} {l : List A} : shift n (.tup l) = .tup (l.map (sh1 n)) := rfl
theorem sf_int {n : Nat} {k : IntKind} {a : Int} : shift n (.int k a) = .int k a := rfl
theorem sf_ref {n r g : Nat} : shift n (.ref r g) = .ref (n + r) g := rfl
theorem sf_agg {n : Nat} {l : List A} : shift n (.agg l) = .agg (l.map (shc n)) := rfl

/-- what is handed over, kept from now on: its words, and the blocks then -/
inductive ArgK (tm : List A) (hp0 : List Ob) : List Ob → List Operand → List Ob → List A → Prop
  | nil {hp : List Ob} : ArgK tm hp0 hp [] hp []
  | plain {hp hp2 : List Ob} {x : Operand} {xs : List Operand} {X : A} {ys : List A} (h : St.evo ⟨tm, hp0⟩ x = some X) (hx : plain1 X = true) (t : ArgK tm hp0 hp xs hp2 ys) : ArgK tm hp0 hp (x :: xs) hp2 (X :: ys)
  | none {hp hp2 : List Ob} {x : Operand} {xs : List Operand} {ys : List A} (h : St.evo ⟨tm, hp0⟩ x = some .nil) (t : ArgK tm hp0 hp xs hp2 ys) : ArgK tm hp0 hp (x :: xs) hp2 (.sl [] :: ys)
  | ref {hp hp1 hp2 : List Ob} {x : Operand} {xs : List Operand} {ys : List A} {r g : Nat} {t : TypeId} {l : List (List A)} (h : St.evo ⟨tm, hp0⟩ x = some (.ref r g)) (hr : hp[r]? = some (.row t g l)) (he : hp.set r (.fro g l) = hp1) (t : ArgK tm hp0 hp1 xs hp2 ys) : ArgK tm hp0 hp (x :: xs) hp2 (.sl l :: ys)
  | fro {hp hp2 : List Ob} {x : Operand} {xs : List Operand} {ys : List A} {r g : Nat} {l : List (List A)} (h : St.evo ⟨tm, hp0⟩ x = some (.ref r g)) (hr : hp[r]? = some (.fro g l)) (t : ArgK tm hp0 hp xs hp2 ys) : ArgK tm hp0 hp (x :: xs) hp2 (.sl l :: ys)
  | sub {hp hp1 hp2 : List Ob} {x : Operand} {xs : List Operand} {ys : List A} {r g a e : Nat} {t : TypeId} {l : List (List A)} (h : St.evo ⟨tm, hp0⟩ x = some (.sub r g a e)) (hr : hp[r]? = some (.row t g l)) (he : hp.set r (.fro g l) = hp1) (t : ArgK tm hp0 hp1 xs hp2 ys) : ArgK tm hp0 hp (x :: xs) hp2 (.sl ((l.take e).drop a) :: ys)
  | agg {hp hp1 hp2 : List Ob} {x : Operand} {xs : List Operand} {ys : List A} {l l' : List A} (h : St.evo ⟨tm, hp0⟩ x = some (.agg l)) (hf : frzs hp l = (hp1, l')) (t : ArgK tm hp0 hp1 xs hp2 ys) : ArgK tm hp0 hp (x :: xs) hp2 (.agg l' :: ys)
theorem ArgK.eq {tm : List A} {hp0 hp hp2 : List Ob} {xs : List Operand} {ys : List A} (h : ArgK tm hp0 hp xs hp2 ys) : frzl hp (xs.map (St.ev ⟨tm, hp0⟩)) = (hp2, ys) := by
  induction h with
  | nil => rfl
  | plain h hx _ ih => simp only [List.map_cons, frzl, evo_ev h, frz1_plain hx, ih]
  | none h _ ih => simp only [List.map_cons, frzl, evo_ev h, frz1, frz, ih]
  | ref h hr he _ ih =>
    subst he
    simp only [List.map_cons, frzl, evo_ev h, frz1, frz, hr, if_true, ih]
  | sub h hr he _ ih =>
    subst he
    simp only [List.map_cons, frzl, evo_ev h, frz1, frz, hr, if_true, ih]
  | fro h hr _ ih => simp only [List.map_cons, frzl, evo_ev h, frz1, frz, hr, if_true, ih]
  | agg h hf _ ih => simp only [List.map_cons, frzl, evo_ev h, frz1, hf, ih]
inductive Args (st : St) : List Operand → List A → Prop
  | nil : Args st [] []
  | plain {x : Operand} {xs : List Operand} {X : A} {ys : List A} (h : st.evo x = some X) (ha : plain1 X = true) (t : Args st xs ys) : Args st (x :: xs) (X :: ys)
  | none {x : Operand} {xs : List Operand} {ys : List A} (h : st.evo x = some .nil) (t : Args st xs ys) : Args st (x :: xs) (.sl [] :: ys)
theorem Args.eq {st : St} {xs : List Operand} {ys : List A} (h : Args st xs ys) : frzl st.hp (xs.map st.ev) = (st.hp, ys) := by
  induction h with
  | nil => rfl
  | plain h hx _ ih => simp only [List.map_cons, frzl, evo_ev h, frz1_plain hx, ih]
  | none h _ ih => simp only [List.map_cons, frzl, evo_ev h, frz1, frz, ih]
/-- a call by itself: what is handed over is plain -/
theorem Stp.fu {f : FuncId} {l : List Operand} {ts : Array TypeId} {ys : List A} {res : A} [hE : En P f] (ha : Args st l ys := by repeat (first | exact Args.nil | (apply Args.plain; exact rfl; exact rfl) | (apply Args.none; exact rfl))) (hF : Fu P f ys res := by infer_instance) (hnr : shift st.hp.length res = res := by rfl) :
    Stp P (.call { callee := .value (.func f), args := l.toArray, argTypes := ts }) d st (St.put ⟨st.tm, st.hp⟩ d res) :=
  fun o ho hd _ _ hN => op_callk ho hE.h (by rw [show l.toArray.toList = l from by simp, ha.eq]; exact hF.h) (by simp [rowsOnly]) (by rw [show l.toArray.toList = l from by simp, ha.eq, List.append_nil, hnr]; exact hd ▸ hN)
/-- a row of plain words -/
inductive Els (st : St) : Nat → List (Nat × Operand) → List (List A) → Prop
  | nil {k : Nat} : Els st k [] []
  | cons {k : Nat} {x : Operand} {ps : List (Nat × Operand)} {X : A} {es : List (List A)} (h : st.evo x = some X) (hX : plain X = true) (t : Els st (k + 1) ps es) : Els st k ((k, x) :: ps) ([X] :: es)
theorem Els.eq {st : St} {k : Nat} {ps : List (Nat × Operand)} {es : List (List A)} (h : Els st k ps es) : elemsA st k ps = some es := by
  induction h with
  | nil => rfl
  | @cons k x ps X es h hX _ ih =>
    have hc : cellsA X = some [X] := by cases X <;> first | rfl | simp [plain] at hX
    simp only [elemsA, evo_ev h, hc, ih, if_true]
theorem Els.frz {st : St} {hp : List Ob} {k : Nat} {ps : List (Nat × Operand)} {es : List (List A)} (h : Els st k ps es) : frzE hp es = (hp, es) ∧ es.length = ps.length ∧ ∀ x ∈ es, x.length = 1 := by
  induction h with
  | nil => exact ⟨rfl, rfl, by simp⟩
  | @cons k x ps X es h hX _ ih =>
    refine ⟨?_, by simp [ih.2.1], by simpa using ih.2.2⟩
    simp only [frzE, frzs, frz_plain hX, ih.1]
theorem Stp.litp {t e : TypeId} {n : Nat} {ps : List (Nat × Operand)} {es : List (List A)} {zl : List A} [hu : SlT P t e] [hm : Sz P e 1] [hz : Zr P e zl] (hes : Els st 0 ps es := by repeat (first | exact Els.nil | (apply Els.cons; exact rfl; exact rfl))) {n2 : Nat} (hid : st.hp.length = n2 := by first | (simp only [List.length_cons, List.length_nil, Nat.zero_add, Nat.reduceAdd]; rfl) | rfl) (hn : ps.length = n := by rfl) (hsm : n * 1 ≤ 2 ^ 24 := by decide) :
    Stp P (.buildSlice t n ps.toArray) d st (St.put ⟨st.tm, st.hp ++ [.row e 0 es]⟩ d (.ref n2 0)) := by
  obtain ⟨h1, h2, h3⟩ := hes.frz (hp := st.hp)
  exact Stp.lit (hes := by simpa using hes.eq) (hfz := h1) (hid := hid) (hn := by simpa using hn) (hm0 := by decide) (hsm := hsm) (hl := h3)
/-- a struct out of its parts -/
inductive Parts (st : St) : List (Nat × Operand) → List (Nat × A) → Prop
  | nil : Parts st [] []
  | cons {i : Nat} {x : Operand} {ps : List (Nat × Operand)} {X : A} {qs : List (Nat × A)} (h : st.evo x = some X) (t : Parts st ps qs) : Parts st ((i, x) :: ps) ((i, X) :: qs)
theorem Parts.eq {st : St} {ps : List (Nat × Operand)} {qs : List (Nat × A)} (h : Parts st ps qs) : (ps.map fun p => (p.1, st.ev p.2)) = qs := by
  induction h with
  | nil => rfl
  | cons h _ ih => simp only [List.map_cons, evo_ev h, ih]
theorem Stp.buildp {t : TypeId} {ps : List (Nat × Operand)} {qs : List (Nat × A)} {zl cs : List A} {pl : List (Nat × Nat)} [hz : Zr P t zl] [hp : Pl P t pl] (hps : Parts st ps qs := by repeat (first | exact Parts.nil | (apply Parts.cons; exact rfl)))
    (hb : fillA pl zl qs = some cs := by (simp only [fillA, cellsA, splice, List.take_succ_cons, List.take_zero, List.drop_succ_cons, List.drop_zero, List.cons_append, List.nil_append, List.append_nil, List.length_cons, List.length_nil, Nat.zero_add, Nat.add_zero, Nat.reduceAdd, Nat.reduceLeDiff, and_self, if_true, reduceIte, List.getElem?_cons_zero, List.getElem?_cons_succ]; exact rfl)) : Stp P (.build t ps.toArray) d st (st.put d (.agg cs)) :=
  Stp.build (hb := by rw [show ps.toArray.toList = ps from by simp, hps.eq]; exact hb)
/-- a whole box, loaded -/
theorem Stp.loadB {t tb : TypeId} {x : Operand} {n r : Nat} {cs : List A} [ha : Ag P t true] [hz : Sz P t n] (hx : st.evo x = some (.ptr r 0 0 0) := by rfl) (hr : st.hp[r]? = some (.box tb cs) := by rfl) (hn : cs.length = n := by rfl) : Stp P (.load t x) d st (st.put d (.agg cs)) := by
  have hf : from_ st.hp (.ptr r 0 0 0) = some cs := by simp [from_, hr]
  exact Stp.load (b := true) (hx := hx) (hf := hf) (hl := by rw [if_pos rfl, if_pos (by omega), List.take_of_length_le (by omega)])
/-- a call that comes to plain values -/
theorem Stp.callv {f : FuncId} {l : List Operand} {ts : Array TypeId} {tm : List A} {hp hp2 : List Ob} {ys : List A} {res : A} [hE : En P f] (hF : Does P f ys res [])
    (ha : ArgK tm hp hp l hp2 ys := by repeat (first | exact ArgK.nil | (apply ArgK.plain; exact rfl; exact rfl) | (apply ArgK.none; exact rfl) | (apply ArgK.ref; exact rfl; exact rfl; (first | (simp only [List.set_cons_zero, List.set_cons_succ]; exact rfl) | exact rfl)) | (apply ArgK.sub; exact rfl; exact rfl; (first | (simp only [List.set_cons_zero, List.set_cons_succ]; exact rfl) | exact rfl)) | (apply ArgK.fro; exact rfl; exact rfl) | (apply ArgK.agg; exact rfl; (simp only [frzs, frz, List.getElem?_cons_zero, List.getElem?_cons_succ, if_true, reduceIte, List.set_cons_zero, List.set_cons_succ]; exact rfl))))
    (hsh : shift hp2.length res = res := by rfl) : Stp P (.call { callee := .value (.func f), args := l.toArray, argTypes := ts }) d ⟨tm, hp⟩ (St.put ⟨tm, hp2⟩ d res) :=
  fun o ho hd _ _ hN => op_callk ho hE.h (by rw [show l.toArray.toList = l from by simp, ha.eq]; exact hF) (by simp [rowsOnly]) (by rw [show l.toArray.toList = l from by simp, ha.eq, List.append_nil, hsh]; exact hd ▸ hN)
/-- .. or to a row of its own, first of all -/
theorem Stp.callr {f : FuncId} {l : List Operand} {ts : Array TypeId} {tm : List A} {hp hp2 : List Ob} {ys : List A} {res res' : A} {hr : List Ob} {n : Nat} [hE : En P f] (hF : Does P f ys res hr)
    (ha : ArgK tm hp hp l hp2 ys := by repeat (first | exact ArgK.nil | (apply ArgK.plain; exact rfl; exact rfl) | (apply ArgK.none; exact rfl) | (apply ArgK.ref; exact rfl; exact rfl; (first | (simp only [List.set_cons_zero, List.set_cons_succ]; exact rfl) | exact rfl)) | (apply ArgK.sub; exact rfl; exact rfl; (first | (simp only [List.set_cons_zero, List.set_cons_succ]; exact rfl) | exact rfl)) | (apply ArgK.fro; exact rfl; exact rfl) | (apply ArgK.agg; exact rfl; (simp only [frzs, frz, List.getElem?_cons_zero, List.getElem?_cons_succ, if_true, reduceIte, List.set_cons_zero, List.set_cons_succ]; exact rfl))))
    (hrow : rowsOnly hr := by simp [rowsOnly]) (hlen : hp2.length = n := by first | (simp only [List.length_cons, List.length_nil, Nat.zero_add, Nat.reduceAdd]; exact rfl) | exact rfl)
    (hsh : shift n res = res' := by first | (simp only [sf_tup, sf_int, sf_ref, sf_agg, List.map_cons, List.map_nil, sh_int, sh_bool, sh_str, sh_sl, sh_nil, sh_ref, sh_agg, sc_int, sc_bool, sc_str, sc_sl, sc_nil, sc_ref, Nat.add_zero, Nat.zero_add, Nat.reduceAdd]; exact rfl) | exact rfl) : Stp P (.call { callee := .value (.func f), args := l.toArray, argTypes := ts }) d ⟨tm, hp⟩ (St.put ⟨tm, hp2 ++ hr⟩ d res') :=
  fun o ho hd _ _ hN => op_callk ho hE.h (by rw [show l.toArray.toList = l from by simp, ha.eq]; exact hF) hrow (by rw [show l.toArray.toList = l from by simp, ha.eq, hlen, hsh]; exact hd ▸ hN)
end

def andI (k : IntKind) (a b : Int) : Int := k.wrap (BitVec.ofInt k.bits a &&& BitVec.ofInt k.bits b).toNat
def orI (k : IntKind) (a b : Int) : Int := k.wrap (BitVec.ofInt k.bits a ||| BitVec.ofInt k.bits b).toNat
def xorI (k : IntKind) (a b : Int) : Int := k.wrap (BitVec.ofInt k.bits a ^^^ BitVec.ofInt k.bits b).toNat
def shrI (k : IntKind) (a : Int) (b : Int) : Int := a.fdiv (2 ^ min b.toNat k.bits)
def shlI (k : IntKind) (a : Int) (b : Int) : Int := k.wrap (a * 2 ^ min b.toNat k.bits)

theorem Out.t0 {P : Program} {fn : Func} {st : St} {x y : A} {l rs : List A} (h1 : resAs P st fn.results.toList = some rs := by rfl) (hv : V1s (names []) st.hp [] rs (x :: y :: l) := by repeat (first | exact trivial | exact rfl | refine ⟨?_, ?_⟩)) : Out P fn st (.tup (x :: y :: l)) [] :=
  ⟨rs, _, [], h1, by decide, trivial, hv, rfl⟩
theorem Out.o0 {P : Program} {fn : Func} {st : St} {x r : A} (h1 : resAs P st fn.results.toList = some [r] := by rfl) (hv : V1 (names []) st.hp [] r x := by repeat (first | exact trivial | exact rfl | refine ⟨?_, ?_⟩)) : Out P fn st x [] :=
  ⟨[r], [x], [], h1, by decide, trivial, ⟨hv, trivial⟩, rfl⟩
/-- with rows: l says what each of them was called -/
theorem Out.th {P : Program} {fn : Func} {st : St} {x y : A} {r rs : List A} {hr : List Ob} (l : List (Option Nat)) (hn : (l.filterMap id).Nodup := by decide) (h1 : resAs P st fn.results.toList = some rs := by rfl)
    (HO : VOs (names l) st.hp hr (szOf P) 0 hr := by simp [VOs, VO, names]) (hv : V1s (names l) st.hp hr rs (x :: y :: r) := by simp [V1s, V1, VCs, VC, names]) : Out P fn st (.tup (x :: y :: r)) hr :=
  ⟨rs, _, l, h1, hn, HO, hv, rfl⟩
theorem Out.oh {P : Program} {fn : Func} {st : St} {x r : A} {hr : List Ob} (l : List (Option Nat)) (hn : (l.filterMap id).Nodup := by decide) (h1 : resAs P st fn.results.toList = some [r] := by rfl)
    (HO : VOs (names l) st.hp hr (szOf P) 0 hr := by simp [VOs, VO, names]) (hv : V1 (names l) st.hp hr r x := by simp [V1, VCs, VC, names]) : Out P fn st x hr :=
  ⟨[r], [x], l, h1, hn, HO, ⟨hv, trivial⟩, rfl⟩
/-- a loop's state, names anew -/
theorem Le.ofs {P : Program} {C : Ctx} {st st' : St} (hC : C.F = []) (l : List (Option Nat)) (hn : (l.filterMap id).Nodup := by decide) (HO : VOs (names l) st.hp st'.hp (szOf P) 0 st'.hp := by simp [VOs, VO, names])
    (ht : V2s (names l) st.hp st'.hp st.tm st'.tm := by simp [V2s, V2, V1, VCs, VC, names]) : Le P C st st' := Le.of hC l hn HO ht
theorem go_t {P : Program} {C : Ctx} {st : St} {K : Exit → St → Prop} {c c' : Code} {x : Operand} {b : Bool} (h : CodeS P C c st K) (hc : st.evo x = some (.bool b) := by rfl) (hb : b = true := by rfl) : CodeS P C (.cond x c c') st K := go_cond (fun _ => h) (fun e => absurd (hb.symm.trans e) (by decide)) hc
theorem go_f {P : Program} {C : Ctx} {st : St} {K : Exit → St → Prop} {c c' : Code} {x : Operand} {b : Bool} (h : CodeS P C c' st K) (hc : st.evo x = some (.bool b) := by rfl) (hb : b = false := by rfl) : CodeS P C (.cond x c c') st K := go_cond (fun e => absurd (hb.symm.trans e) (by decide)) (fun _ => h) hc
structure Hold (q : Prop) : Prop where
  out : q
theorem vx {p q : Prop} (h : Hold q → p := by (intro h; (repeat (first | refine go_seq ?_ | refine go_reg ?_ | refine go_blk ?_ | refine o_g1 (h := ?_) | refine o_g0 (h := ?_) | refine o_gs (h := ?_) | refine o_step (Stp.fu) (h := ?_) | refine o_step Stp.move (h := ?_) | refine o_step Stp.assign (h := ?_) | refine o_step Stp.len (h := ?_) | refine o_step Stp.bin (h := ?_) | refine o_step Stp.loadB (h := ?_) | refine o_step Stp.load (h := ?_) | refine o_step Stp.field (h := ?_) | refine o_step Stp.extract (h := ?_) | refine o_step Stp.nilCheck (h := ?_) | refine o_step Stp.fieldAddr (h := ?_) | refine o_step Stp.pick (h := ?_) | refine o_step Stp.un (h := ?_) | refine o_step Stp.conv (h := ?_) | refine o_step Stp.buildp (h := ?_) | refine o_step Stp.build (h := ?_) | refine o_step Stp.eqb (h := ?_) | refine o_step Stp.neb (h := ?_) | refine o_step Stp.min (h := ?_) | refine o_stepH Stp.box (h := ?_) | refine o_stepH Stp.alloc (h := ?_) | refine o_stepH Stp.store (h := ?_) | refine o_stepH Stp.litp (h := ?_) | refine o_stepH Stp.lit (h := ?_) | refine o_nil rfl ?_ | refine k_seq ?_ | refine k_blk ?_ | refine k_ret ?_ | refine k_bret ?_ | refine k_exit ?_ | refine k_bexit ?_ | refine k_bexit' (h := ?_) | refine CodeS.skip ?_ | refine CodeS.exit ?_ | refine CodeS.ret ?_ | refine go_t ?_ | refine go_f ?_)); exact h.out)) (hq : q) : p := h ⟨hq⟩
theorem dx {p q : Prop} (h : Hold q → p := by (intro h; (repeat (first | refine d_g (h := ?_) | refine d_n0 (h := ?_) | refine d_step0 (Stp.fu) (h := ?_) | refine d_step0 Stp.move (h := ?_) | refine d_step0 Stp.assign (h := ?_) | refine d_step0 Stp.len (h := ?_) | refine d_step0 Stp.bin (h := ?_) | refine d_step0 Stp.loadB (h := ?_) | refine d_step0 Stp.load (h := ?_) | refine d_step0 Stp.field (h := ?_) | refine d_step0 Stp.extract (h := ?_) | refine d_step0 Stp.nilCheck (h := ?_) | refine d_step0 Stp.fieldAddr (h := ?_) | refine d_step0 Stp.pick (h := ?_) | refine d_step0 Stp.un (h := ?_) | refine d_step0 Stp.conv (h := ?_) | refine d_step0 Stp.buildp (h := ?_) | refine d_step0 Stp.build (h := ?_) | refine d_step0 Stp.eqb (h := ?_) | refine d_step0 Stp.neb (h := ?_) | refine d_nil ?_)); exact h.out)) (hq : q) : p := h ⟨hq⟩
end Go.Vm
namespace Go.Proofs.Ytekojicaeadepaa.Vm
open Go.Vm Go.Proofs
set_option linter.unusedSimpArgs false
-- short

def mixI (x : Int) : Int :=
  let a := IntKind.u32.wrap (xorI .u32 x (shrI .u32 x 16) * 2146121005)
  let b := IntKind.u32.wrap (xorI .u32 a (shrI .u32 a 15) * 2221713035)
  xorI .u32 b (shrI .u32 b 16)
instance Mix_fn (x : Int) : Fu Try.prog 70 [.int .u32 x] (.int .u32 (mixI x)) := ⟨by
  refine Does.of Try.func70 rfl Try.ntmps70 fun C hC => ?_
  refine vx (hq := ?_)
  exact Out.o0⟩
instance Begin_fn : Fu Try.prog 66 [] (.int .u32 2654435769) := ⟨by
  refine Does.of Try.func66 rfl Try.ntmps66 fun C hC => ?_
  refine vx (hq := ?_)
  exact Out.o0⟩
def stI (s x : Int) : Int := mixI (xorI .u32 s (IntKind.u32.wrap x))
theorem Step_fn (s : Int) {x : Int} (h0 : 0 ≤ x) (h1 : x < 16) : Does Try.prog 67 [.int .u32 s, .int .i64 x] (.tup [.int .u32 (stI s x), .int .i64 0]) [] := by
  refine Does.of Try.func67 rfl Try.ntmps67 fun C hC => ?_
  refine vx (hq := ?_)
  rw [show decide (x < 0) = false by simp; omega]
  refine vx (hq := ?_)
  rw [show decide (x ≥ 16) = false by simp; omega]
  refine vx (hq := ?_)
  exact Out.t0
end Go.Proofs.Ytekojicaeadepaa.Vm
namespace Go.Proofs.Ytekojicaeadepaa.Vm
open Go.Vm Go.Proofs
set_option linter.unusedSimpArgs false
-- short

/-- the states, one behind the other -/
def stsI : Int → List Int → List Int
  | _, [] => []
  | s, x :: xs => stI s x :: stsI (stI s x) xs
def endI (s : Int) (l : List Int) : Int := l.foldl stI s
theorem stsI_len : ∀ (l : List Int) (s : Int), (stsI s l).length = l.length
  | [], _ => rfl
  | x :: xs, s => by simp [stsI, stsI_len xs]
theorem stsI_snoc : ∀ (l : List Int) (s x : Int), stsI s (l ++ [x]) = stsI s l ++ [stI (endI s l) x]
  | [], s, x => rfl
  | y :: l, s, x => by simp [stsI, stsI_snoc l, endI]
theorem endI_snoc (l : List Int) (s x : Int) : endI s (l ++ [x]) = stI (endI s l) x := by simp [endI]
def beginI : Int := 2654435769
def nibB (x : Int) : Prop := 0 ≤ x ∧ x < 16
theorem mem_getD {l : List Int} {k : Nat} (h : k < l.length) {p : Int → Prop} (hp : ∀ x ∈ l, p x) : p (l.getD k 0) := by
  rw [List.getD_eq_getElem?_getD, List.getElem?_eq_getElem h]
  exact hp _ (List.getElem_mem h)

set_option maxRecDepth 10000 in
theorem States_fn {l : List Int} (hl : l.length ≤ 64) (hn : ∀ x ∈ l, nibB x) : Does Try.prog 39 [.sl (ints .i64 l)] (.tup [.ref 0 0, .int .i64 0]) [.row 44 0 (ints .u32 (stsI beginI l))] := by
  refine Does.of Try.func39 rfl Try.ntmps39 fun C hC => ?_
  refine vx (hq := ?_)
  rw [show decide (((ints .i64 l).length : Int) > 64) = false by simp; omega]
  refine vx (hq := ?_)
  refine go_loop (ι := { k : Nat // k ≤ l.length }) (fun k => ⟨[.undef, .undef, .undef, .undef, .ref 0 0, .int .u32 (endI beginI (l.take k.1)), .undef, .undef, .undef, .undef, .undef, .undef, .undef, .undef, .sl (ints .i64 l), .int .i64 (l.length : Nat), .int .i64 (k.1 : Nat), .undef, .undef, .undef, .undef, .undef, .undef, .undef, .undef, .undef, .undef, .undef, .undef, .undef, .undef, .undef, .undef, .undef, .undef, .undef], [.row 44 0 (ints .u32 (stsI beginI (l.take k.1)))]⟩) (fun k => l.length - k.1) ⟨0, Nat.zero_le _⟩ ?_ ?_
  · exact Le.ofs hC [none] (by decide) (by simp [VOs, VO, names, stsI, ints]; rfl) (by simp [V2s, V2, V1, VC, names, endI, beginI, stsI, ints])
  · rintro ⟨k, hk⟩
    refine vx (hq := ?_)
    refine go_cond (fun hc => ?_) (fun hc => ?_)
    · have hlt : k < l.length := by simpa using hc
      obtain ⟨h0, h1⟩ := mem_getD hlt hn
      refine vx (hq := ?_)
      refine o_step (Stp.index (h0 := by simp) (h1 := by simp; omega) (hr := by simp only [indexA, Int.toNat_natCast, ints_get _ l k hlt]; rfl)) (h := ?_)
      refine vx (hq := ?_)
      refine o_step (Stp.call (hF := Step_fn _ h0 h1)) (h := ?_)
      refine vx (hq := ?_)
      refine o_stepH (Stp.append (hys := by simp) (hb := by simp [stsI_len]; omega) (h63 := by simp [maxLen, stsI_len]; omega)) (h := ?_)
      refine vx (hq := ?_)
      refine ⟨⟨k + 1, hlt⟩, ?_, ?_⟩
      · show l.length - (k + 1) < l.length - k
        omega
      · refine Le.ofs hC [some 0] (by decide) ?_ ?_
        · simp [VOs, VO, names, take_getD l 0 k hlt, stsI_snoc, ints]
        · simp [V2s, V2, V1, VC, names, take_getD l 0 k hlt, endI_snoc]
          exact wrap_le (by omega) (by omega)
    · have hge : k = l.length := by
        simp at hc
        omega
      subst hge
      refine vx (hq := ?_)
      exact Out.th [some 0] (by decide) rfl (by simp [VOs, VO, names])

def symI (s i : Int) : Int :=
  if i < 4 then IntKind.i64.wrap (andI .u32 (shrI .u32 s (IntKind.i64.wrap (8 * i))) 255)
  else IntKind.i64.wrap (andI .u32 (mixI (IntKind.u32.wrap (s + IntKind.u32.wrap (IntKind.u32.wrap i * 2654435769)))) 255)
theorem Of_fn (s : Int) {i : Int} (h0 : 0 ≤ i) (h1 : i ≤ 255) : Does Try.prog 41 [.int .u32 s, .int .i64 i] (.tup [.int .i64 (symI s i), .int .i64 0]) [] := by
  refine Does.of Try.func41 rfl Try.ntmps41 fun C hC => ?_
  refine vx (hq := ?_)
  rw [show decide (i < 0) = false by simp; omega]
  refine vx (hq := ?_)
  rw [show decide (i > 255) = false by simp; omega]
  refine vx (hq := ?_)
  refine go_cond (fun hc => ?_) (fun hc => ?_)
  · have hc : i < 4 := by simpa using hc
    have hw : 0 ≤ IntKind.i64.wrap (8 * i) := by rw [wrap_le (n := 8 * i) (by omega) (by omega)]; omega
    refine vx (hq := ?_)
    exact Out.t0 rfl ⟨⟨rfl, by rw [symI, if_pos hc]; rfl⟩, ⟨rfl, rfl⟩, trivial⟩
  · have hc : ¬ i < 4 := by simpa using hc
    refine vx (hq := ?_)
    exact Out.t0 rfl ⟨⟨rfl, by rw [symI, if_neg hc]; rfl⟩, ⟨rfl, rfl⟩, trivial⟩
theorem Segs_fn {n : Int} (h0 : 0 ≤ n) (h1 : n ≤ 32) : Does Try.prog 37 [.int .i64 n] (.int .i64 (2 * n)) [] := by
  refine Does.of Try.func37 rfl Try.ntmps37 fun C hC => ?_
  refine vx (hq := ?_)
  rw [show decide (n < 0) = false by simp; omega]
  refine vx (hq := ?_)
  rw [show decide (n > 32) = false by simp; omega]
  refine vx (hq := ?_)
  exact Out.o0 rfl ⟨rfl, wrap_le (by omega) (by omega)⟩
end Go.Proofs.Ytekojicaeadepaa.Vm
namespace Go.Proofs.Ytekojicaeadepaa.Vm
open Go.Vm Go.Proofs Go.RowKit Go.Proofs.YtekojicaeadepaaW.PrintWords
set_option linter.unusedSimpArgs false
-- short

theorem vals1 {R : A → Value → Prop} {vs : Array Value} {x : A} (hl : vs.toList.length = [x].length) (ha : ∀ (j : Nat) (y : A), [x][j]? = some y → ∃ u, vs.toList[j]? = some u ∧ R y u) : ∃ u, vs = #[u] ∧ R x u := by
  obtain ⟨u, h1, h2⟩ := ha 0 x rfl
  obtain ⟨v, hv⟩ : ∃ v, vs.toList = [v] := List.length_eq_one_iff.1 hl
  rw [hv] at h1
  obtain rfl : v = u := by simpa using h1
  exact ⟨v, Array.ext' hv, h2⟩
theorem vals2 {R : A → Value → Prop} {vs : Array Value} {x z : A} (hl : vs.toList.length = [x, z].length) (ha : ∀ (j : Nat) (y : A), [x, z][j]? = some y → ∃ u, vs.toList[j]? = some u ∧ R y u) : ∃ u v, vs = #[u, v] ∧ R x u ∧ R z v := by
  obtain ⟨u, h1, h2⟩ := ha 0 x rfl
  obtain ⟨v, h3, h4⟩ := ha 1 z rfl
  match hv : vs.toList, hl with
  | [p, q], _ =>
    rw [hv] at h1 h3
    obtain rfl : p = u := by simpa using h1
    obtain rfl : q = v := by simpa using h3
    exact ⟨p, q, Array.ext' hv, h2, h4⟩

theorem kd_C {Z : Nat → Prop} {w : World} {k : IntKind} {l : List Int} {v : Value} (h : IV Z w (.sl (ints k l)) v) (hl : l.length ≤ 9223372036854775807) :
    ∃ ad c, v = .slice ad l.length c ∧ l.length ≤ c ∧ Kd.C (Kd.int k) w ad l.length l := by
  obtain ⟨ad, c, e, hc, h⟩ := iv_ints h
  refine ⟨ad, c, e, hc, rfl, hl, fun h0 => ?_⟩
  obtain ⟨x, rfl, hx⟩ := h h0
  refine ⟨x, rfl, fun j p hj => ⟨[.int k p], rfl, rfl, fun i u hi => ?_⟩⟩
  match i, hi with
  | 0, hi =>
    obtain rfl := Option.some.inj hi
    have : j * (Kd.int k).sz + 0 = j := Nat.mul_one j
    rw [this]
    exact hx j p hj
  | i + 1, hi => simp at hi

theorem kd_R {w w' : World} {t : TypeId} {k : IntKind} {ok : Nat → Prop} {v : Value} {r : List Int} (h : Kd.R (Kd.int k) t w' w.heap.size ok v r) : w'.ownsRow w.heap.size t 1 v r.length (r.map (Value.int k)) := by
  obtain ⟨_, inner, ho, hr, hat⟩ := h
  have hi : inner = r.map (Value.int k) := by
    apply List.ext_getElem?
    intro j
    rcases Nat.lt_or_ge j r.length with hj | hj
    · have h1 := hat j r[j] (List.getElem?_eq_getElem hj)
      have h2 : (inner.drop (j * (Kd.int k).sz)).take (Kd.int k).sz = [Value.int k r[j]] := h1
      have h3 : (inner.drop (j * 1)).take 1 = [Value.int k r[j]] := h2
      rw [Nat.mul_one] at h3
      have h4 : ((inner.drop j).take 1)[0]? = some (Value.int k r[j]) := by rw [h3]; rfl
      rw [List.getElem?_take, if_pos (by decide), List.getElem?_drop, Nat.add_zero] at h4
      rw [h4, List.getElem?_map, List.getElem?_eq_getElem hj]
      rfl
    · have h1 : inner.length = r.length := by
        have h2 : inner.length = r.length * 1 := hr
        omega
      rw [List.getElem?_eq_none (by omega), List.getElem?_eq_none (by simp; omega)]
  exact hi ▸ ho

theorem At_fn {n k : Nat} (h1 : 1 ≤ n) (h2 : n ≤ 64) (h3 : k < n * 16) : Does Try.prog 40 [.int .i64 n, .int .i64 k] (.tup [.int .i64 ((P.ord n).getD (k % n) 0), .int .i64 ((k / n : Nat) : Int), .int .i64 0]) [] := by
  intro Z w vs hZ hl ha
  obtain ⟨u, v, rfl, hu, hv⟩ := vals2 (R := TR Try.prog [] noMu Z w) hl ha
  have hu : IV Z w (.int .i64 (n : Int)) u := hu
  have hv : IV Z w (.int .i64 (k : Int)) v := hv
  cases hu
  cases hv
  refine Calls.mono (P.at_yes n k h1 h2 h3 w) ?_
  rintro e w' ⟨rfl, hb⟩
  refine ⟨_, noMu, Z, rfl, hr_none hZ hb, _, rfl, rfl, fun j x hj => ?_⟩
  match j, hj with
  | 0, hj => cases hj; exact ⟨_, rfl, IV.int _ _⟩
  | 1, hj => cases hj; exact ⟨_, rfl, IV.int _ _⟩
  | 2, hj => cases hj; exact ⟨_, rfl, IV.int _ _⟩
  | j + 3, hj => simp at hj

def byteL (l : List Int) : Prop := ∀ x ∈ l, 0 ≤ x ∧ x < 256
theorem Nibbles_fn {l : List Int} (hb : byteL l) (hl : l.length ≤ 4096) : Does Try.prog 38 [.sl (ints .u8 l)] (.tup [.ref 0 0, .int .i64 0]) [.row 3 0 (ints .i64 (P.nibs l))] := by
  intro Z w vs hZ hl' ha
  obtain ⟨u, rfl, hu⟩ := vals1 (R := TR Try.prog [] noMu Z w) hl' ha
  obtain ⟨ad, c, rfl, hc, hC⟩ := kd_C (show IV Z w (.sl (ints .u8 l)) u from hu) (by omega)
  refine Calls.mono (P.bit_Nibbles.calls ad c l (P.nibs l) 0 w hC hc ?_) ?_
  · rw [P.bit_Nibbles.f, if_pos hl, if_pos]
    simp only [P.byteB, List.all_eq_true, Bool.and_eq_true, decide_eq_true_eq]
    exact hb
  rintro e w' ⟨v, rfl, hR, hbel⟩
  obtain ⟨μ, H, hcr⟩ := hr_owned hZ hbel (Sz.h : szOf Try.prog 3 = some 1) (kd_R hR)
  refine ⟨_, μ, Z, rfl, H, _, rfl, rfl, fun j x hj => ?_⟩
  match j, hj with
  | 0, hj => cases hj; exact ⟨_, rfl, hcr⟩
  | 1, hj => cases hj; exact ⟨_, rfl, IV.int _ _⟩
  | j + 2, hj => simp at hj
theorem Nibbles_sl {l : List Int} (hb : byteL l) (hl : l.length ≤ 4096) : Does Try.prog 38 [.sl (ints .u8 l)] (.tup [.sl (ints .i64 (P.nibs l)), .int .i64 0]) [] := (Nibbles_fn hb hl).sl
theorem States_sl {l : List Int} (hl : l.length ≤ 64) (hn : ∀ x ∈ l, nibB x) : Does Try.prog 39 [.sl (ints .i64 l)] (.tup [.sl (ints .u32 (stsI beginI l)), .int .i64 0]) [] := (States_fn hl hn).sl
end Go.Proofs.Ytekojicaeadepaa.Vm
namespace Go.Proofs.Ytekojicaeadepaa.Vm
open Go.Vm Go.Proofs
set_option linter.unusedSimpArgs false
-- short

def encI (st : List Int) (n a c : Nat) : List Int := (List.range c).map fun j => IntKind.u8.wrap (symI (st.getD ((P.ord n).getD ((a + j) % n) 0).toNat 0) (((a + j) / n : Nat) : Int))
theorem encI_len (st : List Int) (n a c : Nat) : (encI st n a c).length = c := by simp [encI]
theorem encI_succ (st : List Int) (n a c : Nat) : encI st n a (c + 1) = encI st n a c ++ [IntKind.u8.wrap (symI (st.getD ((P.ord n).getD ((a + c) % n) 0).toNat 0) (((a + c) / n : Nat) : Int))] := by
  simp [encI, List.range_succ]
theorem ord_lt : ∀ n, n < 65 → ∀ x ∈ P.ord n, 0 ≤ x ∧ x < n := by decide
theorem nibs_nib {l : List Int} (h : byteL l) : ∀ x ∈ P.nibs l, nibB x := by
  intro x hx
  obtain ⟨c, hc, hx⟩ := List.mem_flatMap.1 hx
  have := h c hc
  unfold nibB
  simp at hx
  omega
def blockI (b : List Int) : List Int := stsI beginI (P.nibs b)
theorem blockI_len (b : List Int) : (blockI b).length = 2 * b.length := by rw [blockI, stsI_len, P.nibs_length]
def symsI (b : List Int) (a c : Nat) : List Int := encI (blockI b) (2 * b.length) a c
theorem symsI_len (b : List Int) (a c : Nat) : (symsI b a c).length = c := encI_len _ _ _ _

theorem symsI_zero (b : List Int) (a : Nat) : ints .u8 (symsI b a 0) = [] := rfl
theorem symsI_succ (b : List Int) (a c : Nat) {q : Nat} {g : Int} (hq : q = (a + c) / (2 * b.length)) (hg : g = (P.ord (2 * b.length)).getD ((a + c) % (2 * b.length)) 0) : symsI b a (c + 1) = symsI b a c ++ [IntKind.u8.wrap (symI ((blockI b).getD g.toNat 0) (q : Int))] := by
  rw [symsI, encI_succ, ← hq, ← hg]
  rfl
set_option maxHeartbeats 1000000 in
set_option maxRecDepth 10000 in
theorem Encode_fn {b : List Int} (hb : byteL b) (h1 : 1 ≤ b.length) (h2 : b.length ≤ 32) {a c : Nat} (hac : a + c ≤ 2 * b.length * 16) :
    Does Try.prog 11 [.sl (ints .u8 b), .int .i64 a, .int .i64 c] (.tup [.ref 0 0, .int .i64 0]) [.row 5 0 (ints .u8 (symsI b a c))] := by
  refine Does.of Try.func11 rfl Try.ntmps11 fun C hC => ?_
  refine vx (hq := ?_)
  refine o_step (Stp.call (hF := Segs_fn (n := ((ints .u8 b).length : Nat)) (by omega) (by simp; omega))) (h := ?_)
  rw [ints_len]
  refine vx (hq := ?_)
  refine go_cond (fun hc => ?_) (fun hc => ?_)
  · simp at hc
    omega
  refine vx (hq := ?_)
  rw [show decide ((a : Int) < 0) = false by simp]
  refine vx (hq := ?_)
  rw [show decide ((c : Int) < 0) = false by simp]
  refine vx (hq := ?_)
  rw [wrap_le (n := 2 * (b.length : Int) * 16) (by omega) (by omega), show decide ((a : Int) > 2 * (b.length : Int) * 16) = false by simp; omega]
  refine vx (hq := ?_)
  rw [wrap_le (n := 2 * (b.length : Int) * 16) (by omega) (by omega), wrap_le (n := 2 * (b.length : Int) * 16 - (a : Int)) (by omega) (by omega), show decide ((c : Int) > 2 * (b.length : Int) * 16 - (a : Int)) = false by simp; omega]
  refine vx (hq := ?_)
  refine o_stepH (Stp.callv (hF := Nibbles_sl hb (by omega))) (h := ?_)
  refine vx (hq := ?_)
  refine o_stepH (Stp.callv (hF := States_sl (l := P.nibs b) (by rw [P.nibs_length]; omega) (nibs_nib hb))) (h := ?_)
  refine vx (hq := ?_)
  rw [show stsI beginI (P.nibs b) = blockI b from rfl]
  refine go_loop (ι := { k : Nat // k ≤ c }) (fun k => ⟨[.undef, .int .i64 (a : Nat), .undef, .undef, .undef, .undef, .undef, .undef, .int .i64 (2 * (b.length : Int)), .undef, .undef, .sl (ints .u32 (blockI b)), .ref 0 0, .undef, .undef, .undef, .undef, .undef, .undef, .undef, .undef, .undef, .undef, .undef, .undef, .undef, .undef, .undef, .undef, .undef, .undef, .undef, .undef, .undef, .undef, .undef, .undef, .undef, .undef, .undef, .undef, .undef, .undef, .undef, .undef, .undef, .undef, .undef, .undef, .undef, .undef, .undef, .undef, .undef, .undef, .undef, .undef, .undef, .undef, .undef, .undef, .int .i64 (c : Nat), .int .i64 (k.1 : Nat), .undef, .undef, .undef, .undef, .undef, .undef, .undef, .undef, .undef, .undef, .undef, .undef, .undef, .undef, .undef, .undef, .undef, .undef, .undef, .undef, .undef, .undef, .undef, .undef, .undef, .undef, .undef, .undef, .undef, .undef, .undef, .undef, .undef], [.row 5 0 (ints .u8 (symsI b a k.1))]⟩) (fun k => c - k.1) ⟨0, Nat.zero_le _⟩ ?_ ?_
  · exact Le.ofs hC [none] (by decide) (by simp [VOs, VO, names, symsI_zero]; rfl) (by simp [V2s, V2, V1, VC, names, symsI_zero])
  · rintro ⟨k, hk⟩
    refine vx (hq := ?_)
    refine go_cond (fun hc => ?_) (fun hc => ?_)
    · have hlt : k < c := by simpa using hc
      refine vx (hq := ?_)
      rw [show IntKind.i64.wrap ((a : Int) + (k : Int)) = ((a + k : Nat) : Int) by rw [wrap_le (by omega) (by omega)]; simp, show 2 * (b.length : Int) = ((2 * b.length : Nat) : Int) by simp]
      have hin : (a + k) % (2 * b.length) < (P.ord (2 * b.length)).length := by rw [P.ord_length _ (by omega)]; exact Nat.mod_lt _ (by omega)
      have ho := mem_getD hin (ord_lt (2 * b.length) (by omega))
      refine o_step (Stp.call (hF := At_fn (n := 2 * b.length) (k := a + k) (by omega) (by omega) (by omega))) (h := ?_)
      have hq : (a + k) / (2 * b.length) < 16 := by
        rw [Nat.div_lt_iff_lt_mul (by omega)]
        omega
      obtain ⟨q, hqe⟩ : ∃ q, q = (a + k) / (2 * b.length) := ⟨_, rfl⟩
      obtain ⟨sg, hse⟩ : ∃ sg, sg = (P.ord (2 * b.length)).getD ((a + k) % (2 * b.length)) 0 := ⟨_, rfl⟩
      rw [← hqe] at hq ⊢
      rw [← hse] at ho ⊢
      refine vx (hq := ?_)
      have hsl : sg.toNat < (blockI b).length := by rw [blockI_len]; omega
      refine o_step (Stp.index (h0 := ho.1) (h1 := by rw [ints_len, blockI_len]; exact ho.2) (hr := by simp only [indexA, ints_get _ (blockI b) sg.toNat hsl]; rfl)) (h := ?_)
      refine vx (hq := ?_)
      refine o_step (Stp.call (hF := Of_fn _ (i := (q : Int)) (by omega) (by omega))) (h := ?_)
      refine vx (hq := ?_)
      refine o_stepH (Stp.append (hys := by simp) (hb := by simp [symsI_len]; omega) (h63 := by simp [maxLen, symsI_len]; omega)) (h := ?_)
      refine vx (hq := ?_)
      refine ⟨⟨k + 1, hlt⟩, ?_, ?_⟩
      · show c - (k + 1) < c - k
        omega
      · refine Le.ofs hC [some 0] (by decide) ?_ ?_
        · rw [symsI_succ b a k hqe hse, ← ints_snoc]
          exact ⟨⟨rfl, _, rfl⟩, trivial⟩
        · simp [V2s, V2, V1, VC, names]
          exact wrap_le (by omega) (by omega)
    · have hge : k = c := by
        simp at hc
        omega
      subst hge
      refine vx (hq := ?_)
      exact Out.th [some 0] (by decide) rfl (by simp [VOs, VO, names])
end Go.Proofs.Ytekojicaeadepaa.Vm
namespace Go.Proofs.Ytekojicaeadepaa.Vm
open Go.Vm Go.Proofs
set_option linter.unusedSimpArgs false
-- short

structure Cfg where
  (bytes beam depth window qs qr batch passes msg seqs : Int)
def Cfg.A (c : Cfg) : List A := [.int .i64 c.bytes, .int .i64 c.beam, .int .i64 c.depth, .int .i64 c.window, .int .i64 c.qs, .int .i64 c.qr, .int .i64 c.batch, .int .i64 c.passes, .int .i64 c.msg, .int .i64 c.seqs]
def inB (n a b : Int) : Bool := decide (a ≤ n) && decide (n ≤ b)
theorem inB_iff {n a b : Int} : inB n a b = true ↔ a ≤ n ∧ n ≤ b := by simp [inB]
def cfgB (c : Cfg) : Bool := inB c.bytes 1 16 && inB c.beam 1 16 && inB c.depth 1 3 && inB c.window 1 16 && inB c.qs 1 16 && inB c.qr 1 16 && inB c.batch 1 64 && inB c.passes 4 16 && inB c.msg 0 200 && inB c.seqs 0 1073741824
instance In_fn (n a b : Int) : Fu Try.prog 71 [.int .i64 n, .int .i64 a, .int .i64 b] (.bool (inB n a b)) := ⟨by
  refine Does.of Try.func71 rfl Try.ntmps71 fun C hC => ?_
  refine vx (hq := ?_)
  cases h : decide (n ≥ a)
  · refine vx (hq := ?_)
    exact Out.o0 rfl (by simp at h; simp [V1, VC, Vm.pick, inB]; omega)
  · refine vx (hq := ?_)
    exact Out.o0 rfl (by simp at h; simp [V1, VC, Vm.pick, inB]; omega)⟩
set_option maxHeartbeats 1000000 in
theorem Check_fn (c : Cfg) : Fu Try.prog 42 [.agg c.A] (.int .i64 (if cfgB c then 0 else 1)) := ⟨by
  refine Does.of Try.func42 rfl Try.ntmps42 fun C hC => ?_
  refine vx (hq := ?_)
  cases h0 : inB c.bytes 1 16
  · refine vx (hq := ?_)
    exact Out.o0 rfl ⟨rfl, by simp [cfgB, h0]⟩
  refine vx (hq := ?_)
  cases h1 : inB c.beam 1 16
  · refine vx (hq := ?_)
    exact Out.o0 rfl ⟨rfl, by simp [cfgB, h1]⟩
  refine vx (hq := ?_)
  cases h2 : inB c.depth 1 3
  · refine vx (hq := ?_)
    exact Out.o0 rfl ⟨rfl, by simp [cfgB, h2]⟩
  refine vx (hq := ?_)
  cases h3 : inB c.window 1 16
  · refine vx (hq := ?_)
    exact Out.o0 rfl ⟨rfl, by simp [cfgB, h3]⟩
  refine vx (hq := ?_)
  cases h4 : inB c.qs 1 16
  · refine vx (hq := ?_)
    exact Out.o0 rfl ⟨rfl, by simp [cfgB, h4]⟩
  refine vx (hq := ?_)
  cases h5 : inB c.qr 1 16
  · refine vx (hq := ?_)
    exact Out.o0 rfl ⟨rfl, by simp [cfgB, h5]⟩
  refine vx (hq := ?_)
  cases h6 : inB c.batch 1 64
  · refine vx (hq := ?_)
    exact Out.o0 rfl ⟨rfl, by simp [cfgB, h6]⟩
  refine vx (hq := ?_)
  cases h7 : inB c.passes 4 16
  · refine vx (hq := ?_)
    exact Out.o0 rfl ⟨rfl, by simp [cfgB, h7]⟩
  refine vx (hq := ?_)
  cases h8 : inB c.msg 0 200
  · refine vx (hq := ?_)
    exact Out.o0 rfl ⟨rfl, by simp [cfgB, h8]⟩
  refine vx (hq := ?_)
  cases h9 : inB c.seqs 0 1073741824
  · refine vx (hq := ?_)
    exact Out.o0 rfl ⟨rfl, by simp [cfgB, h9]⟩
  refine vx (hq := ?_)
  exact Out.o0 rfl ⟨rfl, by simp [cfgB, h0, h1, h2, h3, h4, h5, h6, h7, h8, h9]⟩⟩
end Go.Proofs.Ytekojicaeadepaa.Vm
/- A machine of values: whole numbers' bits, told by natural numbers. -/
namespace Go.Vm
theorem wrap_u8 (n : Int) : IntKind.u8.wrap n = n % 256 := by simp [IntKind.wrap, IntKind.bits, IntKind.signed]
theorem wrap_u32 (n : Int) : IntKind.u32.wrap n = n % 4294967296 := by simp [IntKind.wrap, IntKind.bits, IntKind.signed]
theorem wrap_u64 (n : Int) : IntKind.u64.wrap n = n % 18446744073709551616 := by simp [IntKind.wrap, IntKind.bits, IntKind.signed]
theorem wrap_le' {n : Int} (h0 : -9223372036854775808 ≤ n) (h : n < 9223372036854775808) : IntKind.i64.wrap n = n := by
  rw [IntKind.wrap_i64]
  omega
theorem bv_i64 (a : Nat) (h : a < 9223372036854775808) : (BitVec.ofInt IntKind.i64.bits (a : Int)).toNat = a := by
  simp [IntKind.bits]
  omega
theorem bv_u32 (a : Nat) (h : a < 4294967296) : (BitVec.ofInt IntKind.u32.bits (a : Int)).toNat = a := by
  simp [IntKind.bits]
  omega
theorem xor_i64 (a b : Nat) (ha : a < 9223372036854775808) (hb : b < 9223372036854775808) : xorI .i64 (a : Int) (b : Int) = ((a ^^^ b : Nat) : Int) := by
  unfold xorI
  rw [BitVec.toNat_xor, bv_i64 a ha, bv_i64 b hb]
  have : a ^^^ b < 2 ^ 63 := Nat.xor_lt_two_pow ha hb
  exact wrap_le (by omega) (by omega)
theorem and_i64 (a b : Nat) (ha : a < 9223372036854775808) (hb : b < 9223372036854775808) : andI .i64 (a : Int) (b : Int) = ((a &&& b : Nat) : Int) := by
  unfold andI
  rw [BitVec.toNat_and, bv_i64 a ha, bv_i64 b hb]
  have : a &&& b ≤ a := Nat.and_le_left
  exact wrap_le (by omega) (by omega)
theorem or_i64 (a b : Nat) (ha : a < 9223372036854775808) (hb : b < 9223372036854775808) : orI .i64 (a : Int) (b : Int) = ((a ||| b : Nat) : Int) := by
  unfold orI
  rw [BitVec.toNat_or, bv_i64 a ha, bv_i64 b hb]
  have : a ||| b < 2 ^ 63 := Nat.or_lt_two_pow ha hb
  exact wrap_le (by omega) (by omega)
theorem and_u32 (a b : Nat) (ha : a < 4294967296) (hb : b < 4294967296) : andI .u32 (a : Int) (b : Int) = ((a &&& b : Nat) : Int) := by
  unfold andI
  rw [BitVec.toNat_and, bv_u32 a ha, bv_u32 b hb, wrap_u32]
  have : a &&& b ≤ a := Nat.and_le_left
  omega
theorem shr_nat {k : IntKind} (a n : Nat) (h : n < k.bits) : shrI k (a : Int) (n : Int) = ((a / 2 ^ n : Nat) : Int) := by
  unfold shrI
  rw [Int.toNat_natCast, Nat.min_eq_left (Nat.le_of_lt h), Int.fdiv_eq_ediv_of_nonneg _ (by exact Int.le_of_lt (Int.pow_pos (by decide)))]
  simp
theorem shl_i64 (a n : Nat) (h : n < 64) (hb : a * 2 ^ n < 9223372036854775808) : shlI .i64 (a : Int) (n : Int) = ((a * 2 ^ n : Nat) : Int) := by
  unfold shlI
  rw [Int.toNat_natCast, Nat.min_eq_left (show n ≤ IntKind.i64.bits from Nat.le_of_lt h)]
  have : (a : Int) * 2 ^ n = ((a * 2 ^ n : Nat) : Int) := by simp
  rw [this]
  exact wrap_le (by omega) (by omega)
theorem or_mul (a c : Nat) (hc : c < 256) : a * 256 ||| c = a * 256 + c := by
  have := Nat.two_pow_add_eq_or_of_lt (i := 8) hc a
  rw [Nat.mul_comm a 256]
  exact this.symm
end Go.Vm
