/- A part of a proof that statements of this seat hold of the given program; no conditions but the statements' own. -/
import Derived.Test.YtekojicaeadepaaZ5a1b345723
import Derived.Sort.WalkB12
import Derived.Lib.SliceRun
import Derived.Lib.SlicesDelete
import Derived.Laws.AppendOwn
import Derived.Deep.Slices
import Derived.Laws.MakeOwn
set_option linter.unusedVariables false
set_option linter.unusedSimpArgs false
/- A machine of values: what is deleted from a row of its own. -/
namespace Go.Vm
open Go.RowKit
/-- slices.Delete, elements of one cell -/
def Deletes (P : Program) (f : FuncId) (z : Value) : Prop :=
  ∀ (b o c i j : Nat) (d : Array Value) (w : World), (∀ u ∈ d.toList, u.oneCell' = true) → Sort.Holds id w b o d → d.size ≤ c → d.size ≤ 9223372036854775807 → i ≤ j → j ≤ d.size →
    Calls P f #[.slice (some ⟨b, o, none⟩) d.size c, .int .i64 i, .int .i64 j] w fun e w' => e = .returned (.slice (some ⟨b, o, none⟩) (d.size - (j - i)) c) ∧ ∃ q, w' = Sort.putRow id (Sort.ahead w q) b o (d.toList.take i ++ d.toList.drop j ++ List.replicate (j - i) z).toArray

section
set_option linter.unusedVariables false
variable {P : Program} {C : Ctx} {Z0 : Nat → Prop} {w0 : Base} {hp hp' : List Ob} {μ μ' : Mu} {Z Z' : Nat → Prop} {w w' : World} {st : St} {a : Act}

theorem putRow_setRow {b o : Nat} {cur : Array Value} {t : TypeId} {fr : Nat × Nat} (d : Array Value) (hb : w.heap[b]? = some (.cells cur t fr)) (q : Nat) :
    (Sort.putRow id (Sort.ahead w q) b o d).heap = w.heap.modify b (Sort.onCells fun c => Sort.putCells id o d c) := rfl

theorem row_delete (H : HR P Z0 w0 hp μ Z w) {r g : Nat} {t : TypeId} {l : List (List A)} {i j : Nat} {v : Value} (hr : hp[r]? = some (.row t g l)) (hsz : szOf P t = some 1)
    (hv : UR P hp μ Z w (.ref r g) v) (h0 : 0 < l.length) (hij : i ≤ j) (hj : j ≤ l.length) :
    ∃ b o c, ∃ d : Array Value, v = .slice (some ⟨b, o, none⟩) d.size c ∧ d.size = l.length ∧ d.size ≤ c ∧ (∀ u ∈ d.toList, u.oneCell' = true) ∧ Sort.Holds id w b o d ∧
      ∀ q zs, zs.length = j - i → HR P Z0 w0 (hp.set r (.row t (g + 1) (l.take i ++ l.drop j))) μ Z (Sort.putRow id (Sort.ahead w q) b o (d.toList.take i ++ d.toList.drop j ++ zs).toArray) ∧
        Ext P hp μ Z w (hp.set r (.row t (g + 1) (l.take i ++ l.drop j))) μ Z (Sort.putRow id (Sort.ahead w q) b o (d.toList.take i ++ d.toList.drop j ++ zs).toArray) ∧
        UR P (hp.set r (.row t (g + 1) (l.take i ++ l.drop j))) μ Z (Sort.putRow id (Sort.ahead w q) b o (d.toList.take i ++ d.toList.drop j ++ zs).toArray) (.ref r (g + 1)) (.slice (some ⟨b, o, none⟩) (d.size - (j - i)) c) := by
  obtain ⟨hlt, h1, _, _⟩ := (hv : CR P hp μ Z w (.ref r g) v)
  obtain ⟨c, hc, hov⟩ := (h1 t g l hr).2 rfl
  rcases hov with ⟨rfl, _⟩ | ⟨b, o, sz, cur, h3, h4, rfl, h6, h7⟩
  · omega
  rw [hsz] at h4
  obtain rfl := Option.some.inj h4
  obtain ⟨sz', q1, q2, q3⟩ := H.ob r _ hr
  rw [hsz] at q1
  obtain rfl := Option.some.inj q1
  simp only [h3] at q3
  obtain ⟨cur', q4, q5, q6⟩ := q3
  rw [h6] at q4
  obtain ⟨rfl⟩ : cur = cur' := by
    have := Option.some.inj q4
    injection this
  have hlive : Live hp r := .inl ⟨t, g, l, hr⟩
  have hown := H.own r b o hlive h3
  have hcz : o + c ≤ cur.size := by omega
  let d : Array Value := ((cur.toList.drop o).take l.length).toArray
  have hd : d.size = l.length := by
    simp only [d, List.size_toArray, List.length_take, List.length_drop, Array.length_toList]
    omega
  have hdget : ∀ k, k < l.length → d[k]? = cur[o + k]? := by
    intro k hk
    simp only [d, List.getElem?_toArray, List.getElem?_take, if_pos hk, List.getElem?_drop, Array.getElem?_toList]
  -- each element
  have hel : ∀ k e, l[k]? = some e → ∃ x u, e = [x] ∧ cur[o + k]? = some u ∧ IV Z w x u := by
    intro k e hk
    have hl1 := q2 k e hk
    match e, hl1 with
    | [x], _ =>
      obtain ⟨u, p1, p2⟩ := q5.at_ k [x] 0 x hk rfl
      exact ⟨x, u, rfl, by rw [← p1]; congr 1; omega, p2⟩
  refine ⟨b, o, c, d, by rw [hd]; simp, hd, by omega, ?_, ?_, ?_⟩
  · intro u hu
    obtain ⟨k, hk, rfl⟩ := List.getElem_of_mem hu
    have hk' : k < l.length := by rw [← hd]; simpa using hk
    obtain ⟨x, u, _, p1, p2⟩ := hel k _ (List.getElem?_eq_getElem hk')
    have := hdget k hk'
    rw [p1, Array.getElem?_eq_getElem (by omega)] at this
    have := Option.some.inj this
    rw [show d.toList[k] = d[k] from by simp, this]
    exact p2.one
  · intro k hk
    have hk' : k < l.length := by omega
    have hin : o + k < cur.size := by omega
    have := hdget k hk'
    refine ⟨?_, ?_⟩
    · simp only [World.cell?, h6, id]
      rw [getElem!_pos d k hk]
      rw [Array.getElem?_eq_getElem hk] at this
      simpa using this.symm
    · simp [World.frozen?, h6]
  · intro q zs hzs
    obtain ⟨nd, hnd⟩ : ∃ nd : List Value, nd = d.toList.take i ++ d.toList.drop j ++ zs := ⟨_, rfl⟩
    have hndl : nd.length = l.length := by
      rw [hnd]
      simp only [List.length_append, List.length_take, List.length_drop, Array.length_toList, hd, hzs]
      omega
    rw [← hnd]
    have hlen : (l.take i ++ l.drop j).length = l.length - (j - i) := by
      simp only [List.length_append, List.length_take, List.length_drop]
      omega
    have hget : ∀ k, k < l.length - (j - i) → nd[k]? = cur[o + if k < i then k else k + (j - i)]? := by
      intro k hk
      rw [hnd, List.append_assoc]
      by_cases hki : k < i
      · rw [if_pos hki, List.getElem?_append_left (by simp; omega), List.getElem?_take, if_pos hki, Array.getElem?_toList, hdget k (by omega)]
      · rw [if_neg hki, List.getElem?_append_right (by simp; omega), List.getElem?_append_left (by simp; omega), List.getElem?_drop, Array.getElem?_toList]
        rw [show j + (k - (d.toList.take i).length) = k + (j - i) by simp; omega]
        exact hdget _ (by omega)
    have hheap : (Sort.putRow id (Sort.ahead w q) b o nd.toArray).heap[b]? = some (.cells (Sort.putCells id o nd.toArray cur) t (0, 0)) := by
      simp [Sort.putRow, Sort.mapBlock, Sort.ahead, Array.getElem?_modify, h6, Sort.onCells]
    have hother : ∀ k, k ≠ b → (Sort.putRow id (Sort.ahead w q) b o nd.toArray).heap[k]? = w.heap[k]? := by
      intro k hk
      simp [Sort.putRow, Sort.mapBlock, Sort.ahead, Array.getElem?_modify, Ne.symm hk]
    have hsize : (Sort.putRow id (Sort.ahead w q) b o nd.toArray).heap.size = w.heap.size := by simp [Sort.putRow, Sort.mapBlock, Sort.ahead]
    have hcells : ∀ k, k < l.length → (Sort.putCells id o nd.toArray cur)[o + k]? = nd[k]? := by
      intro k hk
      have hin : o + k < cur.size := by omega
      simp only [Sort.putCells, Array.getElem?_mapIdx, Array.getElem?_eq_getElem hin, Option.map_some, List.size_toArray, hndl]
      rw [if_pos (by omega), show o + k - o = k by omega, List.getElem?_eq_getElem (by omega), getElem!_pos nd.toArray k (by simp; omega)]
      simp
    have hpsz : (Sort.putCells id o nd.toArray cur).size = cur.size := by simp [Sort.putCells]
    obtain ⟨H2, E2⟩ := H.upd (r := r) (o' := .row t (g + 1) (l.take i ++ l.drop j)) (m' := μ r) (w' := Sort.putRow id (Sort.ahead w q) b o nd.toArray) hlive
      (H.below.one hown.1 rfl rfl rfl (by rw [hsize]; exact Nat.le_refl _) hother) (by rw [hsize]; exact Nat.le_refl _)
      (fun k hk hne => hother k (fun e => hne o (e ▸ h3)))
      (fun b' o' e => .inl ⟨o', e⟩)
      (by
        rintro t' g' l' e
        cases e
        exact .inr ⟨t, g, l, hr, Nat.lt_succ_self _⟩)
      (by intro _ _ e; cases e) (by intro _ _ e; cases e)
      (fun E => by
        have hsub : ∀ k e, (l.take i ++ l.drop j)[k]? = some e → k < l.length - (j - i) ∧ l[if k < i then k else k + (j - i)]? = some e := by
          intro k e he
          have hk : k < l.length - (j - i) := by
            rw [← hlen]
            exact (List.getElem?_eq_some_iff.1 he).1
          refine ⟨hk, ?_⟩
          by_cases hki : k < i
          · rw [if_pos hki]
            rw [List.getElem?_append_left (by simp; omega), List.getElem?_take, if_pos hki] at he
            exact he
          · rw [if_neg hki]
            rw [List.getElem?_append_right (by simp; omega), List.getElem?_drop] at he
            rw [← he]
            congr 1
            simp
            omega
        refine ⟨1, hsz, fun k e he => q2 _ e (hsub k e he).2, ?_⟩
        simp only [if_true, h3]
        refine ⟨_, hheap, ⟨fun k e he => q2 _ e (hsub k e he).2, ?_⟩, ?_⟩
        · intro k e jj x he hx
          obtain ⟨hk, he'⟩ := hsub k e he
          obtain ⟨y, u, rfl, p1, p2⟩ := hel _ e he'
          have hjj : jj = 0 := by
            have := (List.getElem?_eq_some_iff.1 hx).1
            simp at this
            omega
          subst hjj
          obtain rfl : y = x := by simpa using hx
          refine ⟨u, ?_, p2.mono E.z E.zh⟩
          rw [show o + (k * 1 + 0) = o + k by omega, hcells k (by omega), hget k hk]
          exact p1
        · rw [hpsz, hlen]
          omega)
    have hμ : (fun q => if q = r then μ r else μ q) = μ := by
      funext q
      split
      · rename_i e; rw [e]
      · rfl
    rw [hμ] at H2 E2
    refine ⟨H2, E2, ?_⟩
    show CR P _ μ Z _ (.ref r (g + 1)) _
    refine ⟨by simpa using hlt, ?_, ?_, rfl⟩
    · intro t' g' l' e
      rw [List.getElem?_set, if_pos rfl, if_pos hlt] at e
      cases e
      refine ⟨Nat.le_refl _, fun _ => ⟨c, by rw [hlen]; omega, .inr ⟨b, o, 1, _, h3, hsz, ?_, hheap, by rw [hpsz]; omega⟩⟩⟩
      rw [hlen, hd]
      simp
    · intro g' l' e
      rw [List.getElem?_set, if_pos rfl, if_pos hlt] at e
      cases e

theorem Stp.delete {f : FuncId} {x y y' : Operand} {r g : Nat} {t : TypeId} {l : List (List A)} {i j : Int} {d : Option Tmp} {z : Value} {ts : Array TypeId} {tm : List A} {hp : List Ob} [hE : En P f] [hsz : Sz P t 1] (hF : Deletes P f z)
    (hx : St.evo ⟨tm, hp⟩ x = some (.ref r g) := by rfl) (hy : St.evo ⟨tm, hp⟩ y = some (.int .i64 i) := by rfl) (hy' : St.evo ⟨tm, hp⟩ y' = some (.int .i64 j) := by rfl) (hr : hp[r]? = some (.row t g l) := by rfl)
    (h0 : 0 < l.length) (hm : l.length ≤ 9223372036854775807) (hi : 0 ≤ i) (hij : i ≤ j) (hj : j ≤ l.length) :
    Stp P (.call { callee := .value (.func f), args := #[x, y, y'], argTypes := ts }) d ⟨tm, hp⟩ (St.put ⟨tm, hp.set r (.row t (g + 1) (l.take i.toNat ++ l.drop j.toNat))⟩ d (.ref r (g + 1))) := by
  rintro o ho hd C N hN a w ⟨μ, Z, R⟩ K Q hK
  have e1 := R.ev x
  have e2 := R.ev y
  have e3 := R.ev y'
  rw [evo_ev hx] at e1
  rw [evo_ev hy] at e2
  rw [evo_ev hy'] at e3
  have e2 := e2.int
  have e3 := e3.int
  obtain ⟨b, o', c, dd, q1, q2, q3, q4, q5, q6⟩ := row_delete (i := i.toNat) (j := j.toNat) R.hr hr hsz.h e1 h0 (by omega) (by omega)
  have hrun : (execOp a.eval o).run P w = .ok (.enter f #[a.eval x, a.eval y, a.eval y']) w := by
    simp [execOp, ho, resolve, Deferred.ofValue, Act.eval, invoke, hE.h]
  unfold Oper.wp
  rw [hrun, q1, e2, e3, show i = (i.toNat : Int) by omega, show j = (j.toNat : Int) by omega]
  refine Calls.mono (hF b o' c i.toNat j.toNat dd w q4 q5 q3 (by omega) (by omega) (by omega)) ?_
  rintro e w' ⟨rfl, q, rfl⟩
  obtain ⟨H2, E2, U2⟩ := q6 q (List.replicate (j.toNat - i.toNat) z) (by simp)
  subst hd
  exact hK _ _ _ hN ⟨μ, Z, R.step H2 E2 U2 _⟩ ⟨_, rfl⟩
end
end Go.Vm
/- A machine of values: the lesser of two numbers. -/
namespace Go.Vm
open Go.RowKit
section
variable {P : Program} {st : St} {d : Option Tmp}
theorem Stp.min {x y : Operand} {k : IntKind} {a b : Int} {ts : Array TypeId} (hx : st.evo x = some (.int k a) := by rfl) (hy : st.evo y = some (.int k b) := by rfl) :
    Stp P (.call { callee := .builtin .min, args := #[x, y], argTypes := ts }) d st (st.put d (.int k (if b < a then b else a))) := by
  intro o ho hd C N hN
  subst hd
  refine OpS.val hN fun a' w μ Z R => ?_
  have h1 := R.ev x
  have h2 := R.ev y
  rw [evo_ev hx] at h1
  rw [evo_ev hy] at h2
  have h1 := h1.int
  have h2 := h2.int
  refine ⟨_, ?_, UR.of_int _ _⟩
  simp [execOp, ho, resolve, invoke, builtin, h1, h2, Builtin.min_, Builtin.min2]
  try (split <;> rfl)
end
end Go.Vm
/- A machine of values: walking on by itself, the script told once. -/
namespace Go.Vm
theorem vw {p q : Prop} (h : q → p := by (intro h; (repeat (first | refine go_seq ?_ | refine go_reg ?_ | refine go_blk ?_ | refine o_g1 (h := ?_) | refine o_g0 (h := ?_) | refine o_gs (h := ?_) | refine o_step Stp.move (h := ?_) | refine o_step Stp.assign (h := ?_) | refine o_step Stp.len (h := ?_) | refine o_step Stp.bin (h := ?_) | refine o_step Stp.load (h := ?_) | refine o_step Stp.field (h := ?_) | refine o_step Stp.extract (h := ?_) | refine o_step Stp.nilCheck (h := ?_) | refine o_step Stp.fieldAddr (h := ?_) | refine o_step Stp.pick (h := ?_) | refine o_step Stp.un (h := ?_) | refine o_step Stp.conv (h := ?_) | refine o_step Stp.build (h := ?_) | refine o_step Stp.eqb (h := ?_) | refine o_step Stp.neb (h := ?_) | refine o_nil rfl ?_ | refine k_seq ?_ | refine k_blk ?_ | refine k_ret ?_ | refine k_bret ?_ | refine k_exit ?_ | refine k_bexit ?_ | refine k_bexit' (h := ?_) | refine CodeS.skip ?_ | refine CodeS.exit ?_ | refine CodeS.ret ?_)); exact h)) (hq : q) : p := h hq
theorem dw {p q : Prop} (h : q → p := by (intro h; (repeat (first | refine d_g (h := ?_) | refine d_step0 Stp.move (h := ?_) | refine d_step0 Stp.assign (h := ?_) | refine d_step0 Stp.len (h := ?_) | refine d_step0 Stp.bin (h := ?_) | refine d_step0 Stp.load (h := ?_) | refine d_step0 Stp.field (h := ?_) | refine d_step0 Stp.extract (h := ?_) | refine d_step0 Stp.nilCheck (h := ?_) | refine d_step0 Stp.fieldAddr (h := ?_) | refine d_step0 Stp.pick (h := ?_) | refine d_step0 Stp.un (h := ?_) | refine d_step0 Stp.conv (h := ?_) | refine d_step0 Stp.build (h := ?_) | refine d_step0 Stp.eqb (h := ?_) | refine d_step0 Stp.neb (h := ?_) | refine d_nil ?_)); exact h)) (hq : q) : p := h hq
end Go.Vm
/- A machine of values: contracts told in the kit's own words, told as what a function of values comes to. -/
namespace Go.Vm
open Go.RowKit Go.Deep
set_option linter.unusedVariables false
set_option linter.unusedSimpArgs false
section
variable {P : Program} {Z : Nat → Prop} {w w' : World}

/-- whole numbers, one in each cell -/
def ints (k : IntKind) (l : List Int) : List (List A) := l.map fun n => [A.int k n]

theorem hr_none (hz : ∀ b, Z b → b < w.heap.size) (hb : Below w.heap.size w w') : HR P Z (Base.of w) [] noMu Z w' :=
  ⟨Bel.of hb, fun _ h => h, fun b h => ⟨Nat.lt_of_lt_of_le (hz b h) hb.size, .inl h⟩, fun r o h => by simp at h, fun r b o h => by rcases h with ⟨_, _, _, h⟩ | ⟨_, _, h⟩ <;> simp at h, fun r r' b o o' h => by rcases h with ⟨_, _, _, h⟩ | ⟨_, _, h⟩ <;> simp at h⟩

theorem hr_owned (hz : ∀ b, Z b → b < w.heap.size) (hb : Below w.heap.size w w') {t : TypeId} {k : IntKind} {r : List Int} {v : Value} (hs : szOf P t = some 1) (h : w'.ownsRow w.heap.size t 1 v r.length (r.map (Value.int k))) :
    ∃ μ, HR P Z (Base.of w) [.row t 0 (ints k r)] μ Z w' ∧ CR P [.row t 0 (ints k r)] μ Z w' (.ref 0 0) v := by
  obtain ⟨hl, h⟩ := h
  rcases h with ⟨rfl, h0⟩ | ⟨g, cap, cur, rfl, hg, hh, hn, hm, hsz, hxs⟩
  · have : r = [] := List.length_eq_zero_iff.1 h0
    subst this
    refine ⟨noMu, ⟨Bel.of hb, fun _ h => h, fun b h => ⟨Nat.lt_of_lt_of_le (hz b h) hb.size, .inl h⟩, ?_, ?_, ?_⟩, ?_⟩
    · intro q o hq
      match q, hq with
      | 0, hq =>
        obtain rfl := Option.some.inj hq
        exact ⟨1, hs, fun i cs h => by simp [ints] at h, rfl⟩
      | q + 1, hq => simp at hq
    · intro q b o _ h
      simp [noMu] at h
    · intro q q' b o o' _ _ h
      simp [noMu] at h
    · refine ⟨by simp, fun t' g' l hr => ?_, fun g' l hr => by simp at hr, rfl⟩
      simp only [List.getElem?_cons_zero, Option.some.injEq, Ob.row.injEq] at hr
      obtain ⟨rfl, rfl, rfl⟩ := hr
      exact ⟨Nat.le_refl _, fun _ => ⟨0, by simp [ints], .inl ⟨rfl, none, by simp [ints]⟩⟩⟩
  · have hget : ∀ i, i < r.length → cur[0 + (i * 1 + 0)]? = some (.int k (r.getD i 0)) := by
      intro i hi
      have h1 : (cur.toList.take (r.length * 1))[i]? = some (.int k (r.getD i 0)) := by
        rw [hxs, List.getElem?_map, List.getElem?_eq_getElem hi, List.getD_eq_getElem?_getD, List.getElem?_eq_getElem hi]
        rfl
      rw [List.getElem?_take, if_pos (by omega), Array.getElem?_toList] at h1
      rw [← h1]
      congr 1
      omega
    have hgl : g < w'.heap.size := by
      rcases Nat.lt_or_ge g w'.heap.size with h | h
      · exact h
      · rw [Array.getElem?_eq_none h] at hh; cases hh
    have hlen : (ints k r).length = r.length := by simp [ints]
    refine ⟨fun _ => some (g, 0), ⟨Bel.of hb, fun _ h => h, fun b h => ⟨Nat.lt_of_lt_of_le (hz b h) hb.size, .inl h⟩, ?_, ?_, ?_⟩, ?_⟩
    · intro q o hq
      match q, hq with
      | 0, hq =>
        obtain rfl := Option.some.inj hq
        have h1 : ∀ (i : Nat) (cs : List A), (ints k r)[i]? = some cs → i < r.length ∧ cs = [.int k (r.getD i 0)] := by
          intro i cs h
          rw [ints, List.getElem?_map] at h
          obtain ⟨x, hx, rfl⟩ := Option.map_eq_some_iff.1 h
          refine ⟨(List.getElem?_eq_some_iff.1 hx).1, ?_⟩
          rw [List.getD_eq_getElem?_getD, hx]
          rfl
        refine ⟨1, hs, fun i cs h => by rw [(h1 i cs h).2]; rfl, cur, hh, ⟨fun i cs h => by rw [(h1 i cs h).2]; rfl, fun i cs j x hi hj => ?_⟩, by rw [hlen]; omega⟩
        obtain ⟨h2, rfl⟩ := h1 i cs hi
        match j, hj with
        | 0, hj =>
          obtain rfl := Option.some.inj hj
          exact ⟨_, hget i h2, .int k _⟩
        | j + 1, hj => simp at hj
      | q + 1, hq => simp at hq
    · intro q b o _ h
      obtain ⟨rfl, rfl⟩ : g = b ∧ 0 = o := by simpa using h
      exact ⟨.inl hg, hgl, fun hz' => by have := hz _ hz'; omega⟩
    · intro q q' b o o' l1 l2 h1 h2
      have : ∀ q, Live [.row t 0 (ints k r)] q → q = 0 := by
        intro q h
        rcases Nat.eq_zero_or_pos q with e | e
        · exact e
        · obtain ⟨m, rfl⟩ : ∃ m, q = m + 1 := ⟨q - 1, by omega⟩
          rcases h with ⟨_, _, _, h⟩ | ⟨_, _, h⟩ <;> simp at h
      rw [this q l1, this q' l2]
    · refine ⟨by simp, fun t' g' l hr => ?_, fun g' l hr => by simp at hr, rfl⟩
      simp only [List.getElem?_cons_zero, Option.some.injEq, Ob.row.injEq] at hr
      obtain ⟨rfl, rfl, rfl⟩ := hr
      refine ⟨Nat.le_refl _, fun _ => ⟨cap, by rw [hlen]; exact hn, .inr ⟨g, 0, 1, cur, rfl, hs, ?_, hh, by omega⟩⟩⟩
      rw [hlen]

/-- a row of whole numbers that is read -/
theorem iv_ints {k : IntKind} {l : List Int} {v : Value} (h : IV Z w (.sl (ints k l)) v) :
    ∃ ad c, v = .slice ad l.length c ∧ l.length ≤ c ∧ (0 < l.length → ∃ x, ad = some x ∧ ∀ (i : Nat) (n : Int), l[i]? = some n → w.cell? (x.add i) = some (.int k n)) := by
  obtain ⟨a, c, e, hc, h⟩ := h.lay
  have hlen : (ints k l).length = l.length := by simp [ints]
  rw [hlen] at e hc
  refine ⟨a, c, e, hc, fun h0 => ?_⟩
  rcases h with h | ⟨b, o, sz, cur, t, fr, rfl, hb, hh, hlay⟩
  · rw [ints, List.map_eq_nil_iff] at h
    rw [h] at h0; simp at h0
  · refine ⟨_, rfl, fun i n hi => ?_⟩
    have hi' : (ints k l)[i]? = some [.int k n] := by rw [ints, List.getElem?_map, hi]; rfl
    have h1 := hlay.len i _ hi'
    obtain ⟨u, hu, hI⟩ := hlay.at_ i _ 0 _ hi' rfl
    have h2 : sz = 1 := by simpa using h1.symm
    subst h2
    cases hI
    rw [show i * 1 + 0 = i by omega] at hu
    simp [addr_add, World.cell?, hh, hu]

theorem hr_drop {Z0 : Nat → Prop} {w0 : Base} {hp : List Ob} {μ : Mu} (H : HR P Z0 w0 hp μ Z w) : HR P Z0 w0 [] noMu Z w :=
  ⟨H.below, H.z0, H.zlt, fun r o h => by simp at h, fun r b o h => by rcases h with ⟨_, _, _, h⟩ | ⟨_, _, h⟩ <;> simp at h, fun r r' b o o' h => by rcases h with ⟨_, _, _, h⟩ | ⟨_, _, h⟩ <;> simp at h⟩

/-- what comes of a call, kept as it is from then on -/
def frz2 (hp : List Ob) : A → A
  | .tup l => .tup (frzl hp l).2
  | x => (frz1 hp x).2
theorem Does.sl {f : FuncId} {args : List A} {res : A} {hr : List Ob} (h : Does P f args res hr) {res' : A} (e : frz2 hr res = res' := by rfl) : Does P f args res' [] := by
  intro Z w vs hZ hl ha
  refine Calls.mono (h Z w vs hZ hl ha) ?_
  rintro e' w' ⟨v, μ, Z', rfl, H, U⟩
  subst e
  have gen : ∀ x, UR P hr μ Z' w' x v → frz2 hr res = (frz1 hr x).2 → ∃ v' μ' Z'', Ending.returned v = .returned v' ∧ HR P Z (Base.of w) [] μ' Z'' w' ∧ UR P [] μ' Z'' w' (frz2 hr res) v' := by
    intro x hx hE
    obtain ⟨Z2, H2, _, T⟩ := H.frz1 hx
    exact ⟨v, noMu, Z2, rfl, hr_drop H2, hE ▸ UR.of_TR T⟩
  cases res with
  | tup l =>
    obtain ⟨vs', rfl, hl', hat⟩ := U
    obtain ⟨Z2, H2, _, hlen, T⟩ := HR.frzl (l := l) (vs := vs'.toList) H ⟨hl', fun j x hj => by
      obtain ⟨u, h1, h2⟩ := hat j x hj
      exact ⟨u, h1, UR.of_TR h2⟩⟩
    exact ⟨_, noMu, Z2, rfl, hr_drop H2, vs', rfl, by rw [hl', hlen], T⟩
  | _ => exact gen _ U rfl
end
end Go.Vm
/- A machine of values: a row that is made of zeroes; bytes of a text. -/
namespace Go.Vm
open Go.RowKit
set_option linter.unusedVariables false
set_option linter.unusedSimpArgs false
section
variable {P : Program} {C : Ctx} {Z0 : Nat → Prop} {w0 : Base} {hp hp' : List Ob} {μ μ' : Mu} {Z Z' : Nat → Prop} {w w' : World} {st : St} {a : Act} {o : Oper} {N : St → Prop}

theorem toA_int {v : Value} {k : IntKind} {n : Int} (h : toA v = .int k n) : v = .int k n := by
  unfold toA at h
  split at h
  · cases h; rfl
  · cases h
  · cases h
  · cases h
  · split at h <;> cases h

theorem op_make {t e : TypeId} {x y : Operand} {k k1 k2 : IntKind} {n : Int} {bytes : Nat} (ho : o.op = .makeSlice t x y) (T : Elt P t e 1 bytes) (hz : zeroA P e = some [.int k 0]) (hx : st.ev x = .int k1 n) (hy : st.ev y = .int k2 n)
    (h0 : 0 ≤ n) (hb : (bytes : Int) * n ≤ 281474976710656) (h63 : n ≤ 9223372036854775807)
    (h : N (St.put ⟨st.tm, st.hp ++ [.row e 0 (List.replicate n.toNat [.int k 0])]⟩ o.dst (.ref st.hp.length 0))) : OpS P C o st N :=
  OpS.blk h fun a w μ Z R => by
    have hsz := T.sz
    obtain ⟨hu, ⟨i, z, h1, h2, h3, h4, h5⟩, hm0⟩ := T
    unfold zeroA at hz
    rw [h1] at hz
    simp only [Option.bind_some, h2] at hz
    split at hz
    · have hz := Option.some.inj hz
      obtain ⟨v, hv⟩ : ∃ v, z.cells.toList = [v] := List.length_eq_one_iff.1 (by simpa using h5)
      rw [hv] at hz
      obtain rfl : v = .int k 0 := toA_int (by simpa using hz)
      have hc : z.cells = #[.int k 0] := by
        apply Array.ext'
        exact hv
      have ex := R.ev x
      have ey := R.ev y
      rw [hx] at ex
      rw [hy] at ey
      have ex := ex.int
      have ey := ey.int
      have hr := run_make (P := P) w t e i z hu h1 h2 k1 k2 n n h0 (Int.le_refl _) (by rw [h4]; exact hb) h63
      have hcells : (madeCells z.cells (n.toNat * i.size)).toList = List.replicate n.toNat (.int k 0) := by
        rw [h3, hc, Nat.mul_one]
        apply List.ext_getElem
        · simp [madeCells]
        · intro j q1 q2
          have e : j % 1 = 0 := Nat.mod_one j
          simp [madeCells, e]
      have hL : LayL (IV Z w) 1 (List.replicate n.toNat (.int k 0)) (List.replicate n.toNat [A.int k 0]) := by
        refine ⟨by simp, fun u hu => ?_, fun i cs h => ?_, fun i cs j x h hj => ?_⟩
        · rw [List.eq_of_mem_replicate hu]
          rfl
        · rw [List.getElem?_replicate] at h
          split at h
          · cases h; rfl
          · cases h
        · rw [List.getElem?_replicate] at h
          split at h
          · rename_i hi
            cases h
            match j, hj with
            | 0, hj =>
              cases hj
              exact ⟨.int k 0, by rw [List.getElem?_replicate, if_pos (by omega)], .int _ _⟩
            | j + 1, hj => simp at hj
          · cases h
      obtain ⟨μ', H2, E2, C2⟩ := R.hr.newRow (t := e) (cur := madeCells z.cells (n.toNat * i.size)) (c := n.toNat) (post := []) (below_alloc' w (.cells (madeCells z.cells (n.toNat * i.size)) e)) (heap_alloc_new w _) hsz hL (by rw [hcells, List.append_nil]) (by simp) (by rw [size_madeCells, h3]; exact Nat.le_refl _)
      refine ⟨_, _, μ', Z, .inl ?_, H2, E2, UR.of_CR C2⟩
      simp only [execOp, ho, ex, ey]
      rw [Sem.run_bind, hr]
      simp
    · cases hz

theorem Stp.make {t e : TypeId} {x y : Operand} {k k1 k2 : IntKind} {n : Int} {bytes : Nat} {d : Option Tmp} [T : EltI P t e 1 bytes] [hz : Zr P e [.int k 0]] (hx : st.evo x = some (.int k1 n) := by rfl) (hy : st.evo y = some (.int k2 n) := by rfl)
    (h0 : 0 ≤ n) (hb : (bytes : Int) * n ≤ 281474976710656) (h63 : n ≤ 9223372036854775807) {m : Nat} (hid : st.hp.length = m := by first | (simp only [List.length_cons, List.length_nil, Nat.zero_add, Nat.reduceAdd]; rfl) | rfl) :
    Stp P (.makeSlice t x y) d st (St.put ⟨st.tm, st.hp ++ [.row e 0 (List.replicate n.toNat [.int k 0])]⟩ d (.ref m 0)) :=
  fun o ho hd _ _ hN => op_make ho T.h hz.h (evo_ev hx) (evo_ev hy) h0 hb h63 (by subst hid; exact hd ▸ hN)
end
end Go.Vm
/- A machine of values: rows of whole numbers, and of rows of bytes. -/
namespace Go.Vm
set_option linter.unusedSimpArgs false

@[simp] theorem ints_len (k : IntKind) (l : List Int) : (ints k l).length = l.length := by simp [ints]
theorem ints_one (k : IntKind) (l : List Int) : ∀ c ∈ ints k l, c.length = 1 := by
  intro c hc
  obtain ⟨n, _, rfl⟩ := List.mem_map.1 hc
  rfl
def rowsA (l : List (List Int)) : List (List A) := l.map fun r => [A.sl (ints .u8 r)]
@[simp] theorem rowsA_len (l : List (List Int)) : (rowsA l).length = l.length := by simp [rowsA]
theorem rowsA_one (l : List (List Int)) : ∀ c ∈ rowsA l, c.length = 1 := by
  intro c hc
  obtain ⟨n, _, rfl⟩ := List.mem_map.1 hc
  rfl
theorem rowsA_get (l : List (List Int)) (i : Nat) (h : i < l.length) : (rowsA l).getD i [] = [A.sl (ints .u8 (l.getD i []))] := by
  simp [rowsA, List.getD_eq_getElem?_getD, List.getElem?_eq_getElem h]

theorem noslc_ints {k t0 g0 l0} : ∀ t g l, Ob.row t g l ∈ [Ob.row t0 g0 (ints k l0)] → ∀ e ∈ l, ∀ x ∈ e, noslc x = true := by
  intro t g l h e he x hx
  simp at h
  obtain ⟨rfl, rfl, rfl⟩ := h
  obtain ⟨n, _, rfl⟩ := List.mem_map.1 he
  simp at hx
  subst hx
  rfl
theorem ints_get (k : IntKind) (l : List Int) (i : Nat) (h : i < l.length) : (ints k l).getD i [] = [A.int k (l.getD i 0)] := by
  simp [ints, List.getD_eq_getElem?_getD, List.getElem?_eq_getElem h]
theorem wrap_le {n : Int} (h0 : 0 ≤ n) (h : n < 9223372036854775808) : IntKind.i64.wrap n = n := by
  simp [IntKind.wrap, IntKind.bits, IntKind.signed]
  omega
theorem rowsA_succ (l : List (List Int)) (k : Nat) (h : k < l.length) : rowsA (l.take (k + 1)) = rowsA (l.take k) ++ [[A.sl (ints .u8 (l.getD k []))]] := by
  rw [rowsA, List.take_add_one, List.getElem?_eq_getElem h, List.map_append]
  simp [rowsA, List.getD_eq_getElem?_getD, List.getElem?_eq_getElem h, -List.map_take]
theorem ints_take (k : IntKind) (l : List Int) (n : Nat) : (ints k l).take n = ints k (l.take n) := by simp [ints, List.map_take]
theorem ints_drop (k : IntKind) (l : List Int) (n : Nat) : (ints k l).drop n = ints k (l.drop n) := by simp [ints, List.map_drop]
theorem rowsA_take (l : List (List Int)) (n : Nat) : (rowsA l).take n = rowsA (l.take n) := by simp [rowsA, List.map_take]
theorem rowsA_drop (l : List (List Int)) (n : Nat) : (rowsA l).drop n = rowsA (l.drop n) := by simp [rowsA, List.map_drop]
theorem rowsA_app (l m : List (List Int)) : rowsA l ++ rowsA m = rowsA (l ++ m) := by simp [rowsA]

theorem ints_app (k : IntKind) (l m : List Int) : ints k l ++ ints k m = ints k (l ++ m) := by simp [ints]
theorem ints_snoc (k : IntKind) (l : List Int) (n : Int) : ints k l ++ [[A.int k n]] = ints k (l ++ [n]) := by simp [ints]
theorem ints_cons (k : IntKind) (n : Int) (l : List Int) : [A.int k n] :: ints k l = ints k (n :: l) := rfl
theorem ints_rep (k : IntKind) (n : Int) (m : Nat) : List.replicate m [A.int k n] = ints k (List.replicate m n) := by simp [ints]
theorem ints_set (t : IntKind) (l : List Int) (k : Nat) (v : Int) : (ints t l).set k [A.int t v] = ints t (l.set k v) := by simp [ints, List.map_set]
theorem take_eq_succ {α : Type} {a b : List α} {d : α} {k : Nat} (ha : k < a.length) (hb : k < b.length) (hpre : a.take k = b.take k) (he : a.getD k d = b.getD k d) : a.take (k + 1) = b.take (k + 1) := by
  rw [List.take_add_one, List.take_add_one, hpre]
  congr 1
  rw [List.getElem?_eq_getElem ha, List.getElem?_eq_getElem hb]
  simpa [List.getD_eq_getElem?_getD, List.getElem?_eq_getElem ha, List.getElem?_eq_getElem hb] using he
theorem take_getD {α : Type} (a : List α) (d : α) (k : Nat) (h : k < a.length) : a.take (k + 1) = a.take k ++ [a.getD k d] := by
  rw [List.take_add_one, List.getElem?_eq_getElem h, List.getD_eq_getElem?_getD, List.getElem?_eq_getElem h]
  rfl
end Go.Vm
/- A machine of values: functions of plain values, called by themselves; the walking script. -/
namespace Go.Vm
open Go.RowKit
set_option linter.unusedVariables false

/-- a function that comes to a value whatever it is handed (of that form) -/
class Fu (P : Program) (f : FuncId) (args : List A) (res : outParam A) : Prop where h : Does P f args res []

def noref : A → Bool
  | .ref _ _ => false
  | .sub _ _ _ _ => false
  | .ptr _ _ _ _ => false
  | _ => true
def noref1 : A → Bool
  | .agg l => l.all noref
  | x => noref x
def noref2 : A → Bool
  | .tup l => l.all noref1
  | x => noref1 x
section
variable {P : Program} {C : Ctx} {Z0 : Nat → Prop} {w0 : Base} {st : St} {d : Option Tmp}

/-- words that stay as they are when they are handed over -/
def plain : A → Bool
  | .int _ _ => true
  | .bool _ => true
  | .str _ => true
  | .sl _ => true
  | .val _ => true
  | _ => false
def plain1 : A → Bool
  | .agg l => l.all plain
  | x => plain x
theorem frz_plain {hp : List Ob} {x : A} (h : plain x = true) : frz hp x = (hp, x) := by
  cases x <;> first | rfl | simp [plain] at h
theorem frzs_plain {hp : List Ob} : ∀ {l : List A}, l.all plain = true → frzs hp l = (hp, l)
  | [], _ => rfl
  | x :: xs, h => by
    simp only [List.all_cons, Bool.and_eq_true] at h
    simp only [frzs, frz_plain h.1, frzs_plain h.2]
theorem frz1_plain {hp : List Ob} {x : A} (h : plain1 x = true) : frz1 hp x = (hp, x) := by
  cases x <;> first | rfl | skip
  all_goals first | (simp [plain1, plain] at h; done) | skip
  simp only [plain1] at h
  simp only [frz1, frzs_plain h]
theorem sh_int {n : Nat} {k : IntKind} {a : Int} : sh1 n (.int k a) = .int k a := rfl
theorem sh_bool {n : Nat} {b : Bool} : sh1 n (.bool b) = .bool b := rfl
theorem sh_str {n : Nat} {b : ByteArray} : sh1 n (.str b) = .str b := rfl
theorem sh_sl {n : Nat} {l : List (List A)} : sh1 n (.sl l) = .sl l := rfl
theorem sh_nil {n : Nat} : sh1 n .nil = .nil := rfl
theorem sh_ref {n r g : Nat} : sh1 n (.ref r g) = .ref (n + r) g := rfl
theorem sh_agg {n : Nat} {l : List A} : sh1 n (.agg l) = .agg (l.map (shc n)) := rfl
theorem sc_int {n : Nat} {k : IntKind} {a : Int} : shc n (.int k a) = .int k a := rfl
theorem sc_bool {n : Nat} {b : Bool} : shc n (.bool b) = .bool b := rfl
theorem sc_str {n : Nat} {b : ByteArray} : shc n (.str b) = .str b := rfl
theorem sc_sl {n : Nat} {l : List (List A)} : shc n (.sl l) = .sl l := rfl
theorem sc_nil {n : Nat} : shc n .nil = .nil := rfl
theorem sc_ref {n r g : Nat} : shc n (.ref r g) = .ref (n + r) g := rfl
theorem sf_tup {n : Nat} {l : List A} : shift n (.tup l) = .tup (l.map (sh1 n)) := rfl
theorem sf_int {n : Nat} {k : IntKind} {a : Int} : shift n (.int k a) = .int k a := rfl
theorem sf_ref {n r g : Nat} : shift n (.ref r g) = .ref (n + r) g := rfl
theorem sf_agg {n : Nat} {l : List A} : shift n (.agg l) = .agg (l.map (shc n)) := rfl

/-- what is handed over, kept from now on: its words, and the blocks then -/
inductive ArgK (tm : List A) (hp0 : List Ob) : List Ob → List Operand → List Ob → List A → Prop
  | nil {hp : List Ob} : ArgK tm hp0 hp [] hp []
  | plain {hp hp2 : List Ob} {x : Operand} {xs : List Operand} {X : A} {ys : List A} (h : St.evo ⟨tm, hp0⟩ x = some X) (hx : plain1 X = true) (t : ArgK tm hp0 hp xs hp2 ys) : ArgK tm hp0 hp (x :: xs) hp2 (X :: ys)
  | none {hp hp2 : List Ob} {x : Operand} {xs : List Operand} {ys : List A} (h : St.evo ⟨tm, hp0⟩ x = some .nil) (t : ArgK tm hp0 hp xs hp2 ys) : ArgK tm hp0 hp (x :: xs) hp2 (.sl [] :: ys)
  | ref {hp hp1 hp2 : List Ob} {x : Operand} {xs : List Operand} {ys : List A} {r g : Nat} {t : TypeId} {l : List (List A)} (h : St.evo ⟨tm, hp0⟩ x = some (.ref r g)) (hr : hp[r]? = some (.row t g l)) (he : hp.set r (.fro g l) = hp1) (t : ArgK tm hp0 hp1 xs hp2 ys) : ArgK tm hp0 hp (x :: xs) hp2 (.sl l :: ys)
  | fro {hp hp2 : List Ob} {x : Operand} {xs : List Operand} {ys : List A} {r g : Nat} {l : List (List A)} (h : St.evo ⟨tm, hp0⟩ x = some (.ref r g)) (hr : hp[r]? = some (.fro g l)) (t : ArgK tm hp0 hp xs hp2 ys) : ArgK tm hp0 hp (x :: xs) hp2 (.sl l :: ys)
  | sub {hp hp1 hp2 : List Ob} {x : Operand} {xs : List Operand} {ys : List A} {r g a e : Nat} {t : TypeId} {l : List (List A)} (h : St.evo ⟨tm, hp0⟩ x = some (.sub r g a e)) (hr : hp[r]? = some (.row t g l)) (he : hp.set r (.fro g l) = hp1) (t : ArgK tm hp0 hp1 xs hp2 ys) : ArgK tm hp0 hp (x :: xs) hp2 (.sl ((l.take e).drop a) :: ys)
  | agg {hp hp1 hp2 : List Ob} {x : Operand} {xs : List Operand} {ys : List A} {l l' : List A} (h : St.evo ⟨tm, hp0⟩ x = some (.agg l)) (hf : frzs hp l = (hp1, l')) (t : ArgK tm hp0 hp1 xs hp2 ys) : ArgK tm hp0 hp (x :: xs) hp2 (.agg l' :: ys)
theorem ArgK.eq {tm : List A} {hp0 hp hp2 : List Ob} {xs : List Operand} {ys : List A} (h : ArgK tm hp0 hp xs hp2 ys) : frzl hp (xs.map (St.ev ⟨tm, hp0⟩)) = (hp2, ys) := by
  induction h with
  | nil => rfl
  | plain h hx _ ih => simp only [List.map_cons, frzl, evo_ev h, frz1_plain hx, ih]
  | none h _ ih => simp only [List.map_cons, frzl, evo_ev h, frz1, frz, ih]
  | ref h hr he _ ih =>
    subst he
    simp only [List.map_cons, frzl, evo_ev h, frz1, frz, hr, if_true, ih]
  | sub h hr he _ ih =>
    subst he
    simp only [List.map_cons, frzl, evo_ev h, frz1, frz, hr, if_true, ih]
  | fro h hr _ ih => simp only [List.map_cons, frzl, evo_ev h, frz1, frz, hr, if_true, ih]
  | agg h hf _ ih => simp only [List.map_cons, frzl, evo_ev h, frz1, hf, ih]
inductive Args (st : St) : List Operand → List A → Prop
  | nil : Args st [] []
  | plain {x : Operand} {xs : List Operand} {X : A} {ys : List A} (h : st.evo x = some X) (ha : plain1 X = true) (t : Args st xs ys) : Args st (x :: xs) (X :: ys)
  | none {x : Operand} {xs : List Operand} {ys : List A} (h : st.evo x = some .nil) (t : Args st xs ys) : Args st (x :: xs) (.sl [] :: ys)
theorem Args.eq {st : St} {xs : List Operand} {ys : List A} (h : Args st xs ys) : frzl st.hp (xs.map st.ev) = (st.hp, ys) := by
  induction h with
  | nil => rfl
  | plain h hx _ ih => simp only [List.map_cons, frzl, evo_ev h, frz1_plain hx, ih]
  | none h _ ih => simp only [List.map_cons, frzl, evo_ev h, frz1, frz, ih]
/-- a call by itself: what is handed over is plain -/
theorem Stp.fu {f : FuncId} {l : List Operand} {ts : Array TypeId} {ys : List A} {res : A} [hE : En P f] (ha : Args st l ys := by repeat (first | exact Args.nil | (apply Args.plain; exact rfl; exact rfl) | (apply Args.none; exact rfl))) (hF : Fu P f ys res := by infer_instance) (hnr : shift st.hp.length res = res := by rfl) :
    Stp P (.call { callee := .value (.func f), args := l.toArray, argTypes := ts }) d st (St.put ⟨st.tm, st.hp⟩ d res) :=
  fun o ho hd _ _ hN => op_callk ho hE.h (by rw [show l.toArray.toList = l from by simp, ha.eq]; exact hF.h) (by simp [rowsOnly]) (by rw [show l.toArray.toList = l from by simp, ha.eq, List.append_nil, hnr]; exact hd ▸ hN)
/-- a row of plain words -/
inductive Els (st : St) : Nat → List (Nat × Operand) → List (List A) → Prop
  | nil {k : Nat} : Els st k [] []
  | cons {k : Nat} {x : Operand} {ps : List (Nat × Operand)} {X : A} {es : List (List A)} (h : st.evo x = some X) (hX : plain X = true) (t : Els st (k + 1) ps es) : Els st k ((k, x) :: ps) ([X] :: es)
theorem Els.eq {st : St} {k : Nat} {ps : List (Nat × Operand)} {es : List (List A)} (h : Els st k ps es) : elemsA st k ps = some es := by
  induction h with
  | nil => rfl
  | @cons k x ps X es h hX _ ih =>
    have hc : cellsA X = some [X] := by cases X <;> first | rfl | simp [plain] at hX
    simp only [elemsA, evo_ev h, hc, ih, if_true]
theorem Els.frz {st : St} {hp : List Ob} {k : Nat} {ps : List (Nat × Operand)} {es : List (List A)} (h : Els st k ps es) : frzE hp es = (hp, es) ∧ es.length = ps.length ∧ ∀ x ∈ es, x.length = 1 := by
  induction h with
  | nil => exact ⟨rfl, rfl, by simp⟩
  | @cons k x ps X es h hX _ ih =>
    refine ⟨?_, by simp [ih.2.1], by simpa using ih.2.2⟩
    simp only [frzE, frzs, frz_plain hX, ih.1]
theorem Stp.litp {t e : TypeId} {n : Nat} {ps : List (Nat × Operand)} {es : List (List A)} {zl : List A} [hu : SlT P t e] [hm : Sz P e 1] [hz : Zr P e zl] (hes : Els st 0 ps es := by repeat (first | exact Els.nil | (apply Els.cons; exact rfl; exact rfl))) {n2 : Nat} (hid : st.hp.length = n2 := by first | (simp only [List.length_cons, List.length_nil, Nat.zero_add, Nat.reduceAdd]; rfl) | rfl) (hn : ps.length = n := by rfl) (hsm : n * 1 ≤ 2 ^ 24 := by decide) :
    Stp P (.buildSlice t n ps.toArray) d st (St.put ⟨st.tm, st.hp ++ [.row e 0 es]⟩ d (.ref n2 0)) := by
  obtain ⟨h1, h2, h3⟩ := hes.frz (hp := st.hp)
  exact Stp.lit (hes := by simpa using hes.eq) (hfz := h1) (hid := hid) (hn := by simpa using hn) (hm0 := by decide) (hsm := hsm) (hl := h3)
/-- a struct out of its parts -/
inductive Parts (st : St) : List (Nat × Operand) → List (Nat × A) → Prop
  | nil : Parts st [] []
  | cons {i : Nat} {x : Operand} {ps : List (Nat × Operand)} {X : A} {qs : List (Nat × A)} (h : st.evo x = some X) (t : Parts st ps qs) : Parts st ((i, x) :: ps) ((i, X) :: qs)
theorem Parts.eq {st : St} {ps : List (Nat × Operand)} {qs : List (Nat × A)} (h : Parts st ps qs) : (ps.map fun p => (p.1, st.ev p.2)) = qs := by
  induction h with
  | nil => rfl
  | cons h _ ih => simp only [List.map_cons, evo_ev h, ih]
theorem Stp.buildp {t : TypeId} {ps : List (Nat × Operand)} {qs : List (Nat × A)} {zl cs : List A} {pl : List (Nat × Nat)} [hz : Zr P t zl] [hp : Pl P t pl] (hps : Parts st ps qs := by repeat (first | exact Parts.nil | (apply Parts.cons; exact rfl)))
    (hb : fillA pl zl qs = some cs := by (simp only [fillA, cellsA, splice, List.take_succ_cons, List.take_zero, List.drop_succ_cons, List.drop_zero, List.cons_append, List.nil_append, List.append_nil, List.length_cons, List.length_nil, Nat.zero_add, Nat.add_zero, Nat.reduceAdd, Nat.reduceLeDiff, and_self, if_true, reduceIte, List.getElem?_cons_zero, List.getElem?_cons_succ]; exact rfl)) : Stp P (.build t ps.toArray) d st (st.put d (.agg cs)) :=
  Stp.build (hb := by rw [show ps.toArray.toList = ps from by simp, hps.eq]; exact hb)
/-- a whole box, loaded -/
theorem Stp.loadB {t tb : TypeId} {x : Operand} {n r : Nat} {cs : List A} [ha : Ag P t true] [hz : Sz P t n] (hx : st.evo x = some (.ptr r 0 0 0) := by rfl) (hr : st.hp[r]? = some (.box tb cs) := by rfl) (hn : cs.length = n := by rfl) : Stp P (.load t x) d st (st.put d (.agg cs)) := by
  have hf : from_ st.hp (.ptr r 0 0 0) = some cs := by simp [from_, hr]
  exact Stp.load (b := true) (hx := hx) (hf := hf) (hl := by rw [if_pos rfl, if_pos (by omega), List.take_of_length_le (by omega)])
/-- a call that comes to plain values -/
theorem Stp.callv {f : FuncId} {l : List Operand} {ts : Array TypeId} {tm : List A} {hp hp2 : List Ob} {ys : List A} {res : A} [hE : En P f] (hF : Does P f ys res [])
    (ha : ArgK tm hp hp l hp2 ys := by repeat (first | exact ArgK.nil | (apply ArgK.plain; exact rfl; exact rfl) | (apply ArgK.none; exact rfl) | (apply ArgK.ref; exact rfl; exact rfl; (first | (simp only [List.set_cons_zero, List.set_cons_succ]; exact rfl) | exact rfl)) | (apply ArgK.sub; exact rfl; exact rfl; (first | (simp only [List.set_cons_zero, List.set_cons_succ]; exact rfl) | exact rfl)) | (apply ArgK.fro; exact rfl; exact rfl) | (apply ArgK.agg; exact rfl; (simp only [frzs, frz, List.getElem?_cons_zero, List.getElem?_cons_succ, if_true, reduceIte, List.set_cons_zero, List.set_cons_succ]; exact rfl))))
    (hsh : shift hp2.length res = res := by rfl) : Stp P (.call { callee := .value (.func f), args := l.toArray, argTypes := ts }) d ⟨tm, hp⟩ (St.put ⟨tm, hp2⟩ d res) :=
  fun o ho hd _ _ hN => op_callk ho hE.h (by rw [show l.toArray.toList = l from by simp, ha.eq]; exact hF) (by simp [rowsOnly]) (by rw [show l.toArray.toList = l from by simp, ha.eq, List.append_nil, hsh]; exact hd ▸ hN)
/-- .. or to a row of its own, first of all -/
theorem Stp.callr {f : FuncId} {l : List Operand} {ts : Array TypeId} {tm : List A} {hp hp2 : List Ob} {ys : List A} {res res' : A} {hr : List Ob} {n : Nat} [hE : En P f] (hF : Does P f ys res hr)
    (ha : ArgK tm hp hp l hp2 ys := by repeat (first | exact ArgK.nil | (apply ArgK.plain; exact rfl; exact rfl) | (apply ArgK.none; exact rfl) | (apply ArgK.ref; exact rfl; exact rfl; (first | (simp only [List.set_cons_zero, List.set_cons_succ]; exact rfl) | exact rfl)) | (apply ArgK.sub; exact rfl; exact rfl; (first | (simp only [List.set_cons_zero, List.set_cons_succ]; exact rfl) | exact rfl)) | (apply ArgK.fro; exact rfl; exact rfl) | (apply ArgK.agg; exact rfl; (simp only [frzs, frz, List.getElem?_cons_zero, List.getElem?_cons_succ, if_true, reduceIte, List.set_cons_zero, List.set_cons_succ]; exact rfl))))
    (hrow : rowsOnly hr := by simp [rowsOnly]) (hlen : hp2.length = n := by first | (simp only [List.length_cons, List.length_nil, Nat.zero_add, Nat.reduceAdd]; exact rfl) | exact rfl)
    (hsh : shift n res = res' := by first | (simp only [sf_tup, sf_int, sf_ref, sf_agg, List.map_cons, List.map_nil, sh_int, sh_bool, sh_str, sh_sl, sh_nil, sh_ref, sh_agg, sc_int, sc_bool, sc_str, sc_sl, sc_nil, sc_ref, Nat.add_zero, Nat.zero_add, Nat.reduceAdd]; exact rfl) | exact rfl) : Stp P (.call { callee := .value (.func f), args := l.toArray, argTypes := ts }) d ⟨tm, hp⟩ (St.put ⟨tm, hp2 ++ hr⟩ d res') :=
  fun o ho hd _ _ hN => op_callk ho hE.h (by rw [show l.toArray.toList = l from by simp, ha.eq]; exact hF) hrow (by rw [show l.toArray.toList = l from by simp, ha.eq, hlen, hsh]; exact hd ▸ hN)
end

def andI (k : IntKind) (a b : Int) : Int := k.wrap (BitVec.ofInt k.bits a &&& BitVec.ofInt k.bits b).toNat
def orI (k : IntKind) (a b : Int) : Int := k.wrap (BitVec.ofInt k.bits a ||| BitVec.ofInt k.bits b).toNat
def xorI (k : IntKind) (a b : Int) : Int := k.wrap (BitVec.ofInt k.bits a ^^^ BitVec.ofInt k.bits b).toNat
def shrI (k : IntKind) (a : Int) (b : Int) : Int := a.fdiv (2 ^ min b.toNat k.bits)
def shlI (k : IntKind) (a : Int) (b : Int) : Int := k.wrap (a * 2 ^ min b.toNat k.bits)

theorem Out.t0 {P : Program} {fn : Func} {st : St} {x y : A} {l rs : List A} (h1 : resAs P st fn.results.toList = some rs := by rfl) (hv : V1s (names []) st.hp [] rs (x :: y :: l) := by repeat (first | exact trivial | exact rfl | refine ⟨?_, ?_⟩)) : Out P fn st (.tup (x :: y :: l)) [] :=
  ⟨rs, _, [], h1, by decide, trivial, hv, rfl⟩
theorem Out.o0 {P : Program} {fn : Func} {st : St} {x r : A} (h1 : resAs P st fn.results.toList = some [r] := by rfl) (hv : V1 (names []) st.hp [] r x := by repeat (first | exact trivial | exact rfl | refine ⟨?_, ?_⟩)) : Out P fn st x [] :=
  ⟨[r], [x], [], h1, by decide, trivial, ⟨hv, trivial⟩, rfl⟩
/-- with rows: l says what each of them was called -/
theorem Out.th {P : Program} {fn : Func} {st : St} {x y : A} {r rs : List A} {hr : List Ob} (l : List (Option Nat)) (hn : (l.filterMap id).Nodup := by decide) (h1 : resAs P st fn.results.toList = some rs := by rfl)
    (HO : VOs (names l) st.hp hr (szOf P) 0 hr := by simp [VOs, VO, names]) (hv : V1s (names l) st.hp hr rs (x :: y :: r) := by simp [V1s, V1, VCs, VC, names]) : Out P fn st (.tup (x :: y :: r)) hr :=
  ⟨rs, _, l, h1, hn, HO, hv, rfl⟩
theorem Out.oh {P : Program} {fn : Func} {st : St} {x r : A} {hr : List Ob} (l : List (Option Nat)) (hn : (l.filterMap id).Nodup := by decide) (h1 : resAs P st fn.results.toList = some [r] := by rfl)
    (HO : VOs (names l) st.hp hr (szOf P) 0 hr := by simp [VOs, VO, names]) (hv : V1 (names l) st.hp hr r x := by simp [V1, VCs, VC, names]) : Out P fn st x hr :=
  ⟨[r], [x], l, h1, hn, HO, ⟨hv, trivial⟩, rfl⟩
/-- a loop's state, names anew -/
theorem Le.ofs {P : Program} {C : Ctx} {st st' : St} (hC : C.F = []) (l : List (Option Nat)) (hn : (l.filterMap id).Nodup := by decide) (HO : VOs (names l) st.hp st'.hp (szOf P) 0 st'.hp := by simp [VOs, VO, names])
    (ht : V2s (names l) st.hp st'.hp st.tm st'.tm := by simp [V2s, V2, V1, VCs, VC, names]) : Le P C st st' := Le.of hC l hn HO ht
theorem go_t {P : Program} {C : Ctx} {st : St} {K : Exit → St → Prop} {c c' : Code} {x : Operand} {b : Bool} (h : CodeS P C c st K) (hc : st.evo x = some (.bool b) := by rfl) (hb : b = true := by rfl) : CodeS P C (.cond x c c') st K := go_cond (fun _ => h) (fun e => absurd (hb.symm.trans e) (by decide)) hc
theorem go_f {P : Program} {C : Ctx} {st : St} {K : Exit → St → Prop} {c c' : Code} {x : Operand} {b : Bool} (h : CodeS P C c' st K) (hc : st.evo x = some (.bool b) := by rfl) (hb : b = false := by rfl) : CodeS P C (.cond x c c') st K := go_cond (fun e => absurd (hb.symm.trans e) (by decide)) (fun _ => h) hc
structure Hold (q : Prop) : Prop where
  out : q
theorem vx {p q : Prop} (h : Hold q → p := by (intro h; (repeat (first | refine go_seq ?_ | refine go_reg ?_ | refine go_blk ?_ | refine o_g1 (h := ?_) | refine o_g0 (h := ?_) | refine o_gs (h := ?_) | refine o_step (Stp.fu) (h := ?_) | refine o_step Stp.move (h := ?_) | refine o_step Stp.assign (h := ?_) | refine o_step Stp.len (h := ?_) | refine o_step Stp.bin (h := ?_) | refine o_step Stp.loadB (h := ?_) | refine o_step Stp.load (h := ?_) | refine o_step Stp.field (h := ?_) | refine o_step Stp.extract (h := ?_) | refine o_step Stp.nilCheck (h := ?_) | refine o_step Stp.fieldAddr (h := ?_) | refine o_step Stp.pick (h := ?_) | refine o_step Stp.un (h := ?_) | refine o_step Stp.conv (h := ?_) | refine o_step Stp.buildp (h := ?_) | refine o_step Stp.build (h := ?_) | refine o_step Stp.eqb (h := ?_) | refine o_step Stp.neb (h := ?_) | refine o_step Stp.min (h := ?_) | refine o_stepH Stp.box (h := ?_) | refine o_stepH Stp.alloc (h := ?_) | refine o_stepH Stp.store (h := ?_) | refine o_stepH Stp.litp (h := ?_) | refine o_stepH Stp.lit (h := ?_) | refine o_nil rfl ?_ | refine k_seq ?_ | refine k_blk ?_ | refine k_ret ?_ | refine k_bret ?_ | refine k_exit ?_ | refine k_bexit ?_ | refine k_bexit' (h := ?_) | refine CodeS.skip ?_ | refine CodeS.exit ?_ | refine CodeS.ret ?_ | refine go_t ?_ | refine go_f ?_)); exact h.out)) (hq : q) : p := h ⟨hq⟩
theorem dx {p q : Prop} (h : Hold q → p := by (intro h; (repeat (first | refine d_g (h := ?_) | refine d_n0 (h := ?_) | refine d_step0 (Stp.fu) (h := ?_) | refine d_step0 Stp.move (h := ?_) | refine d_step0 Stp.assign (h := ?_) | refine d_step0 Stp.len (h := ?_) | refine d_step0 Stp.bin (h := ?_) | refine d_step0 Stp.loadB (h := ?_) | refine d_step0 Stp.load (h := ?_) | refine d_step0 Stp.field (h := ?_) | refine d_step0 Stp.extract (h := ?_) | refine d_step0 Stp.nilCheck (h := ?_) | refine d_step0 Stp.fieldAddr (h := ?_) | refine d_step0 Stp.pick (h := ?_) | refine d_step0 Stp.un (h := ?_) | refine d_step0 Stp.conv (h := ?_) | refine d_step0 Stp.buildp (h := ?_) | refine d_step0 Stp.build (h := ?_) | refine d_step0 Stp.eqb (h := ?_) | refine d_step0 Stp.neb (h := ?_) | refine d_nil ?_)); exact h.out)) (hq : q) : p := h ⟨hq⟩
end Go.Vm
/- A machine of values: a row that is made and never written: a value from its beginning. -/
namespace Go.Vm
open Go.RowKit
set_option linter.unusedVariables false
set_option linter.unusedSimpArgs false
section
variable {P : Program} {C : Ctx} {Z0 : Nat → Prop} {w0 : Base} {hp hp' : List Ob} {μ μ' : Mu} {Z Z' : Nat → Prop} {w w' : World} {st : St} {a : Act} {o : Oper} {N : St → Prop}

/-- a new block that nobody writes -/
theorem HR.still (H : HR P Z0 w0 hp μ Z w) (ob : Obj) :
    HR P Z0 w0 hp μ (fun b => Z b ∨ b = w.heap.size) (w.alloc ob) ∧ Ext P hp μ Z w hp μ (fun b => Z b ∨ b = w.heap.size) (w.alloc ob) := by
  have Hr : HR P Z (Base.of w) [] noMu (fun b => Z b ∨ b = w.heap.size) (w.alloc ob) :=
    ⟨Bel.of (below_alloc' w ob), fun _ h => .inl h, fun b h => by
      rcases h with h | rfl
      · exact ⟨Nat.lt_of_lt_of_le (H.zlt b h).1 (by simp), .inl h⟩
      · exact ⟨by simp, .inr (.inl (Nat.le_refl _))⟩, fun r o h => by simp at h, fun r b o h => by rcases h with ⟨_, _, _, h⟩ | ⟨_, _, h⟩ <;> simp at h, fun r r' b o o' h => by rcases h with ⟨_, _, _, h⟩ | ⟨_, _, h⟩ <;> simp at h⟩
  obtain ⟨H2, E2⟩ := H.join (Z2 := fun b => Z b ∨ b = w.heap.size) Hr (by simp) (fun _ h => .inl h) (fun b h => by
    rcases h with h | rfl
    · exact .inl h
    · exact .inr ⟨.inr rfl, Nat.le_refl _⟩) (by simp)
  have hlive : ∀ r, Live hp r → r < hp.length := by
    rintro r (⟨t, g, l, h⟩ | ⟨t, cs, h⟩) <;> exact (List.getElem?_eq_some_iff.1 h).1
  refine ⟨⟨H2.below, H2.z0, H2.zlt, fun r o h => ?_, fun r b o hl e => ?_, fun r r' b o o' h h' e e' => ?_⟩, ?_⟩
  · have hlt : r < hp.length := (List.getElem?_eq_some_iff.1 h).1
    have E : Ext P hp μ Z w hp μ (fun b => Z b ∨ b = w.heap.size) (w.alloc ob) :=
      ⟨Nat.le_refl _, fun _ h => .inl h, fun b hb => (below_alloc' w ob).block b (H.zlt b hb).1, fun r t g l _ h => .inl ⟨l, h, rfl, rfl, fun b o cur e1 e2 => ⟨cur, ((below_alloc' w ob).block b (H.own r b o (.inl ⟨t, g, l, h⟩) e1).2.1).trans e2, rfl⟩⟩, fun r g l _ h => .inl h, fun r t cs _ h => ⟨cs, h, rfl, rfl⟩⟩
    have h0 := H.ob r o h
    cases o with
    | dead => trivial
    | fro g l => trivial
    | row t g l => exact h0.ext E rfl (fun b o e => (below_alloc' w ob).block b (H.own r b o (.inl ⟨t, g, l, h⟩) e).2.1)
    | box t cs => exact h0.ext E rfl (fun b o e => (below_alloc' w ob).block b (H.own r b o (.inr ⟨t, cs, h⟩) e).2.1)
  · have := H2.own r b o (by simpa using hl) (by simp only [if_pos (hlive r hl)]; exact e)
    exact this
  · exact H2.inj r r' b o o' (by simpa using h) (by simpa using h') (by simp only [if_pos (hlive r h)]; exact e) (by simp only [if_pos (hlive r' h')]; exact e')
  · exact ⟨Nat.le_refl _, fun _ h => .inl h, fun b hb => (below_alloc' w ob).block b (H.zlt b hb).1, fun r t g l _ h => .inl ⟨l, h, rfl, rfl, fun b o cur e1 e2 => ⟨cur, ((below_alloc' w ob).block b (H.own r b o (.inl ⟨t, g, l, h⟩) e1).2.1).trans e2, rfl⟩⟩, fun r g l _ h => .inl h, fun r t cs _ h => ⟨cs, h, rfl, rfl⟩⟩

theorem op_makeS {t e : TypeId} {x y : Operand} {k k1 k2 : IntKind} {n : Int} {bytes : Nat} (ho : o.op = .makeSlice t x y) (T : Elt P t e 1 bytes) (hz : zeroA P e = some [.int k 0]) (hx : st.ev x = .int k1 n) (hy : st.ev y = .int k2 n)
    (h0 : 0 ≤ n) (hb : (bytes : Int) * n ≤ 281474976710656) (h63 : n ≤ 9223372036854775807)
    (h : N (St.put ⟨st.tm, st.hp⟩ o.dst (.sl (ints k (List.replicate n.toNat 0))))) : OpS P C o st N :=
  OpS.blk h fun a w μ Z R => by
    have hsz := T.sz
    obtain ⟨hu, ⟨i, z, h1, h2, h3, h4, h5⟩, hm0⟩ := T
    unfold zeroA at hz
    rw [h1] at hz
    simp only [Option.bind_some, h2] at hz
    split at hz
    · have hz := Option.some.inj hz
      obtain ⟨v, hv⟩ : ∃ v, z.cells.toList = [v] := List.length_eq_one_iff.1 (by simpa using h5)
      rw [hv] at hz
      obtain rfl : v = .int k 0 := toA_int (by simpa using hz)
      have hc : z.cells = #[.int k 0] := by
        apply Array.ext'
        exact hv
      have ex := R.ev x
      have ey := R.ev y
      rw [hx] at ex
      rw [hy] at ey
      have ex := ex.int
      have ey := ey.int
      have hr := run_make (P := P) w t e i z hu h1 h2 k1 k2 n n h0 (Int.le_refl _) (by rw [h4]; exact hb) h63
      have hcells : (madeCells z.cells (n.toNat * i.size)).toList = List.replicate n.toNat (.int k 0) := by
        rw [h3, hc, Nat.mul_one]
        apply List.ext_getElem
        · simp [madeCells]
        · intro j q1 q2
          have e : j % 1 = 0 := Nat.mod_one j
          simp [madeCells, e]
      obtain ⟨H2, E2⟩ := R.hr.still (.cells (madeCells z.cells (n.toNat * i.size)) e)
      refine ⟨_, _, μ, _, .inl ?_, H2, E2, UR.of_CR (CR.of_IV (IV.of_lay (sz := 1) (b := w.heap.size) (o := 0) (c := n.toNat) (.inr rfl) (heap_alloc_new w _) (by simp) ?_))⟩
      · simp only [execOp, ho, ex, ey]
        rw [Sem.run_bind, hr]
        simp
      · have hg : ∀ (i : Nat) (cs : List A), (ints k (List.replicate n.toNat 0))[i]? = some cs → i < n.toNat ∧ cs = [.int k 0] := by
          intro i cs h
          rw [ints, List.map_replicate, List.getElem?_replicate] at h
          split at h
          · cases h; exact ⟨by assumption, rfl⟩
          · cases h
        refine ⟨fun i cs h => by rw [(hg i cs h).2]; rfl, fun i cs j x h hj => ?_⟩
        obtain ⟨hi, rfl⟩ := hg i cs h
        match j, hj with
        | 0, hj =>
          cases hj
          refine ⟨.int k 0, ?_, .int _ _⟩
          rw [← Array.getElem?_toList, hcells, List.getElem?_replicate, if_pos (by omega)]
        | j + 1, hj => simp at hj
    · cases hz
theorem Stp.makeS {t e : TypeId} {x y : Operand} {k k1 k2 : IntKind} {n : Int} {bytes : Nat} {d : Option Tmp} [T : EltI P t e 1 bytes] [hz : Zr P e [.int k 0]] (hx : st.evo x = some (.int k1 n) := by rfl) (hy : st.evo y = some (.int k2 n) := by rfl)
    (h0 : 0 ≤ n) (hb : (bytes : Int) * n ≤ 281474976710656) (h63 : n ≤ 9223372036854775807) :
    Stp P (.makeSlice t x y) d st (St.put ⟨st.tm, st.hp⟩ d (.sl (ints k (List.replicate n.toNat 0)))) :=
  fun o ho hd _ _ hN => op_makeS ho T.h hz.h (evo_ev hx) (evo_ev hy) h0 hb h63 (hd ▸ hN)
end
end Go.Vm
/- A machine of values: zeroes appended to a row of its own: append(s, make([]T, n)..). -/
namespace Go.Vm
open Go.RowKit
set_option linter.unusedVariables false
set_option linter.unusedSimpArgs false
section
variable {P : Program} {C : Ctx} {Z0 : Nat → Prop} {w0 : Base} {hp hp' : List Ob} {μ μ' : Mu} {Z Z' : Nat → Prop} {w w' : World} {st : St} {a : Act} {o : Oper} {N : St → Prop}
/-- zeroes appended to a row of the call's own, or to a part of it -/
theorem hr_appendZ (H : HR P Z0 w0 hp μ Z w) {t ti e ty : TypeId} {k ki kx : IntKind} {bytes : Nat} (T : Elt P t e 1 bytes) (hbp : 0 < bytes) (hti : P.underlying ti = some (.int ki)) (hzA : zeroA P e = some [.int k 0]) {r g0 p n : Nat} {l : List (List A)} {v : Value} {cnt : Nat} {ys : List (List A)} (hyd : ys = List.replicate cnt [.int k 0])
    (hr : hp[r]? = some (.row e g0 l)) (hpn : p + n ≤ l.length) (hO : Over P μ w r e p n v)
    (hb : (n + ys.length) * bytes ≤ 140737488355328) (h63 : n + ys.length ≤ maxLen) :
    ∃ v' w' μ', (Builtin.append_ #[t, ti] ty #[v, .int kx (ys.length : Nat)]).run P w = .ok v' w' ∧ HR P Z0 w0 (hp.set r (.row e (g0 + 1) ((l.take (p + n)).drop p ++ ys))) μ' Z w' ∧
      Ext P hp μ Z w (hp.set r (.row e (g0 + 1) ((l.take (p + n)).drop p ++ ys))) μ' Z w' ∧ CR P (hp.set r (.row e (g0 + 1) ((l.take (p + n)).drop p ++ ys))) μ' Z w' (.ref r (g0 + 1)) v' := by
  have hlive : Live hp r := .inl ⟨e, g0, l, hr⟩
  have hlt : r < hp.length := (List.getElem?_eq_some_iff.1 hr).1
  obtain ⟨i, z, hi, hz, hsize, hby, hzs⟩ := T.i
  have hm := T.sz
  have hlen : ((l.take (p + n)).drop p).length = n := by simp; omega
  obtain ⟨m, hm1⟩ : ∃ m, m = 1 := ⟨_, rfl⟩
  have hyl : ys.length = cnt := by rw [hyd]; simp
  have hys : ∀ c ∈ ys, c.length = m := by
    intro c hc
    rw [hyd] at hc
    rw [List.eq_of_mem_replicate hc, hm1]
    rfl
  have hzc : z.cells = #[.int k 0] := by
    unfold zeroA at hzA
    rw [hi] at hzA
    simp only [Option.bind_some, hz] at hzA
    split at hzA
    · have hzA := Option.some.inj hzA
      obtain ⟨u, hu⟩ : ∃ u, z.cells.toList = [u] := List.length_eq_one_iff.1 (by simpa using hzs)
      rw [hu] at hzA
      obtain rfl : u = .int k 0 := toA_int (by simpa using hzA)
      exact Array.ext' hu
    · cases hzA
  rw [← hm1] at hm hsize hzs
  obtain ⟨news, hnews⟩ : ∃ news, news = (Builtin.zeroCells z.cells ys.length).toList := ⟨_, rfl⟩
  have hna : Builtin.zeroCells z.cells ys.length = news.toArray := by rw [hnews]
  have hnr : news = List.replicate cnt (.int k 0) := by
    rw [hnews, hyl, hzc]
    apply List.ext_getElem
    · simp [size_zeroCells]
    · intro j q1 q2
      have e : j % 1 = 0 := Nat.mod_one j
      simp [Builtin.zeroCells, e]
  have hL : LayL (IV Z w) m news ys := by
    subst hm1
    refine ⟨by rw [hnr, hyd]; simp, fun u hu => ?_, fun i cs h => ?_, fun i cs j x h hj => ?_⟩
    · rw [hnr] at hu
      rw [List.eq_of_mem_replicate hu]
      rfl
    · exact hys cs (List.mem_of_getElem? h)
    · rw [hyd, List.getElem?_replicate] at h
      split at h
      · rename_i hi
        cases h
        match j, hj with
        | 0, hj =>
          cases hj
          exact ⟨.int k 0, by rw [hnr, List.getElem?_replicate, if_pos (by omega)], .int _ _⟩
        | j + 1, hj => simp at hj
      · cases h
  have hbytes : (n + ys.length) * i.bytes ≤ 140737488355328 := by rw [hby]; exact hb
  have h63' : n + ys.length ≤ 9223372036854775807 := by simp only [maxLen] at h63; omega
  have hb0 : 0 < i.bytes := by rw [hby]; exact hbp
  have hle : n + ys.length ≤ 140737488355328 := Nat.le_trans (Nat.le_mul_of_pos_right _ hb0) hbytes
  have hw : IntKind.i64.wrap (ys.length : Int) = ys.length := by rw [IntKind.wrap_i64]; omega
  have hw0 : IntKind.i64.wrap 0 = 0 := by rw [IntKind.wrap_i64]; rfl
  have hneg : ¬ ((ys.length : Int) < 0) := by omega
  have hmb : ys.length * i.bytes ≤ 140737488355328 := Nat.le_trans (Nat.mul_le_mul_right _ (Nat.le_add_left ys.length n)) hbytes
  have hbig : ¬ (281474976710656 < (ys.length : Int) * (i.bytes : Int)) := by
    rw [← Int.natCast_mul]
    omega
  have hsn : i.size ≠ 0 := by omega
  have runs : ∀ (A : Option Addr) (cap : Nat) (xs : List Value), ys ≠ [] → cap < n + ys.length → (Builtin.firstCells i.size n (.slice A n cap)).run P w.drew = .ok xs.toArray w.drew → (Builtin.append_ #[t, ti] ty #[.slice A n cap, .int kx (ys.length : Nat)]).run P w =
      .ok (.slice (some ⟨w.heap.size, 0, none⟩) (n + ys.length) (grownCap w (n + ys.length) cap e)) (w.drew.alloc (.cells (xs.toArray ++ news.toArray ++ Builtin.zeroCells z.cells (grownCap w (n + ys.length) cap e - (n + ys.length))) e)) := by
    intro A cap xs hne hcap hfo
    have hn : ¬ (n + ys.length ≤ cap) := by omega
    have h63' : ¬ (9223372036854775807 < ((n : Int) + (ys.length : Int))) := by omega
    have hfit := growslice_fits hcap hbytes
    have h48' : ¬ (281474976710656 < Builtin.nextslicecap (n + ys.length) cap * i.bytes) := by omega
    have hmz : ¬ (ys.length * i.size = 0) := Nat.mul_ne_zero (fun h => hne (List.eq_nil_of_length_eq_zero h)) hsn
    simp only [hsize] at hmz hfo ⊢
    simp [Builtin.append_, run_underlying T.u, run_underlying hti, sizeOf, typeInfo, zeroValue, hi, hz, asInt, asIntOf, hw, hneg, hbig, hn, h63', h48', Question.forced, hfo, newRow, grownCap, hmz, hna, hsize]
    congr 2
    apply Array.ext'
    simp [List.append_assoc]
  -- a block's word anew, with the new cells in place
  have fin : ∀ (v' : Value) (w' : World) (m' : Option (Nat × Nat)), (Builtin.append_ #[t, ti] ty #[v, .int kx (ys.length : Nat)]).run P w = .ok v' w' → v'.oneCell' = true →
      Bel w0 w' → w.heap.size ≤ w'.heap.size → (∀ k, k < w.heap.size → (∀ o, μ r ≠ some (k, o)) → w'.heap[k]? = w.heap[k]?) →
      (∀ b o, m' = some (b, o) → (∃ o0, μ r = some (b, o0)) ∨ (w.heap.size ≤ b ∧ b < w'.heap.size)) →
      ((m' = none → (l.take (p + n)).drop p ++ ys = []) ∧ ∀ b o, m' = some (b, o) → ∃ cur, w'.heap[b]? = some (.cells cur e (0, 0)) ∧ Lay (IV Z w) m cur o ((l.take (p + n)).drop p ++ ys) ∧ o + ((l.take (p + n)).drop p ++ ys).length * m ≤ cur.size) →
      Over P (fun q => if q = r then m' else μ q) w' r e 0 ((l.take (p + n)).drop p ++ ys).length v' →
      ∃ v' w' μ', (Builtin.append_ #[t, ti] ty #[v, .int kx (ys.length : Nat)]).run P w = .ok v' w' ∧ HR P Z0 w0 (hp.set r (.row e (g0 + 1) ((l.take (p + n)).drop p ++ ys))) μ' Z w' ∧
        Ext P hp μ Z w (hp.set r (.row e (g0 + 1) ((l.take (p + n)).drop p ++ ys))) μ' Z w' ∧ CR P (hp.set r (.row e (g0 + 1) ((l.take (p + n)).drop p ++ ys))) μ' Z w' (.ref r (g0 + 1)) v' := by
    intro v' w' m' hrun hone hbel hsz hoth hmm hob hov
    obtain ⟨sz', h8, h9, _⟩ := H.ob r _ hr
    rw [hm] at h8
    obtain rfl := Option.some.inj h8
    obtain ⟨H2, E2⟩ := H.upd (r := r) (o' := .row e (g0 + 1) ((l.take (p + n)).drop p ++ ys)) (m' := m') (w' := w') hlive hbel hsz hoth hmm
      (by rintro t' g' l' ee; cases ee; exact .inr ⟨e, g0, l, hr, Nat.lt_succ_self _⟩)
      (by intro _ _ ee; cases ee) (by intro _ _ ee; cases ee)
      (fun E => by
        refine ⟨m, hm, ?_, ?_⟩
        · intro k c hk
          rcases List.mem_append.1 (List.mem_of_getElem? hk) with h | h
          · obtain ⟨q, hq, rfl⟩ := List.getElem_of_mem (List.mem_of_mem_take (List.mem_of_mem_drop h))
            exact h9 q _ (List.getElem?_eq_getElem hq)
          · exact hys c h
        · simp only [if_true]
          cases m' with
          | none => exact hob.1 rfl
          | some bo =>
            obtain ⟨b, o⟩ := bo
            obtain ⟨cur, q1, q2, q3⟩ := hob.2 b o rfl
            exact ⟨cur, q1, q2.imp (fun x v h => h.mono E.z E.zh), q3⟩)
    exact ⟨v', w', _, hrun, H2, E2, ref_self (by simpa using hlt) hov hone (by simp [hlt])⟩
  obtain ⟨c, hnc, hO2⟩ := hO
  by_cases hk : ys = []
  · -- nothing is appended
    have hk0 := hk
    subst hk
    have hrunz : ∀ ad, (Builtin.append_ #[t, ti] ty #[.slice ad n c, .int kx (([] : List (List A)).length : Nat)]).run P w = .ok (.slice ad n c) w := fun ad => by
      cases ad <;> simp [Builtin.append_, run_underlying T.u, run_underlying hti, sizeOf, typeInfo, hi, asInt, asIntOf, hw0, hnc, storeCells]
    rcases hO2 with ⟨rfl, ad, rfl⟩ | ⟨b, o, sz, cur, h3, h4, rfl, h6, h7⟩
    · obtain rfl : n = 0 := by omega
      have hnil : (l.take (p + 0)).drop p ++ ([] : List (List A)) = [] := by
        rw [List.append_nil]
        exact List.eq_nil_of_length_eq_zero hlen
      exact fin _ w none (hrunz ad) rfl H.below (Nat.le_refl _) (fun _ _ _ => rfl) (by intro _ _ e; cases e) ⟨fun _ => hnil, by intro _ _ e; cases e⟩ (by rw [hnil]; exact ⟨0, Nat.le_refl _, .inl ⟨rfl, ad, rfl⟩⟩)
    · rw [hm] at h4
      obtain rfl := Option.some.inj h4
      obtain ⟨sz', h8, h9, h10⟩ := H.ob r _ hr
      rw [hm] at h8
      obtain rfl := Option.some.inj h8
      simp only [h3] at h10
      obtain ⟨cur', h11, h12, h13⟩ := h10
      rw [h6] at h11
      obtain rfl : cur = cur' := by
        have := Option.some.inj h11
        injection this
      refine fin _ w (some (b, o + p * m)) (hrunz _) rfl H.below (Nat.le_refl _) (fun _ _ _ => rfl) (by rintro b' o' ee; cases ee; exact .inl ⟨o, h3⟩) ⟨(by intro ee; cases ee), ?_⟩ ?_
      · rintro b' o' ee
        cases ee
        rw [List.append_nil, hlen]
        refine ⟨cur, h6, ?_, ?_⟩
        · have hget : ∀ (i : Nat) (cs : List A), ((l.take (p + n)).drop p)[i]? = some cs → l[p + i]? = some cs := by
            intro i cs hi
            rw [List.getElem?_drop, List.getElem?_take] at hi
            split at hi
            · exact hi
            · cases hi
          refine ⟨fun i cs hi => h12.len _ _ (hget i cs hi), fun i cs j x hi hj => ?_⟩
          obtain ⟨u, hu1, hu2⟩ := h12.at_ _ _ _ _ (hget i cs hi) hj
          refine ⟨u, ?_, hu2⟩
          rw [← hu1]
          congr 1
          rw [Nat.add_mul]
          omega
        · have : n * m ≤ c * m := Nat.mul_le_mul_right _ hnc
          rw [Nat.add_mul] at h7
          omega
      · rw [List.append_nil, hlen]
        exact ⟨c, hnc, .inr ⟨b, o + p * m, m, cur, by simp, hm, by simp, h6, by rw [Nat.zero_add]; rw [Nat.add_mul] at h7; omega⟩⟩
  · have hkpos : 0 < ys.length := List.length_pos_iff.2 hk
    have hlenall : ((l.take (p + n)).drop p ++ ys).length = n + ys.length := by rw [List.length_append, hlen]
    -- a new block
    have fresh : ∀ (olds : List Value) (cap : Nat), LayL (IV Z w) m olds ((l.take (p + n)).drop p) → cap < n + ys.length →
        (Builtin.append_ #[t, ti] ty #[v, .int kx (ys.length : Nat)]).run P w = .ok (.slice (some ⟨w.heap.size, 0, none⟩) (n + ys.length) (grownCap w (n + ys.length) cap e))
          (w.drew.alloc (.cells (olds.toArray ++ news.toArray ++ Builtin.zeroCells z.cells (grownCap w (n + ys.length) cap e - (n + ys.length))) e)) →
        ∃ v' w' μ', (Builtin.append_ #[t, ti] ty #[v, .int kx (ys.length : Nat)]).run P w = .ok v' w' ∧ HR P Z0 w0 (hp.set r (.row e (g0 + 1) ((l.take (p + n)).drop p ++ ys))) μ' Z w' ∧
          Ext P hp μ Z w (hp.set r (.row e (g0 + 1) ((l.take (p + n)).drop p ++ ys))) μ' Z w' ∧ CR P (hp.set r (.row e (g0 + 1) ((l.take (p + n)).drop p ++ ys))) μ' Z w' (.ref r (g0 + 1)) v' := by
      intro olds cap hLo hcap hrun
      have hge := grownCap_ge w (n + ys.length) cap e
      have hLL := hLo.app hL
      have hbel : Below w.heap.size w (w.drew.alloc (.cells (olds.toArray ++ news.toArray ++ Builtin.zeroCells z.cells (grownCap w (n + ys.length) cap e - (n + ys.length))) e)) := ((Below.refl _ w).drew).alloc (Nat.le_refl _) _
      refine fin _ _ (some (w.heap.size, 0)) hrun rfl (H.below.later hbel) hbel.size (fun k hk _ => hbel.block k hk) (by rintro b o ee; cases ee; exact .inr ⟨Nat.le_refl _, by simp⟩) ⟨(by intro ee; cases ee), ?_⟩ ?_
      · rintro b o ee
        cases ee
        have := hLL.lay (cur := olds.toArray ++ news.toArray ++ Builtin.zeroCells z.cells (grownCap w (n + ys.length) cap e - (n + ys.length))) (pre := []) (post := (Builtin.zeroCells z.cells (grownCap w (n + ys.length) cap e - (n + ys.length))).toList) (o := 0) (by simp) rfl
        exact ⟨_, heap_alloc_new w.drew _, this.1, this.2⟩
      · rw [hlenall]
        refine ⟨grownCap w (n + ys.length) cap e, hge, .inr ⟨w.heap.size, 0, m, _, by simp, hm, by simp, heap_alloc_new w.drew _, ?_⟩⟩
        rw [Nat.zero_add, Nat.zero_add]
        simp only [Array.size_append, List.size_toArray, size_zeroCells, hzs, hLo.n, hL.n, hlen, ← Nat.add_mul]
        exact Nat.mul_le_mul_right _ (by omega)
    rcases hO2 with ⟨rfl, ad, rfl⟩ | ⟨b, o, sz, cur, h3, h4, rfl, h6, h7⟩
    · obtain rfl : n = 0 := by omega
      have hnil : (l.take (p + 0)).drop p = [] := List.eq_nil_of_length_eq_zero hlen
      refine fresh [] 0 (by rw [hnil]; exact LayL.nil) (by omega) (runs ad 0 [] hk (by omega) ?_)
      cases ad with
      | none => simp [Builtin.firstCells]
      | some b => exact run_firstCells_some (P := P) w.drew i.size 0 b 0 0 [] (by simp) (by simp)
    · rw [hm] at h4
      obtain rfl := Option.some.inj h4
      obtain ⟨sz', h8, h9, h10⟩ := H.ob r _ hr
      rw [hm] at h8
      obtain rfl := Option.some.inj h8
      simp only [h3] at h10
      obtain ⟨cur', h11, h12, h13⟩ := h10
      rw [h6] at h11
      obtain rfl : cur = cur' := by
        have := Option.some.inj h11
        injection this
      have hLay : Lay (IV Z w) m cur (o + p * m) ((l.take (p + n)).drop p) := by
        have hget : ∀ (i : Nat) (cs : List A), ((l.take (p + n)).drop p)[i]? = some cs → l[p + i]? = some cs := by
          intro i cs hi
          rw [List.getElem?_drop, List.getElem?_take] at hi
          split at hi
          · exact hi
          · cases hi
        refine ⟨fun i cs hi => h12.len _ _ (hget i cs hi), fun i cs j x hi hj => ?_⟩
        obtain ⟨u, hu1, hu2⟩ := h12.at_ _ _ _ _ (hget i cs hi) hj
        refine ⟨u, ?_, hu2⟩
        rw [← hu1]
        congr 1
        rw [Nat.add_mul]
        omega
      obtain ⟨olds, hLo, holds⟩ := hLay.cells
      by_cases hroom : n + ys.length ≤ c
      · -- in place
        have hfit : o + p * m + n * m + news.length ≤ cur.size := by
          rw [hL.n]
          have : (n + ys.length) * m ≤ c * m := Nat.mul_le_mul_right _ hroom
          rw [Nat.add_mul] at this h7
          omega
        have hst := run_storeCells_at (P := P) b (o + p * m + n * m) e news 0 cur w h6 (by omega) hL.one
        have hrun : (Builtin.append_ #[t, ti] ty #[.slice (some ⟨b, o + p * m, none⟩) n c, .int kx (ys.length : Nat)]).run P w =
            .ok (.slice (some ⟨b, o + p * m, none⟩) (n + ys.length) c) (w.setRow b (splice cur.toList (o + p * m + n * m) news).toArray) := by
          simp only [Nat.add_zero] at hst
          have hmz : ¬ (ys.length * m = 0) := Nat.mul_ne_zero (fun h => hk (List.eq_nil_of_length_eq_zero h)) (by omega)
          simp [Builtin.append_, run_underlying T.u, run_underlying hti, sizeOf, typeInfo, zeroValue, hi, hz, asInt, asIntOf, hw, hneg, hbig, hroom, hmz, hna, hsize, addr_add, hst, splice]
        have hown := H.own r b o hlive h3
        refine fin _ _ (some (b, o + p * m)) hrun rfl (H.below.setRow hown.1) (by simp) (fun k hk hne => setRow_other w b k _ (fun ee => hne o (ee ▸ h3))) (by rintro b' o' ee; cases ee; exact .inl ⟨o, h3⟩) ⟨(by intro ee; cases ee), ?_⟩ ?_
        · rintro b' o' ee
          cases ee
          refine ⟨_, setRow_heap w b cur _ e _ h6, ?_⟩
          have hLL := hLo.app hL
          refine hLL.lay (pre := cur.toList.take (o + p * m)) (post := cur.toList.drop (o + p * m + n * m + news.length)) ?_ (by rw [List.length_take, Array.length_toList]; omega)
          apply List.ext_getElem?
          intro q
          have holen : olds.length = n * m := by rw [hLo.n, hlen]
          have hfit2 : o + p * m + n * m + news.length ≤ cur.toList.length := by rw [Array.length_toList]; exact hfit
          rw [show (splice cur.toList (o + p * m + n * m) news).toArray.toList = splice cur.toList (o + p * m + n * m) news from rfl, splice_get hfit2]
          have e1 : cur.toList.take (o + p * m) ++ (olds ++ news) ++ cur.toList.drop (o + p * m + n * m + news.length) = splice cur.toList (o + p * m) (olds ++ news) := by
            unfold splice
            rw [List.length_append, holen, Nat.add_assoc (o + p * m)]
          rw [e1, splice_get (by rw [List.length_append, holen]; omega), List.length_append, holen]
          by_cases a1 : q < o + p * m
          · rw [if_pos (by omega), if_pos a1]
          · rw [if_neg a1]
            by_cases a2 : q < o + p * m + n * m
            · rw [if_pos a2, if_pos (by omega), List.getElem?_append_left (by omega)]
              have hq : q - (o + p * m) < olds.length := by omega
              have := holds (q - (o + p * m)) olds[q - (o + p * m)] (List.getElem?_eq_getElem hq)
              rw [List.getElem?_eq_getElem hq, Array.getElem?_toList, ← this]
              congr 1
              omega
            · rw [if_neg a2]
              by_cases a3 : q < o + p * m + n * m + news.length
              · rw [if_pos a3, if_pos (by omega), List.getElem?_append_right (by omega)]
                congr 1
                omega
              · rw [if_neg a3, if_neg (by omega)]
        · rw [hlenall]
          refine ⟨c, hroom, .inr ⟨b, o + p * m, m, _, by simp, hm, by simp, setRow_heap w b cur _ e _ h6, ?_⟩⟩
          rw [List.size_toArray, splice_length (by rw [Array.length_toList]; exact hfit), Array.length_toList, Nat.zero_add]
          rw [Nat.add_mul] at h7
          omega
      · exact fresh olds c hLo (by omega) (runs _ c olds hk (by omega) (run_firstCells_some (P := P) w.drew i.size n _ n c olds (by rw [hsize, hLo.n, hlen]) (fun j u hj => cell_of h6 (holds j u hj))))

theorem Stp.appendZ {t ti e : TypeId} {x y : Operand} {r g : Nat} {l : List (List A)} {k ki kx : IntKind} {n : Int} {bytes : Nat} {d : Option Tmp} [T : EltI P t e 1 bytes] [hz : Zr P e [.int k 0]] [hti : IntT P ti ki]
    (hx : st.evo x = some (.ref r g) := by rfl) (hr : st.hp[r]? = some (.row e g l) := by rfl) (hy : st.evo y = some (.int kx n) := by rfl) (h0 : 0 ≤ n) (hbp : 0 < bytes := by decide) (hb : (l.length + n.toNat) * bytes ≤ 140737488355328) (h63 : l.length + n.toNat ≤ maxLen)
    {hp' : List Ob} (he : st.hp.set r (.row e (g + 1) (l ++ List.replicate n.toNat [.int k 0])) = hp' := by first | (simp only [List.set_cons_zero, List.set_cons_succ]; exact rfl) | exact rfl) :
    Stp P (.call { callee := .builtin .append, args := #[x, y], argTypes := #[t, ti] }) d st (St.put ⟨st.tm, hp'⟩ d (.ref r (g + 1))) := by
  intro o ho hd C N hN
  subst he
  subst hd
  refine OpS.blk hN fun a w μ Z R => ?_
  have ex := R.ev x
  have ey := R.ev y
  rw [evo_ev hx] at ex
  rw [evo_ev hy] at ey
  have ey := ey.int
  obtain ⟨_, h1, _⟩ := (ex : CR P st.hp μ Z w (.ref r g) _)
  have hO := (h1 e g l hr).2 rfl
  have hyd : (List.replicate n.toNat [A.int k 0]).length = n.toNat := by simp
  obtain ⟨v', w', μ', q1, q2, q3, q4⟩ := hr_appendZ (ty := o.type) (kx := kx) (cnt := n.toNat) R.hr T.h hbp hti.h hz.h rfl hr (by omega : 0 + l.length ≤ l.length) hO (by rw [hyd]; exact hb) (by rw [hyd]; exact h63)
  rw [hyd] at q1
  simp only [Nat.zero_add, List.take_length, List.drop_zero] at q2 q3 q4
  refine ⟨v', w', μ', Z, .inl ?_, q2, q3, UR.of_CR q4⟩
  have e1 : ((n.toNat : Nat) : Int) = n := by omega
  rw [e1] at q1
  simp [execOp, ho, resolve, invoke, builtin, ey, q1]
end
end Go.Vm
/- A machine of values: a call to which rows are handed over to be written. -/
namespace Go.Vm
open Go.RowKit
set_option linter.unusedVariables false
set_option linter.unusedSimpArgs false
section
variable {P : Program} {C : Ctx} {Z0 : Nat → Prop} {w0 : Base} {hp hp' : List Ob} {μ μ' : Mu} {Z Z' : Nat → Prop} {w w' : World} {st : St} {a : Act} {o : Oper} {N : St → Prop}

/-- the blocks of l are gone -/
def gone (hp : List Ob) (l : List (Option Nat)) : List Ob := hp.mapIdx fun r o => if some r ∈ l then .dead else o
theorem gone_len (hp : List Ob) (l : List (Option Nat)) : (gone hp l).length = hp.length := by simp [gone]
theorem gone_get (hp : List Ob) (l : List (Option Nat)) (r : Nat) (o : Ob) (h : (gone hp l)[r]? = some o) : o = .dead ∨ (some r ∉ l ∧ hp[r]? = some o) := by
  rw [gone, List.getElem?_mapIdx] at h
  obtain ⟨o', h1, h2⟩ := Option.map_eq_some_iff.1 h
  split at h2
  · exact .inl h2.symm
  · rename_i hn
    exact .inr ⟨hn, h2 ▸ h1⟩
theorem gone_live {hp : List Ob} {l : List (Option Nat)} {r : Nat} (h : Live (gone hp l) r) : Live hp r ∧ some r ∉ l := by
  rcases h with ⟨t, g, l', h⟩ | ⟨t, cs, h⟩
  · rcases gone_get hp l r _ h with h | ⟨h1, h2⟩
    · cases h
    · exact ⟨.inl ⟨t, g, l', h2⟩, h1⟩
  · rcases gone_get hp l r _ h with h | ⟨h1, h2⟩
    · cases h
    · exact ⟨.inr ⟨t, cs, h2⟩, h1⟩

theorem hr_lend (H : HR P Z0 w0 hp μ Z w) {l : List (Option Nat)} (hn : (l.filterMap id).Nodup) {hp0 hp1 : List Ob} {μ1 : Mu} (HO : VOs (names l) hp hp0 (szOf P) 0 hp0)
    (Hr : HR P Z ⟨w, Lent hp0 (muOf (names l) μ)⟩ hp1 μ1 Z' w') (hrow : rowsOnly hp1) :
    HR P Z0 w0 (gone hp l ++ hp1) (fun q => if q < hp.length then μ q else μ1 (q - hp.length)) Z' w' ∧ Ext P hp μ Z w (gone hp l ++ hp1) (fun q => if q < hp.length then μ q else μ1 (q - hp.length)) Z' w' := by
  have H0 := H.ren HO (inj_names hn)
  -- what is lent is of the caller's own, told in l
  have hL : ∀ b, Lent hp0 (muOf (names l) μ) b → ∃ r o, Live hp r ∧ μ r = some (b, o) ∧ some r ∈ l := by
    rintro b ⟨r, o, hl, hm⟩
    obtain ⟨s, h1, h2⟩ := Option.bind_eq_some_iff.1 hm
    have hs : some s ∈ l := by
      unfold names at h1
      cases hx : l[r]? with
      | none => rw [hx] at h1; cases h1
      | some y =>
        rw [hx] at h1
        have : y = some s := by simpa using h1
        exact this ▸ List.mem_of_getElem? hx
    refine ⟨s, o, ?_, h2, hs⟩
    have hV : ∀ ob, hp0[r]? = some ob → VO (names l) hp hp0 (szOf P) (names l r) ob := fun ob hr => by simpa using HO.get r ob hr
    rcases hl with ⟨t, g, l', h⟩ | ⟨t, cs, h⟩
    · have := hV _ h
      rw [h1] at this
      obtain ⟨_, g0, h3⟩ := this
      exact .inl ⟨t, g0, l', h3⟩
    · have := hV _ h
      rw [h1] at this
      obtain ⟨cs0, h3, _⟩ := this
      exact .inr ⟨t, cs0, h3⟩
  have hsize : w.heap.size ≤ w'.heap.size := Hr.below.size
  have hsame : ∀ b, b < w.heap.size → ¬ Lent hp0 (muOf (names l) μ) b → w'.heap[b]? = w.heap[b]? := fun b hb hn => Hr.below.block b hb hn
  have hnl : ∀ r b o, Live hp r → μ r = some (b, o) → some r ∉ l → ¬ Lent hp0 (muOf (names l) μ) b := by
    rintro r b o h1 h2 h3 hlb
    obtain ⟨s, o', q1, q2, q3⟩ := hL b hlb
    have := H.inj r s b o o' h1 q1 h2 q2
    exact h3 (this ▸ q3)
  have hzl : ∀ b, Z b → ¬ Lent hp0 (muOf (names l) μ) b := by
    rintro b hz hlb
    obtain ⟨s, o', q1, q2, q3⟩ := hL b hlb
    exact (H.own s b o' q1 q2).2.2 hz
  have hok : ∀ b, (⟨w, Lent hp0 (muOf (names l) μ)⟩ : Base).ok b → w0.ok b := by
    rintro b (hb | hb)
    · exact H.below.new hb
    · obtain ⟨s, o', q1, q2, q3⟩ := hL b hb
      exact (H.own s b o' q1 q2).1
  have hglen := gone_len hp l
  have hleft : ∀ q, q < hp.length → (gone hp l ++ hp1)[q]? = (gone hp l)[q]? := fun q h => List.getElem?_append_left (by omega)
  have hright : ∀ q, hp.length ≤ q → (gone hp l ++ hp1)[q]? = hp1[q - hp.length]? := fun q h => by rw [List.getElem?_append_right (by omega), hglen]
  have hlive1 : ∀ q, q < hp.length → Live (gone hp l ++ hp1) q → Live hp q ∧ some q ∉ l := fun q h hl => gone_live (by unfold Live at *; rwa [hleft q h] at hl)
  have hlive2 : ∀ q, hp.length ≤ q → Live (gone hp l ++ hp1) q → Live hp1 (q - hp.length) := fun q h hl => by unfold Live at *; rwa [hright q h] at hl
  have E : Ext P hp μ Z w (gone hp l ++ hp1) (fun q => if q < hp.length then μ q else μ1 (q - hp.length)) Z' w' := by
    refine ⟨by simp [hglen], Hr.z0, fun b hb => hsame b (H.zlt b hb).1 (hzl b hb), ?_, ?_, ?_⟩
    · intro q t g l' hq h
      rw [hleft q hq] at h
      rcases gone_get hp l q _ h with h | ⟨h1, h2⟩
      · cases h
      · exact .inl ⟨l', h2, rfl, by simp [hq], fun b o cur e1 e2 => ⟨cur, (hsame b (H.own q b o (.inl ⟨t, g, l', h2⟩) e1).2.1 (hnl q b o (.inl ⟨t, g, l', h2⟩) e1 h1)).trans e2, rfl⟩⟩
    · intro q g l' hq h
      rw [hleft q hq] at h
      rcases gone_get hp l q _ h with h | ⟨h1, h2⟩
      · cases h
      · exact .inl h2
    · intro q t cs hq h
      rw [hleft q hq] at h
      rcases gone_get hp l q _ h with h | ⟨h1, h2⟩
      · cases h
      · exact ⟨cs, h2, rfl, by simp [hq]⟩
  refine ⟨⟨?_, fun b hb => Hr.z0 b (H.z0 b hb), ?_, ?_, ?_, ?_⟩, E⟩
  · refine ⟨Hr.below.os.trans H.below.os, Hr.below.tape.trans H.below.tape, Hr.below.output.trans H.below.output, Nat.le_trans H.below.size hsize, fun k hk hl => ?_⟩
    refine (hsame k (Nat.lt_of_lt_of_le hk H.below.size) fun hlb => ?_).trans (H.below.block k hk hl)
    obtain ⟨s, o', q1, q2, q3⟩ := hL k hlb
    rcases (H.own s k o' q1 q2).1 with h | h
    · omega
    · exact hl h
  · intro b hb
    refine ⟨(Hr.zlt b hb).1, ?_⟩
    rcases (Hr.zlt b hb).2 with h | h
    · exact (H.zlt b h).2
    · exact .inr (hok b h)
  · intro q ob hq
    rcases Nat.lt_or_ge q hp.length with h | h
    · rw [hleft q h] at hq
      rcases gone_get hp l q _ hq with rfl | ⟨h1, h2⟩
      · trivial
      · have hO := H.ob q ob h2
        cases ob with
        | dead => trivial
        | fro g l => trivial
        | row t g l' => exact hO.ext E (by simp [h]) (fun b o e => hsame b (H.own q b o (.inl ⟨t, g, l', h2⟩) e).2.1 (hnl q b o (.inl ⟨t, g, l', h2⟩) e h1))
        | box t cs => exact hO.ext E (by simp [h]) (fun b o e => hsame b (H.own q b o (.inr ⟨t, cs, h2⟩) e).2.1 (hnl q b o (.inr ⟨t, cs, h2⟩) e h1))
    · rw [hright q h] at hq
      have hO := Hr.ob _ ob hq
      rcases hrow ob (List.mem_of_getElem? hq) with ⟨t, g, l', rfl⟩ | rfl
      · obtain ⟨sz, q1, q2, q3⟩ := hO
        refine ⟨sz, q1, q2, ?_⟩
        simp only [if_neg (show ¬ q < hp.length by omega)]
        exact q3
      · trivial
  · intro q b o hl hm
    rcases Nat.lt_or_ge q hp.length with h | h
    · simp only [if_pos h] at hm
      obtain ⟨l1, l2⟩ := hlive1 q h hl
      have h3 := H.own q b o l1 hm
      refine ⟨h3.1, Nat.lt_of_lt_of_le h3.2.1 hsize, fun hz => ?_⟩
      rcases (Hr.zlt b hz).2 with h4 | h4 | h4
      · exact h3.2.2 h4
      · have h5 : w.heap.size ≤ b := h4
        have := h3.2.1
        omega
      · exact hnl q b o l1 hm l2 h4
    · simp only [if_neg (by omega : ¬ q < hp.length)] at hm
      have h3 := Hr.own _ b o (hlive2 q h hl) hm
      exact ⟨hok b h3.1, h3.2⟩
  · intro q q' b o o2 l1 l2 e1 e2
    rcases Nat.lt_or_ge q hp.length with h | h <;> rcases Nat.lt_or_ge q' hp.length with h' | h'
    · simp only [if_pos h, if_pos h'] at e1 e2
      exact H.inj q q' b o o2 (hlive1 q h l1).1 (hlive1 q' h' l2).1 e1 e2
    · exfalso
      simp only [if_pos h, if_neg (by omega : ¬ q' < hp.length)] at e1 e2
      obtain ⟨a1, a2⟩ := hlive1 q h l1
      have a3 := H.own q b o a1 e1
      rcases (Hr.own _ b o2 (hlive2 q' h' l2) e2).1 with a4 | a4
      · have a5 : w.heap.size ≤ b := a4
        omega
      · exact hnl q b o a1 e1 a2 a4
    · exfalso
      simp only [if_neg (by omega : ¬ q < hp.length), if_pos h'] at e1 e2
      obtain ⟨a1, a2⟩ := hlive1 q' h' l2
      have a3 := H.own q' b o2 a1 e2
      rcases (Hr.own _ b o (hlive2 q h l1) e1).1 with a4 | a4
      · have a5 : w.heap.size ≤ b := a4
        omega
      · exact hnl q' b o2 a1 e2 a2 a4
    · simp only [if_neg (by omega : ¬ q < hp.length), if_neg (by omega : ¬ q' < hp.length)] at e1 e2
      have := Hr.inj _ _ b o o2 (hlive2 q h l1) (hlive2 q' h' l2) e1 e2
      omega

/-- a call: hp0 is handed over (l: what its rows are called here), hp1 comes back -/
theorem op_callm {f : FuncId} {xs : Array Operand} {ts : Array TypeId} {ys : List A} {res : A} {hp0 hp1 : List Ob} (l : List (Option Nat)) (hn : (l.filterMap id).Nodup) (ho : o.op = .call { callee := .value (.func f), args := xs, argTypes := ts })
    (hE : ∀ args w, (callFunc f args).run P w = .ok (.enter f args) w) (HO : VOs (names l) st.hp hp0 (szOf P) 0 hp0) (ha : V2s (names l) st.hp hp0 (xs.toList.map st.ev) ys) (hy : ∀ y ∈ ys, isTup y = false) (hF : DoesM P f hp0 ys res hp1) (hrow : rowsOnly hp1)
    (h : N (St.put ⟨st.tm, gone st.hp l ++ hp1⟩ o.dst (shift st.hp.length res))) : OpS P C o st N := by
  rintro a w ⟨μ, Z, R⟩ K Q hK
  have hT : TRs P st.hp μ Z w (xs.toList.map st.ev) (xs.toList.map a.eval) := ⟨by simp, fun j y hj => by
    rw [List.getElem?_map] at hj
    obtain ⟨x, hx, rfl⟩ := Option.map_eq_some_iff.1 hj
    exact ⟨a.eval x, by rw [List.getElem?_map, hx]; rfl, R.ev x⟩⟩
  have H0 := R.hr.ren HO (inj_names hn)
  have hT0 := ha.ur HO R.hr hT
  have HB : HR P Z ⟨w, Lent hp0 (muOf (names l) μ)⟩ hp0 (muOf (names l) μ) Z w :=
    ⟨Bel.refl _ _, fun _ h => h, fun b hb => ⟨(R.hr.zlt b hb).1, .inl hb⟩, H0.ob, fun r b o hl hm => ⟨.inr ⟨r, o, hl, hm⟩, (H0.own r b o hl hm).2⟩, H0.inj⟩
  have hc := hF Z w (xs.map a.eval) (muOf (names l) μ) HB (by rw [← hT0.1]; simp) (by
    intro j y hj
    obtain ⟨u, h1, h2⟩ := hT0.2 j y hj
    exact ⟨u, by simpa using h1, UR.tr h2 (hy y (List.mem_of_getElem? hj))⟩)
  have hrun : (execOp a.eval o).run P w = .ok (.enter f (xs.map a.eval)) w := by
    simp [execOp, ho, resolve, Deferred.ofValue, Act.eval, invoke, hE]
  unfold Oper.wp
  rw [hrun]
  refine Calls.mono hc ?_
  rintro e w' ⟨v, μ1, Z', rfl, Hr, hv⟩
  obtain ⟨H2, E2⟩ := hr_lend R.hr hn HO Hr hrow
  have hv2 : UR P (gone st.hp l ++ hp1) (fun q => if q < st.hp.length then μ q else μ1 (q - st.hp.length)) Z' w' (shift st.hp.length res) v := by
    have := UR.shift (hp := gone st.hp l) (μ := μ) (Z2 := Z') hv hrow (.inr fun _ h => h)
    rwa [gone_len] at this
  exact hK _ _ _ h ⟨_, Z', R.step H2 E2 hv2 _⟩ ⟨_, rfl⟩
end
end Go.Vm
