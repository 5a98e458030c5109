/- A part of a proof that statements of this seat hold of the given program; no conditions but the statements' own. -/
import Derived.Test.YtekojicaeadepaaZ8651976f7b
import Derived.Scope
import Derived.Test.YtekojicaeadepaaProg
import Derived.Shelf.Abstract
set_option linter.unusedVariables false
set_option linter.unusedSimpArgs false
/- A machine of values: a function value with one pointer bound is called. -/
namespace Go.Vm
open Go.RowKit
set_option linter.unusedVariables false
set_option linter.unusedSimpArgs false
section
variable {P : Program} {C : Ctx} {K : Exit → St → Prop} {ops : Array Oper} {l : List Oper} {tm tm' : List A} {hp : List Ob} {d : Option Tmp}

theorem HR.past {Z0 : Nat → Prop} {w0 : Base} {μ : Mu} {Z : Nat → Prop} {w w' : World} (H : HR P Z0 w0 hp μ Z w) (k : Below w.heap.size w w') : HR P Z0 w0 hp μ Z w' ∧ Ext P hp μ Z w hp μ Z w' := by
  have E : Ext P hp μ Z w hp μ Z w' :=
    ⟨Nat.le_refl _, fun _ h => h, fun b hb => k.block b (H.zlt b hb).1, fun r t g l _ h => .inl ⟨l, h, rfl, rfl, fun b o cur e1 e2 => ⟨cur, (k.block b (H.own r b o (.inl ⟨t, g, l, h⟩) e1).2.1).trans e2, rfl⟩⟩, fun r g l _ h => .inl h, fun r t cs _ h => ⟨cs, h, rfl, rfl⟩⟩
  refine ⟨⟨H.below.later k, H.z0, fun b hb => ⟨Nat.lt_of_lt_of_le (H.zlt b hb).1 k.size, (H.zlt b hb).2⟩, fun r o h => ?_, fun r b o hl e => ?_, H.inj⟩, E⟩
  · have h0 := H.ob r o h
    cases o with
    | dead => trivial
    | fro g l => trivial
    | row t g l => exact h0.ext E rfl (fun b o e => k.block b (H.own r b o (.inl ⟨t, g, l, h⟩) e).2.1)
    | box t cs => exact h0.ext E rfl (fun b o e => k.block b (H.own r b o (.inr ⟨t, cs, h⟩) e).2.1)
  · have := H.own r b o hl e
    exact ⟨this.1, Nat.lt_of_lt_of_le this.2.1 k.size, this.2.2⟩

theorem o_clo {bb : Nat} {w1 : World} {L : Nat → Prop} {g : FuncId} {n : Int} {r : Bool} {t : Tmp} {x : Operand} {ts : Array TypeId} {ty : TypeId} {pos : String} {af : Array Edge} (hC : C.w0 = ⟨w1, L⟩) (hb1 : bb < w1.heap.size) (hnl : ¬ L bb) (hE : ∀ args w, (callFunc g args).run P w = .ok (.enter g args) w)
    (ht : St.evo ⟨tm, hp⟩ (.tmp t) = some (.val (.func (.func g) #[] #[.pointer (some ⟨bb, 0, none⟩)])) := by rfl) (hx : St.evo ⟨tm, hp⟩ x = some (.int .i64 n) := by rfl)
    (hcall : ∀ w : World, w.heap[bb]? = w1.heap[bb]? → Calls P g #[.int .i64 n, .pointer (some ⟨bb, 0, none⟩)] w fun e w' => e = .returned (.bool r) ∧ Below w.heap.size w w')
    (h1 : NL (St.put ⟨tm, hp⟩ d (.bool r)).tm tm' := by repeat (first | exact NL.nil | apply NL.cons)) (h : OpsS P C ops l ⟨tm', hp⟩ K) :
    OpsS P C ops ({ dst := d, op := .call { callee := .value (.tmp t), args := #[x], argTypes := ts }, type := ty, pos := pos, after := af, guard := none } :: l) ⟨tm, hp⟩ K := by
  refine OpsS.cons rfl ?_
  rintro a w ⟨μ, Z, R⟩ K' Q hK
  have e1 := R.ev (.tmp t)
  have e2 := R.ev x
  rw [evo_ev ht] at e1
  rw [evo_ev hx] at e2
  have e2 := e2.int
  have e1 : a.eval (.tmp t) = .func (.func g) #[] #[.pointer (some ⟨bb, 0, none⟩)] := by
    have gen : ∀ V v, IV Z w (.val V) v → v = V := fun V v h => by cases h; rfl
    exact gen _ _ e1
  have hw : w.heap[bb]? = w1.heap[bb]? := by
    have := R.hr.below
    rw [hC] at this
    exact this.block bb hb1 hnl
  have hrun : (execOp a.eval { dst := d, op := .call { callee := .value (.tmp t), args := #[x], argTypes := ts }, type := ty, pos := pos, after := af, guard := none }).run P w = .ok (.enter g #[.int .i64 n, .pointer (some ⟨bb, 0, none⟩)]) w := by
    simp [execOp, resolve, Deferred.ofValue, e1, e2, invoke, hE]
  unfold Oper.wp
  rw [hrun]
  refine Calls.mono (hcall w hw) ?_
  rintro e w' ⟨rfl, hb⟩
  obtain ⟨H2, E2⟩ := R.hr.past hb
  refine hK _ _ _ ?_ ⟨μ, Z, R.step H2 E2 (UR.of_bool r) _⟩ ⟨_, rfl⟩
  have e : St.put ⟨tm, hp⟩ d (.bool r) = ⟨tm', hp⟩ := by
    cases d <;> (cases h1.eq; rfl)
  rw [e]
  exact h

/-- what a function comes to, where the world it is called in is such -/
def DoesQ (P : Program) (f : FuncId) (Q : World → Prop) (args : List A) (res : A) (hr : List Ob) : Prop :=
  ∀ (Z : Nat → Prop) (w : World) (vs : Array Value), Q w → (∀ b, Z b → b < w.heap.size) → vs.toList.length = args.length → (∀ (j : Nat) (x : A), args[j]? = some x → ∃ u, vs.toList[j]? = some u ∧ TR P [] noMu Z w x u) →
    Calls P f vs w fun e w' => ∃ v μ Z', e = .returned v ∧ HR P Z (Base.of w) hr μ Z' w' ∧ UR P hr μ Z' w' res v
theorem rel0 {P : Program} {Z0 Z : Nat → Prop} {w0 : Base} {hp0 : List Ob} {μ0 : Mu} {w : World} {vs : Array Value} {args : List A} {n : Nat} (H0 : HR P Z0 w0 hp0 μ0 Z w) (hl : vs.toList.length = args.length) (ha : ∀ (j : Nat) (x : A), args[j]? = some x → ∃ u, vs.toList[j]? = some u ∧ TR P hp0 μ0 Z w x u) :
    Rel P ⟨Z0, w0, [], []⟩ ⟨args ++ List.replicate (n - args.length) (.tup []), hp0⟩ { tmps := vs ++ Array.replicate (n - vs.size) Go.undef, defers := [] } w := by
  have hlen : vs.size = args.length := by rw [← Array.length_toList]; exact hl
  refine ⟨μ0, Z, H0, ⟨?_, ?_⟩, rfl, ⟨rfl, fun j x hj => by simp at hj⟩⟩
  · simp [hlen]
  · intro j x hj
    simp only [Array.toList_append, Array.toList_replicate, hlen]
    rw [List.getElem?_append] at hj ⊢
    rw [hl]
    split at hj
    · rename_i hlt
      rw [if_pos hlt]
      obtain ⟨u, h1, h2⟩ := ha j x hj
      exact ⟨u, h1, UR.of_TR h2⟩
    · rename_i hlt
      rw [if_neg hlt]
      rw [List.getElem?_replicate] at hj
      split at hj
      · rename_i h2
        obtain rfl := Option.some.inj hj
        exact ⟨Go.undef, by rw [List.getElem?_replicate, if_pos h2], #[], rfl, rfl, fun j x hj => by simp at hj⟩
      · cases hj
/-- a call, out of its code: from whatever base -/
theorem run_of {P : Program} {f : FuncId} {fn : Func} {c : Code} {n : Nat} {Z0 Z : Nat → Prop} {w0 : Base} {hp0 : List Ob} {μ0 : Mu} {w : World} {vs : Array Value} {args : List A} {res : A} {hr : List Ob} (hf : P.funcs[f]? = some fn) (hb : fn.body = some c) (hn : fn.ntmps = n)
    (H0 : HR P Z0 w0 hp0 μ0 Z w) (hl : vs.toList.length = args.length) (ha : ∀ (j : Nat) (x : A), args[j]? = some x → ∃ u, vs.toList[j]? = some u ∧ TR P hp0 μ0 Z w x u)
    (h : CodeS P ⟨Z0, w0, [], []⟩ c ⟨args ++ List.replicate (n - args.length) (.tup []), hp0⟩ (fun e st' => match e with | .ret => Out P fn st' res hr | .normal => Out P fn st' res hr | _ => False)) :
    Calls P f vs w fun e w' => ∃ v μ Z', e = .returned v ∧ HR P Z0 w0 hr μ Z' w' ∧ UR P hr μ Z' w' res v := by
  refine calls_of_wp hf hb ?_
  subst hn
  refine Code.wp_mono (fun e a' w' ⟨st', hk, μ, Z', R'⟩ => ?_) (h _ w (rel0 H0 hl ha))
  cases e with
  | ret =>
    obtain ⟨v, μ', Z2, h1, h2, h3⟩ := hk.run R'
    exact ⟨R'.df, v, h1, v, μ', Z2, rfl, h2, h3⟩
  | normal =>
    obtain ⟨v, μ', Z2, h1, h2, h3⟩ := hk.run R'
    exact ⟨R'.df, v, h1, v, μ', Z2, rfl, h2, h3⟩
  | _ => exact hk.elim
theorem DoesQ.of {f : FuncId} {fn : Func} {c : Code} {n : Nat} {Q : World → Prop} {args : List A} {res : A} {hr : List Ob} (hf : P.funcs[f]? = some fn) (hb : fn.body = some c) (hn : fn.ntmps = n)
    (h : ∀ Z w, Q w → CodeS P ⟨Z, Base.of w, [], []⟩ c ⟨args ++ List.replicate (n - args.length) (.tup []), []⟩ (fun e st' => match e with | .ret => Out P fn st' res hr | .normal => Out P fn st' res hr | _ => False)) : DoesQ P f Q args res hr :=
  fun Z w vs hQ hZ hl ha => run_of hf hb hn (HR.mk (Bel.refl _ _) (fun _ h => h) (fun b hb => ⟨hZ b hb, .inl hb⟩) (fun r o h => by simp at h) (fun r b o hl => by rcases hl with ⟨_, _, _, h⟩ | ⟨_, _, h⟩ <;> simp at h) (fun r r' b o o2 hl => by rcases hl with ⟨_, _, _, h⟩ | ⟨_, _, h⟩ <;> simp at h)) hl ha (h Z w hQ)

/-- its call, where it comes to plain values -/
theorem op_callq {f : FuncId} {xs : Array Operand} {ts : Array TypeId} {ys : List A} {res : A} {Q : World → Prop} {o : Oper} {st : St} {N : St → Prop} {w1 : World} {L : Nat → Prop} {bb : Nat} (hC : C.w0 = ⟨w1, L⟩) (hb1 : bb < w1.heap.size) (hnl : ¬ L bb) (hQ : ∀ w : World, w.heap[bb]? = w1.heap[bb]? → Q w)
    (ho : o.op = .call { callee := .value (.func f), args := xs, argTypes := ts }) (hE : ∀ args w, (callFunc f args).run P w = .ok (.enter f args) w) (ha : argl st xs.toList = some ys) (hF : DoesQ P f Q ys res []) (hns : nosl2 res = true)
    (h : N (St.put ⟨st.tm, st.hp⟩ o.dst (shift st.hp.length res))) : OpS P C o st N := by
  rintro a w ⟨μ, Z, R⟩ K Q' hK
  obtain ⟨q1, q2⟩ := argl_run R ha
  have hw : w.heap[bb]? = w1.heap[bb]? := by
    have := R.hr.below
    rw [hC] at this
    exact this.block bb hb1 hnl
  have hc := hF (All w) w (xs.map a.eval) (hQ w hw) (fun b hb => hb) (by simpa using q1) (by simpa using q2)
  have hrun : (execOp a.eval o).run P w = .ok (.enter f (xs.map a.eval)) w := by
    simp [execOp, ho, resolve, Deferred.ofValue, Act.eval, invoke, hE]
  unfold Oper.wp
  rw [hrun]
  refine Calls.mono hc ?_
  rintro e w' ⟨v, μr, Zr, rfl, Hr, hv⟩
  obtain ⟨H2, E2⟩ := R.hr.join (Z2 := Z) Hr (by simp) (fun _ h => h) (fun _ h => .inl h) (by simp)
  have hv2 := UR.shift (hp := st.hp) (μ := μ) (Z2 := Z) hv (by simp) (.inl hns)
  refine hK _ _ _ h ⟨_, Z, R.step (by simpa using H2) (by simpa using E2) (by simpa using hv2) _⟩ ⟨_, rfl⟩
end
end Go.Vm
/- A machine of values: clear(s), s a part of a row of its own. -/
namespace Go.Vm
open Go.RowKit
set_option linter.unusedVariables false
set_option linter.unusedSimpArgs false
section
variable {P : Program} {C : Ctx} {Z0 : Nat → Prop} {w0 : Base} {hp hp' : List Ob} {μ μ' : Mu} {Z Z' : Nat → Prop} {w w' : World} {st : St} {a : Act} {o : Oper} {N : St → Prop}

theorem hr_clear (H : HR P Z0 w0 hp μ Z w) {t ty e : TypeId} {k : IntKind} {bytes : Nat} (T : Elt P t e 1 bytes) (hzA : zeroA P e = some [.int k 0]) {r g p q : Nat} {l : List (List A)} {v : Value} (hr : hp[r]? = some (.row e g l)) (hv : CR P hp μ Z w (.sub r g p q) v) :
    ∃ u w', (Builtin.clear_ #[t] ty #[v]).run P w = .ok u w' ∧ HR P Z0 w0 (hp.set r (.row e g (l.take p ++ List.replicate (q - p) [.int k 0] ++ l.drop q))) μ Z w' ∧ Ext P hp μ Z w (hp.set r (.row e g (l.take p ++ List.replicate (q - p) [.int k 0] ++ l.drop q))) μ Z w' := by
  obtain ⟨hlt, h1, _, _⟩ := hv
  obtain ⟨hpq, hql, hO⟩ := (h1 e g l hr).2 rfl
  have hlive : Live hp r := .inl ⟨e, g, l, hr⟩
  have hm := T.sz
  obtain ⟨i, z, hi, hz, hsize, hby, hzs⟩ := T.i
  have hzc : z.cells = #[.int k 0] := by
    unfold zeroA at hzA
    rw [hi] at hzA
    simp only [Option.bind_some, hz] at hzA
    split at hzA
    · have hzA := Option.some.inj hzA
      obtain ⟨u, hu⟩ : ∃ u, z.cells.toList = [u] := List.length_eq_one_iff.1 (by simpa using hzs)
      rw [hu] at hzA
      obtain rfl : u = .int k 0 := toA_int (by simpa using hzA)
      exact Array.ext' hu
    · cases hzA
  have hlen : (l.take p ++ List.replicate (q - p) [A.int k 0] ++ l.drop q).length = l.length := by simp; omega
  have hμ : (fun s => if s = r then μ r else μ s) = μ := by
    funext s
    split
    · rename_i e; rw [e]
    · rfl
  by_cases h0 : q - p = 0
  · -- nothing is there
    have hpe : p = q := by omega
    have hll : l.take p ++ List.replicate (q - p) [A.int k 0] ++ l.drop q = l := by rw [h0, hpe]; simp
    have hset : hp.set r (.row e g (l.take p ++ List.replicate (q - p) [A.int k 0] ++ l.drop q)) = hp := by
      rw [hll]
      apply List.ext_getElem?
      intro s
      rw [List.getElem?_set]
      split
      · rename_i e'
        subst e'
        first | exact hr.symm | (rw [if_pos hlt, hr])
      · rfl
    obtain ⟨c, h2, h3⟩ := hO
    rw [h0] at h3
    rw [hset]
    rcases h3 with ⟨rfl, ad, rfl⟩ | ⟨b, o', sz, cur, _, _, rfl, _⟩
    · refine ⟨.tuple #[], w, ?_, H, Ext.refl ..⟩
      cases ad <;> simp [Builtin.clear_, run_underlying T.u, sizeOf, typeInfo, hi, zeroValue, hz, Builtin.zeroCells, storeCells]

    · refine ⟨.tuple #[], w, ?_, H, Ext.refl ..⟩
      simp [Builtin.clear_, run_underlying T.u, sizeOf, typeInfo, hi, zeroValue, hz, Builtin.zeroCells, storeCells]

  · obtain ⟨c, h2, h3⟩ := hO
    rcases h3 with ⟨rfl, _⟩ | ⟨b, o', sz, cur, h3, h4, rfl, h6, h7⟩
    · omega
    · rw [hm] at h4
      obtain rfl := Option.some.inj h4
      obtain ⟨sz', q1, q2, q3⟩ := H.ob r _ hr
      rw [hm] at q1
      obtain rfl := Option.some.inj q1
      simp only [h3] at q3
      obtain ⟨cur', q4, q5, q6⟩ := q3
      rw [h6] at q4
      obtain ⟨rfl⟩ : cur = cur' := by
        have := Option.some.inj q4
        injection this
      have hown := H.own r b o' hlive h3
      let news : List Value := List.replicate (q - p) (.int k 0)
      have hnl : news.length = q - p := by simp [news]
      have hfit : o' + p * 1 + news.length ≤ cur.size := by rw [hnl]; omega
      have hst := run_storeCells_at (P := P) b (o' + p * 1) e news 0 cur w h6 (by omega) (by intro u hu; rw [List.eq_of_mem_replicate hu]; rfl)
      have hzn : Builtin.zeroCells z.cells (q - p) = news.toArray := by
        apply Array.ext'
        rw [hzc]
        apply List.ext_getElem
        · simp [size_zeroCells, news]
        · intro j q1 q2
          have e : j % 1 = 0 := Nat.mod_one j
          simp [Builtin.zeroCells, news, e]
      have hrun : (Builtin.clear_ #[t] ty #[.slice (some ⟨b, o' + p * 1, none⟩) (q - p) c]).run P w = .ok (.tuple #[]) (w.setRow b (splice cur.toList (o' + p * 1) news).toArray) := by
        simp only [Nat.add_zero, Nat.mul_one, List.append_assoc] at hst
        obtain ⟨m, hmm⟩ : ∃ m, q - p = m + 1 := ⟨q - p - 1, by omega⟩
        rw [hmm] at hzn ⊢
        simp [Builtin.clear_, run_underlying T.u, sizeOf, typeInfo, hi, zeroValue, hz, hzn, hst, splice]
      have hsplen : (splice cur.toList (o' + p * 1) news).length = cur.size := by rw [splice_length (by rw [Array.length_toList]; exact hfit), Array.length_toList]
      obtain ⟨H2, E2⟩ := H.upd (r := r) (o' := .row e g (l.take p ++ List.replicate (q - p) [A.int k 0] ++ l.drop q)) (m' := μ r) (w' := w.setRow b (splice cur.toList (o' + p * 1) news).toArray) hlive
        (H.below.setRow hown.1) (by simp) (fun s hs hne => setRow_other w b s _ (fun ee => hne o' (ee ▸ h3))) (fun b' o'' e => .inl ⟨o'', e⟩)
        (by
          rintro t' g' l' ee
          cases ee
          refine .inl ⟨l, hr, hlen.symm, rfl, fun b' o'' cur' e1 e2 => ?_⟩
          rw [h3] at e1
          cases e1
          rw [h6] at e2
          cases e2
          exact ⟨_, setRow_heap w b cur _ e _ h6, by simpa using hsplen⟩)
        (by intro _ _ e; cases e) (by intro _ _ e; cases e)
        (fun E => by
          have hel : ∀ (s : Nat) (c : List A), (l.take p ++ List.replicate (q - p) [A.int k 0] ++ l.drop q)[s]? = some c → (s < p ∧ l[s]? = some c) ∨ (p ≤ s ∧ s < q ∧ c = [.int k 0]) ∨ (q ≤ s ∧ l[s]? = some c) := by
            intro s c hs
            by_cases a1 : s < p
            · rw [List.append_assoc, List.getElem?_append_left (by simp; omega), List.getElem?_take, if_pos a1] at hs
              exact .inl ⟨a1, hs⟩
            · by_cases a2 : s < q
              · rw [List.getElem?_append_left (by simp; omega), List.getElem?_append_right (by simp; omega), List.getElem?_replicate] at hs
                split at hs
                · cases hs
                  exact .inr (.inl ⟨by omega, a2, rfl⟩)
                · cases hs
              · rw [List.getElem?_append_right (by simp; omega), List.getElem?_drop] at hs
                refine .inr (.inr ⟨by omega, ?_⟩)
                rw [← hs]
                congr 1
                simp
                omega
          have hclen : ∀ (s : Nat) (c : List A), (l.take p ++ List.replicate (q - p) [A.int k 0] ++ l.drop q)[s]? = some c → c.length = 1 := by
            intro s c hs
            rcases hel s c hs with ⟨_, h⟩ | ⟨_, _, rfl⟩ | ⟨_, h⟩
            · exact q2 s c h
            · rfl
            · exact q2 s c h
          refine ⟨1, hm, hclen, ?_⟩
          simp only [if_true, h3]
          refine ⟨_, setRow_heap w b cur _ e _ h6, ⟨hclen, ?_⟩, ?_⟩
          · intro s c j x hs hj
            rw [← Array.getElem?_toList]
            show ∃ u, (splice cur.toList (o' + p * 1) news)[o' + (s * 1 + j)]? = some u ∧ _
            rw [splice_get (by rw [Array.length_toList]; exact hfit), hnl]
            have hj0 : j = 0 := by
              have := (List.getElem?_eq_some_iff.1 hj).1
              rw [hclen s c hs] at this
              omega
            subst hj0
            rcases hel s c hs with ⟨a1, h⟩ | ⟨a1, a2, rfl⟩ | ⟨a1, h⟩
            · rw [if_pos (by omega)]
              obtain ⟨u, p1, p2⟩ := q5.at_ s c 0 x h hj
              exact ⟨u, by rw [Array.getElem?_toList]; exact p1, p2.mono E.z E.zh⟩
            · rw [if_neg (by omega), if_pos (by omega)]
              cases hj
              exact ⟨.int k 0, by simp only [news]; rw [List.getElem?_replicate, if_pos (by omega)], .int _ _⟩
            · rw [if_neg (by omega), if_neg (by omega)]
              obtain ⟨u, p1, p2⟩ := q5.at_ s c 0 x h hj
              exact ⟨u, by rw [Array.getElem?_toList]; exact p1, p2.mono E.z E.zh⟩
          · rw [hlen, List.size_toArray, hsplen]
            exact q6)
      rw [hμ] at H2 E2
      exact ⟨_, _, hrun, H2, E2⟩

theorem Stp.clear {t e : TypeId} {x : Operand} {r g p q : Nat} {l : List (List A)} {k : IntKind} {bytes : Nat} {d : Option Tmp} [T : EltI P t e 1 bytes] [hz : Zr P e [.int k 0]]
    (hx : st.evo x = some (.sub r g p q) := by rfl) (hr : st.hp[r]? = some (.row e g l) := by rfl)
    {hp' : List Ob} (he : st.hp.set r (.row e g (l.take p ++ List.replicate (q - p) [.int k 0] ++ l.drop q)) = hp' := by first | (simp only [List.set_cons_zero, List.set_cons_succ]; exact rfl) | exact rfl) :
    Stp P (.call { callee := .builtin .clear, args := #[x], argTypes := #[t] }) d st (St.put ⟨st.tm, hp'⟩ d .undef) := by
  intro o ho hd C N hN
  subst he
  subst hd
  refine OpS.blk hN fun a w μ Z R => ?_
  have ex := R.ev x
  rw [evo_ev hx] at ex
  obtain ⟨u, w', q1, q2, q3⟩ := hr_clear (ty := o.type) R.hr T.h hz.h hr ex
  refine ⟨u, w', μ, Z, .inl ?_, q2, q3, UR.undef⟩
  simp [execOp, ho, resolve, invoke, builtin, q1]
end
end Go.Vm
/- A machine of values: a call to which one row and a function value (with a pointer to a box of the caller's) are handed. -/
namespace Go.Vm
open Go.RowKit
set_option linter.unusedVariables false
set_option linter.unusedSimpArgs false
section
variable {P : Program} {C : Ctx} {st : St} {d : Option Tmp}

/-- the block bb begins with these numbers -/
def Holds (bb : Nat) (cs : List (IntKind × Int)) (w : World) : Prop := ∃ cur t fr, w.heap[bb]? = some (.cells cur t fr) ∧ ∀ (j : Nat) (k : IntKind) (n : Int), cs[j]? = some (k, n) → cur[j]? = some (.int k n)
theorem Holds.same {bb : Nat} {cs : List (IntKind × Int)} {w w' : World} (h : Holds bb cs w) (e : w'.heap[bb]? = w.heap[bb]?) : Holds bb cs w' := by
  obtain ⟨cur, t, fr, h1, h2⟩ := h
  exact ⟨cur, t, fr, e.trans h1, h2⟩
theorem Holds.lt {bb : Nat} {cs : List (IntKind × Int)} {w : World} (h : Holds bb cs w) : bb < w.heap.size := by
  obtain ⟨cur, t, fr, h1, h2⟩ := h
  exact (Array.getElem?_eq_some_iff.1 h1).1
/-- a function's contract, as its closure over a pointer is called -/
theorem clo_calls {g : FuncId} {cs : List (IntKind × Int)} {x : Int} {r : Bool} (hF : Does P g [.int .i64 x, .vptr (cs.map fun c => .int c.1 c.2)] (.bool r) []) {bb : Nat} {w : World} (hw : Holds bb cs w) :
    Calls P g #[.int .i64 x, .pointer (some ⟨bb, 0, none⟩)] w fun e w' => e = .returned (.bool r) ∧ Below w.heap.size w w' := by
  obtain ⟨cur, t, fr, h1, h2⟩ := hw
  refine Calls.mono (hF (fun b => b = bb) w #[.int .i64 x, .pointer (some ⟨bb, 0, none⟩)] (fun b hb => hb ▸ (Array.getElem?_eq_some_iff.1 h1).1) rfl ?_) ?_
  · intro j y hj
    match j, hj with
    | 0, hj => cases hj; exact ⟨_, rfl, IV.int _ _⟩
    | 1, hj =>
      cases hj
      refine ⟨_, rfl, bb, 0, cur, t, fr, rfl, rfl, h1, fun j y hj => ?_⟩
      rw [List.getElem?_map] at hj
      obtain ⟨⟨k, n⟩, q1, rfl⟩ := Option.map_eq_some_iff.1 hj
      exact ⟨_, by rw [Nat.zero_add]; exact h2 j k n q1, IV.int _ _⟩
  · rintro e w' ⟨v, μ, Z', rfl, H, hv⟩
    have gen : v = .bool r := by
      have h : IV Z' w' (.bool r) v := hv
      cases h; rfl
    exact ⟨by rw [gen], H.below.below⟩
def cloW (g : FuncId) (bb : Nat) : Value := .func (.func g) #[] #[.pointer (some ⟨bb, 0, none⟩)]
/-- a function that is handed a row of its caller's to write, and a closure over one of its boxes -/
def DoesC (P : Program) (f g : FuncId) (cs : List (IntKind × Int)) (t : TypeId) (l : List (List A)) (res : A) (hp1 : List Ob) : Prop :=
  ∀ (Z : Nat → Prop) (w : World) (vs : Array Value) (μ : Mu) (bb : Nat), HR P Z ⟨w, Lent [.row t 0 l] μ⟩ [.row t 0 l] μ Z w → Holds bb cs w → ¬ Lent [.row t 0 l] μ bb → (∃ v, vs = #[v, cloW g bb] ∧ CR P [.row t 0 l] μ Z w (.ref 0 0) v) →
    Calls P f vs w fun e w' => ∃ v μ' Z', e = .returned v ∧ HR P Z ⟨w, Lent [.row t 0 l] μ⟩ hp1 μ' Z' w' ∧ UR P hp1 μ' Z' w' res v
theorem DoesC.of {f g : FuncId} {fn : Func} {c : Code} {n : Nat} {cs : List (IntKind × Int)} {t : TypeId} {l : List (List A)} {res : A} {hp1 : List Ob} (hf : P.funcs[f]? = some fn) (hb : fn.body = some c) (hn : fn.ntmps = n)
    (h : ∀ Z w L bb, Holds bb cs w → ¬ L bb → CodeS P ⟨Z, ⟨w, L⟩, [], []⟩ c ⟨[.ref 0 0, .val (cloW g bb)] ++ List.replicate (n - 2) (.tup []), [.row t 0 l]⟩ (fun e st' => match e with | .ret => Out P fn st' res hp1 | .normal => Out P fn st' res hp1 | _ => False)) : DoesC P f g cs t l res hp1 := by
  rintro Z w vs μ bb H hh hL ⟨v, rfl, hv⟩
  refine run_of hf hb hn H rfl (args := [.ref 0 0, .val (cloW g bb)]) ?_ (h Z w _ bb hh hL)
  intro j y hj
  match j, hj with
  | 0, hj => cases hj; exact ⟨_, rfl, hv⟩
  | 1, hj => cases hj; exact ⟨_, rfl, IV.val _ rfl⟩
theorem op_callc {f g : FuncId} {x y : Operand} {ts : Array TypeId} {cs : List (IntKind × Int)} {t tb : TypeId} {l : List (List A)} {res : A} {hp1 : List Ob} {o : Oper} {st : St} {N : St → Prop} {r r2 g0 : Nat} {bx : List A} (ho : o.op = .call { callee := .value (.func f), args := #[x, y], argTypes := ts })
    (hE : ∀ args w, (callFunc f args).run P w = .ok (.enter f args) w) (hx : st.ev x = .ref r g0) (hr : st.hp[r]? = some (.row t g0 l)) (hy : st.ev y = .clo g r2 0) (hr2 : st.hp[r2]? = some (.box tb bx)) (hbx : ∀ (j : Nat) (k : IntKind) (n : Int), cs[j]? = some (k, n) → bx[j]? = some (.int k n))
    (hF : DoesC P f g cs t l res hp1) (hrow : rowsOnly hp1)
    (h : N (St.put ⟨st.tm, gone st.hp [some r] ++ hp1⟩ o.dst (shift st.hp.length res))) : OpS P C o st N := by
  rintro a w ⟨μ, Z, R⟩ K Q hK
  have hlt : r < st.hp.length := (List.getElem?_eq_some_iff.1 hr).1
  have HO : VOs (names [some r]) st.hp [.row t 0 l] (szOf P) 0 [.row t 0 l] := ⟨⟨rfl, g0, hr⟩, trivial⟩
  have hn : ([some r].filterMap id).Nodup := by simp
  have H0 := R.hr.ren HO (inj_names hn)
  have HB : HR P Z ⟨w, Lent [.row t 0 l] (muOf (names [some r]) μ)⟩ [.row t 0 l] (muOf (names [some r]) μ) Z w :=
    ⟨Bel.refl _ _, fun _ h => h, fun b hb => ⟨(R.hr.zlt b hb).1, .inl hb⟩, H0.ob, fun r b o hl hm => ⟨.inr ⟨r, o, hl, hm⟩, (H0.own r b o hl hm).2⟩, H0.inj⟩
  -- the box
  have ex : CR P st.hp μ Z w (.ref r g0) (a.eval x) := by
    have := R.ev x
    rw [hx] at this
    exact this
  have ey : CR P st.hp μ Z w (.clo g r2 0) (a.eval y) := by
    have := R.ev y
    rw [hy] at this
    exact this
  obtain ⟨u, e1, e2, e3⟩ := ey
  obtain ⟨_, b, e4, rfl⟩ := e3 tb bx hr2
  obtain ⟨b', cur, q1, q2, q3⟩ := R.hr.ob r2 _ hr2
  rw [e4] at q1
  cases q1
  have hne : r2 ≠ r := fun e => by rw [e, hr] at hr2; cases hr2
  have hh : Holds b cs w := ⟨cur, tb, (0, 0), q2, fun j k n hj => by
    obtain ⟨u, p1, p2⟩ := q3.2 j _ (hbx j k n hj)
    have p2 : IV Z w (.int k n) u := p2
    cases p2
    rw [← Array.getElem?_toList]
    exact p1⟩
  have hnl : ¬ Lent [.row t 0 l] (muOf (names [some r]) μ) b := by
    rintro ⟨s, o', hl, hm⟩
    have hs : s = 0 := by
      rcases hl with ⟨_, _, _, h⟩ | ⟨_, _, h⟩
      · have := (List.getElem?_eq_some_iff.1 h).1
        simpa using this
      · have := (List.getElem?_eq_some_iff.1 h).1
        simpa using this
    subst hs
    have hm : μ r = some (b, o') := by simpa [muOf, names] using hm
    exact hne (R.hr.inj r2 r b 0 o' (.inr ⟨tb, bx, hr2⟩) (.inl ⟨t, g0, l, hr⟩) e4 hm)
  have hv : CR P [.row t 0 l] (muOf (names [some r]) μ) Z w (.ref 0 0) (a.eval x) :=
    VC.cr HO R.hr (x := .ref r g0) (y := .ref 0 0) ⟨rfl, rfl, by simp, t, l, hr⟩ ex
  have hc := hF Z w #[a.eval x, a.eval y] (muOf (names [some r]) μ) b HB hh hnl ⟨_, by rw [e1]; rfl, hv⟩
  have hrun : (execOp a.eval o).run P w = .ok (.enter f #[a.eval x, a.eval y]) w := by
    simp [execOp, ho, resolve, Deferred.ofValue, Act.eval, invoke, hE]
  unfold Oper.wp
  rw [hrun]
  refine Calls.mono hc ?_
  rintro e w' ⟨v, μ1, Z', rfl, Hr, hv⟩
  obtain ⟨H2, E2⟩ := hr_lend R.hr hn HO Hr hrow
  have hv2 : UR P (gone st.hp [some r] ++ hp1) (fun q => if q < st.hp.length then μ q else μ1 (q - st.hp.length)) Z' w' (shift st.hp.length res) v := by
    have := UR.shift (hp := gone st.hp [some r]) (μ := μ) (Z2 := Z') hv hrow (.inr fun _ h => h)
    rwa [gone_len] at this
  exact hK _ _ _ h ⟨_, Z', R.step H2 E2 hv2 _⟩ ⟨_, rfl⟩
theorem Stp.callc {f g : FuncId} {x y : Operand} {ts : Array TypeId} {cs : List (IntKind × Int)} {t tb : TypeId} {l : List (List A)} {res res' : A} {hp hp1 hp2 : List Ob} {tm : List A} {r r2 g0 n : Nat} {bx : List A} [hE : En P f] (hF : DoesC P f g cs t l res hp1) (hbx : ∀ (j : Nat) (k : IntKind) (n : Int), cs[j]? = some (k, n) → bx[j]? = some (.int k n))
    (hx : St.evo ⟨tm, hp⟩ x = some (.ref r g0) := by rfl) (hr : hp[r]? = some (.row t g0 l) := by rfl) (hy : St.evo ⟨tm, hp⟩ y = some (.clo g r2 0) := by rfl) (hr2 : hp[r2]? = some (.box tb bx) := by rfl)
    (hrow : rowsOnly hp1 := by simp [rowsOnly]) (hg : gone hp [some r] ++ hp1 = hp2 := by rfl) (hlen : hp.length = n := by rfl) (hsh : shift n res = res' := by rfl) : Stp P (.call { callee := .value (.func f), args := #[x, y], argTypes := ts }) d ⟨tm, hp⟩ (St.put ⟨tm, hp2⟩ d res') :=
  fun o ho hd _ _ hN => op_callc ho hE.h (evo_ev hx) hr (evo_ev hy) hr2 hbx hF hrow (by
    rw [hg, hlen, hsh]
    exact hd ▸ hN)
theorem o_callq {f : FuncId} {xs : Array Operand} {ts : Array TypeId} {ty : TypeId} {pos : String} {af : Array Edge} {ops : Array Oper} {lo : List Oper} {K : Exit → St → Prop} {ys : List A} {res : A} {Q : World → Prop} {w1 : World} {L : Nat → Prop} {bb : Nat} {tm tm' : List A} {hp : List Ob} [hE : En P f] (hF : DoesQ P f Q ys res []) (hC : C.w0 = ⟨w1, L⟩) (hb1 : bb < w1.heap.size) (hnl : ¬ L bb) (hQ : ∀ w : World, w.heap[bb]? = w1.heap[bb]? → Q w)
    (ha : argl ⟨tm, hp⟩ xs.toList = some ys := by rfl) (hns : nosl2 res = true := by rfl) (hsh : shift hp.length res = res := by rfl) (h1 : NL (St.put ⟨tm, hp⟩ d res).tm tm' := by repeat (first | exact NL.nil | apply NL.cons)) (h : OpsS P C ops lo ⟨tm', hp⟩ K) :
    OpsS P C ops ({ dst := d, op := .call { callee := .value (.func f), args := xs, argTypes := ts }, type := ty, pos := pos, after := af, guard := none } :: lo) ⟨tm, hp⟩ K :=
  OpsS.cons rfl (op_callq hC hb1 hnl hQ rfl hE.h ha hF hns (by rw [hsh]; cases d <;> (cases h1.eq; exact h)))
/-- a function value over a pointer to a box -/
theorem Stp.mkclo {g : FuncId} {x : Operand} {r i : Nat} {tb : TypeId} {bx : List A} (hx : st.evo x = some (.ptr r 0 0 i) := by rfl) (hr : st.hp[r]? = some (.box tb bx) := by rfl) : Stp P (.makeFunc (.func g) #[] #[x]) d st (st.put d (.clo g r i)) := by
  intro o ho hd C N hN
  subst hd
  refine OpS.val hN fun a w μ Z R => ?_
  have ex := R.ev x
  rw [evo_ev hx] at ex
  refine ⟨.func (.func g) #[] #[a.eval x], ?_, ?_⟩
  · simp [execOp, ho, Instr.makeFunc]
  · obtain ⟨h0, h1, h2, h3⟩ := ex
    exact ⟨_, rfl, h0, fun t cs h => by
      obtain ⟨_, q1, b, q2, q3⟩ := h2 t cs h
      exact ⟨q1, b, q2, q3⟩⟩
end
end Go.Vm
/- A machine of values: the greater of two numbers. -/
namespace Go.Vm
open Go.RowKit
section
variable {P : Program} {st : St} {d : Option Tmp}
theorem Stp.max {x y : Operand} {k : IntKind} {a b : Int} {ts : Array TypeId} (hx : st.evo x = some (.int k a) := by rfl) (hy : st.evo y = some (.int k b) := by rfl) :
    Stp P (.call { callee := .builtin .max, args := #[x, y], argTypes := ts }) d st (st.put d (.int k (if a < b then b else a))) := by
  intro o ho hd C N hN
  subst hd
  refine OpS.val hN fun a' w μ Z R => ?_
  have h1 := R.ev x
  have h2 := R.ev y
  rw [evo_ev hx] at h1
  rw [evo_ev hy] at h2
  have h1 := h1.int
  have h2 := h2.int
  refine ⟨_, ?_, UR.of_int _ _⟩
  simp [execOp, ho, resolve, invoke, builtin, h1, h2, Builtin.max_, Builtin.max2]
  try (split <;> rfl)
end
end Go.Vm
/- A machine of values: a scope through which the run goes without a goto; labels. -/
namespace Go.Vm
open Go.RowKit
section
variable {P : Program} {C : Ctx} {c : Code} {st : St} {K : Exit → St → Prop}
theorem go_scope (h : CodeS P C c st (fun e st' => match e with | .ret => K .ret st' | .normal => K .normal st' | _ => False)) : CodeS P C (.scope c) st K := by
  intro a w R
  refine wp_scope_straight (Code.wp_mono ?_ (h a w R))
  rintro e a' w' ⟨st', hk, R'⟩
  cases e with
  | ret => exact ⟨st', hk, R'⟩
  | normal => exact ⟨st', hk, R'⟩
  | _ => exact hk.elim
theorem go_label {l : Nat} (h : K .normal st) : CodeS P C (.label l) st K := fun a w R => wp_label ⟨st, h, R⟩
end
end Go.Vm
/- A machine of values: walking on by itself in a drawn region with changes. -/
namespace Go.Vm
theorem dv {p q : Prop} (h : Hold q → p := by (intro h; (repeat (first | refine d_g (h := ?_) | refine d_step (s := (Stp.fu)) (h := ?_) | refine d_step2 (s := (Stp.fu)) (s2 := (Stp.fu)) (h := ?_) | refine d_step3 (s0 := (Stp.fu)) (s1 := (Stp.fu)) (s2 := (Stp.fu)) (h := ?_) | refine d_step4 (s0 := (Stp.fu)) (s1 := (Stp.fu)) (s2 := (Stp.fu)) (s3 := (Stp.fu)) (h := ?_) | refine d_step (s := Stp.move) (h := ?_) | refine d_step2 (s := Stp.move) (s2 := Stp.move) (h := ?_) | refine d_step3 (s0 := Stp.move) (s1 := Stp.move) (s2 := Stp.move) (h := ?_) | refine d_step4 (s0 := Stp.move) (s1 := Stp.move) (s2 := Stp.move) (s3 := Stp.move) (h := ?_) | refine d_step (s := Stp.assign) (h := ?_) | refine d_step2 (s := Stp.assign) (s2 := Stp.assign) (h := ?_) | refine d_step3 (s0 := Stp.assign) (s1 := Stp.assign) (s2 := Stp.assign) (h := ?_) | refine d_step4 (s0 := Stp.assign) (s1 := Stp.assign) (s2 := Stp.assign) (s3 := Stp.assign) (h := ?_) | refine d_step (s := Stp.len) (h := ?_) | refine d_step2 (s := Stp.len) (s2 := Stp.len) (h := ?_) | refine d_step3 (s0 := Stp.len) (s1 := Stp.len) (s2 := Stp.len) (h := ?_) | refine d_step4 (s0 := Stp.len) (s1 := Stp.len) (s2 := Stp.len) (s3 := Stp.len) (h := ?_) | refine d_step (s := Stp.bin) (h := ?_) | refine d_step2 (s := Stp.bin) (s2 := Stp.bin) (h := ?_) | refine d_step3 (s0 := Stp.bin) (s1 := Stp.bin) (s2 := Stp.bin) (h := ?_) | refine d_step4 (s0 := Stp.bin) (s1 := Stp.bin) (s2 := Stp.bin) (s3 := Stp.bin) (h := ?_) | refine d_step (s := Stp.loadB) (h := ?_) | refine d_step2 (s := Stp.loadB) (s2 := Stp.loadB) (h := ?_) | refine d_step3 (s0 := Stp.loadB) (s1 := Stp.loadB) (s2 := Stp.loadB) (h := ?_) | refine d_step4 (s0 := Stp.loadB) (s1 := Stp.loadB) (s2 := Stp.loadB) (s3 := Stp.loadB) (h := ?_) | refine d_step (s := Stp.load) (h := ?_) | refine d_step2 (s := Stp.load) (s2 := Stp.load) (h := ?_) | refine d_step3 (s0 := Stp.load) (s1 := Stp.load) (s2 := Stp.load) (h := ?_) | refine d_step4 (s0 := Stp.load) (s1 := Stp.load) (s2 := Stp.load) (s3 := Stp.load) (h := ?_) | refine d_step (s := Stp.field) (h := ?_) | refine d_step2 (s := Stp.field) (s2 := Stp.field) (h := ?_) | refine d_step3 (s0 := Stp.field) (s1 := Stp.field) (s2 := Stp.field) (h := ?_) | refine d_step4 (s0 := Stp.field) (s1 := Stp.field) (s2 := Stp.field) (s3 := Stp.field) (h := ?_) | refine d_step (s := Stp.extract) (h := ?_) | refine d_step2 (s := Stp.extract) (s2 := Stp.extract) (h := ?_) | refine d_step3 (s0 := Stp.extract) (s1 := Stp.extract) (s2 := Stp.extract) (h := ?_) | refine d_step4 (s0 := Stp.extract) (s1 := Stp.extract) (s2 := Stp.extract) (s3 := Stp.extract) (h := ?_) | refine d_step (s := Stp.nilCheck) (h := ?_) | refine d_step2 (s := Stp.nilCheck) (s2 := Stp.nilCheck) (h := ?_) | refine d_step3 (s0 := Stp.nilCheck) (s1 := Stp.nilCheck) (s2 := Stp.nilCheck) (h := ?_) | refine d_step4 (s0 := Stp.nilCheck) (s1 := Stp.nilCheck) (s2 := Stp.nilCheck) (s3 := Stp.nilCheck) (h := ?_) | refine d_step (s := Stp.fieldAddr) (h := ?_) | refine d_step2 (s := Stp.fieldAddr) (s2 := Stp.fieldAddr) (h := ?_) | refine d_step3 (s0 := Stp.fieldAddr) (s1 := Stp.fieldAddr) (s2 := Stp.fieldAddr) (h := ?_) | refine d_step4 (s0 := Stp.fieldAddr) (s1 := Stp.fieldAddr) (s2 := Stp.fieldAddr) (s3 := Stp.fieldAddr) (h := ?_) | refine d_step (s := Stp.pick) (h := ?_) | refine d_step2 (s := Stp.pick) (s2 := Stp.pick) (h := ?_) | refine d_step3 (s0 := Stp.pick) (s1 := Stp.pick) (s2 := Stp.pick) (h := ?_) | refine d_step4 (s0 := Stp.pick) (s1 := Stp.pick) (s2 := Stp.pick) (s3 := Stp.pick) (h := ?_) | refine d_step (s := Stp.un) (h := ?_) | refine d_step2 (s := Stp.un) (s2 := Stp.un) (h := ?_) | refine d_step3 (s0 := Stp.un) (s1 := Stp.un) (s2 := Stp.un) (h := ?_) | refine d_step4 (s0 := Stp.un) (s1 := Stp.un) (s2 := Stp.un) (s3 := Stp.un) (h := ?_) | refine d_step (s := Stp.conv) (h := ?_) | refine d_step2 (s := Stp.conv) (s2 := Stp.conv) (h := ?_) | refine d_step3 (s0 := Stp.conv) (s1 := Stp.conv) (s2 := Stp.conv) (h := ?_) | refine d_step4 (s0 := Stp.conv) (s1 := Stp.conv) (s2 := Stp.conv) (s3 := Stp.conv) (h := ?_) | refine d_step (s := Stp.build) (h := ?_) | refine d_step2 (s := Stp.build) (s2 := Stp.build) (h := ?_) | refine d_step3 (s0 := Stp.build) (s1 := Stp.build) (s2 := Stp.build) (h := ?_) | refine d_step4 (s0 := Stp.build) (s1 := Stp.build) (s2 := Stp.build) (s3 := Stp.build) (h := ?_) | refine d_step (s := Stp.buildp) (h := ?_) | refine d_step2 (s := Stp.buildp) (s2 := Stp.buildp) (h := ?_) | refine d_step3 (s0 := Stp.buildp) (s1 := Stp.buildp) (s2 := Stp.buildp) (h := ?_) | refine d_step4 (s0 := Stp.buildp) (s1 := Stp.buildp) (s2 := Stp.buildp) (s3 := Stp.buildp) (h := ?_) | refine d_step (s := Stp.eqb) (h := ?_) | refine d_step2 (s := Stp.eqb) (s2 := Stp.eqb) (h := ?_) | refine d_step3 (s0 := Stp.eqb) (s1 := Stp.eqb) (s2 := Stp.eqb) (h := ?_) | refine d_step4 (s0 := Stp.eqb) (s1 := Stp.eqb) (s2 := Stp.eqb) (s3 := Stp.eqb) (h := ?_) | refine d_step (s := Stp.neb) (h := ?_) | refine d_step2 (s := Stp.neb) (s2 := Stp.neb) (h := ?_) | refine d_step3 (s0 := Stp.neb) (s1 := Stp.neb) (s2 := Stp.neb) (h := ?_) | refine d_step4 (s0 := Stp.neb) (s1 := Stp.neb) (s2 := Stp.neb) (s3 := Stp.neb) (h := ?_) | refine d_nil ?_)); exact h.out)) (hq : q) : p := h ⟨hq⟩
end Go.Vm
/- A machine of values: bytes of a constant text: a new row, converted to its own type. -/
namespace Go.Vm
open Go.RowKit
set_option linter.unusedVariables false
set_option linter.unusedSimpArgs false
section
variable {P : Program} {C : Ctx} {Z0 : Nat → Prop} {w0 : Base} {hp hp' : List Ob} {μ μ' : Mu} {Z Z' : Nat → Prop} {w w' : World} {st : St} {a : Act} {o : Oper} {N : St → Prop}

/-- one more block that stays as it is -/
theorem HR.zadd (H : HR P Z0 w0 hp μ Z w) {b : Nat} (hb : b < w.heap.size) (hok : w0.ok b) (hn : ∀ q o, Live hp q → μ q ≠ Option.some (b, o)) :
    HR P Z0 w0 hp μ (fun k => Z k ∨ k = b) w ∧ Ext P hp μ Z w hp μ (fun k => Z k ∨ k = b) w := by
  have E : Ext P hp μ Z w hp μ (fun k => Z k ∨ k = b) w :=
    ⟨Nat.le_refl _, fun _ h => .inl h, fun _ _ => rfl, fun r t g l _ h => .inl ⟨l, h, rfl, rfl, fun b o cur _ e2 => ⟨cur, e2, rfl⟩⟩, fun r g l _ h => .inl h, fun r t cs _ h => ⟨cs, h, rfl, rfl⟩⟩
  refine ⟨⟨H.below, fun k h => .inl (H.z0 k h), ?_, fun r o h => (H.ob r o h).ext E rfl (fun _ _ _ => rfl), ?_, H.inj⟩, E⟩
  · rintro k (h | rfl)
    · exact H.zlt k h
    · exact ⟨hb, .inr hok⟩
  · intro r k o hl e
    have := H.own r k o hl e
    exact ⟨this.1, this.2.1, fun h => h.elim this.2.2 (fun h => hn r o hl (h ▸ e))⟩

theorem op_convB {t e : TypeId} {x : Operand} {r g : Nat} {te : TypeId} {l : List (List A)} (ho : o.op = .convert t t x) (ht : P.underlying t = some (.slice e)) (he : P.underlying e = some (.int .u8)) (hx : st.ev x = .ref r g) (hr : st.hp[r]? = some (.row te g l)) (hl : l ≠ [])
    (h : N (St.put ⟨st.tm, st.hp.set r .dead⟩ o.dst (.sl l))) : OpS P C o st N :=
  OpS.blk h fun a w μ Z R => by
    have hlive : Live st.hp r := .inl ⟨te, g, l, hr⟩
    have hlt : r < st.hp.length := (List.getElem?_eq_some_iff.1 hr).1
    have h1 := R.ev x
    rw [hx] at h1
    have hO := R.hr.ob r _ hr
    obtain ⟨c, hc, h2⟩ := (h1.2.1 te g l hr).2 rfl
    have hll : 0 < l.length := List.length_pos_iff.2 hl
    rcases h2 with ⟨rfl, _⟩ | ⟨b, o2, sz, cur, hm, hsz, hv, hb, hcap⟩
    · omega
    rw [Nat.zero_mul, Nat.add_zero] at hv
    have hown := R.hr.own r b o2 hlive hm
    obtain ⟨sz', hsz', hlen, hO⟩ := hO
    rw [hsz] at hsz'
    obtain rfl := Option.some.inj hsz'
    simp only [hm] at hO
    obtain ⟨cur', hb', hlay, hsize⟩ := hO
    rw [hb] at hb'
    obtain rfl : cur = cur' := by
      have := Option.some.inj hb'
      injection this
    obtain ⟨wf, hwf⟩ : ∃ wf, wf = w.freeze ⟨b, cur.size, none⟩ 1 := ⟨_, rfl⟩
    have hheap : wf.heap = w.heap.modify b (fun | .cells c elem (lo, hi) => .cells c elem (if lo == hi then (cur.size, cur.size + 1) else (min lo cur.size, max hi (cur.size + 1))) | o => o) := by
      rw [hwf, World.freeze, if_neg (by decide)]
      rfl
    have hself : wf.heap[b]? = some (.cells cur te (cur.size, cur.size + 1)) := by
      rw [hheap, Array.getElem?_modify, if_pos rfl, hb]
      rfl
    have hother : ∀ k, k ≠ b → wf.heap[k]? = w.heap[k]? := fun k hk => by
      rw [hheap, Array.getElem?_modify, if_neg (Ne.symm hk)]
    have hsame : wf.os = w.os ∧ wf.tape = w.tape ∧ wf.output = w.output ∧ wf.heap.size = w.heap.size := by
      refine ⟨?_, ?_, ?_, ?_⟩
      · rw [hwf, World.freeze, if_neg (by decide)]
      · rw [hwf, World.freeze, if_neg (by decide)]
      · rw [hwf, World.freeze, if_neg (by decide)]
      · rw [hheap, Array.size_modify]
    obtain ⟨H1, E1⟩ := R.hr.upd (o' := .dead) (m' := none) (w' := wf) hlive (R.hr.below.one hown.1 hsame.1 hsame.2.1 hsame.2.2.1 (Nat.le_of_eq hsame.2.2.2.symm) hother) (Nat.le_of_eq hsame.2.2.2.symm)
      (fun k hk hne => hother k (fun e => hne o2 (e ▸ hm))) (fun b o e => by cases e) (fun t g l e => by cases e) (fun g l e => by cases e) (fun t cs e => by cases e) (fun _ => trivial)
    obtain ⟨H2, E2⟩ := H1.zadd (b := b) (by rw [hsame.2.2.2]; exact hown.2.1) hown.1 (fun q o hlq e => by
      by_cases e' : q = r
      · subst e'
        have : ¬ Live (st.hp.set q .dead) q := by rintro (⟨_, _, _, h⟩ | ⟨_, _, h⟩) <;> simp [hlt] at h
        exact this hlq
      · simp only [if_neg e'] at e
        exact e' (R.hr.inj q r b o o2 (hlq.of_set e') hlive e hm))
    refine ⟨_, wf, _, _, .inl ?_, H2, E1.trans E2, UR.of_CR (CR.of_IV ?_) (v := .slice (some ⟨b, o2, none⟩) l.length c)⟩
    · have hshape : w.shape? b = some (te, cur.size) := by unfold World.shape?; rw [hb]
      simp [execOp, ho, hv, convert, run_underlying ht, run_underlying he, markStringish, hshape, ← hwf]
    · refine IV.of_lay (.inr rfl) hself hc ⟨hlay.len, fun i cs j x hi hj => ?_⟩
      obtain ⟨u, q1, q2⟩ := hlay.at_ i cs j x hi hj
      exact ⟨u, q1, (q2.mono (fun _ h => h) (E1.zh)).mono (fun _ h => .inl h) (fun _ _ => rfl)⟩
theorem Stp.convB {t e : TypeId} {x : Operand} {r g : Nat} {te : TypeId} {l : List (List A)} {d : Option Tmp} [ht : SlT P t e] [he : IntT P e .u8] (hx : st.evo x = some (.ref r g) := by rfl) (hr : st.hp[r]? = some (.row te g l) := by rfl) (hl : l ≠ [] := by simp) :
    Stp P (.convert t t x) d st (St.put ⟨st.tm, st.hp.set r .dead⟩ d (.sl l)) :=
  fun o ho hd _ _ hN => op_convB ho ht.h he.h (evo_ev hx) hr hl (hd ▸ hN)
end
end Go.Vm
/- A machine of values: walking on by itself, quick: each operation by its own word. -/
namespace Go.Vm
open Go.RowKit
section
variable {P : Program} {C : Ctx} {st : St} {K : Exit → St → Prop} {c c' : Code} {ops : Array Oper} {l : List Oper}
theorem z_step {op : Op} {d : Option Tmp} {ty : TypeId} {pos : String} {af : Array Edge} {tm tm' : List A} {hp : List Ob} {X : A} (s : Stp P op d ⟨tm, hp⟩ (St.put ⟨tm, hp⟩ d X)) (h1 : (St.put ⟨tm, hp⟩ d X).tm = tm') (h : OpsS P C ops l ⟨tm', hp⟩ K) :
    OpsS P C ops ({ dst := d, op := op, type := ty, pos := pos, after := af, guard := none } :: l) ⟨tm, hp⟩ K :=
  OpsS.cons rfl (s _ rfl rfl C _ (by cases d <;> (cases h1; exact h)))
theorem z_stepH {op : Op} {d : Option Tmp} {ty : TypeId} {pos : String} {af : Array Edge} {tm tm' : List A} {hp hp2 hp' : List Ob} {X : A} (s : Stp P op d ⟨tm, hp⟩ (St.put ⟨tm, hp2⟩ d X)) (h1 : (St.put ⟨tm, hp2⟩ d X).tm = tm') (h2 : hp2 = hp') (h : OpsS P C ops l ⟨tm', hp'⟩ K) :
    OpsS P C ops ({ dst := d, op := op, type := ty, pos := pos, after := af, guard := none } :: l) ⟨tm, hp⟩ K :=
  OpsS.cons rfl (s _ rfl rfl C _ (by cases h2; cases d <;> (cases h1; exact h)))
theorem z_g1 {op : Op} {d : Option Tmp} {ty : TypeId} {pos : String} {af : Array Edge} {j : Nat} {t : Tmp} {want : Bool} {g : Oper} (hj : ops[j]? = some g) (hd : g.dst = some t) (hv : St.evo st (.tmp t) = some (.bool want))
    (h : OpsS P C ops ({ dst := d, op := op, type := ty, pos := pos, after := af, guard := none } :: l) st K) : OpsS P C ops ({ dst := d, op := op, type := ty, pos := pos, after := af, guard := some (j, want) } :: l) st K := o_g1 hj hd hv h
theorem NL.of {α : Type} : ∀ {l l' : List α}, l = l' → NL l l'
  | [], _, rfl => .nil
  | _ :: _, _, rfl => .cons (NL.of rfl)
theorem z_g0 {op : Op} {d : Option Tmp} {ty : TypeId} {pos : String} {af : Array Edge} {j : Nat} {t : Tmp} {want b : Bool} {g : Oper} {tm tm' : List A} {hp : List Ob} (hj : ops[j]? = some g) (hd : g.dst = some t) (hv : St.evo ⟨tm, hp⟩ (.tmp t) = some (.bool b)) (hw : (b != want) = true)
    (h1 : (St.put ⟨tm, hp⟩ d (.tup [])).tm = tm') (h : OpsS P C ops l ⟨tm', hp⟩ K) : OpsS P C ops ({ dst := d, op := op, type := ty, pos := pos, after := af, guard := some (j, want) } :: l) ⟨tm, hp⟩ K := o_g0 hj hd hv hw (NL.of h1) h
theorem z_gs {op : Op} {d : Option Tmp} {ty : TypeId} {pos : String} {af : Array Edge} {j : Nat} {t : Tmp} {want : Bool} {g : Oper} {tm tm' : List A} {hp : List Ob} (hj : ops[j]? = some g) (hd : g.dst = some t) (hv : St.evo ⟨tm, hp⟩ (.tmp t) = some (.tup []))
    (h1 : (St.put ⟨tm, hp⟩ d (.tup [])).tm = tm') (h : OpsS P C ops l ⟨tm', hp⟩ K) : OpsS P C ops ({ dst := d, op := op, type := ty, pos := pos, after := af, guard := some (j, want) } :: l) ⟨tm, hp⟩ K := o_gs hj hd hv (NL.of h1) h
theorem z_t {x : Operand} {b : Bool} (hc : st.evo x = some (.bool b)) (hb : b = true) (h : CodeS P C c st K) : CodeS P C (.cond x c c') st K := go_t h hc hb
theorem z_f {x : Operand} {b : Bool} (hc : st.evo x = some (.bool b)) (hb : b = false) (h : CodeS P C c' st K) : CodeS P C (.cond x c c') st K := go_f h hc hb
/-- a function's slots when it begins -/
theorem z_tm {l : List A} {n : Nat} {x : A} {tm' : List A} {hp : List Ob} (h1 : l ++ List.replicate n x = tm') (h : CodeS P C c ⟨tm', hp⟩ K) : CodeS P C c ⟨l ++ List.replicate n x, hp⟩ K := by subst h1; exact h
variable {ol : List Oper} {R : List (List Nat)} {Hs : List (List Ob)} {eff : List Bool} {N : List A → Prop} {os : List Oper}
theorem z_d0 {op : Op} {d : Option Tmp} {ty : TypeId} {pos : String} {af : Array Edge} {i n : Nat} {tm tm' : List A} {hp : List Ob} {X : A} (s : Stp P op d ⟨maskFrom (looksOf ol i) 0 tm, hp⟩ (St.put ⟨maskFrom (looksOf ol i) 0 tm, hp⟩ d X)) (h1 : (St.put ⟨tm, []⟩ d X).tm = tm')
    (h : DR P ol (List.replicate n [0]) [hp] (List.replicate n false) N (i + 1) os tm') : DR P ol (List.replicate n [0]) [hp] (List.replicate n false) N i ({ dst := d, op := op, type := ty, pos := pos, after := af, guard := none } :: os) tm := d_step0 s (NL.of h1) h
theorem z_d {op : Op} {d : Option Tmp} {ty : TypeId} {pos : String} {af : Array Edge} {i k : Nat} {tm tm' : List A} {hp : List Ob} {X : A} (hR : R.getD i [] = [k]) (hH : Hs[k]? = some hp) (he : eff.getD i false = false)
    (s : Stp P op d ⟨maskFrom (looksOf ol i) 0 tm, hp⟩ (St.put ⟨maskFrom (looksOf ol i) 0 tm, hp⟩ d X)) (h1 : (St.put ⟨tm, []⟩ d X).tm = tm') (h : DR P ol R Hs eff N (i + 1) os tm') :
    DR P ol R Hs eff N i ({ dst := d, op := op, type := ty, pos := pos, after := af, guard := none } :: os) tm := d_step hR hH he s (NL.of h1) h
theorem z_d2 {op : Op} {d : Option Tmp} {ty : TypeId} {pos : String} {af : Array Edge} {i k : Nat} {tm tm' : List A} {hp hp2 : List Ob} {X : A} (hR : R.getD i [] = [k, k + 1]) (hH : Hs[k]? = some hp) (hH2 : Hs[k + 1]? = some hp2) (he : eff.getD i false = false)
    (s : Stp P op d ⟨maskFrom (looksOf ol i) 0 tm, hp⟩ (St.put ⟨maskFrom (looksOf ol i) 0 tm, hp⟩ d X)) (s2 : Stp P op d ⟨maskFrom (looksOf ol i) 0 tm, hp2⟩ (St.put ⟨maskFrom (looksOf ol i) 0 tm, hp2⟩ d X)) (h1 : (St.put ⟨tm, []⟩ d X).tm = tm') (h : DR P ol R Hs eff N (i + 1) os tm') :
    DR P ol R Hs eff N i ({ dst := d, op := op, type := ty, pos := pos, after := af, guard := none } :: os) tm := d_step2 hR hH hH2 he s s2 (NL.of h1) h
theorem z_d3 {op : Op} {d : Option Tmp} {ty : TypeId} {pos : String} {af : Array Edge} {i k : Nat} {tm tm' : List A} {hp0 hp1 hp2 : List Ob} {X : A} (hR : R.getD i [] = [k, k + 1, k + 2]) (hH0 : Hs[k]? = some hp0) (hH1 : Hs[k + 1]? = some hp1) (hH2 : Hs[k + 2]? = some hp2) (he : eff.getD i false = false)
    (s0 : Stp P op d ⟨maskFrom (looksOf ol i) 0 tm, hp0⟩ (St.put ⟨maskFrom (looksOf ol i) 0 tm, hp0⟩ d X)) (s1 : Stp P op d ⟨maskFrom (looksOf ol i) 0 tm, hp1⟩ (St.put ⟨maskFrom (looksOf ol i) 0 tm, hp1⟩ d X)) (s2 : Stp P op d ⟨maskFrom (looksOf ol i) 0 tm, hp2⟩ (St.put ⟨maskFrom (looksOf ol i) 0 tm, hp2⟩ d X)) (h1 : (St.put ⟨tm, []⟩ d X).tm = tm') (h : DR P ol R Hs eff N (i + 1) os tm') :
    DR P ol R Hs eff N i ({ dst := d, op := op, type := ty, pos := pos, after := af, guard := none } :: os) tm := d_step3 hR hH0 hH1 hH2 he s0 s1 s2 (NL.of h1) h
theorem z_dH {op : Op} {d : Option Tmp} {ty : TypeId} {pos : String} {af : Array Edge} {i k : Nat} {tm tm' : List A} {hp hp2 hp' : List Ob} {X : A} (hR : R.getD i [] = [k]) (hH : Hs[k]? = some hp) (hH2 : Hs[k + 1]? = some hp') (he : eff.getD i false = true)
    (s : Stp P op d ⟨maskFrom (looksOf ol i) 0 tm, hp⟩ (St.put ⟨maskFrom (looksOf ol i) 0 tm, hp2⟩ d X)) (h2 : hp2 = hp') (h1 : (St.put ⟨tm, []⟩ d X).tm = tm') (h : DR P ol R Hs eff N (i + 1) os tm') :
    DR P ol R Hs eff N i ({ dst := d, op := op, type := ty, pos := pos, after := af, guard := none } :: os) tm := d_stepH hR hH hH2 he s h2 (NL.of h1) h
theorem z_dg {op : Op} {d : Option Tmp} {ty : TypeId} {pos : String} {af : Array Edge} {i j : Nat} {t : Tmp} {want : Bool} {tm : List A} (hd : dstOf ol j = some t) (hv : (maskFrom (looksOf ol i) 0 tm).getD t .undef = .bool want)
    (h : DR P ol R Hs eff N i ({ dst := d, op := op, type := ty, pos := pos, after := af, guard := none } :: os) tm) : DR P ol R Hs eff N i ({ dst := d, op := op, type := ty, pos := pos, after := af, guard := some (j, want) } :: os) tm := d_g hd hv h
theorem z_dn {op : Op} {d : Option Tmp} {ty : TypeId} {pos : String} {af : Array Edge} {i j n : Nat} {t : Tmp} {want : Bool} {tm tm' : List A} {hp : List Ob} (hd : dstOf ol j = some t) (hv : (maskFrom (looksOf ol i) 0 tm).getD t .undef = .bool (!want) ∨ (maskFrom (looksOf ol i) 0 tm).getD t .undef = .tup [])
    (h1 : (St.put ⟨tm, []⟩ d (.tup [])).tm = tm') (h : DR P ol (List.replicate n [0]) [hp] (List.replicate n false) N (i + 1) os tm') : DR P ol (List.replicate n [0]) [hp] (List.replicate n false) N i ({ dst := d, op := op, type := ty, pos := pos, after := af, guard := some (j, want) } :: os) tm := d_n0 hd hv (NL.of h1) h
end
theorem zx {p q : Prop} (h : Hold q → p := by (intro h; (repeat (first | (apply z_tm; focus (simp only [List.length_cons, List.length_nil, Nat.reduceAdd, Nat.reduceSub, Nat.zero_add, List.replicate_succ, List.replicate_zero, List.cons_append, List.nil_append]; first | done | exact rfl)) | refine go_seq ?_ | refine go_reg ?_ | refine go_blk ?_ | (apply z_step; (first | (apply Stp.move; exact rfl) | (apply Stp.assign; exact rfl) | (apply Stp.bin; exact rfl; exact rfl; exact rfl; (first | exact True.intro | trivial)) | (apply Stp.len; exact rfl; exact rfl) | (apply Stp.loadB; exact rfl; exact rfl; exact rfl) | (apply Stp.load; exact rfl; exact rfl; exact rfl) | (apply Stp.field; exact rfl; exact rfl) | (apply Stp.extract; exact rfl; exact rfl) | (apply Stp.nilCheck; exact rfl; exact rfl; exact rfl) | (apply Stp.fieldAddr; exact rfl; exact rfl) | (apply Stp.pick; exact rfl; exact rfl; exact rfl) | (apply Stp.un; exact rfl; exact rfl) | (apply Stp.conv; exact rfl) | (apply Stp.eqb; exact rfl; exact rfl) | (apply Stp.neb; exact rfl; exact rfl) | (apply Stp.min; exact rfl; exact rfl) | (apply Stp.max; exact rfl; exact rfl) | (apply Stp.buildp; (repeat (first | (apply Parts.cons; exact rfl) | apply Parts.nil)); (focus (simp only [fillA, cellsA, splice, List.take_succ_cons, List.take_zero, List.drop_succ_cons, List.drop_zero, List.cons_append, List.nil_append, List.append_nil, List.length_cons, List.length_nil, Nat.zero_add, Nat.add_zero, Nat.reduceAdd, Nat.reduceLeDiff, and_self, if_true, reduceIte, List.getElem?_cons_zero, List.getElem?_cons_succ]; first | done | exact rfl))) | (apply Stp.build; exact rfl) | (apply Stp.fu; (repeat (first | (apply Args.plain; exact rfl; exact rfl) | apply Args.nil)); infer_instance; exact rfl)); (focus (dsimp only [St.put, List.set_cons_succ, List.set_cons_zero]; first | done | exact rfl))) | (apply z_stepH; (first | (apply Stp.box; exact rfl; exact rfl; (focus (first | (simp only [List.length_cons, List.length_nil, Nat.zero_add, Nat.reduceAdd]; first | done | exact rfl) | exact rfl))) | (apply Stp.alloc; (focus (first | (simp only [List.length_cons, List.length_nil, Nat.zero_add, Nat.reduceAdd]; first | done | exact rfl) | exact rfl))) | (apply Stp.store; exact rfl; exact rfl; (focus (first | (simp only [storeN, cellsA, List.length_cons, List.length_nil, Nat.zero_add, Nat.reduceAdd, if_true, ite_true, reduceIte, List.getElem?_cons_zero, List.getElem?_cons_succ, frzs, frz, List.set_cons_zero, List.set_cons_succ, splice, List.take_succ_cons, List.take_zero, List.drop_succ_cons, List.drop_zero, List.nil_append, List.cons_append]; first | done | exact rfl) | exact rfl))) | (apply Stp.litp; (repeat (first | (apply Els.cons; exact rfl; exact rfl) | apply Els.nil)); (focus (first | (simp only [List.length_cons, List.length_nil, Nat.zero_add, Nat.reduceAdd]; first | done | exact rfl) | exact rfl)); exact rfl; decide) | (apply Stp.convB; exact rfl; exact rfl; simp) | (apply Stp.lit; exact rfl; (focus (first | (simp only [frzE, frzs, frz, frz1, frzl, List.map_cons, List.map_nil, St.ev, List.getD_cons_zero, List.getD_cons_succ, List.getElem?_cons_zero, List.getElem?_cons_succ, if_true, ite_true, reduceIte, List.set_cons_zero, List.set_cons_succ]; first | done | exact rfl) | exact rfl)); (focus (first | (simp only [List.length_cons, List.length_nil, Nat.zero_add, Nat.reduceAdd]; first | done | exact rfl) | exact rfl)); exact rfl; decide; decide; (focus simp))); (focus (dsimp only [St.put, List.set_cons_succ, List.set_cons_zero]; first | done | exact rfl)); (focus (first | (simp only [St.put, List.nil_append, List.cons_append, List.set_cons_zero, List.set_cons_succ, List.getElem?_cons_zero, List.getElem?_cons_succ, splice, List.take_succ_cons, List.take_zero, List.drop_succ_cons, List.drop_zero, List.length_cons, List.length_nil, Nat.reduceAdd, if_true, ite_true, reduceIte, Nat.zero_add]; first | done | exact rfl) | exact rfl))) | (apply z_g1; exact rfl; exact rfl; exact rfl) | (apply z_g0; exact rfl; exact rfl; exact rfl; exact rfl; (focus (dsimp only [St.put, List.set_cons_succ, List.set_cons_zero]; first | done | exact rfl))) | (apply z_gs; exact rfl; exact rfl; exact rfl; (focus (dsimp only [St.put, List.set_cons_succ, List.set_cons_zero]; first | done | exact rfl))) | refine o_nil rfl ?_ | refine k_seq ?_ | refine k_blk ?_ | refine k_ret ?_ | refine k_bret ?_ | refine k_exit ?_ | refine k_bexit ?_ | refine k_bexit' (h := ?_) | refine CodeS.skip ?_ | refine CodeS.exit ?_ | refine CodeS.ret ?_ | (apply z_t; exact rfl; exact rfl) | (apply z_f; exact rfl; exact rfl))); exact h.out)) (hq : q) : p := h ⟨hq⟩
theorem zd {p q : Prop} (h : Hold q → p := by (intro h; (repeat (first | (apply z_d0; (first | (apply Stp.move; exact rfl) | (apply Stp.assign; exact rfl) | (apply Stp.bin; exact rfl; exact rfl; exact rfl; (first | exact True.intro | trivial)) | (apply Stp.len; exact rfl; exact rfl) | (apply Stp.loadB; exact rfl; exact rfl; exact rfl) | (apply Stp.load; exact rfl; exact rfl; exact rfl) | (apply Stp.field; exact rfl; exact rfl) | (apply Stp.extract; exact rfl; exact rfl) | (apply Stp.nilCheck; exact rfl; exact rfl; exact rfl) | (apply Stp.fieldAddr; exact rfl; exact rfl) | (apply Stp.pick; exact rfl; exact rfl; exact rfl) | (apply Stp.un; exact rfl; exact rfl) | (apply Stp.conv; exact rfl) | (apply Stp.eqb; exact rfl; exact rfl) | (apply Stp.neb; exact rfl; exact rfl) | (apply Stp.min; exact rfl; exact rfl) | (apply Stp.max; exact rfl; exact rfl) | (apply Stp.buildp; (repeat (first | (apply Parts.cons; exact rfl) | apply Parts.nil)); (focus (simp only [fillA, cellsA, splice, List.take_succ_cons, List.take_zero, List.drop_succ_cons, List.drop_zero, List.cons_append, List.nil_append, List.append_nil, List.length_cons, List.length_nil, Nat.zero_add, Nat.add_zero, Nat.reduceAdd, Nat.reduceLeDiff, and_self, if_true, reduceIte, List.getElem?_cons_zero, List.getElem?_cons_succ]; first | done | exact rfl))) | (apply Stp.build; exact rfl) | (apply Stp.fu; (repeat (first | (apply Args.plain; exact rfl; exact rfl) | apply Args.nil)); infer_instance; exact rfl)); (focus (dsimp only [St.put, List.set_cons_succ, List.set_cons_zero]; first | done | exact rfl))) | (apply z_d; exact rfl; exact rfl; exact rfl; (first | (apply Stp.move; exact rfl) | (apply Stp.assign; exact rfl) | (apply Stp.bin; exact rfl; exact rfl; exact rfl; (first | exact True.intro | trivial)) | (apply Stp.len; exact rfl; exact rfl) | (apply Stp.loadB; exact rfl; exact rfl; exact rfl) | (apply Stp.load; exact rfl; exact rfl; exact rfl) | (apply Stp.field; exact rfl; exact rfl) | (apply Stp.extract; exact rfl; exact rfl) | (apply Stp.nilCheck; exact rfl; exact rfl; exact rfl) | (apply Stp.fieldAddr; exact rfl; exact rfl) | (apply Stp.pick; exact rfl; exact rfl; exact rfl) | (apply Stp.un; exact rfl; exact rfl) | (apply Stp.conv; exact rfl) | (apply Stp.eqb; exact rfl; exact rfl) | (apply Stp.neb; exact rfl; exact rfl) | (apply Stp.min; exact rfl; exact rfl) | (apply Stp.max; exact rfl; exact rfl) | (apply Stp.buildp; (repeat (first | (apply Parts.cons; exact rfl) | apply Parts.nil)); (focus (simp only [fillA, cellsA, splice, List.take_succ_cons, List.take_zero, List.drop_succ_cons, List.drop_zero, List.cons_append, List.nil_append, List.append_nil, List.length_cons, List.length_nil, Nat.zero_add, Nat.add_zero, Nat.reduceAdd, Nat.reduceLeDiff, and_self, if_true, reduceIte, List.getElem?_cons_zero, List.getElem?_cons_succ]; first | done | exact rfl))) | (apply Stp.build; exact rfl) | (apply Stp.fu; (repeat (first | (apply Args.plain; exact rfl; exact rfl) | apply Args.nil)); infer_instance; exact rfl)); (focus (dsimp only [St.put, List.set_cons_succ, List.set_cons_zero]; first | done | exact rfl))) | (apply z_d2; exact rfl; exact rfl; exact rfl; exact rfl; (first | (apply Stp.move; exact rfl) | (apply Stp.assign; exact rfl) | (apply Stp.bin; exact rfl; exact rfl; exact rfl; (first | exact True.intro | trivial)) | (apply Stp.len; exact rfl; exact rfl) | (apply Stp.loadB; exact rfl; exact rfl; exact rfl) | (apply Stp.load; exact rfl; exact rfl; exact rfl) | (apply Stp.field; exact rfl; exact rfl) | (apply Stp.extract; exact rfl; exact rfl) | (apply Stp.nilCheck; exact rfl; exact rfl; exact rfl) | (apply Stp.fieldAddr; exact rfl; exact rfl) | (apply Stp.pick; exact rfl; exact rfl; exact rfl) | (apply Stp.un; exact rfl; exact rfl) | (apply Stp.conv; exact rfl) | (apply Stp.eqb; exact rfl; exact rfl) | (apply Stp.neb; exact rfl; exact rfl) | (apply Stp.min; exact rfl; exact rfl) | (apply Stp.max; exact rfl; exact rfl) | (apply Stp.buildp; (repeat (first | (apply Parts.cons; exact rfl) | apply Parts.nil)); (focus (simp only [fillA, cellsA, splice, List.take_succ_cons, List.take_zero, List.drop_succ_cons, List.drop_zero, List.cons_append, List.nil_append, List.append_nil, List.length_cons, List.length_nil, Nat.zero_add, Nat.add_zero, Nat.reduceAdd, Nat.reduceLeDiff, and_self, if_true, reduceIte, List.getElem?_cons_zero, List.getElem?_cons_succ]; first | done | exact rfl))) | (apply Stp.build; exact rfl) | (apply Stp.fu; (repeat (first | (apply Args.plain; exact rfl; exact rfl) | apply Args.nil)); infer_instance; exact rfl)); (first | (apply Stp.move; exact rfl) | (apply Stp.assign; exact rfl) | (apply Stp.bin; exact rfl; exact rfl; exact rfl; (first | exact True.intro | trivial)) | (apply Stp.len; exact rfl; exact rfl) | (apply Stp.loadB; exact rfl; exact rfl; exact rfl) | (apply Stp.load; exact rfl; exact rfl; exact rfl) | (apply Stp.field; exact rfl; exact rfl) | (apply Stp.extract; exact rfl; exact rfl) | (apply Stp.nilCheck; exact rfl; exact rfl; exact rfl) | (apply Stp.fieldAddr; exact rfl; exact rfl) | (apply Stp.pick; exact rfl; exact rfl; exact rfl) | (apply Stp.un; exact rfl; exact rfl) | (apply Stp.conv; exact rfl) | (apply Stp.eqb; exact rfl; exact rfl) | (apply Stp.neb; exact rfl; exact rfl) | (apply Stp.min; exact rfl; exact rfl) | (apply Stp.max; exact rfl; exact rfl) | (apply Stp.buildp; (repeat (first | (apply Parts.cons; exact rfl) | apply Parts.nil)); (focus (simp only [fillA, cellsA, splice, List.take_succ_cons, List.take_zero, List.drop_succ_cons, List.drop_zero, List.cons_append, List.nil_append, List.append_nil, List.length_cons, List.length_nil, Nat.zero_add, Nat.add_zero, Nat.reduceAdd, Nat.reduceLeDiff, and_self, if_true, reduceIte, List.getElem?_cons_zero, List.getElem?_cons_succ]; first | done | exact rfl))) | (apply Stp.build; exact rfl) | (apply Stp.fu; (repeat (first | (apply Args.plain; exact rfl; exact rfl) | apply Args.nil)); infer_instance; exact rfl)); (focus (dsimp only [St.put, List.set_cons_succ, List.set_cons_zero]; first | done | exact rfl))) | (apply z_d3; exact rfl; exact rfl; exact rfl; exact rfl; exact rfl; (first | (apply Stp.move; exact rfl) | (apply Stp.assign; exact rfl) | (apply Stp.bin; exact rfl; exact rfl; exact rfl; (first | exact True.intro | trivial)) | (apply Stp.len; exact rfl; exact rfl) | (apply Stp.loadB; exact rfl; exact rfl; exact rfl) | (apply Stp.load; exact rfl; exact rfl; exact rfl) | (apply Stp.field; exact rfl; exact rfl) | (apply Stp.extract; exact rfl; exact rfl) | (apply Stp.nilCheck; exact rfl; exact rfl; exact rfl) | (apply Stp.fieldAddr; exact rfl; exact rfl) | (apply Stp.pick; exact rfl; exact rfl; exact rfl) | (apply Stp.un; exact rfl; exact rfl) | (apply Stp.conv; exact rfl) | (apply Stp.eqb; exact rfl; exact rfl) | (apply Stp.neb; exact rfl; exact rfl) | (apply Stp.min; exact rfl; exact rfl) | (apply Stp.max; exact rfl; exact rfl) | (apply Stp.buildp; (repeat (first | (apply Parts.cons; exact rfl) | apply Parts.nil)); (focus (simp only [fillA, cellsA, splice, List.take_succ_cons, List.take_zero, List.drop_succ_cons, List.drop_zero, List.cons_append, List.nil_append, List.append_nil, List.length_cons, List.length_nil, Nat.zero_add, Nat.add_zero, Nat.reduceAdd, Nat.reduceLeDiff, and_self, if_true, reduceIte, List.getElem?_cons_zero, List.getElem?_cons_succ]; first | done | exact rfl))) | (apply Stp.build; exact rfl) | (apply Stp.fu; (repeat (first | (apply Args.plain; exact rfl; exact rfl) | apply Args.nil)); infer_instance; exact rfl)); (first | (apply Stp.move; exact rfl) | (apply Stp.assign; exact rfl) | (apply Stp.bin; exact rfl; exact rfl; exact rfl; (first | exact True.intro | trivial)) | (apply Stp.len; exact rfl; exact rfl) | (apply Stp.loadB; exact rfl; exact rfl; exact rfl) | (apply Stp.load; exact rfl; exact rfl; exact rfl) | (apply Stp.field; exact rfl; exact rfl) | (apply Stp.extract; exact rfl; exact rfl) | (apply Stp.nilCheck; exact rfl; exact rfl; exact rfl) | (apply Stp.fieldAddr; exact rfl; exact rfl) | (apply Stp.pick; exact rfl; exact rfl; exact rfl) | (apply Stp.un; exact rfl; exact rfl) | (apply Stp.conv; exact rfl) | (apply Stp.eqb; exact rfl; exact rfl) | (apply Stp.neb; exact rfl; exact rfl) | (apply Stp.min; exact rfl; exact rfl) | (apply Stp.max; exact rfl; exact rfl) | (apply Stp.buildp; (repeat (first | (apply Parts.cons; exact rfl) | apply Parts.nil)); (focus (simp only [fillA, cellsA, splice, List.take_succ_cons, List.take_zero, List.drop_succ_cons, List.drop_zero, List.cons_append, List.nil_append, List.append_nil, List.length_cons, List.length_nil, Nat.zero_add, Nat.add_zero, Nat.reduceAdd, Nat.reduceLeDiff, and_self, if_true, reduceIte, List.getElem?_cons_zero, List.getElem?_cons_succ]; first | done | exact rfl))) | (apply Stp.build; exact rfl) | (apply Stp.fu; (repeat (first | (apply Args.plain; exact rfl; exact rfl) | apply Args.nil)); infer_instance; exact rfl)); (first | (apply Stp.move; exact rfl) | (apply Stp.assign; exact rfl) | (apply Stp.bin; exact rfl; exact rfl; exact rfl; (first | exact True.intro | trivial)) | (apply Stp.len; exact rfl; exact rfl) | (apply Stp.loadB; exact rfl; exact rfl; exact rfl) | (apply Stp.load; exact rfl; exact rfl; exact rfl) | (apply Stp.field; exact rfl; exact rfl) | (apply Stp.extract; exact rfl; exact rfl) | (apply Stp.nilCheck; exact rfl; exact rfl; exact rfl) | (apply Stp.fieldAddr; exact rfl; exact rfl) | (apply Stp.pick; exact rfl; exact rfl; exact rfl) | (apply Stp.un; exact rfl; exact rfl) | (apply Stp.conv; exact rfl) | (apply Stp.eqb; exact rfl; exact rfl) | (apply Stp.neb; exact rfl; exact rfl) | (apply Stp.min; exact rfl; exact rfl) | (apply Stp.max; exact rfl; exact rfl) | (apply Stp.buildp; (repeat (first | (apply Parts.cons; exact rfl) | apply Parts.nil)); (focus (simp only [fillA, cellsA, splice, List.take_succ_cons, List.take_zero, List.drop_succ_cons, List.drop_zero, List.cons_append, List.nil_append, List.append_nil, List.length_cons, List.length_nil, Nat.zero_add, Nat.add_zero, Nat.reduceAdd, Nat.reduceLeDiff, and_self, if_true, reduceIte, List.getElem?_cons_zero, List.getElem?_cons_succ]; first | done | exact rfl))) | (apply Stp.build; exact rfl) | (apply Stp.fu; (repeat (first | (apply Args.plain; exact rfl; exact rfl) | apply Args.nil)); infer_instance; exact rfl)); (focus (dsimp only [St.put, List.set_cons_succ, List.set_cons_zero]; first | done | exact rfl))) | (apply z_dg; exact rfl; exact rfl) | (apply z_dn; exact rfl; first | exact .inl rfl | exact .inr rfl; (focus (dsimp only [St.put, List.set_cons_succ, List.set_cons_zero]; first | done | exact rfl))) | refine d_nil ?_)); exact h.out)) (hq : q) : p := h ⟨hq⟩
end Go.Vm
/- What the program says of its types, for the walks. -/
namespace Go.Proofs.Ytekojicaeadepaa.Vm
open Go.Vm
set_option maxRecDepth 10000
instance : IntT Try.prog 3 .i64 := ⟨by kernel_rfl⟩
instance : Sz Try.prog 3 1 := ⟨by kernel_rfl⟩
instance : Ag Try.prog 3 false := ⟨by kernel_rfl⟩
instance : Zr Try.prog 3 ([.int .i64 0]) := ⟨by kernel_rfl⟩
instance : BoolT Try.prog 4 := ⟨by kernel_rfl⟩
instance : Sz Try.prog 4 1 := ⟨by kernel_rfl⟩
instance : Ag Try.prog 4 false := ⟨by kernel_rfl⟩
instance : Zr Try.prog 4 ([.bool false]) := ⟨by kernel_rfl⟩
instance : IntT Try.prog 5 .u8 := ⟨by kernel_rfl⟩
instance : Sz Try.prog 5 1 := ⟨by kernel_rfl⟩
instance : Ag Try.prog 5 false := ⟨by kernel_rfl⟩
instance : Zr Try.prog 5 ([.int .u8 0]) := ⟨by kernel_rfl⟩
instance : Sz Try.prog 23 10 := ⟨by kernel_rfl⟩
instance : Ag Try.prog 23 true := ⟨by kernel_rfl⟩
instance : Zr Try.prog 23 ([.int .i64 0, .int .i64 0, .int .i64 0, .int .i64 0, .int .i64 0, .int .i64 0, .int .i64 0, .int .i64 0, .int .i64 0, .int .i64 0]) := ⟨by kernel_rfl⟩
instance : Pl Try.prog 23 ([(0, 1), (1, 1), (2, 1), (3, 1), (4, 1), (5, 1), (6, 1), (7, 1), (8, 1), (9, 1)]) := ⟨by kernel_rfl⟩
instance : Fo Try.prog 23 0 0 := ⟨by kernel_rfl⟩
instance : Fo Try.prog 23 1 1 := ⟨by kernel_rfl⟩
instance : Fo Try.prog 23 2 2 := ⟨by kernel_rfl⟩
instance : Fo Try.prog 23 3 3 := ⟨by kernel_rfl⟩
instance : Fo Try.prog 23 4 4 := ⟨by kernel_rfl⟩
instance : Fo Try.prog 23 5 5 := ⟨by kernel_rfl⟩
instance : Fo Try.prog 23 6 6 := ⟨by kernel_rfl⟩
instance : Fo Try.prog 23 7 7 := ⟨by kernel_rfl⟩
instance : Fo Try.prog 23 8 8 := ⟨by kernel_rfl⟩
instance : Fo Try.prog 23 9 9 := ⟨by kernel_rfl⟩
instance : SlT Try.prog 24 5 := ⟨by kernel_rfl⟩
instance : EltI Try.prog 24 5 1 1 := ⟨elt_of (z := .int .u8 0) (by kernel_rfl) (by kernel_rfl) (by decide) (by rfl)⟩
instance : Sz Try.prog 24 1 := ⟨by kernel_rfl⟩
instance : Ag Try.prog 24 false := ⟨by kernel_rfl⟩
instance : Zr Try.prog 24 ([.nil]) := ⟨by kernel_rfl⟩
instance : IntT Try.prog 26 .u64 := ⟨by kernel_rfl⟩
instance : Sz Try.prog 26 1 := ⟨by kernel_rfl⟩
instance : Ag Try.prog 26 false := ⟨by kernel_rfl⟩
instance : Zr Try.prog 26 ([.int .u64 0]) := ⟨by kernel_rfl⟩
instance : Sz Try.prog 28 5 := ⟨by kernel_rfl⟩
instance : Ag Try.prog 28 true := ⟨by kernel_rfl⟩
instance : Zr Try.prog 28 ([.int .i64 0, .int .i64 0, .int .i64 0, .bool false, .nil]) := ⟨by kernel_rfl⟩
instance : Pl Try.prog 28 ([(0, 1), (1, 1), (2, 1), (3, 1), (4, 1)]) := ⟨by kernel_rfl⟩
instance : Fo Try.prog 28 0 0 := ⟨by kernel_rfl⟩
instance : Fo Try.prog 28 1 1 := ⟨by kernel_rfl⟩
instance : Fo Try.prog 28 2 2 := ⟨by kernel_rfl⟩
instance : Fo Try.prog 28 3 3 := ⟨by kernel_rfl⟩
instance : Fo Try.prog 28 4 4 := ⟨by kernel_rfl⟩
instance : IntT Try.prog 29 .i64 := ⟨by kernel_rfl⟩
instance : Sz Try.prog 29 1 := ⟨by kernel_rfl⟩
instance : Ag Try.prog 29 false := ⟨by kernel_rfl⟩
instance : Zr Try.prog 29 ([.int .i64 0]) := ⟨by kernel_rfl⟩
instance : Sz Try.prog 36 4 := ⟨by kernel_rfl⟩
instance : Ag Try.prog 36 true := ⟨by kernel_rfl⟩
instance : Zr Try.prog 36 ([.int .i64 0, .int .i64 0, .int .i64 0, .nil]) := ⟨by kernel_rfl⟩
instance : Pl Try.prog 36 ([(0, 1), (1, 1), (2, 1), (3, 1)]) := ⟨by kernel_rfl⟩
instance : Fo Try.prog 36 0 0 := ⟨by kernel_rfl⟩
instance : Fo Try.prog 36 1 1 := ⟨by kernel_rfl⟩
instance : Fo Try.prog 36 2 2 := ⟨by kernel_rfl⟩
instance : Fo Try.prog 36 3 3 := ⟨by kernel_rfl⟩
instance : SlT Try.prog 43 24 := ⟨by kernel_rfl⟩
instance : EltI Try.prog 43 24 1 24 := ⟨elt_of (z := .slice none 0 0) (by kernel_rfl) (by kernel_rfl) (by decide) (by rfl)⟩
instance : Sz Try.prog 43 1 := ⟨by kernel_rfl⟩
instance : Ag Try.prog 43 false := ⟨by kernel_rfl⟩
instance : Zr Try.prog 43 ([.nil]) := ⟨by kernel_rfl⟩
instance : IntT Try.prog 44 .u32 := ⟨by kernel_rfl⟩
instance : Sz Try.prog 44 1 := ⟨by kernel_rfl⟩
instance : Ag Try.prog 44 false := ⟨by kernel_rfl⟩
instance : Zr Try.prog 44 ([.int .u32 0]) := ⟨by kernel_rfl⟩
instance : SlT Try.prog 46 3 := ⟨by kernel_rfl⟩
instance : EltI Try.prog 46 3 1 8 := ⟨elt_of (z := .int .i64 0) (by kernel_rfl) (by kernel_rfl) (by decide) (by rfl)⟩
instance : Sz Try.prog 46 1 := ⟨by kernel_rfl⟩
instance : Ag Try.prog 46 false := ⟨by kernel_rfl⟩
instance : Zr Try.prog 46 ([.nil]) := ⟨by kernel_rfl⟩
instance : SlT Try.prog 47 28 := ⟨by kernel_rfl⟩
instance : EltI Try.prog 47 28 5 56 := ⟨elt_of (z := .agg #[.int .i64 0, .int .i64 0, .int .i64 0, .bool false, .slice none 0 0]) (by kernel_rfl) (by kernel_rfl) (by decide) (by rfl)⟩
instance : Sz Try.prog 47 1 := ⟨by kernel_rfl⟩
instance : Ag Try.prog 47 false := ⟨by kernel_rfl⟩
instance : Zr Try.prog 47 ([.nil]) := ⟨by kernel_rfl⟩
instance : Sz Try.prog 49 19 := ⟨by kernel_rfl⟩
instance : Ag Try.prog 49 true := ⟨by kernel_rfl⟩
instance : Zr Try.prog 49 ([.int .i64 0, .int .i64 0, .int .i64 0, .int .i64 0, .int .i64 0, .int .i64 0, .int .i64 0, .int .i64 0, .int .i64 0, .int .i64 0, .bool false, .int .i64 0, .int .i64 0, .int .i64 0, .int .i64 0, .int .i64 0, .int .i64 0, .nil, .nil]) := ⟨by kernel_rfl⟩
instance : Pl Try.prog 49 ([(0, 10), (10, 1), (11, 1), (12, 1), (13, 1), (14, 1), (15, 1), (16, 1), (17, 1), (18, 1)]) := ⟨by kernel_rfl⟩
instance : Fo Try.prog 49 0 0 := ⟨by kernel_rfl⟩
instance : Fo Try.prog 49 1 10 := ⟨by kernel_rfl⟩
instance : Fo Try.prog 49 2 11 := ⟨by kernel_rfl⟩
instance : Fo Try.prog 49 3 12 := ⟨by kernel_rfl⟩
instance : Fo Try.prog 49 4 13 := ⟨by kernel_rfl⟩
instance : Fo Try.prog 49 5 14 := ⟨by kernel_rfl⟩
instance : Fo Try.prog 49 6 15 := ⟨by kernel_rfl⟩
instance : Fo Try.prog 49 7 16 := ⟨by kernel_rfl⟩
instance : Fo Try.prog 49 8 17 := ⟨by kernel_rfl⟩
instance : Fo Try.prog 49 9 18 := ⟨by kernel_rfl⟩
instance : Sz Try.prog 55 2 := ⟨by kernel_rfl⟩
instance : Ag Try.prog 55 true := ⟨by kernel_rfl⟩
instance : Zr Try.prog 55 ([.int .i64 0, .int .u32 0]) := ⟨by kernel_rfl⟩
instance : Pl Try.prog 55 ([(0, 1), (1, 1)]) := ⟨by kernel_rfl⟩
instance : Fo Try.prog 55 0 0 := ⟨by kernel_rfl⟩
instance : Fo Try.prog 55 1 1 := ⟨by kernel_rfl⟩
instance : SlT Try.prog 62 67 := ⟨by kernel_rfl⟩
instance : EltI Try.prog 62 67 3 40 := ⟨elt_of (z := .agg #[.int .i64 0, .int .i64 0, .slice none 0 0]) (by kernel_rfl) (by kernel_rfl) (by decide) (by rfl)⟩
instance : Sz Try.prog 62 1 := ⟨by kernel_rfl⟩
instance : Ag Try.prog 62 false := ⟨by kernel_rfl⟩
instance : Zr Try.prog 62 ([.nil]) := ⟨by kernel_rfl⟩
instance : Sz Try.prog 67 3 := ⟨by kernel_rfl⟩
instance : Ag Try.prog 67 true := ⟨by kernel_rfl⟩
instance : Zr Try.prog 67 ([.int .i64 0, .int .i64 0, .nil]) := ⟨by kernel_rfl⟩
instance : Pl Try.prog 67 ([(0, 1), (1, 1), (2, 1)]) := ⟨by kernel_rfl⟩
instance : Fo Try.prog 67 0 0 := ⟨by kernel_rfl⟩
instance : Fo Try.prog 67 1 1 := ⟨by kernel_rfl⟩
instance : Fo Try.prog 67 2 2 := ⟨by kernel_rfl⟩
instance : SlT Try.prog 74 77 := ⟨by kernel_rfl⟩
instance : EltI Try.prog 74 77 4 48 := ⟨elt_of (z := .agg #[.int .i64 0, .slice none 0 0, .int .i64 0, .int .u32 0]) (by kernel_rfl) (by kernel_rfl) (by decide) (by rfl)⟩
instance : Sz Try.prog 74 1 := ⟨by kernel_rfl⟩
instance : Ag Try.prog 74 false := ⟨by kernel_rfl⟩
instance : Zr Try.prog 74 ([.nil]) := ⟨by kernel_rfl⟩
instance : Sz Try.prog 77 4 := ⟨by kernel_rfl⟩
instance : Ag Try.prog 77 true := ⟨by kernel_rfl⟩
instance : Zr Try.prog 77 ([.int .i64 0, .nil, .int .i64 0, .int .u32 0]) := ⟨by kernel_rfl⟩
instance : Pl Try.prog 77 ([(0, 1), (1, 1), (2, 1), (3, 1)]) := ⟨by kernel_rfl⟩
instance : Fo Try.prog 77 0 0 := ⟨by kernel_rfl⟩
instance : Fo Try.prog 77 1 1 := ⟨by kernel_rfl⟩
instance : Fo Try.prog 77 2 2 := ⟨by kernel_rfl⟩
instance : Fo Try.prog 77 3 3 := ⟨by kernel_rfl⟩
instance : SlT Try.prog 84 44 := ⟨by kernel_rfl⟩
instance : EltI Try.prog 84 44 1 4 := ⟨elt_of (z := .int .u32 0) (by kernel_rfl) (by kernel_rfl) (by decide) (by rfl)⟩
instance : Sz Try.prog 84 1 := ⟨by kernel_rfl⟩
instance : Ag Try.prog 84 false := ⟨by kernel_rfl⟩
instance : Zr Try.prog 84 ([.nil]) := ⟨by kernel_rfl⟩
instance : Sz Try.prog 107 1 := ⟨by kernel_rfl⟩
instance : Ag Try.prog 107 false := ⟨by kernel_rfl⟩
instance : Zr Try.prog 107 ([.val .nilFunc]) := ⟨by kernel_rfl⟩
instance : Sz Try.prog 131 8 := ⟨by kernel_rfl⟩
instance : Ag Try.prog 131 true := ⟨by kernel_rfl⟩
instance : Zr Try.prog 131 ([.int .i64 0, .int .i64 0, .int .i64 0, .int .i64 0, .int .i64 0, .int .i64 0, .int .i64 0, .int .i64 0]) := ⟨by kernel_rfl⟩
instance : En Try.prog 3 := ⟨enters_of Try.func3 (by kernel_rfl) rfl⟩
instance : En Try.prog 4 := ⟨enters_of Try.func4 (by kernel_rfl) rfl⟩
instance : En Try.prog 5 := ⟨enters_of Try.func5 (by kernel_rfl) rfl⟩
instance : En Try.prog 6 := ⟨enters_of Try.func6 (by kernel_rfl) rfl⟩
instance : En Try.prog 7 := ⟨enters_of Try.func7 (by kernel_rfl) rfl⟩
instance : En Try.prog 8 := ⟨enters_of Try.func8 (by kernel_rfl) rfl⟩
instance : En Try.prog 9 := ⟨enters_of Try.func9 (by kernel_rfl) rfl⟩
instance : En Try.prog 10 := ⟨enters_of Try.func10 (by kernel_rfl) rfl⟩
instance : En Try.prog 11 := ⟨enters_of Try.func11 (by kernel_rfl) rfl⟩
instance : En Try.prog 12 := ⟨enters_of Try.func12 (by kernel_rfl) rfl⟩
instance : En Try.prog 13 := ⟨enters_of Try.func13 (by kernel_rfl) rfl⟩
instance : En Try.prog 14 := ⟨enters_of Try.func14 (by kernel_rfl) rfl⟩
instance : En Try.prog 15 := ⟨enters_of Try.func15 (by kernel_rfl) rfl⟩
instance : En Try.prog 16 := ⟨enters_of Try.func16 (by kernel_rfl) rfl⟩
instance : En Try.prog 17 := ⟨enters_of Try.func17 (by kernel_rfl) rfl⟩
instance : En Try.prog 18 := ⟨enters_of Try.func18 (by kernel_rfl) rfl⟩
instance : En Try.prog 19 := ⟨enters_of Try.func19 (by kernel_rfl) rfl⟩
instance : En Try.prog 20 := ⟨enters_of Try.func20 (by kernel_rfl) rfl⟩
instance : En Try.prog 21 := ⟨enters_of Try.func21 (by kernel_rfl) rfl⟩
instance : En Try.prog 22 := ⟨enters_of Try.func22 (by kernel_rfl) rfl⟩
instance : En Try.prog 23 := ⟨enters_of Try.func23 (by kernel_rfl) rfl⟩
instance : En Try.prog 24 := ⟨enters_of Try.func24 (by kernel_rfl) rfl⟩
instance : En Try.prog 25 := ⟨enters_of Try.func25 (by kernel_rfl) rfl⟩
instance : En Try.prog 26 := ⟨enters_of Try.func26 (by kernel_rfl) rfl⟩
instance : En Try.prog 27 := ⟨enters_of Try.func27 (by kernel_rfl) rfl⟩
instance : En Try.prog 28 := ⟨enters_of Try.func28 (by kernel_rfl) rfl⟩
instance : En Try.prog 29 := ⟨enters_of Try.func29 (by kernel_rfl) rfl⟩
instance : En Try.prog 30 := ⟨enters_of Try.func30 (by kernel_rfl) rfl⟩
instance : En Try.prog 31 := ⟨enters_of Try.func31 (by kernel_rfl) rfl⟩
instance : En Try.prog 32 := ⟨enters_of Try.func32 (by kernel_rfl) rfl⟩
instance : En Try.prog 33 := ⟨enters_of Try.func33 (by kernel_rfl) rfl⟩
instance : En Try.prog 34 := ⟨enters_of Try.func34 (by kernel_rfl) rfl⟩
instance : En Try.prog 35 := ⟨enters_of Try.func35 (by kernel_rfl) rfl⟩
instance : En Try.prog 36 := ⟨enters_of Try.func36 (by kernel_rfl) rfl⟩
instance : En Try.prog 37 := ⟨enters_of Try.func37 (by kernel_rfl) rfl⟩
instance : En Try.prog 38 := ⟨enters_of Try.func38 (by kernel_rfl) rfl⟩
instance : En Try.prog 39 := ⟨enters_of Try.func39 (by kernel_rfl) rfl⟩
instance : En Try.prog 40 := ⟨enters_of Try.func40 (by kernel_rfl) rfl⟩
instance : En Try.prog 41 := ⟨enters_of Try.func41 (by kernel_rfl) rfl⟩
instance : En Try.prog 42 := ⟨enters_of Try.func42 (by kernel_rfl) rfl⟩
instance : En Try.prog 43 := ⟨enters_of Try.func43 (by kernel_rfl) rfl⟩
instance : En Try.prog 44 := ⟨enters_of Try.func44 (by kernel_rfl) rfl⟩
instance : En Try.prog 45 := ⟨enters_of Try.func45 (by kernel_rfl) rfl⟩
instance : En Try.prog 46 := ⟨enters_of Try.func46 (by kernel_rfl) rfl⟩
instance : En Try.prog 47 := ⟨enters_of Try.func47 (by kernel_rfl) rfl⟩
instance : En Try.prog 48 := ⟨enters_of Try.func48 (by kernel_rfl) rfl⟩
instance : En Try.prog 49 := ⟨enters_of Try.func49 (by kernel_rfl) rfl⟩
instance : En Try.prog 50 := ⟨enters_of Try.func50 (by kernel_rfl) rfl⟩
instance : En Try.prog 51 := ⟨enters_of Try.func51 (by kernel_rfl) rfl⟩
instance : En Try.prog 52 := ⟨enters_of Try.func52 (by kernel_rfl) rfl⟩
instance : En Try.prog 53 := ⟨enters_of Try.func53 (by kernel_rfl) rfl⟩
instance : En Try.prog 54 := ⟨enters_of Try.func54 (by kernel_rfl) rfl⟩
instance : En Try.prog 55 := ⟨enters_of Try.func55 (by kernel_rfl) rfl⟩
instance : En Try.prog 56 := ⟨enters_of Try.func56 (by kernel_rfl) rfl⟩
instance : En Try.prog 57 := ⟨enters_of Try.func57 (by kernel_rfl) rfl⟩
instance : En Try.prog 58 := ⟨enters_of Try.func58 (by kernel_rfl) rfl⟩
instance : En Try.prog 59 := ⟨enters_of Try.func59 (by kernel_rfl) rfl⟩
instance : En Try.prog 60 := ⟨enters_of Try.func60 (by kernel_rfl) rfl⟩
instance : En Try.prog 61 := ⟨enters_of Try.func61 (by kernel_rfl) rfl⟩
instance : En Try.prog 62 := ⟨enters_of Try.func62 (by kernel_rfl) rfl⟩
instance : En Try.prog 63 := ⟨enters_of Try.func63 (by kernel_rfl) rfl⟩
instance : En Try.prog 64 := ⟨enters_of Try.func64 (by kernel_rfl) rfl⟩
instance : En Try.prog 65 := ⟨enters_of Try.func65 (by kernel_rfl) rfl⟩
instance : En Try.prog 66 := ⟨enters_of Try.func66 (by kernel_rfl) rfl⟩
instance : En Try.prog 67 := ⟨enters_of Try.func67 (by kernel_rfl) rfl⟩
instance : En Try.prog 68 := ⟨enters_of Try.func68 (by kernel_rfl) rfl⟩
instance : En Try.prog 69 := ⟨enters_of Try.func69 (by kernel_rfl) rfl⟩
instance : En Try.prog 70 := ⟨enters_of Try.func70 (by kernel_rfl) rfl⟩
instance : En Try.prog 71 := ⟨enters_of Try.func71 (by kernel_rfl) rfl⟩
instance : En Try.prog 72 := ⟨enters_of Try.func72 (by kernel_rfl) rfl⟩
instance : En Try.prog 73 := ⟨enters_of Try.func73 (by kernel_rfl) rfl⟩
instance : En Try.prog 74 := ⟨enters_of Try.func74 (by kernel_rfl) rfl⟩
instance : En Try.prog 75 := ⟨enters_of Try.func75 (by kernel_rfl) rfl⟩
instance : En Try.prog 76 := ⟨enters_of Try.func76 (by kernel_rfl) rfl⟩
instance : En Try.prog 77 := ⟨enters_of Try.func77 (by kernel_rfl) rfl⟩
instance : En Try.prog 78 := ⟨enters_of Try.func78 (by kernel_rfl) rfl⟩
instance : En Try.prog 79 := ⟨enters_of Try.func79 (by kernel_rfl) rfl⟩
instance : En Try.prog 80 := ⟨enters_of Try.func80 (by kernel_rfl) rfl⟩
instance : En Try.prog 81 := ⟨enters_of Try.func81 (by kernel_rfl) rfl⟩
instance : En Try.prog 82 := ⟨enters_of Try.func82 (by kernel_rfl) rfl⟩
instance : En Try.prog 83 := ⟨enters_of Try.func83 (by kernel_rfl) rfl⟩
instance : En Try.prog 84 := ⟨enters_of Try.func84 (by kernel_rfl) rfl⟩
instance : En Try.prog 85 := ⟨enters_of Try.func85 (by kernel_rfl) rfl⟩
instance : En Try.prog 86 := ⟨enters_of Try.func86 (by kernel_rfl) rfl⟩
instance : En Try.prog 87 := ⟨enters_of Try.func87 (by kernel_rfl) rfl⟩
instance : En Try.prog 88 := ⟨enters_of Try.func88 (by kernel_rfl) rfl⟩
instance : En Try.prog 89 := ⟨enters_of Try.func89 (by kernel_rfl) rfl⟩
instance : En Try.prog 90 := ⟨enters_of Try.func90 (by kernel_rfl) rfl⟩
instance : En Try.prog 91 := ⟨enters_of Try.func91 (by kernel_rfl) rfl⟩
instance : En Try.prog 92 := ⟨enters_of Try.func92 (by kernel_rfl) rfl⟩
instance : En Try.prog 93 := ⟨enters_of Try.func93 (by kernel_rfl) rfl⟩
instance : Mixed Try.prog := ⟨by kernel_rfl⟩
end Go.Proofs.Ytekojicaeadepaa.Vm
namespace Go.Proofs.Ytekojicaeadepaa.Vm
open Go.Vm Go.Proofs
set_option linter.unusedSimpArgs false
-- quick

def mixI (x : Int) : Int :=
  let a := IntKind.u32.wrap (xorI .u32 x (shrI .u32 x 16) * 2146121005)
  let b := IntKind.u32.wrap (xorI .u32 a (shrI .u32 a 15) * 2221713035)
  xorI .u32 b (shrI .u32 b 16)
instance Mix_fn (x : Int) : Fu Try.prog 70 [.int .u32 x] (.int .u32 (mixI x)) := ⟨by
  refine Does.of Try.func70 rfl Try.ntmps70 fun C hC => ?_
  refine zx (hq := ?_)
  exact Out.o0⟩
instance Begin_fn : Fu Try.prog 66 [] (.int .u32 2654435769) := ⟨by
  refine Does.of Try.func66 rfl Try.ntmps66 fun C hC => ?_
  refine zx (hq := ?_)
  exact Out.o0⟩
def stI (s x : Int) : Int := mixI (xorI .u32 s (IntKind.u32.wrap x))
theorem Step_fn (s : Int) {x : Int} (h0 : 0 ≤ x) (h1 : x < 16) : Does Try.prog 67 [.int .u32 s, .int .i64 x] (.tup [.int .u32 (stI s x), .int .i64 0]) [] := by
  refine Does.of Try.func67 rfl Try.ntmps67 fun C hC => ?_
  refine zx (hq := ?_)
  rw [show decide (x < 0) = false by simp; omega]
  refine zx (hq := ?_)
  rw [show decide (x ≥ 16) = false by simp; omega]
  refine zx (hq := ?_)
  exact Out.t0
end Go.Proofs.Ytekojicaeadepaa.Vm
namespace Go.Proofs.Ytekojicaeadepaa.Vm
open Go.Vm Go.Proofs
set_option linter.unusedSimpArgs false
-- quick

/-- the states, one behind the other -/
def stsI : Int → List Int → List Int
  | _, [] => []
  | s, x :: xs => stI s x :: stsI (stI s x) xs
def endI (s : Int) (l : List Int) : Int := l.foldl stI s
theorem stsI_len : ∀ (l : List Int) (s : Int), (stsI s l).length = l.length
  | [], _ => rfl
  | x :: xs, s => by simp [stsI, stsI_len xs]
theorem stsI_snoc : ∀ (l : List Int) (s x : Int), stsI s (l ++ [x]) = stsI s l ++ [stI (endI s l) x]
  | [], s, x => rfl
  | y :: l, s, x => by simp [stsI, stsI_snoc l, endI]
theorem endI_snoc (l : List Int) (s x : Int) : endI s (l ++ [x]) = stI (endI s l) x := by simp [endI]
def beginI : Int := 2654435769
def nibB (x : Int) : Prop := 0 ≤ x ∧ x < 16
theorem mem_getD {l : List Int} {k : Nat} (h : k < l.length) {p : Int → Prop} (hp : ∀ x ∈ l, p x) : p (l.getD k 0) := by
  rw [List.getD_eq_getElem?_getD, List.getElem?_eq_getElem h]
  exact hp _ (List.getElem_mem h)

set_option maxRecDepth 10000 in
theorem States_fn {l : List Int} (hl : l.length ≤ 64) (hn : ∀ x ∈ l, nibB x) : Does Try.prog 39 [.sl (ints .i64 l)] (.tup [.ref 0 0, .int .i64 0]) [.row 44 0 (ints .u32 (stsI beginI l))] := by
  refine Does.of Try.func39 rfl Try.ntmps39 fun C hC => ?_
  refine zx (hq := ?_)
  rw [show decide (((ints .i64 l).length : Int) > 64) = false by simp; omega]
  refine zx (hq := ?_)
  refine go_loop (ι := { k : Nat // k ≤ l.length }) (fun k => ⟨[.undef, .undef, .undef, .undef, .ref 0 0, .int .u32 (endI beginI (l.take k.1)), .undef, .undef, .undef, .undef, .undef, .undef, .undef, .undef, .sl (ints .i64 l), .int .i64 (l.length : Nat), .int .i64 (k.1 : Nat), .undef, .undef, .undef, .undef, .undef, .undef, .undef, .undef, .undef, .undef, .undef, .undef, .undef, .undef, .undef, .undef, .undef, .undef, .undef], [.row 44 0 (ints .u32 (stsI beginI (l.take k.1)))]⟩) (fun k => l.length - k.1) ⟨0, Nat.zero_le _⟩ ?_ ?_
  · exact Le.ofs hC [none] (by decide) (by simp [VOs, VO, names, stsI, ints]; rfl) (by simp [V2s, V2, V1, VC, names, endI, beginI, stsI, ints])
  · rintro ⟨k, hk⟩
    refine zx (hq := ?_)
    refine go_cond (fun hc => ?_) (fun hc => ?_)
    · have hlt : k < l.length := by simpa using hc
      obtain ⟨h0, h1⟩ := mem_getD hlt hn
      refine zx (hq := ?_)
      refine o_step (Stp.index (h0 := by simp) (h1 := by simp; omega) (hr := by simp only [indexA, Int.toNat_natCast, ints_get _ l k hlt]; rfl)) (h := ?_)
      refine zx (hq := ?_)
      refine o_step (Stp.call (hF := Step_fn _ h0 h1)) (h := ?_)
      refine zx (hq := ?_)
      refine o_stepH (Stp.append (hys := by simp) (hb := by simp [stsI_len]; omega) (h63 := by simp [maxLen, stsI_len]; omega)) (h := ?_)
      refine zx (hq := ?_)
      refine ⟨⟨k + 1, hlt⟩, ?_, ?_⟩
      · show l.length - (k + 1) < l.length - k
        omega
      · refine Le.ofs hC [some 0] (by decide) ?_ ?_
        · simp [VOs, VO, names, take_getD l 0 k hlt, stsI_snoc, ints]
        · simp [V2s, V2, V1, VC, names, take_getD l 0 k hlt, endI_snoc]
          exact wrap_le (by omega) (by omega)
    · have hge : k = l.length := by
        simp at hc
        omega
      subst hge
      refine zx (hq := ?_)
      exact Out.th [some 0] (by decide) rfl (by simp [VOs, VO, names])

def symI (s i : Int) : Int :=
  if i < 4 then IntKind.i64.wrap (andI .u32 (shrI .u32 s (IntKind.i64.wrap (8 * i))) 255)
  else IntKind.i64.wrap (andI .u32 (mixI (IntKind.u32.wrap (s + IntKind.u32.wrap (IntKind.u32.wrap i * 2654435769)))) 255)
theorem Of_fn (s : Int) {i : Int} (h0 : 0 ≤ i) (h1 : i ≤ 255) : Does Try.prog 41 [.int .u32 s, .int .i64 i] (.tup [.int .i64 (symI s i), .int .i64 0]) [] := by
  refine Does.of Try.func41 rfl Try.ntmps41 fun C hC => ?_
  refine zx (hq := ?_)
  rw [show decide (i < 0) = false by simp; omega]
  refine zx (hq := ?_)
  rw [show decide (i > 255) = false by simp; omega]
  refine zx (hq := ?_)
  refine go_cond (fun hc => ?_) (fun hc => ?_)
  · have hc : i < 4 := by simpa using hc
    have hw : 0 ≤ IntKind.i64.wrap (8 * i) := by rw [wrap_le (n := 8 * i) (by omega) (by omega)]; omega
    refine zx (hq := ?_)
    exact Out.t0 rfl ⟨⟨rfl, by rw [symI, if_pos hc]; rfl⟩, ⟨rfl, rfl⟩, trivial⟩
  · have hc : ¬ i < 4 := by simpa using hc
    refine zx (hq := ?_)
    exact Out.t0 rfl ⟨⟨rfl, by rw [symI, if_neg hc]; rfl⟩, ⟨rfl, rfl⟩, trivial⟩
theorem Segs_fn {n : Int} (h0 : 0 ≤ n) (h1 : n ≤ 32) : Does Try.prog 37 [.int .i64 n] (.int .i64 (2 * n)) [] := by
  refine Does.of Try.func37 rfl Try.ntmps37 fun C hC => ?_
  refine zx (hq := ?_)
  rw [show decide (n < 0) = false by simp; omega]
  refine zx (hq := ?_)
  rw [show decide (n > 32) = false by simp; omega]
  refine zx (hq := ?_)
  exact Out.o0 rfl ⟨rfl, wrap_le (by omega) (by omega)⟩
end Go.Proofs.Ytekojicaeadepaa.Vm
