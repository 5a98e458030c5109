/- A machine of values: operations under a guard. -/
import Derived.Test.YtekojicaeadepaaVmO
namespace Go.Vm
open Go.RowKit
set_option linter.unusedVariables false
set_option linter.unusedSimpArgs false
section
variable {P : Program} {C : Ctx} {st : St} {K : Exit → St → Prop} {ops : Array Oper} {l : List Oper} {d : Option Tmp}

/-- it is done: as if it had no guard -/
theorem o_g1 {op : Op} {ty : TypeId} {pos : String} {af : Array Edge} {j : Nat} {t : Tmp} {want : Bool} {g : Oper} (hj : ops[j]? = some g := by rfl) (hd : g.dst = some t := by rfl) (hv : St.evo st (.tmp t) = some (.bool want) := by rfl)
    (h : OpsS P C ops ({ dst := d, op := op, type := ty, pos := pos, after := af, guard := none } :: l) st K) :
    OpsS P C ops ({ dst := d, op := op, type := ty, pos := pos, after := af, guard := some (j, want) } :: l) st K := by
  rintro a w ⟨μ, Z, R⟩
  have hb := R.ev (.tmp t)
  rw [evo_ev hv] at hb
  have hb := hb.bool
  have hy : yielded ops a.tmps j = some want := by
    have : a.tmps[t]? = some (.bool want) := by
      simp only [Act.eval, Array.getD_eq_getD_getElem?] at hb
      cases h : a.tmps[t]? with
      | none => rw [h] at hb; cases hb
      | some v => rw [h] at hb; simpa using hb
    simp [yielded, hj, hd, this]
  have h3 := h a w ⟨μ, Z, R⟩
  unfold wpList at h3 ⊢
  rw [if_pos (by simp [Region.wanted])] at h3
  rw [if_pos (by simp [Region.wanted, hy])]
  exact h3

/-- it is passed over -/
theorem o_g0 {op : Op} {ty : TypeId} {pos : String} {af : Array Edge} {j : Nat} {t : Tmp} {want b : Bool} {g : Oper} {tm tm' : List A} {hp : List Ob} (hj : ops[j]? = some g := by rfl) (hd : g.dst = some t := by rfl) (hv : St.evo ⟨tm, hp⟩ (.tmp t) = some (.bool b) := by rfl) (hw : (b != want) = true := by rfl)
    (h1 : NL (St.put ⟨tm, hp⟩ d (.tup [])).tm tm' := by repeat (first | exact NL.nil | apply NL.cons))
    (h : OpsS P C ops l ⟨tm', hp⟩ K) :
    OpsS P C ops ({ dst := d, op := op, type := ty, pos := pos, after := af, guard := some (j, want) } :: l) ⟨tm, hp⟩ K := by
  cases h1.eq
  refine OpsS.guard rfl hj hd (evo_ev hv) (fun e => ?_) (fun _ => ?_)
  · simp [e] at hw
  · have : St.put ⟨tm, hp⟩ d (.tup []) = ⟨(St.put ⟨tm, hp⟩ d (.tup [])).tm, hp⟩ := by cases d <;> rfl
    show OpsS P C ops l (St.put ⟨tm, hp⟩ d (.tup [])) K
    rw [this]
    exact h

theorem o_gs {op : Op} {ty : TypeId} {pos : String} {af : Array Edge} {j : Nat} {t : Tmp} {want : Bool} {g : Oper} {tm tm' : List A} {hp : List Ob} (hj : ops[j]? = some g := by rfl) (hd : g.dst = some t := by rfl) (hv : St.evo ⟨tm, hp⟩ (.tmp t) = some (.tup []) := by rfl)
    (h1 : NL (St.put ⟨tm, hp⟩ d (.tup [])).tm tm' := by repeat (first | exact NL.nil | apply NL.cons))
    (h : OpsS P C ops l ⟨tm', hp⟩ K) :
    OpsS P C ops ({ dst := d, op := op, type := ty, pos := pos, after := af, guard := some (j, want) } :: l) ⟨tm, hp⟩ K := by
  cases h1.eq
  refine OpsS.guard_skip rfl hj hd (evo_ev hv) ?_
  have : St.put ⟨tm, hp⟩ d (.tup []) = ⟨(St.put ⟨tm, hp⟩ d (.tup [])).tm, hp⟩ := by cases d <;> rfl
  show OpsS P C ops l (St.put ⟨tm, hp⟩ d (.tup [])) K
  rw [this]
  exact h
end
section
variable {P : Program} {ol os : List Oper} {R : List (List Nat)} {Hs : List (List Ob)} {eff : List Bool} {N : List A → Prop}
theorem d_step3 {op : Op} {d : Option Tmp} {ty : TypeId} {pos : String} {af : Array Edge} {i k : Nat} {tm tm' : List A} {hp0 hp1 hp2 : List Ob} {X : A} (hR : R.getD i [] = [k, k + 1, k + 2] := by rfl) (hH0 : Hs[k]? = some hp0 := by rfl) (hH1 : Hs[k + 1]? = some hp1 := by rfl) (hH2 : Hs[k + 2]? = some hp2 := by rfl) (he : eff.getD i false = false := by rfl)
    (s0 : Stp P op d ⟨maskFrom (looksOf ol i) 0 tm, hp0⟩ (St.put ⟨maskFrom (looksOf ol i) 0 tm, hp0⟩ d X)) (s1 : Stp P op d ⟨maskFrom (looksOf ol i) 0 tm, hp1⟩ (St.put ⟨maskFrom (looksOf ol i) 0 tm, hp1⟩ d X)) (s2 : Stp P op d ⟨maskFrom (looksOf ol i) 0 tm, hp2⟩ (St.put ⟨maskFrom (looksOf ol i) 0 tm, hp2⟩ d X))
    (h1 : NL (St.put ⟨tm, []⟩ d X).tm tm' := by repeat (first | exact NL.nil | apply NL.cons)) (h : DR P ol R Hs eff N (i + 1) os tm') :
    DR P ol R Hs eff N i ({ dst := d, op := op, type := ty, pos := pos, after := af, guard := none } :: os) tm := by
  refine ⟨X, ⟨trivial, ?_⟩, ?_⟩
  · rw [hR]
    exact ⟨⟨hp0, hp0, hH0, by rw [he]; exact hH0, s0⟩, ⟨hp1, hp1, hH1, by rw [he]; exact hH1, s1⟩, ⟨hp2, hp2, hH2, by rw [he]; exact hH2, s2⟩, trivial⟩
  · cases h1.eq
    exact h
theorem d_step4 {op : Op} {d : Option Tmp} {ty : TypeId} {pos : String} {af : Array Edge} {i k : Nat} {tm tm' : List A} {hp0 hp1 hp2 hp3 : List Ob} {X : A} (hR : R.getD i [] = [k, k + 1, k + 2, k + 3] := by rfl) (hH0 : Hs[k]? = some hp0 := by rfl) (hH1 : Hs[k + 1]? = some hp1 := by rfl) (hH2 : Hs[k + 2]? = some hp2 := by rfl) (hH3 : Hs[k + 3]? = some hp3 := by rfl) (he : eff.getD i false = false := by rfl)
    (s0 : Stp P op d ⟨maskFrom (looksOf ol i) 0 tm, hp0⟩ (St.put ⟨maskFrom (looksOf ol i) 0 tm, hp0⟩ d X)) (s1 : Stp P op d ⟨maskFrom (looksOf ol i) 0 tm, hp1⟩ (St.put ⟨maskFrom (looksOf ol i) 0 tm, hp1⟩ d X)) (s2 : Stp P op d ⟨maskFrom (looksOf ol i) 0 tm, hp2⟩ (St.put ⟨maskFrom (looksOf ol i) 0 tm, hp2⟩ d X)) (s3 : Stp P op d ⟨maskFrom (looksOf ol i) 0 tm, hp3⟩ (St.put ⟨maskFrom (looksOf ol i) 0 tm, hp3⟩ d X))
    (h1 : NL (St.put ⟨tm, []⟩ d X).tm tm' := by repeat (first | exact NL.nil | apply NL.cons)) (h : DR P ol R Hs eff N (i + 1) os tm') :
    DR P ol R Hs eff N i ({ dst := d, op := op, type := ty, pos := pos, after := af, guard := none } :: os) tm := by
  refine ⟨X, ⟨trivial, ?_⟩, ?_⟩
  · rw [hR]
    exact ⟨⟨hp0, hp0, hH0, by rw [he]; exact hH0, s0⟩, ⟨hp1, hp1, hH1, by rw [he]; exact hH1, s1⟩, ⟨hp2, hp2, hH2, by rw [he]; exact hH2, s2⟩, ⟨hp3, hp3, hH3, by rw [he]; exact hH3, s3⟩, trivial⟩
  · cases h1.eq
    exact h
end
end Go.Vm
