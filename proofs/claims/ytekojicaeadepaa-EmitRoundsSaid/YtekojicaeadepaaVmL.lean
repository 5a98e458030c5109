/- A machine of values: functions. -/
import Derived.Test.YtekojicaeadepaaVmK
namespace Go.Vm
open Go.RowKit
set_option linter.unusedVariables false
set_option linter.unusedSimpArgs false

def isTup : A → Bool
  | .tup _ => true
  | _ => false

def resA (P : Program) (st : St) : ResultVar → Option A
  | .tmp t => if isTup (st.tm.getD t .undef) then none else some (st.tm.getD t .undef)
  | .cell p t => loadA P st.hp t (st.tm.getD p .undef)

def resAs (P : Program) (st : St) : List ResultVar → Option (List A)
  | [] => some []
  | r :: rs => match resA P st r, resAs P st rs with
    | some x, some xs => some (x :: xs)
    | _, _ => none

def tupOf : List A → A
  | [x] => x
  | l => .tup l

section
variable {P : Program} {C : Ctx} {Z0 : Nat → Prop} {w0 : World} {hp hp' : List Ob} {μ μ' : Mu} {Z Z' : Nat → Prop} {w w' : World} {st : St} {a : Act}

theorem UR.tr {x : A} {v : Value} (h : UR P hp μ Z w x v) (hx : isTup x = false) : TR P hp μ Z w x v := by
  cases x <;> first | exact h | simp [isTup] at hx

theorem resAs_run (R : RelAt P C st a w μ Z) {f : ResultVar → Sem Value} (f1 : ∀ t, f (.tmp t) = pure (a.tmps.getD t Go.undef)) (f2 : ∀ p t, f (.cell p t) = do loadVar t (← asAddr (a.tmps.getD p Go.undef))) : ∀ {rs : List ResultVar} {xs : List A}, resAs P st rs = some xs →
    ∃ vs : List Value, (rs.mapM f).run P w = .ok vs w ∧ vs.length = xs.length ∧ ∀ (j : Nat) (x : A), xs[j]? = some x → ∃ u, vs[j]? = some u ∧ TR P st.hp μ Z w x u
  | [], xs, h => by
    obtain rfl := Option.some.inj h
    exact ⟨[], by simp, rfl, fun j x hj => by simp at hj⟩
  | r :: rs, xs, h => by
    simp only [resAs] at h
    split at h
    · rename_i x ys e1 e2
      obtain rfl := Option.some.inj h
      obtain ⟨vs, h1, h2, h3⟩ := resAs_run R f1 f2 e2
      have key : ∃ v, (f r).run P w = .ok v w ∧ TR P st.hp μ Z w x v := by
        cases r with
        | tmp t =>
          simp only [resA] at e1
          split at e1
          · cases e1
          · rename_i hn
            obtain rfl := Option.some.inj e1
            have := R.ev (.tmp t)
            exact ⟨_, by rw [f1]; rfl, UR.tr this (by simpa using hn)⟩
        | cell p t =>
          have hp := R.ev (.tmp p)
          obtain ⟨u, q1, q2⟩ := R.hr.load hp e1
          refine ⟨u, ?_, q2⟩
          have hsome : ∃ cs, from_ st.hp (st.tm.getD p .undef) = some cs := by
            simp only [resA, loadA] at e1
            cases hf : from_ st.hp (st.tm.getD p .undef) with
            | none =>
              rw [hf] at e1
              split at e1 <;> simp_all
            | some cs => exact ⟨cs, rfl⟩
          obtain ⟨cs, hcs⟩ := hsome
          obtain ⟨b, o, cur, t', fr, hv, _⟩ := R.hr.from_ hp hcs
          have hv' : a.tmps.getD p Go.undef = .pointer (some ⟨b, o, none⟩) := hv
          rw [hv] at q1
          simp only [f2, hv', asAddr, Sem.run_bind, Sem.run_pure, Result.andThen_ok]
          simpa [Instr.loadAt, Instr.sureAddr] using q1
      obtain ⟨v, k1, k2⟩ := key
      refine ⟨v :: vs, ?_, by simp [h2], fun j z hj => ?_⟩
      · rw [List.mapM_cons, Sem.run_bind, k1]
        simp only [Result.andThen_ok]
        rw [Sem.run_bind, h1]
        rfl
      · cases j with
        | zero => simp at hj; subst hj; exact ⟨v, rfl, k2⟩
        | succ j => simpa using h3 j z (by simpa using hj)
    · cases h

theorem results_run {fn : Func} (R : RelAt P C st a w μ Z) {xs : List A} (h : resAs P st fn.results.toList = some xs) :
    ∃ vs : List Value, (results fn a.tmps).run P w = .ok (if h : vs.length = 1 then vs[0] else .tuple vs.toArray) w ∧ vs.length = xs.length ∧ ∀ (j : Nat) (x : A), xs[j]? = some x → ∃ u, vs[j]? = some u ∧ TR P st.hp μ Z w x u := by
  unfold results
  have hm : ∀ f : ResultVar → Sem Value, (fn.results.mapM f).run P w = ((fn.results.toList.mapM f).run P w).andThen fun l w => .ok l.toArray w := by
    intro f
    conv => lhs; rw [show fn.results = fn.results.toList.toArray by simp]
    rw [List.mapM_toArray, Sem.run_map]
  obtain ⟨vs, h1, h2, h3⟩ := resAs_run R (f := fun r => match r with | .tmp t => pure (a.tmps.getD t Go.undef) | .cell p t => do loadVar t (← asAddr (a.tmps.getD p Go.undef))) (fun t => rfl) (fun p t => rfl) h
  refine ⟨vs, ?_, h2, h3⟩
  rw [Sem.run_bind, hm]
  refine (congrArg (fun r => (Result.andThen (Result.andThen r _) _)) h1).trans ?_
  simp only [Result.andThen_ok, Sem.run_pure, List.size_toArray, List.getElem_toArray]

/-- what is left of a state is these results -/
def Out (P : Program) (fn : Func) (st : St) (res : A) (hr : List Ob) : Prop :=
  ∃ rs rs' l, resAs P st fn.results.toList = some rs ∧ (l.filterMap id).Nodup ∧ VOs (names l) st.hp hr (szOf P) 0 hr ∧ V1s (names l) st.hp hr rs rs' ∧ res = tupOf rs'

theorem Out.run {fn : Func} {res : A} {hr : List Ob} (R : RelAt P C st a w μ Z) (h : Out P fn st res hr) :
    ∃ v μ' Z', (results fn a.tmps).run P w = .ok v w ∧ HR P C.Z0 C.w0 hr μ' Z' w ∧ UR P hr μ' Z' w res v := by
  obtain ⟨rs, rs', l, h1, h2, h3, h4, rfl⟩ := h
  obtain ⟨vs, q1, q2, q3⟩ := results_run R h1
  have hH := R.hr.ren h3 (inj_names h2)
  obtain ⟨q4, q5⟩ := V1s.tr h3 R.hr h4 q2 q3
  refine ⟨_, _, Z, q1, hH, ?_⟩
  by_cases e : vs.length = 1
  · obtain ⟨v, rfl⟩ : ∃ v, vs = [v] := List.length_eq_one_iff.1 e
    rw [dif_pos e]
    cases rs' with
    | nil => simp at q4
    | cons x xs =>
      cases xs with
      | nil =>
        obtain ⟨u, e1, e2⟩ := q5 0 x rfl
        obtain rfl : v = u := by simpa using e1
        exact UR.of_TR e2
      | cons _ _ => simp at q4
  · rw [dif_neg e]
    have : tupOf rs' = .tup rs' := by
      cases rs' with
      | nil => rfl
      | cons x xs => cases xs with
        | nil => simp at q4; exact absurd q4 e
        | cons _ _ => rfl
    rw [this]
    exact ⟨vs.toArray, rfl, by simpa using q4, by simpa using q5⟩

theorem Does.of {f : FuncId} {fn : Func} {c : Code} {n : Nat} {args : List A} {res : A} {hr : List Ob} (hf : P.funcs[f]? = some fn) (hb : fn.body = some c) (hn : fn.ntmps = n)
    (h : ∀ C : Ctx, C.F = [] → CodeS P C c ⟨args ++ List.replicate (n - args.length) (.tup []), []⟩ (fun e st' => match e with | .ret => Out P fn st' res hr | .normal => Out P fn st' res hr | _ => False)) : Does P f args res hr := by
  intro Z w vs hZ hl ha
  refine calls_of_wp hf hb ?_
  have hlen : vs.size = args.length := by rw [← Array.length_toList]; exact hl
  have R : Rel P ⟨Z, w, [], []⟩ ⟨args ++ List.replicate (n - args.length) (.tup []), []⟩ { tmps := vs ++ Array.replicate (fn.ntmps - vs.size) Go.undef, defers := [] } w := by
    refine ⟨noMu, Z, ⟨Below.refl _ _, fun _ h => h, fun b hb => ⟨hZ b hb, .inl hb⟩, fun r o h => by simp at h, fun r b o hl => ?_, fun r r' b o o2 hl => ?_⟩, ⟨?_, ?_⟩, rfl, ⟨rfl, fun j x hj => by simp at hj⟩⟩
    · rcases hl with ⟨_, _, _, h⟩ | ⟨_, _, h⟩ <;> simp at h
    · rcases hl with ⟨_, _, _, h⟩ | ⟨_, _, h⟩ <;> simp at h
    · simp [hlen, hn]
    · intro j x hj
      simp only [Array.toList_append, Array.toList_replicate, hn, hlen]
      rw [List.getElem?_append] at hj ⊢
      rw [hl]
      split at hj
      · rename_i hlt
        rw [if_pos hlt]
        obtain ⟨u, h1, h2⟩ := ha j x hj
        exact ⟨u, h1, UR.of_TR h2⟩
      · rename_i hlt
        rw [if_neg hlt]
        rw [List.getElem?_replicate] at hj
        split at hj
        · rename_i h2
          obtain rfl := Option.some.inj hj
          exact ⟨Go.undef, by rw [List.getElem?_replicate, if_pos h2], #[], rfl, rfl, fun j x hj => by simp at hj⟩
        · cases hj
  refine Code.wp_mono (fun e a' w' ⟨st', hk, μ, Z', R'⟩ => ?_) (h ⟨Z, w, [], []⟩ rfl _ w R)
  cases e with
  | ret =>
    obtain ⟨v, μ', Z2, h1, h2, h3⟩ := hk.run R'
    exact ⟨R'.df, v, h1, v, μ', Z2, rfl, h2, h3⟩
  | normal =>
    obtain ⟨v, μ', Z2, h1, h2, h3⟩ := hk.run R'
    exact ⟨R'.df, v, h1, v, μ', Z2, rfl, h2, h3⟩
  | _ => exact hk.elim
end
end Go.Vm
