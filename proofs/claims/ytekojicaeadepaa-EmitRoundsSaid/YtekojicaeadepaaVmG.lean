/- A machine of values: stores, structs and rows that are written out. -/
import Derived.Test.YtekojicaeadepaaVmF
import Derived.Great.BuildSlice
namespace Go.Vm
open Go.RowKit
set_option linter.unusedVariables false
set_option linter.unusedSimpArgs false

/-- new cells from place s on -/
def splice {α : Type} (l : List α) (s : Nat) (new : List α) : List α := l.take s ++ new ++ l.drop (s + new.length)

theorem splice_length {α : Type} {l : List α} {s : Nat} {new : List α} (h : s + new.length ≤ l.length) : (splice l s new).length = l.length := by
  simp only [splice, List.length_append, List.length_take, List.length_drop]
  omega

theorem splice_get {α : Type} {l : List α} {s : Nat} {new : List α} (h : s + new.length ≤ l.length) (q : Nat) :
    (splice l s new)[q]? = if q < s then l[q]? else if q < s + new.length then new[q - s]? else l[q]? := by
  unfold splice
  have hs : (l.take s).length = s := by rw [List.length_take]; omega
  by_cases h1 : q < s
  · rw [if_pos h1, List.append_assoc, List.getElem?_append_left (by omega), List.getElem?_take, if_pos h1]
  · rw [if_neg h1]
    by_cases h2 : q < s + new.length
    · rw [if_pos h2, List.append_assoc, List.getElem?_append_right (by omega), hs, List.getElem?_append_left (by omega)]
    · rw [if_neg h2, List.getElem?_append_right (by rw [List.length_append]; omega), List.getElem?_drop]
      congr 1
      rw [List.length_append, hs]
      omega

section
variable {P : Program} {C : Ctx} {Z0 : Nat → Prop} {w0 : World} {hp hp' : List Ob} {μ μ' : Mu} {Z Z' : Nat → Prop} {w w' : World} {st : St} {a : Act} {o : Oper} {N : St → Prop}

theorem CRs.splice {cs new : List A} {vs vn : List Value} {j : Nat} (h : CRs P hp μ Z w cs vs) (hn : CRs P hp μ Z w new vn) (hj : j + new.length ≤ cs.length) : CRs P hp μ Z w (splice cs j new) (splice vs j vn) := by
  refine ⟨by rw [splice_length (by rw [hn.1, h.1]; exact hj), splice_length hj, h.1], fun q x hq => ?_⟩
  rw [splice_get hj] at hq
  rw [splice_get (by rw [hn.1, h.1]; exact hj), hn.1]
  split at hq
  · rename_i h1
    rw [if_pos h1]
    exact h.2 q x hq
  · rename_i h1
    rw [if_neg h1]
    split at hq
    · rename_i h2
      rw [if_pos h2]
      exact hn.2 _ x hq
    · rename_i h2
      rw [if_neg h2]
      exact h.2 q x hq

theorem frz_row {x : A} {r : Nat} {t : TypeId} {g : Nat} {l : List (List A)} (h : (frz hp x).1[r]? = some (.row t g l)) : hp[r]? = some (.row t g l) := by
  have key : ∀ (q g' : Nat) (l' : List (List A)), (hp.set q (.fro g' l'))[r]? = some (.row t g l) → hp[r]? = some (.row t g l) := by
    intro q g' l' h
    rw [List.getElem?_set] at h
    split at h
    · split at h <;> cases h
    · exact h
  unfold frz at h
  split at h
  · split at h
    · split at h
      · exact key _ _ _ h
      · exact h
    · split at h <;> exact h
    · exact h
  · split at h
    · split at h
      · exact key _ _ _ h
      · exact h
    · split at h <;> exact h
    · exact h
  all_goals exact h

theorem frzs_row : ∀ {l' : List A} {hp : List Ob} {r : Nat} {t : TypeId} {g : Nat} {l : List (List A)}, (frzs hp l').1[r]? = some (.row t g l) → hp[r]? = some (.row t g l)
  | [], _, _, _, _, _, h => h
  | x :: xs, _, _, _, _, _, h => frz_row (frzs_row (l' := xs) h)

/-- what a store makes of the blocks -/
def storeA (P : Program) (hp : List Ob) (t : TypeId) (p x : A) : Option (List Ob) :=
  match szOf P t, cellsA x, p with
  | some n, some cs, .ptr r g i j => if cs.length = n then
      match hp[r]? with
      | some (.row _ g' _) => match (frzs hp cs).1[r]? with
        | some (.row te _ l) => if g = g' ∧ j + n ≤ (l.getD i []).length then some ((frzs hp cs).1.set r (.row te g (l.set i (splice (l.getD i []) j (frzs hp cs).2)))) else none
        | _ => none
      | some (.box tb bs) => if j + n ≤ bs.length then some (hp.set r (.box tb (splice bs j cs))) else none
      | _ => none
    else none
  | _, _, _ => none

theorem run_storeVar_at {t te : TypeId} {n b s : Nat} {v : Value} {cur : Array Value} (hn : szOf P t = some n) (hb : w.heap[b]? = some (.cells cur te (0, 0))) (hv : v.cells.toList.length = n) (h1 : ∀ u ∈ v.cells.toList, u.oneCell' = true) (hs : s + n ≤ cur.size) :
    (Instr.storeAt t (.pointer (some ⟨b, s, none⟩)) v).run P w = .ok () (w.setRow b (splice cur.toList s v.cells.toList).toArray) := by
  have := run_storeCells_at (P := P) b s te v.cells.toList 0 cur w hb (by omega) h1
  have hsz : v.cells.size = n := by rw [← Array.length_toList]; exact hv
  simp only [Nat.add_zero] at this
  simp only [Instr.storeAt, Instr.sureAddr, Sem.run_bind, Sem.run_pure, Result.andThen_ok, storeVar, run_sizeOf hn, hsz, ne_eq, not_true_eq_false, if_false]
  simp [splice, this]

theorem below_setRow {b : Nat} {cs : Array Value} {B : Nat} (hb : B ≤ b) : Below B w (w.setRow b cs) :=
  ⟨rfl, rfl, rfl, by simp, fun k hk => setRow_other w b k cs (by omega)⟩

theorem CRs.one {l : List A} {vs : List Value} (h : CRs P hp μ Z w l vs) : ∀ u ∈ vs, u.oneCell' = true := by
  intro u hu
  obtain ⟨k, hk, rfl⟩ := List.getElem_of_mem hu
  obtain ⟨u, h1, h2⟩ := h.2 k (l[k]'(by rw [← h.1]; exact hk)) (List.getElem?_eq_getElem _)
  rw [List.getElem?_eq_getElem hk] at h1
  rw [Option.some.inj h1]
  exact h2.one

theorem div_unique {i i' j j' sz : Nat} (h : i * sz + j = i' * sz + j') (hj : j < sz) (hj' : j' < sz) : i = i' ∧ j = j' := by
  have h1 : (i * sz + j) / sz = i := by rw [Nat.mul_comm, Nat.mul_add_div (by omega), Nat.div_eq_of_lt hj]; rfl
  have h2 : (i' * sz + j') / sz = i' := by rw [Nat.mul_comm, Nat.mul_add_div (by omega), Nat.div_eq_of_lt hj']; rfl
  have : i = i' := by rw [← h1, ← h2, h]
  subst this
  exact ⟨rfl, by omega⟩

theorem HR.store (H : HR P Z0 w0 hp μ Z w) {t : TypeId} {p x : A} {u v : Value} {hp' : List Ob} (hpt : UR P hp μ Z w p u) (hx : UR P hp μ Z w x v) (hst : storeA P hp t p x = some hp') :
    ∃ w' μ' Z', (Instr.storeAt t u v).run P w = .ok () w' ∧ HR P Z0 w0 hp' μ' Z' w' ∧ Ext P hp μ Z w hp' μ' Z' w' := by
  unfold storeA at hst
  split at hst
  · rename_i n cs r g i j hn hcs
    split at hst
    · rename_i hlen
      have hC := hx.cells hcs
      obtain ⟨h0, h1, h2, h3⟩ := (hpt : CR P hp μ Z w (.ptr r g i j) u)
      split at hst
      · rename_i t0 g' l0 hr0
        split at hst
        · rename_i te g2 l hr1
          split at hst
          · rename_i hg
            obtain ⟨hgg, hjn⟩ := hg
            obtain rfl := Option.some.inj hst
            have hr := frzs_row hr1
            have ee := hr.symm.trans hr0
            injection ee with ee
            injection ee with e1 e2 e3
            subst e1; subst e3
            have e2' : g = g2 := hgg.trans e2.symm
            clear e2
            subst hgg
            subst e2'
            obtain ⟨Z1, H1, E1, hl1, I1⟩ := H.frzs hC
            obtain ⟨_, q⟩ := h1 te g l hr0
            obtain ⟨q1, b, o, sz, q2, q3, q4, rfl⟩ := q rfl
            obtain ⟨sz', q5, q6, q7⟩ := H1.ob r _ hr1
            rw [q3] at q5
            obtain rfl := Option.some.inj q5
            simp only [q2] at q7
            obtain ⟨cur, q8, q9, q10⟩ := q7
            have hi : l[i]? = some (l.getD i []) := by rw [List.getD_eq_getElem?_getD, List.getElem?_eq_getElem q1]; rfl
            have hsz := q6 i _ hi
            rw [hsz] at hjn
            have hfit : o + (i * sz + j) + n ≤ cur.size := by
              have : (i + 1) * sz ≤ l.length * sz := Nat.mul_le_mul_right _ q1
              rw [Nat.succ_mul] at this
              omega
            have hrun := run_storeVar_at (P := P) (w := w) hn q8 (by rw [hC.1, hlen]) hC.one hfit
            have hlive : Live (Vm.frzs hp cs).1 r := .inl ⟨te, g, l, hr1⟩
            have hown := H1.own r b o hlive q2
            have hvl : v.cells.toList.length = n := by rw [hC.1, hlen]
            have hfn : (Vm.frzs hp cs).2.length = n := by rw [hl1, hlen]
            obtain ⟨H2, E2⟩ := H1.upd (r := r) (o' := .row te g (l.set i (splice (l.getD i []) j (Vm.frzs hp cs).2))) (m' := μ r) (w' := w.setRow b (splice cur.toList (o + (i * sz + j)) v.cells.toList).toArray) hlive
              (H1.below.trans (below_setRow hown.1)) (by simp)
              (fun k hk hne => setRow_other w b k _ (fun e => hne o (e ▸ q2)))
              (fun b' o' e => .inl ⟨o', e⟩)
              (by
                rintro t' g' l' e
                cases e
                refine .inl ⟨l, hr1, by simp, rfl, fun b' o' cur' e1 e2 => ?_⟩
                rw [q2] at e1
                cases e1
                rw [q8] at e2
                cases e2
                exact ⟨_, setRow_heap w b cur _ te _ q8, by simp [splice_length (l := cur.toList) (s := o + (i * sz + j)) (new := v.cells.toList) (by rw [hvl]; simpa using hfit)]⟩)
              (by intro _ _ e; cases e) (by intro _ _ e; cases e)
              (fun E => by
                refine ⟨sz, q3, ?_, ?_⟩
                · intro i' e he
                  rw [List.getElem?_set] at he
                  split at he
                  · obtain rfl := Option.some.inj he
                    rw [splice_length (by rw [hfn, hsz]; exact hjn), hsz]
                  · exact q6 i' e he
                · simp only [if_true, q2]
                  refine ⟨_, setRow_heap w b cur _ te _ q8, ⟨?_, ?_⟩, ?_⟩
                  · intro i' e he
                    rw [List.getElem?_set] at he
                    split at he
                    · obtain rfl := Option.some.inj he
                      rw [splice_length (by rw [hfn, hsz]; exact hjn), hsz]
                    · exact q6 i' e he
                  · intro i' e j' y he hy
                    have hfit' : o + (i * sz + j) + v.cells.toList.length ≤ cur.toList.length := by rw [hvl]; simpa using hfit
                    have get : ∀ q : Nat, (splice cur.toList (o + (i * sz + j)) v.cells.toList).toArray[q]? = if q < o + (i * sz + j) then cur[q]? else if q < o + (i * sz + j) + n then v.cells.toList[q - (o + (i * sz + j))]? else cur[q]? := by
                      intro q
                      rw [List.getElem?_toArray, splice_get hfit', hvl]
                      simp
                    rw [List.getElem?_set] at he
                    split at he
                    · rename_i hii
                      subst hii
                      obtain rfl := Option.some.inj he
                      rw [splice_get (by rw [hfn, hsz]; exact hjn), hfn] at hy
                      rw [get]
                      split at hy
                      · rename_i a1
                        rw [if_pos (by omega)]
                        obtain ⟨u, p1, p2⟩ := q9.at_ i _ j' y hi hy
                        exact ⟨u, p1, p2.mono E.z E.zh⟩
                      · rename_i a1
                        split at hy
                        · rename_i a2
                          rw [if_neg (by omega), if_pos (by omega)]
                          obtain ⟨u, p1, p2⟩ := I1 _ y hy
                          refine ⟨u, by rw [← p1]; congr 1; omega, p2.mono E.z E.zh⟩
                        · rename_i a2
                          rw [if_neg (by omega), if_neg (by omega)]
                          obtain ⟨u, p1, p2⟩ := q9.at_ i _ j' y hi hy
                          exact ⟨u, p1, p2.mono E.z E.zh⟩
                    · rename_i hii
                      obtain ⟨u, p1, p2⟩ := q9.at_ i' _ j' y he hy
                      refine ⟨u, ?_, p2.mono E.z E.zh⟩
                      rw [get, ← p1]
                      have hj' : j' < sz := by
                        have := (List.getElem?_eq_some_iff.1 hy).1
                        rw [q6 i' e he] at this
                        exact this
                      split
                      · rfl
                      · rename_i a1
                        split
                        · rename_i a2
                          exfalso
                          have : i * sz ≤ i' * sz + j' ∧ i' * sz + j' < i * sz + sz := by omega
                          have e2 := div_unique (i := i) (i' := i') (j := i' * sz + j' - i * sz) (j' := j') (sz := sz) (by omega) (by omega) hj'
                          exact hii e2.1
                        · rfl
                  · simp only [List.length_set]
                    rw [List.size_toArray, splice_length (by rw [hvl]; simpa using hfit)]
                    simpa using q10)
            exact ⟨_, _, Z1, hrun, H2, E1.trans E2⟩
          · cases hst
        · cases hst
      · rename_i tb bs hr
        split at hst
        · rename_i hjn
          obtain rfl := Option.some.inj hst
          obtain ⟨rfl, q2, b, q3, rfl⟩ := h2 tb bs hr
          obtain ⟨b', cur, q4, q5, q6⟩ := H.ob r _ hr
          rw [q3] at q4
          obtain rfl : b = b' := by simpa using q4
          have hsz : cur.toList.length = bs.length := q6.1
          have hvl : v.cells.toList.length = n := by rw [hC.1, hlen]
          have hfit : j + n ≤ cur.size := by rw [← Array.length_toList, hsz]; exact hjn
          have hrun := run_storeVar_at (P := P) (w := w) hn q5 hvl hC.one hfit
          have hlive : Live hp r := .inr ⟨tb, bs, hr⟩
          have hown := H.own r b 0 hlive q3
          obtain ⟨H2, E2⟩ := H.upd (r := r) (o' := .box tb (splice bs j cs)) (m' := μ r) (w' := w.setRow b (splice cur.toList j v.cells.toList).toArray) hlive
            (H.below.trans (below_setRow hown.1)) (by simp)
            (fun k hk hne => setRow_other w b k _ (fun e => hne 0 (e ▸ q3)))
            (fun b' o' e => .inl ⟨o', e⟩)
            (by intro _ _ _ e; cases e) (by intro _ _ e; cases e)
            (by
              rintro t' cs' e
              cases e
              exact ⟨bs, hr, (splice_length (by rw [hlen]; exact hjn)).symm, rfl⟩)
            (fun E => by
              refine ⟨b, _, by simp [q3], setRow_heap w b cur _ tb _ q5, ?_⟩
              have := (q6.ext E).splice (hC.ext E) (j := j) (by rw [hlen]; exact hjn)
              simpa using this)
          exact ⟨_, _, Z, hrun, H2, E2⟩
        · cases hst
      · cases hst
    · cases hst
  · cases hst

theorem op_store {t : TypeId} {p x : Operand} {hp' : List Ob} (ho : o.op = .store t p x) (hs : storeA P st.hp t (st.ev p) (st.ev x) = some hp') (h : N (St.put ⟨st.tm, hp'⟩ o.dst .undef)) : OpS P C o st N :=
  OpS.blk h fun a w μ Z R => by
    obtain ⟨w', μ', Z', h1, h2, h3⟩ := R.hr.store (R.ev p) (R.ev x) hs
    refine ⟨_, w', μ', Z', .inr ⟨?_, rfl⟩, h2, h3, trivial⟩
    simp only [execOp, ho]
    rw [Sem.run_bind, h1]
    rfl
end
end Go.Vm
