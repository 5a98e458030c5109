/- A machine of values: contracts told in the kit's own words, told as what a function of values comes to. -/
import Derived.Test.YtekojicaeadepaaVmV
import Derived.Laws.AppendOwn
import Derived.Deep.Slices
namespace Go.Vm
open Go.RowKit Go.Deep
set_option linter.unusedVariables false
set_option linter.unusedSimpArgs false
section
variable {P : Program} {Z : Nat → Prop} {w w' : World}

/-- whole numbers, one in each cell -/
def ints (k : IntKind) (l : List Int) : List (List A) := l.map fun n => [A.int k n]

theorem hr_none (hz : ∀ b, Z b → b < w.heap.size) (hb : Below w.heap.size w w') : HR P Z w [] noMu Z w' :=
  ⟨hb, fun _ h => h, fun b h => ⟨Nat.lt_of_lt_of_le (hz b h) hb.size, .inl h⟩, fun r o h => by simp at h, fun r b o h => by rcases h with ⟨_, _, _, h⟩ | ⟨_, _, h⟩ <;> simp at h, fun r r' b o o' h => by rcases h with ⟨_, _, _, h⟩ | ⟨_, _, h⟩ <;> simp at h⟩

theorem hr_owned (hz : ∀ b, Z b → b < w.heap.size) (hb : Below w.heap.size w w') {t : TypeId} {k : IntKind} {r : List Int} {v : Value} (hs : szOf P t = some 1) (h : w'.ownsRow w.heap.size t 1 v r.length (r.map (Value.int k))) :
    ∃ μ, HR P Z w [.row t 0 (ints k r)] μ Z w' ∧ CR P [.row t 0 (ints k r)] μ Z w' (.ref 0 0) v := by
  obtain ⟨hl, h⟩ := h
  rcases h with ⟨rfl, h0⟩ | ⟨g, cap, cur, rfl, hg, hh, hn, hm, hsz, hxs⟩
  · have : r = [] := List.length_eq_zero_iff.1 h0
    subst this
    refine ⟨noMu, ⟨hb, fun _ h => h, fun b h => ⟨Nat.lt_of_lt_of_le (hz b h) hb.size, .inl h⟩, ?_, ?_, ?_⟩, ?_⟩
    · intro q o hq
      match q, hq with
      | 0, hq =>
        obtain rfl := Option.some.inj hq
        exact ⟨1, hs, fun i cs h => by simp [ints] at h, rfl⟩
      | q + 1, hq => simp at hq
    · intro q b o _ h
      simp [noMu] at h
    · intro q q' b o o' _ _ h
      simp [noMu] at h
    · refine ⟨by simp, fun t' g' l hr => ?_, fun g' l hr => by simp at hr, rfl⟩
      simp only [List.getElem?_cons_zero, Option.some.injEq, Ob.row.injEq] at hr
      obtain ⟨rfl, rfl, rfl⟩ := hr
      exact ⟨Nat.le_refl _, fun _ => ⟨0, by simp [ints], .inl ⟨rfl, none, by simp [ints]⟩⟩⟩
  · have hget : ∀ i, i < r.length → cur[0 + (i * 1 + 0)]? = some (.int k (r.getD i 0)) := by
      intro i hi
      have h1 : (cur.toList.take (r.length * 1))[i]? = some (.int k (r.getD i 0)) := by
        rw [hxs, List.getElem?_map, List.getElem?_eq_getElem hi, List.getD_eq_getElem?_getD, List.getElem?_eq_getElem hi]
        rfl
      rw [List.getElem?_take, if_pos (by omega), Array.getElem?_toList] at h1
      rw [← h1]
      congr 1
      omega
    have hgl : g < w'.heap.size := by
      rcases Nat.lt_or_ge g w'.heap.size with h | h
      · exact h
      · rw [Array.getElem?_eq_none h] at hh; cases hh
    have hlen : (ints k r).length = r.length := by simp [ints]
    refine ⟨fun _ => some (g, 0), ⟨hb, fun _ h => h, fun b h => ⟨Nat.lt_of_lt_of_le (hz b h) hb.size, .inl h⟩, ?_, ?_, ?_⟩, ?_⟩
    · intro q o hq
      match q, hq with
      | 0, hq =>
        obtain rfl := Option.some.inj hq
        have h1 : ∀ (i : Nat) (cs : List A), (ints k r)[i]? = some cs → i < r.length ∧ cs = [.int k (r.getD i 0)] := by
          intro i cs h
          rw [ints, List.getElem?_map] at h
          obtain ⟨x, hx, rfl⟩ := Option.map_eq_some_iff.1 h
          refine ⟨(List.getElem?_eq_some_iff.1 hx).1, ?_⟩
          rw [List.getD_eq_getElem?_getD, hx]
          rfl
        refine ⟨1, hs, fun i cs h => by rw [(h1 i cs h).2]; rfl, cur, hh, ⟨fun i cs h => by rw [(h1 i cs h).2]; rfl, fun i cs j x hi hj => ?_⟩, by rw [hlen]; omega⟩
        obtain ⟨h2, rfl⟩ := h1 i cs hi
        match j, hj with
        | 0, hj =>
          obtain rfl := Option.some.inj hj
          exact ⟨_, hget i h2, .int k _⟩
        | j + 1, hj => simp at hj
      | q + 1, hq => simp at hq
    · intro q b o _ h
      obtain ⟨rfl, rfl⟩ : g = b ∧ 0 = o := by simpa using h
      exact ⟨hg, hgl, fun hz' => by have := hz _ hz'; omega⟩
    · intro q q' b o o' l1 l2 h1 h2
      have : ∀ q, Live [.row t 0 (ints k r)] q → q = 0 := by
        intro q h
        rcases Nat.eq_zero_or_pos q with e | e
        · exact e
        · obtain ⟨m, rfl⟩ : ∃ m, q = m + 1 := ⟨q - 1, by omega⟩
          rcases h with ⟨_, _, _, h⟩ | ⟨_, _, h⟩ <;> simp at h
      rw [this q l1, this q' l2]
    · refine ⟨by simp, fun t' g' l hr => ?_, fun g' l hr => by simp at hr, rfl⟩
      simp only [List.getElem?_cons_zero, Option.some.injEq, Ob.row.injEq] at hr
      obtain ⟨rfl, rfl, rfl⟩ := hr
      refine ⟨Nat.le_refl _, fun _ => ⟨cap, by rw [hlen]; exact hn, .inr ⟨g, 0, 1, cur, rfl, hs, ?_, hh, by omega⟩⟩⟩
      rw [hlen]

/-- a row of whole numbers that is read -/
theorem iv_ints {k : IntKind} {l : List Int} {v : Value} (h : IV Z w (.sl (ints k l)) v) :
    ∃ ad c, v = .slice ad l.length c ∧ l.length ≤ c ∧ (0 < l.length → ∃ x, ad = some x ∧ ∀ (i : Nat) (n : Int), l[i]? = some n → w.cell? (x.add i) = some (.int k n)) := by
  obtain ⟨a, c, e, hc, h⟩ := h.lay
  have hlen : (ints k l).length = l.length := by simp [ints]
  rw [hlen] at e hc
  refine ⟨a, c, e, hc, fun h0 => ?_⟩
  rcases h with h | ⟨b, o, sz, cur, t, fr, rfl, hb, hh, hlay⟩
  · rw [ints, List.map_eq_nil_iff] at h
    rw [h] at h0; simp at h0
  · refine ⟨_, rfl, fun i n hi => ?_⟩
    have hi' : (ints k l)[i]? = some [.int k n] := by rw [ints, List.getElem?_map, hi]; rfl
    have h1 := hlay.len i _ hi'
    obtain ⟨u, hu, hI⟩ := hlay.at_ i _ 0 _ hi' rfl
    have h2 : sz = 1 := by simpa using h1.symm
    subst h2
    cases hI
    rw [show i * 1 + 0 = i by omega] at hu
    simp [addr_add, World.cell?, hh, hu]

theorem hr_drop {Z0 : Nat → Prop} {w0 : World} {hp : List Ob} {μ : Mu} (H : HR P Z0 w0 hp μ Z w) : HR P Z0 w0 [] noMu Z w :=
  ⟨H.below, H.z0, H.zlt, fun r o h => by simp at h, fun r b o h => by rcases h with ⟨_, _, _, h⟩ | ⟨_, _, h⟩ <;> simp at h, fun r r' b o o' h => by rcases h with ⟨_, _, _, h⟩ | ⟨_, _, h⟩ <;> simp at h⟩

/-- what comes of a call, kept as it is from then on -/
def frz2 (hp : List Ob) : A → A
  | .tup l => .tup (frzl hp l).2
  | x => (frz1 hp x).2
theorem Does.sl {f : FuncId} {args : List A} {res : A} {hr : List Ob} (h : Does P f args res hr) {res' : A} (e : frz2 hr res = res' := by rfl) : Does P f args res' [] := by
  intro Z w vs hZ hl ha
  refine Calls.mono (h Z w vs hZ hl ha) ?_
  rintro e' w' ⟨v, μ, Z', rfl, H, U⟩
  subst e
  have gen : ∀ x, UR P hr μ Z' w' x v → frz2 hr res = (frz1 hr x).2 → ∃ v' μ' Z'', Ending.returned v = .returned v' ∧ HR P Z w [] μ' Z'' w' ∧ UR P [] μ' Z'' w' (frz2 hr res) v' := by
    intro x hx hE
    obtain ⟨Z2, H2, _, T⟩ := H.frz1 hx
    exact ⟨v, noMu, Z2, rfl, hr_drop H2, hE ▸ UR.of_TR T⟩
  cases res with
  | tup l =>
    obtain ⟨vs', rfl, hl', hat⟩ := U
    obtain ⟨Z2, H2, _, hlen, T⟩ := HR.frzl (l := l) (vs := vs'.toList) H ⟨hl', fun j x hj => by
      obtain ⟨u, h1, h2⟩ := hat j x hj
      exact ⟨u, h1, UR.of_TR h2⟩⟩
    exact ⟨_, noMu, Z2, rfl, hr_drop H2, vs', rfl, by rw [hl', hlen], T⟩
  | _ => exact gen _ U rfl
end
end Go.Vm
