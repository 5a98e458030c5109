/- A part of the proof that EmitRoundsSaid of the given program holds (VsC); no conditions but the statement's own. -/
import Derived.Test.YtekojicaeadepaaVsB
import Derived.Test.YtekojicaeadepaaSched
import Derived.Test.YtekojicaeadepaaNib
namespace Go.Proofs.Ytekojicaeadepaa.Vm
open Go.Vm Go.Proofs Go.RowKit Go.Proofs.YtekojicaeadepaaW.PrintWords
set_option linter.unusedSimpArgs false
-- short

theorem vals1 {R : A → Value → Prop} {vs : Array Value} {x : A} (hl : vs.toList.length = [x].length) (ha : ∀ (j : Nat) (y : A), [x][j]? = some y → ∃ u, vs.toList[j]? = some u ∧ R y u) : ∃ u, vs = #[u] ∧ R x u := by
  obtain ⟨u, h1, h2⟩ := ha 0 x rfl
  obtain ⟨v, hv⟩ : ∃ v, vs.toList = [v] := List.length_eq_one_iff.1 hl
  rw [hv] at h1
  obtain rfl : v = u := by simpa using h1
  exact ⟨v, Array.ext' hv, h2⟩
theorem vals2 {R : A → Value → Prop} {vs : Array Value} {x z : A} (hl : vs.toList.length = [x, z].length) (ha : ∀ (j : Nat) (y : A), [x, z][j]? = some y → ∃ u, vs.toList[j]? = some u ∧ R y u) : ∃ u v, vs = #[u, v] ∧ R x u ∧ R z v := by
  obtain ⟨u, h1, h2⟩ := ha 0 x rfl
  obtain ⟨v, h3, h4⟩ := ha 1 z rfl
  match hv : vs.toList, hl with
  | [p, q], _ =>
    rw [hv] at h1 h3
    obtain rfl : p = u := by simpa using h1
    obtain rfl : q = v := by simpa using h3
    exact ⟨p, q, Array.ext' hv, h2, h4⟩

theorem kd_C {Z : Nat → Prop} {w : World} {k : IntKind} {l : List Int} {v : Value} (h : IV Z w (.sl (ints k l)) v) (hl : l.length ≤ 9223372036854775807) :
    ∃ ad c, v = .slice ad l.length c ∧ l.length ≤ c ∧ Kd.C (Kd.int k) w ad l.length l := by
  obtain ⟨ad, c, e, hc, h⟩ := iv_ints h
  refine ⟨ad, c, e, hc, rfl, hl, fun h0 => ?_⟩
  obtain ⟨x, rfl, hx⟩ := h h0
  refine ⟨x, rfl, fun j p hj => ⟨[.int k p], rfl, rfl, fun i u hi => ?_⟩⟩
  match i, hi with
  | 0, hi =>
    obtain rfl := Option.some.inj hi
    have : j * (Kd.int k).sz + 0 = j := Nat.mul_one j
    rw [this]
    exact hx j p hj
  | i + 1, hi => simp at hi

theorem kd_R {w w' : World} {t : TypeId} {k : IntKind} {ok : Nat → Prop} {v : Value} {r : List Int} (h : Kd.R (Kd.int k) t w' w.heap.size ok v r) : w'.ownsRow w.heap.size t 1 v r.length (r.map (Value.int k)) := by
  obtain ⟨_, inner, ho, hr, hat⟩ := h
  have hi : inner = r.map (Value.int k) := by
    apply List.ext_getElem?
    intro j
    rcases Nat.lt_or_ge j r.length with hj | hj
    · have h1 := hat j r[j] (List.getElem?_eq_getElem hj)
      have h2 : (inner.drop (j * (Kd.int k).sz)).take (Kd.int k).sz = [Value.int k r[j]] := h1
      have h3 : (inner.drop (j * 1)).take 1 = [Value.int k r[j]] := h2
      rw [Nat.mul_one] at h3
      have h4 : ((inner.drop j).take 1)[0]? = some (Value.int k r[j]) := by rw [h3]; rfl
      rw [List.getElem?_take, if_pos (by decide), List.getElem?_drop, Nat.add_zero] at h4
      rw [h4, List.getElem?_map, List.getElem?_eq_getElem hj]
      rfl
    · have h1 : inner.length = r.length := by
        have h2 : inner.length = r.length * 1 := hr
        omega
      rw [List.getElem?_eq_none (by omega), List.getElem?_eq_none (by simp; omega)]
  exact hi ▸ ho

theorem At_fn {n k : Nat} (h1 : 1 ≤ n) (h2 : n ≤ 64) (h3 : k < n * 16) : Does Try.prog 40 [.int .i64 n, .int .i64 k] (.tup [.int .i64 ((P.ord n).getD (k % n) 0), .int .i64 ((k / n : Nat) : Int), .int .i64 0]) [] := by
  intro Z w vs hZ hl ha
  obtain ⟨u, v, rfl, hu, hv⟩ := vals2 (R := TR Try.prog [] noMu Z w) hl ha
  have hu : IV Z w (.int .i64 (n : Int)) u := hu
  have hv : IV Z w (.int .i64 (k : Int)) v := hv
  cases hu
  cases hv
  refine Calls.mono (P.at_yes n k h1 h2 h3 w) ?_
  rintro e w' ⟨rfl, hb⟩
  refine ⟨_, noMu, Z, rfl, hr_none hZ hb, _, rfl, rfl, fun j x hj => ?_⟩
  match j, hj with
  | 0, hj => cases hj; exact ⟨_, rfl, IV.int _ _⟩
  | 1, hj => cases hj; exact ⟨_, rfl, IV.int _ _⟩
  | 2, hj => cases hj; exact ⟨_, rfl, IV.int _ _⟩
  | j + 3, hj => simp at hj

def byteL (l : List Int) : Prop := ∀ x ∈ l, 0 ≤ x ∧ x < 256
theorem Nibbles_fn {l : List Int} (hb : byteL l) (hl : l.length ≤ 4096) : Does Try.prog 38 [.sl (ints .u8 l)] (.tup [.ref 0 0, .int .i64 0]) [.row 3 0 (ints .i64 (P.nibs l))] := by
  intro Z w vs hZ hl' ha
  obtain ⟨u, rfl, hu⟩ := vals1 (R := TR Try.prog [] noMu Z w) hl' ha
  obtain ⟨ad, c, rfl, hc, hC⟩ := kd_C (show IV Z w (.sl (ints .u8 l)) u from hu) (by omega)
  refine Calls.mono (P.bit_Nibbles.calls ad c l (P.nibs l) 0 w hC hc ?_) ?_
  · rw [P.bit_Nibbles.f, if_pos hl, if_pos]
    simp only [P.byteB, List.all_eq_true, Bool.and_eq_true, decide_eq_true_eq]
    exact hb
  rintro e w' ⟨v, rfl, hR, hbel⟩
  obtain ⟨μ, H, hcr⟩ := hr_owned hZ hbel (Sz.h : szOf Try.prog 3 = some 1) (kd_R hR)
  refine ⟨_, μ, Z, rfl, H, _, rfl, rfl, fun j x hj => ?_⟩
  match j, hj with
  | 0, hj => cases hj; exact ⟨_, rfl, hcr⟩
  | 1, hj => cases hj; exact ⟨_, rfl, IV.int _ _⟩
  | j + 2, hj => simp at hj
theorem Nibbles_sl {l : List Int} (hb : byteL l) (hl : l.length ≤ 4096) : Does Try.prog 38 [.sl (ints .u8 l)] (.tup [.sl (ints .i64 (P.nibs l)), .int .i64 0]) [] := (Nibbles_fn hb hl).sl
theorem States_sl {l : List Int} (hl : l.length ≤ 64) (hn : ∀ x ∈ l, nibB x) : Does Try.prog 39 [.sl (ints .i64 l)] (.tup [.sl (ints .u32 (stsI beginI l)), .int .i64 0]) [] := (States_fn hl hn).sl
end Go.Proofs.Ytekojicaeadepaa.Vm
