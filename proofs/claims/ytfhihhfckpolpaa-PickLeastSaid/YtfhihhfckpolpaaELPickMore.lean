/- What the law's proof needs: PickMore. -/
import Derived.Test.YtfhihhfckpolpaaELPickFacts
import Derived.Test.YtfhihhfckpolpaaELKeepFacts
import Derived.Test.YtfhihhfckpolpaaELPxVolutekeep
import Derived.Test.YtfhihhfckpolpaaELPxVolutelaw11
namespace Go.Proofs.Ytfhihhfckpolpaa.Pure
open Go.RowKit Go.Proofs.Ytfhihhfckpolpaa.P Go.Proofs.YtfhihhfckpolpaaW.PrintWords Go.Proofs.YtfhihhfckpolpaaW.PrintLast Go.Proofs.YtfhihhfckpolpaaW.PrintMore
set_option linter.unusedVariables false
set_option linter.unusedSimpArgs false
theorem rising_ext (l : List Nd) (a : List Int) : ∀ b : List Int, a.Pairwise (Lx l) → b.Pairwise (Lx l) → (∀ s, s ∈ a ↔ s ∈ b) → a = b := by
  induction a with
  | nil =>
    intro b _ _ h
    cases b with
    | nil => rfl
    | cons s r => exact absurd ((h s).2 (by simp)) (by simp)
  | cons x a ih =>
    intro b ha hb h
    cases b with
    | nil => exact absurd ((h x).1 (by simp)) (by simp)
    | cons y b =>
      rw [List.pairwise_cons] at ha hb
      obtain ⟨a1, a2⟩ := ha
      obtain ⟨b1, b2⟩ := hb
      have hxy : x = y := by
        rcases List.mem_cons.1 ((h x).1 (by simp)) with e | hx
        · exact e
        · rcases List.mem_cons.1 ((h y).2 (by simp)) with e | hy
          · exact e.symm
          · exact absurd rfl ((b1 x hx).trans (a1 y hy)).ne
      subst hxy
      congr 1
      refine ih b a2 b2 (fun s => ?_)
      constructor
      · intro hs
        rcases List.mem_cons.1 ((h s).1 (List.mem_cons_of_mem _ hs)) with rfl | hs2
        · exact absurd rfl (a1 s hs).ne
        · exact hs2
      · intro hs
        rcases List.mem_cons.1 ((h s).2 (List.mem_cons_of_mem _ hs)) with rfl | hs2
        · exact absurd rfl (b1 s hs).ne
        · exact hs2
theorem range_rising (l : List Nd) (hs : ∀ i j : Nat, i < j → j < l.length → sc l (i : Int) ≤ sc l (j : Int)) : ((List.range l.length).map (fun x : Nat => (x : Int))).Pairwise (Lx l) := by
  rw [List.pairwise_map]
  refine List.Pairwise.imp_of_mem (R := fun a b : Nat => a < b) (fun {a b} ha hb hab => ?_) List.pairwise_lt_range
  have hb2 := List.mem_range.1 hb
  have := hs a b hab hb2
  unfold Lx
  omega
theorem map_rd (l : List Nd) : ((List.range l.length).map (fun x : Nat => (x : Int))).map (fun x => rd_T57 l x) = l := by
  apply List.ext_getElem
  · simp
  · intro i h1 h2
    simp only [List.getElem_map, List.getElem_range]
    exact rdN l i h2
theorem pick_id (l : List Nd) (b : Nat) (hl : l.length ≤ 256) (hb : 1 ≤ b ∧ b ≤ 16) (hlb : l.length ≤ b) (hpos : ∀ j : Int, 0 ≤ j → j < (l.length : Int) → 0 ≤ sc l j) (h3 : ∀ x ∈ l, x.f3.length < 1000000)
    (hs : ∀ i j : Nat, i < j → j < l.length → sc l (i : Int) ≤ sc l (j : Int)) (k : Nat) (hk : 7000 ≤ k) : pick_Pick.f k l (b : Int) = some (l, -1, 0) := by
  obtain ⟨best, cut, hP, he⟩ := pick_f l b hl hb hpos h3 k hk
  have hbest : best = (List.range l.length).map (fun x : Nat => (x : Int)) := by
    refine rising_ext l best _ hP.sorted (range_rising l hs) (fun s => ?_)
    constructor
    · intro hs
      have := hP.rng s hs
      exact List.mem_map.2 ⟨s.toNat, List.mem_range.2 (by omega), by show ((s.toNat : Nat) : Int) = s; omega⟩
    · intro hs
      obtain ⟨i, hi, rfl⟩ := List.mem_map.1 hs
      have := List.mem_range.1 hi
      exact hP.all hlb _ (by omega) (by omega)
  rw [he, hbest, map_rd, hP.none hlb]
theorem nodes_l0 (l : List Nd) (hl : l.length ≤ 1000) (h3 : ∀ x ∈ l, x.f3.length < 1000) (d : Nat) : ∀ (k i : Nat), i ≤ l.length → l.length - i = d → d + 1100 < k → volutekeep_Nodes.l0 k l l (i : Int) = some true := by
  induction d with
  | zero =>
    intro k i hi hd hk
    obtain ⟨k, rfl⟩ : ∃ m, k = m + 1 := ⟨k - 1, by omega⟩
    rw [volutekeep_Nodes.l0, if_neg (by omega)]
  | succ d ih =>
    intro k i hi hd hk
    obtain ⟨k, rfl⟩ : ∃ m, k = m + 1 := ⟨k - 1, by omega⟩
    have hil : i < l.length := by omega
    have hx := h3 l[i] (List.getElem_mem hil)
    have hn : ∀ (a b c : Int) (p : List Int), p.length < 1000 → volutekeep_Node.f k a b c p a b c p = some true := fun a b c p hp => by
      unfold volutekeep_Node.f
      rw [if_pos rfl, if_pos rfl, if_pos rfl, ints_f p p (by omega) k (by omega), Option.bind_some, decide_eq_true rfl]
    rw [volutekeep_Nodes.l0, if_pos (by omega), if_pos (by omega), if_pos (by omega), rdN l i hil, hn _ _ _ _ hx, Option.bind_some, if_pos rfl, wadd1 i (by omega)]
    exact ih k (i + 1) (by omega) (by omega) (by omega)
theorem nodes_refl (l : List Nd) (hl : l.length ≤ 1000) (h3 : ∀ x ∈ l, x.f3.length < 1000) (k : Nat) (hk : 2200 ≤ k) : volutekeep_Nodes.f k l l = some true := by
  unfold volutekeep_Nodes.f
  rw [if_pos rfl]
  exact nodes_l0 l hl h3 l.length k 0 (by omega) (by omega) (by omega)
theorem wakes11_100 : volutelaw11_wakes.f 100 = some true := by decide +kernel
theorem wakes11 (k : Nat) (hk : 100 ≤ k) : volutelaw11_wakes.f k = some true := at_rounds (g := fun k => volutelaw11_wakes.f k) volutelaw11_wakes.mono hk wakes11_100
end Go.Proofs.Ytfhihhfckpolpaa.Pure
