/- What the law's proof needs: Short. -/
import Derived.Test.YtlolfijadcflaaaEtPx0
namespace Go.Proofs.Ytlolfijadcflaaa.P
open Go.RowKit Go.Proofs.YtlolfijadcflaaaW.PrintWords Go.Proofs.YtlolfijadcflaaaW.PrintLast Go.Proofs.YtlolfijadcflaaaW.PrintMore
set_option linter.unusedSimpArgs false
set_option linter.unusedVariables false
theorem zb {g : Nat} {o : Obj} {w0 w1 w2 : World} (H : Aside0 (w0.heap[g]? = some o)) (hb : Below w1.heap.size w1 w2)
    (h : w0.heap[g]? = some o → w1.heap[g]? = some o := by intro h_; repeat (first | with_reducible exact h_ | (with_reducible first | refine blk_drewN ?_ _ | refine blk_drew ?_ | refine blk_alloc ?_ _) | refine blk_far ?_ (Aside0.out ‹_›) _ | exact h_)) : Aside0 (w2.heap[g]? = some o) := ⟨blk_below (h H.out) hb⟩
theorem zs {w W0 W1 w2 : World} (H : Aside0 (Below w.heap.size w W0)) (hb : Below W1.heap.size W1 w2)
    (h : Below w.heap.size w W0 → Below w.heap.size w W1 := by intro h_; repeat (first | (with_reducible first | exact h_ | apply below_alloc | apply pw_below_drewN | apply below_drew1) | refine below_set ?_ (Aside0.out ‹_›) | exact h_)) : Aside0 (Below w.heap.size w w2) := ⟨below_step (h H.out) hb⟩
theorem zg {g : Nat} {w W0 W1 : World} (H : Aside0 (Below w.heap.size w W0)) (hg : g = W1.heap.size)
    (h : Below w.heap.size w W0 → Below w.heap.size w W1 := by intro h_; repeat (first | (with_reducible first | exact h_ | apply below_alloc | apply pw_below_drewN | apply below_drew1) | refine below_set ?_ (Aside0.out ‹_›) | exact h_)) : Aside0 (w.heap.size ≤ g) := ⟨by rw [hg]; exact below_size (h H.out)⟩
theorem zl {g g' : Nat} {o : Obj} {w0 w1 : World} (H : Aside0 (w0.heap[g]? = some o)) (hg : g' = w1.heap.size)
    (h : w0.heap[g]? = some o → w1.heap[g]? = some o := by intro h_; repeat (first | with_reducible exact h_ | (with_reducible first | refine blk_drewN ?_ _ | refine blk_drew ?_ | refine blk_alloc ?_ _) | refine blk_far ?_ (Aside0.out ‹_›) _ | exact h_)) : Aside0 (g ≠ g') := ⟨by rw [hg]; exact Nat.ne_of_lt (blk_lt (h H.out))⟩
theorem zr {g g' : Nat} {o : Obj} {w0 w1 : World} (H : Aside0 (w0.heap[g]? = some o)) (hg : g' = w1.heap.size)
    (h : w0.heap[g]? = some o → w1.heap[g]? = some o := by intro h_; repeat (first | with_reducible exact h_ | (with_reducible first | refine blk_drewN ?_ _ | refine blk_drew ?_ | refine blk_alloc ?_ _) | refine blk_far ?_ (Aside0.out ‹_›) _ | exact h_)) : Aside0 (g' ≠ g) := ⟨by rw [hg]; exact Nat.ne_of_gt (blk_lt (h H.out))⟩
theorem zk {g : Nat} {o : Obj} {w0 w1 : World} (H : Aside0 (w0.heap[g]? = some o))
    (h : w0.heap[g]? = some o → w1.heap[g]? = some o := by intro h_; repeat (first | with_reducible exact h_ | (with_reducible first | refine blk_drewN ?_ _ | refine blk_drew ?_ | refine blk_alloc ?_ _) | refine blk_far ?_ (Aside0.out ‹_›) _ | exact h_)) : w1.heap[g]? = some o := h H.out
theorem zB {w W0 W1 : World} (H : Aside0 (Below w.heap.size w W0))
    (h : Below w.heap.size w W0 → Below w.heap.size w W1 := by intro h_; repeat (first | (with_reducible first | exact h_ | apply below_alloc | apply pw_below_drewN | apply below_drew1) | refine below_set ?_ (Aside0.out ‹_›) | exact h_)) : Below w.heap.size w W1 := h H.out
theorem zr_ {α : Type} {d : Kd α} {e base : Nat} {ok : Nat → Prop} {v : Value} {xs : List α} {w0 w1 : World} (H : Aside0 (d.R e w0 base ok v xs))
    (h : d.R e w0 base ok v xs → d.R e w1 base ok v xs := by intro h_; repeat (first | with_reducible exact h_ | (with_reducible first | apply Kd.R_alloc | apply Kd.R_drewN | apply Kd.R_drew) | exact h_)) : d.R e w1 base ok v xs := h H.out
theorem zR {α : Type} {d : Kd α} {e base : Nat} {ok : Nat → Prop} {v : Value} {xs : List α} {w0 w1 w2 : World} (H : Aside0 (d.R e w0 base ok v xs)) (hb : Below w1.heap.size w1 w2)
    (h : d.R e w0 base ok v xs → d.R e w1 base ok v xs := by intro h_; repeat (first | with_reducible exact h_ | (with_reducible first | apply Kd.R_alloc | apply Kd.R_drewN | apply Kd.R_drew) | exact h_)) : Aside0 (d.R e w2 base ok v xs) := ⟨Kd.R_below (h H.out) hb⟩
theorem zC5 {w : World} {g : Nat} {t : TypeId} {v0 v1 v2 v3 v4 : Value} (H : Aside0 (w.heap[g]? = some (.cells #[v0, v1, v2, v3, v4] t (0, 0)))) :
    w.cell? ⟨g, 0, none⟩ = some v0 ∧ w.cell? ⟨g, 1, none⟩ = some v1 ∧ w.cell? ⟨g, 2, none⟩ = some v2 ∧ w.cell? ⟨g, 3, none⟩ = some v3 ∧ w.cell? ⟨g, 4, none⟩ = some v4 :=
  ⟨(blk_cell H.out 0).trans rfl, (blk_cell H.out 1).trans rfl, (blk_cell H.out 2).trans rfl, (blk_cell H.out 3).trans rfl, (blk_cell H.out 4).trans rfl⟩
theorem zC4 {w : World} {g : Nat} {t : TypeId} {v0 v1 v2 v3 : Value} (H : Aside0 (w.heap[g]? = some (.cells #[v0, v1, v2, v3] t (0, 0)))) :
    w.cell? ⟨g, 0, none⟩ = some v0 ∧ w.cell? ⟨g, 1, none⟩ = some v1 ∧ w.cell? ⟨g, 2, none⟩ = some v2 ∧ w.cell? ⟨g, 3, none⟩ = some v3 :=
  ⟨(blk_cell H.out 0).trans rfl, (blk_cell H.out 1).trans rfl, (blk_cell H.out 2).trans rfl, (blk_cell H.out 3).trans rfl⟩
theorem zC10 {w : World} {g : Nat} {t : TypeId} {v0 v1 v2 v3 v4 v5 v6 v7 v8 v9 : Value} (H : Aside0 (w.heap[g]? = some (.cells #[v0, v1, v2, v3, v4, v5, v6, v7, v8, v9] t (0, 0)))) :
    w.cell? ⟨g, 0, none⟩ = some v0 ∧ w.cell? ⟨g, 1, none⟩ = some v1 ∧ w.cell? ⟨g, 2, none⟩ = some v2 ∧ w.cell? ⟨g, 3, none⟩ = some v3 ∧ w.cell? ⟨g, 4, none⟩ = some v4 ∧ w.cell? ⟨g, 5, none⟩ = some v5 ∧ w.cell? ⟨g, 6, none⟩ = some v6 ∧ w.cell? ⟨g, 7, none⟩ = some v7 ∧ w.cell? ⟨g, 8, none⟩ = some v8 ∧ w.cell? ⟨g, 9, none⟩ = some v9 :=
  ⟨(blk_cell H.out 0).trans rfl, (blk_cell H.out 1).trans rfl, (blk_cell H.out 2).trans rfl, (blk_cell H.out 3).trans rfl, (blk_cell H.out 4).trans rfl, (blk_cell H.out 5).trans rfl, (blk_cell H.out 6).trans rfl, (blk_cell H.out 7).trans rfl, (blk_cell H.out 8).trans rfl, (blk_cell H.out 9).trans rfl⟩
theorem zF3 {w : World} {g : Nat} {t : TypeId} {cs : Array Value} (H : Aside0 (w.heap[g]? = some (.cells cs t (0, 0)))) : w.frozen? ⟨g, 0, none⟩ = false ∧ w.frozen? ⟨g, 1, none⟩ = false ∧ w.frozen? ⟨g, 2, none⟩ = false := ⟨blk_frozen H.out 0, blk_frozen H.out 1, blk_frozen H.out 2⟩
theorem zF4 {w : World} {g : Nat} {t : TypeId} {cs : Array Value} (H : Aside0 (w.heap[g]? = some (.cells cs t (0, 0)))) : w.frozen? ⟨g, 0, none⟩ = false ∧ w.frozen? ⟨g, 1, none⟩ = false ∧ w.frozen? ⟨g, 2, none⟩ = false ∧ w.frozen? ⟨g, 3, none⟩ = false := ⟨blk_frozen H.out 0, blk_frozen H.out 1, blk_frozen H.out 2, blk_frozen H.out 3⟩
theorem zF5 {w : World} {g : Nat} {t : TypeId} {cs : Array Value} (H : Aside0 (w.heap[g]? = some (.cells cs t (0, 0)))) : w.frozen? ⟨g, 0, none⟩ = false ∧ w.frozen? ⟨g, 1, none⟩ = false ∧ w.frozen? ⟨g, 2, none⟩ = false ∧ w.frozen? ⟨g, 3, none⟩ = false ∧ w.frozen? ⟨g, 4, none⟩ = false := ⟨blk_frozen H.out 0, blk_frozen H.out 1, blk_frozen H.out 2, blk_frozen H.out 3, blk_frozen H.out 4⟩
theorem zF10 {w : World} {g : Nat} {t : TypeId} {cs : Array Value} (H : Aside0 (w.heap[g]? = some (.cells cs t (0, 0)))) : w.frozen? ⟨g, 0, none⟩ = false ∧ w.frozen? ⟨g, 1, none⟩ = false ∧ w.frozen? ⟨g, 2, none⟩ = false ∧ w.frozen? ⟨g, 3, none⟩ = false ∧ w.frozen? ⟨g, 4, none⟩ = false ∧ w.frozen? ⟨g, 5, none⟩ = false ∧ w.frozen? ⟨g, 6, none⟩ = false ∧ w.frozen? ⟨g, 7, none⟩ = false ∧ w.frozen? ⟨g, 8, none⟩ = false ∧ w.frozen? ⟨g, 9, none⟩ = false := ⟨blk_frozen H.out 0, blk_frozen H.out 1, blk_frozen H.out 2, blk_frozen H.out 3, blk_frozen H.out 4, blk_frozen H.out 5, blk_frozen H.out 6, blk_frozen H.out 7, blk_frozen H.out 8, blk_frozen H.out 9⟩
def lb (n m : Nat) : Array Bool := ((List.range n).map fun i => m.testBit i).toArray
section
variable {P : Program} {ops : Array Oper} {Q : Exit → Act → World → Prop} {md : Region.Mode} {S : World → Prop} {ds : List Nat}
theorem pu (i T : Nat) (l' : Array Bool) {oi : Oper} {v : Value} {fuel : Nat} {l : Array Bool} {a a' : Act} {w : World} (hi : ops[i]? = some oi) (hN : oi.dst = some T) (hc : anyB md ops l l' i = true)
    (h : wpAnyLast P md ops Q S ds fuel l' a' w)
    (hQ : ∀ c a w, Q (.panic c) (a.put oi.dst v) w → Q (.panic c) a w := by exact fun _ _ _ h => h)
    (hw : Region.wanted oi (yielded ops a.tmps) = true := by rfl)
    (hy : ∀ w', (execOp a.eval oi).run P w' = .ok (.value v) w' := by intro w'; go_simp; with_reducible rfl)
    (ha : a.put (some T) v = a' := by simp only [Act.put, List.setIfInBounds_toArray, List.set_cons_zero, List.set_cons_succ, i64_w, i32_w]; rfl) : wpAnyLast P md ops Q S ds (fuel + 1) l a w :=
  pure_ l' hi hN hc hQ (Or.inl ⟨hw, hy⟩) ha h
theorem pv (i T : Nat) (l' : Array Bool) {oi : Oper} {fuel : Nat} {l : Array Bool} {a a' : Act} {w : World} (hi : ops[i]? = some oi) (hN : oi.dst = some T) (hc : anyB md ops l l' i = true)
    (h : wpAnyLast P md ops Q S ds fuel l' a' w)
    (hQ : ∀ c a w, Q (.panic c) (a.put oi.dst undef) w → Q (.panic c) a w := by exact fun _ _ _ h => h)
    (hw : Region.wanted oi (yielded ops a.tmps) = false := by rfl)
    (ha : a.put (some T) undef = a' := by simp only [Act.put, List.setIfInBounds_toArray, List.set_cons_zero, List.set_cons_succ, i64_w, i32_w]; rfl) : wpAnyLast P md ops Q S ds (fuel + 1) l a w :=
  pure_ l' hi hN hc hQ (Or.inr ⟨hw, rfl⟩) ha h
end
end Go.Proofs.Ytlolfijadcflaaa.P
