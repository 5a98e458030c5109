/- What the law's proof needs: Short. -/
import Derived.Test.YtfhihhfckpolpaaCBPx0
namespace Go.Proofs.Ytfhihhfckpolpaa.P
open Go.RowKit Go.Proofs.YtfhihhfckpolpaaW.PrintWords Go.Proofs.YtfhihhfckpolpaaW.PrintLast Go.Proofs.YtfhihhfckpolpaaW.PrintMore
set_option linter.unusedSimpArgs false
set_option linter.unusedVariables false
theorem zs {w W0 W1 w2 : World} (H : Aside0 (Below w.heap.size w W0)) (hb : Below W1.heap.size W1 w2)
    (h : Below w.heap.size w W0 → Below w.heap.size w W1 := by intro h_; repeat (first | (with_reducible first | exact h_ | apply below_alloc | apply pw_below_drewN | apply below_drew1) | refine below_set ?_ (Aside0.out ‹_›) | exact h_)) : Aside0 (Below w.heap.size w w2) := ⟨below_step (h H.out) hb⟩
theorem zB {w W0 W1 : World} (H : Aside0 (Below w.heap.size w W0))
    (h : Below w.heap.size w W0 → Below w.heap.size w W1 := by intro h_; repeat (first | (with_reducible first | exact h_ | apply below_alloc | apply pw_below_drewN | apply below_drew1) | refine below_set ?_ (Aside0.out ‹_›) | exact h_)) : Below w.heap.size w W1 := h H.out
theorem zr_ {α : Type} {d : Kd α} {e base : Nat} {ok : Nat → Prop} {v : Value} {xs : List α} {w0 w1 : World} (H : Aside0 (d.R e w0 base ok v xs))
    (h : d.R e w0 base ok v xs → d.R e w1 base ok v xs := by intro h_; repeat (first | with_reducible exact h_ | (with_reducible first | apply Kd.R_alloc | apply Kd.R_drewN | apply Kd.R_drew) | exact h_)) : d.R e w1 base ok v xs := h H.out
theorem zR {α : Type} {d : Kd α} {e base : Nat} {ok : Nat → Prop} {v : Value} {xs : List α} {w0 w1 w2 : World} (H : Aside0 (d.R e w0 base ok v xs)) (hb : Below w1.heap.size w1 w2)
    (h : d.R e w0 base ok v xs → d.R e w1 base ok v xs := by intro h_; repeat (first | with_reducible exact h_ | (with_reducible first | apply Kd.R_alloc | apply Kd.R_drewN | apply Kd.R_drew) | exact h_)) : Aside0 (d.R e w2 base ok v xs) := ⟨Kd.R_below (h H.out) hb⟩
def lb (n m : Nat) : Array Bool := ((List.range n).map fun i => m.testBit i).toArray
section
variable {P : Program} {ops : Array Oper} {Q : Exit → Act → World → Prop} {md : Region.Mode} {S : World → Prop} {ds : List Nat}
end
end Go.Proofs.Ytfhihhfckpolpaa.P
