/- What the law's proof needs: RowOps. -/
import Derived.Shelf.Spec.SlicesInsertGrow
import Derived.Laws.CopyRow
import Derived.Test.YtfhihhfckpolpaaELPx0
namespace Go.Proofs.Ytfhihhfckpolpaa.P
open Go.RowKit Go.Proofs.YtfhihhfckpolpaaW.PrintWords Go.Proofs.YtfhihhfckpolpaaW.PrintLast Go.Proofs.YtfhihhfckpolpaaW.PrintMore
set_option linter.unusedSimpArgs false
set_option linter.unusedVariables false
theorem run_copy_rowS {P : Program} (sz : Nat) (w : World) (dT sT ty elem : TypeId) (g o dLen dCap : Nat) (a : Addr) (sLen sCap : Nat) (cur : Array Value) (t : TypeId) (cs : List Value)
    (hu : P.underlying dT = some (.slice elem)) (hs : (P.info? elem).map (·.size) = some sz)
    (hg : w.heap[g]? = some (.cells cur t (0, 0))) (hn : cs.length = Nat.min sLen dLen * sz)
    (hsrc : ∀ j v, cs[j]? = some v → w.cell? (a.add j) = some v) (hfit : o + cs.length ≤ cur.size) (h1 : ∀ v ∈ cs, v.oneCell' = true) :
    (Builtin.copy_ #[dT, sT] ty #[.slice (some ⟨g, o, none⟩) dLen dCap, .slice (some a) sLen sCap]).run P w =
      .ok (goInt (Nat.min sLen dLen)) (w.setRow g (cur.toList.take o ++ cs ++ cur.toList.drop (o + cs.length)).toArray) := by
  have hl := run_loadCells_list (P := P) w a cs hsrc
  have hst := run_storeCells_at P g o t cs 0 cur w hg (by simpa using hfit) h1
  cases hq : P.info? elem with
  | none => simp [hq] at hs
  | some i =>
    have hi : i.size = sz := by simpa [hq] using hs
    simp [Builtin.copy_, run_underlying hu, Builtin.lenOf, Builtin.firstCells, sizeOf, typeInfo, hq, hi, ← hn, hl, hst]
theorem setRow_other (w : World) (g k : Nat) (cs : Array Value) (h : k ≠ g) : (w.setRow g cs).heap[k]? = w.heap[k]? := by
  unfold World.setRow
  simp [Array.getElem?_modify, Ne.symm h]
theorem setRow_size (w : World) (g : Nat) (cs : Array Value) : (w.setRow g cs).heap.size = w.heap.size := by
  unfold World.setRow
  simp
theorem below_setRow {n : Nat} {w W : World} (h : Below n w W) {g : Nat} (hg : n ≤ g) (cs : Array Value) : Below n w (W.setRow g cs) :=
  ⟨h.os, h.tape, h.output, by rw [setRow_size]; exact h.size, fun k hk => by rw [setRow_other W g k cs (by omega)]; exact h.block k hk⟩
theorem kept_setRow {w W : World} {S : Nat → Prop} (h : Kept w W S) {g : Nat} (hg : S g ∨ w.heap.size ≤ g) (cs : Array Value) : Kept w (W.setRow g cs) S :=
  ⟨by rw [setRow_size]; exact h.1, fun k hk hn => by
    rw [setRow_other W g k cs (fun e => by subst e; exact hg.elim hn (fun h2 => by omega))]
    exact h.2 k hk hn⟩
theorem seg_move (X vc : List Value) (I N S : Nat) (hv : vc.length = S) (hI : I ≤ N) (hX : N + S ≤ X.length) :
    let D := (X.take N).drop I
    let Y := X.take (I + S) ++ D ++ X.drop (I + S + D.length)
    Y.take I ++ vc ++ Y.drop (I + vc.length) = X.take I ++ vc ++ D ++ X.drop (N + S) := by
  intro D Y
  have hD : D.length = N - I := by simp only [D, List.length_drop, List.length_take]; omega
  have e1 : Y.take I = X.take I := by
    simp only [Y, List.append_assoc]
    rw [List.take_append_of_le_length (by rw [List.length_take]; omega), List.take_take, Nat.min_eq_left (by omega)]
  have e2 : Y.drop (I + vc.length) = D ++ X.drop (N + S) := by
    have hl : (X.take (I + S)).length = I + S := by rw [List.length_take]; omega
    simp only [Y, List.append_assoc]
    rw [hv, List.drop_append_of_le_length (by omega), List.drop_of_length_le (by omega), List.nil_append, hD, show I + S + (N - I) = N + S by omega]
  rw [e1, e2]
  simp only [List.append_assoc]
theorem seg_fill (X D vc : List Value) (I S : Nat) (hv : vc.length = S) (hX : I + S + D.length ≤ X.length) :
    let Y := X.take I ++ vc ++ X.drop (I + vc.length)
    Y.take (I + S) ++ D ++ Y.drop (I + S + D.length) = X.take I ++ vc ++ D ++ X.drop (I + S + D.length) := by
  intro Y
  have hl : (X.take I ++ vc).length = I + S := by rw [List.length_append, List.length_take]; omega
  have e1 : Y.take (I + S) = X.take I ++ vc := by
    simp only [Y]
    rw [List.take_append_of_le_length (by omega), List.take_of_length_le (by omega)]
  have e2 : Y.drop (I + S + D.length) = X.drop (I + S + D.length) := by
    simp only [Y]
    rw [List.drop_append, List.drop_of_length_le (by omega), List.nil_append, List.drop_drop, hl, hv]
    congr 1
    omega
  rw [e1, e2]
end Go.Proofs.Ytfhihhfckpolpaa.P
