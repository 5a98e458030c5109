/-
  No cell of these rows narrows 'for every input' (looked for: loops, veiled, ifaces, maps, wideKeys, modest, calm, conditions, laid).
  DERIVED. THE GIVEN ROWS OF THIS SEAT. 12 by the template 'for every input the law returns true; each argument reads behind the call as it read before'; 0 by the template 'total and deterministic' (their statements: YtfhihhfckpolpaaTotals.lean).
  GIVEN WITH THE SEED: the statements are not yours to turn. If you find one false, say at which input.
  Laid BY PROGRAM, IN A SANDBOX (cutbox-rows.mjs): the forced cells as the released guide's own fill.sh prints them over the translation b16d3761ec5a3cc3… (all of the seat's roots in one cut). By AI agents, Wed Nov 11 2026. No macro, syntax, notation, axiom, sorry.
-/
import Derived.Test.YtfhihhfckpolpaaChecked
import GoSem.Claim
import GoSem.ClaimJoined
import GoSem.ClaimMapViews
import Derived.JoinedTies
import Derived.KernelRfl
namespace Go.Proofs.Ytfhihhfckpolpaa
/- THE CELL 'sum', in the pinned program and in every row, IS THE sha256 OF THE DUMP (.gsa) THAT YtfhihhfckpolpaaProg.lean LOADS. Nothing in Lean hashes anything: it is a label: what it is worth is what the hold of that sum in a sandbox is worth. -/
noncomputable def Try.pinned : Pinned := { name := "ytfhihhfckpolpaa", sum := "b16d3761ec5a3cc31041dc7897c200ac631aa7466944b3aa9cc81be1fc677e1a", checked := Try.checked }
namespace Rows
def none {H : Type} : Left H := { results := [], args := [] }

/-- 'volutelaw08.CodePlaces': WHATEVER THE INPUT: true; the input reads as it did. -/
def codePlacesSpec : ChangeSpec := { name := "codePlaces", fn := fun _ => fun
  | [d1, d2, d3] => { results := [.lit (.bool true)], args := [d1, d2, d3] }
  | _ => none }
def codePlacesRow : OpenClaim := { program := "ytfhihhfckpolpaa", sum := "b16d3761ec5a3cc31041dc7897c200ac631aa7466944b3aa9cc81be1fc677e1a", func := "volute/volutelaw08.CodePlaces", spec := "codePlaces", unfollowed := true, recurses := true, apart := false }
def CodePlacesSaid : Prop := codePlacesRow.holds Try.pinned (OpenSpec.ofChange codePlacesSpec)

/-- ITS FALSE NEIGHBOUR: 'it returns false'. Refute it at one input. -/
def codePlacesWrong : ChangeSpec := { name := "codePlaces", fn := fun _ => fun
  | [d1, d2, d3] => { results := [.lit (.bool false)], args := [d1, d2, d3] }
  | _ => none }
def CodePlacesWrongFalsely : Prop := codePlacesRow.holds Try.pinned (OpenSpec.ofChange codePlacesWrong)

/-- 'volutelaw08.CodeBegins': WHATEVER THE INPUT: true; the input reads as it did. -/
def codeBeginsSpec : ChangeSpec := { name := "codeBegins", fn := fun _ => fun
  | [d1, d2] => { results := [.lit (.bool true)], args := [d1, d2] }
  | _ => none }
def codeBeginsRow : OpenClaim := { program := "ytfhihhfckpolpaa", sum := "b16d3761ec5a3cc31041dc7897c200ac631aa7466944b3aa9cc81be1fc677e1a", func := "volute/volutelaw08.CodeBegins", spec := "codeBegins", unfollowed := true, recurses := true, apart := false }
def CodeBeginsSaid : Prop := codeBeginsRow.holds Try.pinned (OpenSpec.ofChange codeBeginsSpec)

/-- ITS FALSE NEIGHBOUR: 'it returns false'. Refute it at one input. -/
def codeBeginsWrong : ChangeSpec := { name := "codeBegins", fn := fun _ => fun
  | [d1, d2] => { results := [.lit (.bool false)], args := [d1, d2] }
  | _ => none }
def CodeBeginsWrongFalsely : Prop := codeBeginsRow.holds Try.pinned (OpenSpec.ofChange codeBeginsWrong)

/-- 'volutelaw08.CodeBack': WHATEVER THE INPUT: true; the input reads as it did. -/
def codeBackSpec : ChangeSpec := { name := "codeBack", fn := fun _ => fun
  | [d] => { results := [.lit (.bool true)], args := [d] }
  | _ => none }
def codeBackRow : OpenClaim := { program := "ytfhihhfckpolpaa", sum := "b16d3761ec5a3cc31041dc7897c200ac631aa7466944b3aa9cc81be1fc677e1a", func := "volute/volutelaw08.CodeBack", spec := "codeBack", unfollowed := true, recurses := true, apart := false }
def CodeBackSaid : Prop := codeBackRow.holds Try.pinned (OpenSpec.ofChange codeBackSpec)

/-- ITS FALSE NEIGHBOUR: 'it returns false'. Refute it at one input. -/
def codeBackWrong : ChangeSpec := { name := "codeBack", fn := fun _ => fun
  | [d] => { results := [.lit (.bool false)], args := [d] }
  | _ => none }
def CodeBackWrongFalsely : Prop := codeBackRow.holds Try.pinned (OpenSpec.ofChange codeBackWrong)

/-- 'volutelaw11.PickExact': WHATEVER THE INPUT: true; the input reads as it did. -/
def pickExactSpec : ChangeSpec := { name := "pickExact", fn := fun _ => fun
  | [d1, d2] => { results := [.lit (.bool true)], args := [d1, d2] }
  | _ => none }
def pickExactRow : OpenClaim := { program := "ytfhihhfckpolpaa", sum := "b16d3761ec5a3cc31041dc7897c200ac631aa7466944b3aa9cc81be1fc677e1a", func := "volute/volutelaw11.PickExact", spec := "pickExact", inPlace := ["slices.overlaps[int]"], unfollowed := true, recurses := true, apart := false }
def PickExactSaid : Prop := pickExactRow.holds Try.pinned (OpenSpec.ofChange pickExactSpec)

/-- ITS FALSE NEIGHBOUR: 'it returns false'. Refute it at one input. -/
def pickExactWrong : ChangeSpec := { name := "pickExact", fn := fun _ => fun
  | [d1, d2] => { results := [.lit (.bool false)], args := [d1, d2] }
  | _ => none }
def PickExactWrongFalsely : Prop := pickExactRow.holds Try.pinned (OpenSpec.ofChange pickExactWrong)

/-- 'volutelaw11.PickLeast': WHATEVER THE INPUT: true; the input reads as it did. -/
def pickLeastSpec : ChangeSpec := { name := "pickLeast", fn := fun _ => fun
  | [d1, d2] => { results := [.lit (.bool true)], args := [d1, d2] }
  | _ => none }
def pickLeastRow : OpenClaim := { program := "ytfhihhfckpolpaa", sum := "b16d3761ec5a3cc31041dc7897c200ac631aa7466944b3aa9cc81be1fc677e1a", func := "volute/volutelaw11.PickLeast", spec := "pickLeast", inPlace := ["slices.overlaps[int]"], unfollowed := true, recurses := true, apart := false }
def PickLeastSaid : Prop := pickLeastRow.holds Try.pinned (OpenSpec.ofChange pickLeastSpec)

/-- ITS FALSE NEIGHBOUR: 'it returns false'. Refute it at one input. -/
def pickLeastWrong : ChangeSpec := { name := "pickLeast", fn := fun _ => fun
  | [d1, d2] => { results := [.lit (.bool false)], args := [d1, d2] }
  | _ => none }
def PickLeastWrongFalsely : Prop := pickLeastRow.holds Try.pinned (OpenSpec.ofChange pickLeastWrong)

/-- 'volutelaw11.PickParts': WHATEVER THE INPUT: true; the input reads as it did. -/
def pickPartsSpec : ChangeSpec := { name := "pickParts", fn := fun _ => fun
  | [d1, d2, d3] => { results := [.lit (.bool true)], args := [d1, d2, d3] }
  | _ => none }
def pickPartsRow : OpenClaim := { program := "ytfhihhfckpolpaa", sum := "b16d3761ec5a3cc31041dc7897c200ac631aa7466944b3aa9cc81be1fc677e1a", func := "volute/volutelaw11.PickParts", spec := "pickParts", inPlace := ["slices.overlaps[int]"], unfollowed := true, recurses := true, apart := false }
def PickPartsSaid : Prop := pickPartsRow.holds Try.pinned (OpenSpec.ofChange pickPartsSpec)

/-- ITS FALSE NEIGHBOUR: 'it returns false'. Refute it at one input. -/
def pickPartsWrong : ChangeSpec := { name := "pickParts", fn := fun _ => fun
  | [d1, d2, d3] => { results := [.lit (.bool false)], args := [d1, d2, d3] }
  | _ => none }
def PickPartsWrongFalsely : Prop := pickPartsRow.holds Try.pinned (OpenSpec.ofChange pickPartsWrong)

/-- 'volutelaw09.PileOrder': WHATEVER THE INPUT: true; the input reads as it did. -/
def pileOrderSpec : ChangeSpec := { name := "pileOrder", fn := fun _ => fun
  | [d1, d2, d3, d4] => { results := [.lit (.bool true)], args := [d1, d2, d3, d4] }
  | _ => none }
def pileOrderRow : OpenClaim := { program := "ytfhihhfckpolpaa", sum := "b16d3761ec5a3cc31041dc7897c200ac631aa7466944b3aa9cc81be1fc677e1a", func := "volute/volutelaw09.PileOrder", spec := "pileOrder", inPlace := ["slices.overlaps[volute/api.Sym]"], unfollowed := true, recurses := true, apart := false }
def PileOrderSaid : Prop := pileOrderRow.holds Try.pinned (OpenSpec.ofChange pileOrderSpec)

/-- ITS FALSE NEIGHBOUR: 'it returns false'. Refute it at one input. -/
def pileOrderWrong : ChangeSpec := { name := "pileOrder", fn := fun _ => fun
  | [d1, d2, d3, d4] => { results := [.lit (.bool false)], args := [d1, d2, d3, d4] }
  | _ => none }
def PileOrderWrongFalsely : Prop := pileOrderRow.holds Try.pinned (OpenSpec.ofChange pileOrderWrong)

/-- 'volutelaw09.PileFull': WHATEVER THE INPUT: true; the input reads as it did. -/
def pileFullSpec : ChangeSpec := { name := "pileFull", fn := fun _ => fun
  | [d1, d2, d3] => { results := [.lit (.bool true)], args := [d1, d2, d3] }
  | _ => none }
def pileFullRow : OpenClaim := { program := "ytfhihhfckpolpaa", sum := "b16d3761ec5a3cc31041dc7897c200ac631aa7466944b3aa9cc81be1fc677e1a", func := "volute/volutelaw09.PileFull", spec := "pileFull", inPlace := ["slices.overlaps[volute/api.Sym]"], unfollowed := true, recurses := true, apart := false }
def PileFullSaid : Prop := pileFullRow.holds Try.pinned (OpenSpec.ofChange pileFullSpec)

/-- ITS FALSE NEIGHBOUR: 'it returns false'. Refute it at one input. -/
def pileFullWrong : ChangeSpec := { name := "pileFull", fn := fun _ => fun
  | [d1, d2, d3] => { results := [.lit (.bool false)], args := [d1, d2, d3] }
  | _ => none }
def PileFullWrongFalsely : Prop := pileFullRow.holds Try.pinned (OpenSpec.ofChange pileFullWrong)

/-- 'volutelaw09.PileExact': WHATEVER THE INPUT: true; the input reads as it did. -/
def pileExactSpec : ChangeSpec := { name := "pileExact", fn := fun _ => fun
  | [d1, d2, d3, d4] => { results := [.lit (.bool true)], args := [d1, d2, d3, d4] }
  | _ => none }
def pileExactRow : OpenClaim := { program := "ytfhihhfckpolpaa", sum := "b16d3761ec5a3cc31041dc7897c200ac631aa7466944b3aa9cc81be1fc677e1a", func := "volute/volutelaw09.PileExact", spec := "pileExact", inPlace := ["slices.overlaps[volute/api.Sym]"], unfollowed := true, recurses := true, apart := false }
def PileExactSaid : Prop := pileExactRow.holds Try.pinned (OpenSpec.ofChange pileExactSpec)

/-- ITS FALSE NEIGHBOUR: 'it returns false'. Refute it at one input. -/
def pileExactWrong : ChangeSpec := { name := "pileExact", fn := fun _ => fun
  | [d1, d2, d3, d4] => { results := [.lit (.bool false)], args := [d1, d2, d3, d4] }
  | _ => none }
def PileExactWrongFalsely : Prop := pileExactRow.holds Try.pinned (OpenSpec.ofChange pileExactWrong)

/-- 'volutelaw09.PileHolds': WHATEVER THE INPUT: true; the input reads as it did. -/
def pileHoldsSpec : ChangeSpec := { name := "pileHolds", fn := fun _ => fun
  | [d1, d2, d3] => { results := [.lit (.bool true)], args := [d1, d2, d3] }
  | _ => none }
def pileHoldsRow : OpenClaim := { program := "ytfhihhfckpolpaa", sum := "b16d3761ec5a3cc31041dc7897c200ac631aa7466944b3aa9cc81be1fc677e1a", func := "volute/volutelaw09.PileHolds", spec := "pileHolds", inPlace := ["slices.overlaps[volute/api.Sym]"], unfollowed := true, recurses := true, apart := false }
def PileHoldsSaid : Prop := pileHoldsRow.holds Try.pinned (OpenSpec.ofChange pileHoldsSpec)

/-- ITS FALSE NEIGHBOUR: 'it returns false'. Refute it at one input. -/
def pileHoldsWrong : ChangeSpec := { name := "pileHolds", fn := fun _ => fun
  | [d1, d2, d3] => { results := [.lit (.bool false)], args := [d1, d2, d3] }
  | _ => none }
def PileHoldsWrongFalsely : Prop := pileHoldsRow.holds Try.pinned (OpenSpec.ofChange pileHoldsWrong)

/-- 'volutelaw18.EmitExact': WHATEVER THE INPUT: true; the input reads as it did. -/
def emitExactSpec : ChangeSpec := { name := "emitExact", fn := fun _ => fun
  | [d1, d2] => { results := [.lit (.bool true)], args := [d1, d2] }
  | _ => none }
def emitExactRow : OpenClaim := { program := "ytfhihhfckpolpaa", sum := "b16d3761ec5a3cc31041dc7897c200ac631aa7466944b3aa9cc81be1fc677e1a", func := "volute/volutelaw18.EmitExact", spec := "emitExact", unfollowed := true, recurses := true, apart := false }
def EmitExactSaid : Prop := emitExactRow.holds Try.pinned (OpenSpec.ofChange emitExactSpec)

/-- ITS FALSE NEIGHBOUR: 'it returns false'. Refute it at one input. -/
def emitExactWrong : ChangeSpec := { name := "emitExact", fn := fun _ => fun
  | [d1, d2] => { results := [.lit (.bool false)], args := [d1, d2] }
  | _ => none }
def EmitExactWrongFalsely : Prop := emitExactRow.holds Try.pinned (OpenSpec.ofChange emitExactWrong)

/-- 'volutelaw18.EmitRounds': WHATEVER THE INPUT: true; the input reads as it did. -/
def emitRoundsSpec : ChangeSpec := { name := "emitRounds", fn := fun _ => fun
  | [d1, d2, d3, d4] => { results := [.lit (.bool true)], args := [d1, d2, d3, d4] }
  | _ => none }
def emitRoundsRow : OpenClaim := { program := "ytfhihhfckpolpaa", sum := "b16d3761ec5a3cc31041dc7897c200ac631aa7466944b3aa9cc81be1fc677e1a", func := "volute/volutelaw18.EmitRounds", spec := "emitRounds", unfollowed := true, recurses := true, apart := false }
def EmitRoundsSaid : Prop := emitRoundsRow.holds Try.pinned (OpenSpec.ofChange emitRoundsSpec)

/-- ITS FALSE NEIGHBOUR: 'it returns false'. Refute it at one input. -/
def emitRoundsWrong : ChangeSpec := { name := "emitRounds", fn := fun _ => fun
  | [d1, d2, d3, d4] => { results := [.lit (.bool false)], args := [d1, d2, d3, d4] }
  | _ => none }
def EmitRoundsWrongFalsely : Prop := emitRoundsRow.holds Try.pinned (OpenSpec.ofChange emitRoundsWrong)

/- THE SECOND FORM. 'bulk': how many values and letters a reading holds, each counted each time it is reached (what is shared counts as often as it is met; a slice's spare places count too). A statement '..UptoSaid' is the law's where the arguments, and the package variables that the reading takes, are together of bulk at most 1048576: NARROWER than '..Said'. Prove '..Said' where nothing that the law and all that it calls make is longer than what came in: it says more and counts as full. Else prove '..UptoSaid'. A law counts once. -/
mutual
def uptoBulk {H : Type} : DataW H → Nat
  | .lit (.string bytes) => bytes.length + 1
  | .lit _ => 1
  | .nil => 1
  | .ptr d => uptoBulk d + 1
  | .slice elems spare => uptoBulkAll elems + uptoBulkAll spare + 1
  | .agg parts => uptoBulkAll parts + 1
  | .iface _ d => uptoBulk d + 1
  | .map entries => uptoBulkEntries entries + 1
  | .held _ => 1
def uptoBulkAll {H : Type} : List (DataW H) → Nat
  | [] => 0
  | d :: r => uptoBulk d + uptoBulkAll r
def uptoBulkEntries {H : Type} : List (Lit × DataW H) → Nat
  | [] => 0
  | x :: r => uptoBulkEntry x + uptoBulkEntries r
def uptoBulkEntry {H : Type} : Lit × DataW H → Nat
  | (.string bytes, d) => bytes.length + uptoBulk d + 1
  | (_, d) => uptoBulk d + 1
 end
def uptoSmall : (H : Type) → List (DataW H) → Bool := fun _ ds => decide (uptoBulkAll ds ≤ 1048576)
def OpenSpec.upto (s : _root_.Go.ChangeSpec) : _root_.Go.OpenSpec := { _root_.Go.OpenSpec.ofChange s with cond := some uptoSmall }

/-- 'volutelaw08.CodePlaces', WHERE WHAT IT READS IS OF BULK AT MOST 1048576: true; the input reads as it did. -/
def codePlacesUptoRow : OpenClaim := { program := "ytfhihhfckpolpaa", sum := "b16d3761ec5a3cc31041dc7897c200ac631aa7466944b3aa9cc81be1fc677e1a", func := "volute/volutelaw08.CodePlaces", spec := "codePlaces", unfollowed := true, recurses := true, apart := false, narrowed := true }
def CodePlacesUptoSaid : Prop := codePlacesUptoRow.holds Try.pinned (OpenSpec.upto codePlacesSpec)

/-- 'volutelaw08.CodeBegins', WHERE WHAT IT READS IS OF BULK AT MOST 1048576: true; the input reads as it did. -/
def codeBeginsUptoRow : OpenClaim := { program := "ytfhihhfckpolpaa", sum := "b16d3761ec5a3cc31041dc7897c200ac631aa7466944b3aa9cc81be1fc677e1a", func := "volute/volutelaw08.CodeBegins", spec := "codeBegins", unfollowed := true, recurses := true, apart := false, narrowed := true }
def CodeBeginsUptoSaid : Prop := codeBeginsUptoRow.holds Try.pinned (OpenSpec.upto codeBeginsSpec)

/-- 'volutelaw08.CodeBack', WHERE WHAT IT READS IS OF BULK AT MOST 1048576: true; the input reads as it did. -/
def codeBackUptoRow : OpenClaim := { program := "ytfhihhfckpolpaa", sum := "b16d3761ec5a3cc31041dc7897c200ac631aa7466944b3aa9cc81be1fc677e1a", func := "volute/volutelaw08.CodeBack", spec := "codeBack", unfollowed := true, recurses := true, apart := false, narrowed := true }
def CodeBackUptoSaid : Prop := codeBackUptoRow.holds Try.pinned (OpenSpec.upto codeBackSpec)

/-- 'volutelaw11.PickExact', WHERE WHAT IT READS IS OF BULK AT MOST 1048576: true; the input reads as it did. -/
def pickExactUptoRow : OpenClaim := { program := "ytfhihhfckpolpaa", sum := "b16d3761ec5a3cc31041dc7897c200ac631aa7466944b3aa9cc81be1fc677e1a", func := "volute/volutelaw11.PickExact", spec := "pickExact", inPlace := ["slices.overlaps[int]"], unfollowed := true, recurses := true, apart := false, narrowed := true }
def PickExactUptoSaid : Prop := pickExactUptoRow.holds Try.pinned (OpenSpec.upto pickExactSpec)

/-- 'volutelaw11.PickLeast', WHERE WHAT IT READS IS OF BULK AT MOST 1048576: true; the input reads as it did. -/
def pickLeastUptoRow : OpenClaim := { program := "ytfhihhfckpolpaa", sum := "b16d3761ec5a3cc31041dc7897c200ac631aa7466944b3aa9cc81be1fc677e1a", func := "volute/volutelaw11.PickLeast", spec := "pickLeast", inPlace := ["slices.overlaps[int]"], unfollowed := true, recurses := true, apart := false, narrowed := true }
def PickLeastUptoSaid : Prop := pickLeastUptoRow.holds Try.pinned (OpenSpec.upto pickLeastSpec)

/-- 'volutelaw11.PickParts', WHERE WHAT IT READS IS OF BULK AT MOST 1048576: true; the input reads as it did. -/
def pickPartsUptoRow : OpenClaim := { program := "ytfhihhfckpolpaa", sum := "b16d3761ec5a3cc31041dc7897c200ac631aa7466944b3aa9cc81be1fc677e1a", func := "volute/volutelaw11.PickParts", spec := "pickParts", inPlace := ["slices.overlaps[int]"], unfollowed := true, recurses := true, apart := false, narrowed := true }
def PickPartsUptoSaid : Prop := pickPartsUptoRow.holds Try.pinned (OpenSpec.upto pickPartsSpec)

/-- 'volutelaw09.PileOrder', WHERE WHAT IT READS IS OF BULK AT MOST 1048576: true; the input reads as it did. -/
def pileOrderUptoRow : OpenClaim := { program := "ytfhihhfckpolpaa", sum := "b16d3761ec5a3cc31041dc7897c200ac631aa7466944b3aa9cc81be1fc677e1a", func := "volute/volutelaw09.PileOrder", spec := "pileOrder", inPlace := ["slices.overlaps[volute/api.Sym]"], unfollowed := true, recurses := true, apart := false, narrowed := true }
def PileOrderUptoSaid : Prop := pileOrderUptoRow.holds Try.pinned (OpenSpec.upto pileOrderSpec)

/-- 'volutelaw09.PileFull', WHERE WHAT IT READS IS OF BULK AT MOST 1048576: true; the input reads as it did. -/
def pileFullUptoRow : OpenClaim := { program := "ytfhihhfckpolpaa", sum := "b16d3761ec5a3cc31041dc7897c200ac631aa7466944b3aa9cc81be1fc677e1a", func := "volute/volutelaw09.PileFull", spec := "pileFull", inPlace := ["slices.overlaps[volute/api.Sym]"], unfollowed := true, recurses := true, apart := false, narrowed := true }
def PileFullUptoSaid : Prop := pileFullUptoRow.holds Try.pinned (OpenSpec.upto pileFullSpec)

/-- 'volutelaw09.PileExact', WHERE WHAT IT READS IS OF BULK AT MOST 1048576: true; the input reads as it did. -/
def pileExactUptoRow : OpenClaim := { program := "ytfhihhfckpolpaa", sum := "b16d3761ec5a3cc31041dc7897c200ac631aa7466944b3aa9cc81be1fc677e1a", func := "volute/volutelaw09.PileExact", spec := "pileExact", inPlace := ["slices.overlaps[volute/api.Sym]"], unfollowed := true, recurses := true, apart := false, narrowed := true }
def PileExactUptoSaid : Prop := pileExactUptoRow.holds Try.pinned (OpenSpec.upto pileExactSpec)

/-- 'volutelaw09.PileHolds', WHERE WHAT IT READS IS OF BULK AT MOST 1048576: true; the input reads as it did. -/
def pileHoldsUptoRow : OpenClaim := { program := "ytfhihhfckpolpaa", sum := "b16d3761ec5a3cc31041dc7897c200ac631aa7466944b3aa9cc81be1fc677e1a", func := "volute/volutelaw09.PileHolds", spec := "pileHolds", inPlace := ["slices.overlaps[volute/api.Sym]"], unfollowed := true, recurses := true, apart := false, narrowed := true }
def PileHoldsUptoSaid : Prop := pileHoldsUptoRow.holds Try.pinned (OpenSpec.upto pileHoldsSpec)

/-- 'volutelaw18.EmitExact', WHERE WHAT IT READS IS OF BULK AT MOST 1048576: true; the input reads as it did. -/
def emitExactUptoRow : OpenClaim := { program := "ytfhihhfckpolpaa", sum := "b16d3761ec5a3cc31041dc7897c200ac631aa7466944b3aa9cc81be1fc677e1a", func := "volute/volutelaw18.EmitExact", spec := "emitExact", unfollowed := true, recurses := true, apart := false, narrowed := true }
def EmitExactUptoSaid : Prop := emitExactUptoRow.holds Try.pinned (OpenSpec.upto emitExactSpec)

/-- 'volutelaw18.EmitRounds', WHERE WHAT IT READS IS OF BULK AT MOST 1048576: true; the input reads as it did. -/
def emitRoundsUptoRow : OpenClaim := { program := "ytfhihhfckpolpaa", sum := "b16d3761ec5a3cc31041dc7897c200ac631aa7466944b3aa9cc81be1fc677e1a", func := "volute/volutelaw18.EmitRounds", spec := "emitRounds", unfollowed := true, recurses := true, apart := false, narrowed := true }
def EmitRoundsUptoSaid : Prop := emitRoundsUptoRow.holds Try.pinned (OpenSpec.upto emitRoundsSpec)

end Rows
end Go.Proofs.Ytfhihhfckpolpaa
