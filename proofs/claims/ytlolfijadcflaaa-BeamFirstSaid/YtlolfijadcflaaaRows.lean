/-
  No cell of these rows narrows 'for every input' (looked for: loops, veiled, ifaces, maps, wideKeys, modest, calm, conditions, laid).
  DERIVED. THE GIVEN ROWS OF THIS SEAT. 12 by the template 'for every input the law returns true; each argument reads behind the call as it read before'; 0 by the template 'total and deterministic' (their statements: YtlolfijadcflaaaTotals.lean).
  GIVEN WITH THE SEED: the statements are not yours to turn. If you find one false, say at which input.
  Laid BY PROGRAM, IN A SANDBOX (cutbox-rows.mjs): the forced cells as the released guide's own fill.sh prints them over the translation 7dd809efa8472519… (all of the seat's roots in one cut). By AI agents, Wed Nov 11 2026. No macro, syntax, notation, axiom, sorry.
-/
import Derived.Test.YtlolfijadcflaaaChecked
import GoSem.Claim
import GoSem.ClaimJoined
import GoSem.ClaimMapViews
import Derived.JoinedTies
import Derived.KernelRfl
namespace Go.Proofs.Ytlolfijadcflaaa
/- THE CELL 'sum', in the pinned program and in every row, IS THE sha256 OF THE DUMP (.gsa) THAT YtlolfijadcflaaaProg.lean LOADS. Nothing in Lean hashes anything: it is a label: what it is worth is what the hold of that sum in a sandbox is worth. -/
noncomputable def Try.pinned : Pinned := { name := "ytlolfijadcflaaa", sum := "7dd809efa8472519c50cf2f2731f636a205f86781a67b5b20fb663c2ce7c1c28", checked := Try.checked }
namespace Rows
def none {H : Type} : Left H := { results := [], args := [] }

/-- 'volutelaw18.EmitBatches': WHATEVER THE INPUT: true; the input reads as it did. -/
def emitBatchesSpec : ChangeSpec := { name := "emitBatches", fn := fun _ => fun
  | [d1, d2, d3] => { results := [.lit (.bool true)], args := [d1, d2, d3] }
  | _ => none }
def emitBatchesRow : OpenClaim := { program := "ytlolfijadcflaaa", sum := "7dd809efa8472519c50cf2f2731f636a205f86781a67b5b20fb663c2ce7c1c28", func := "volute/volutelaw18.EmitBatches", spec := "emitBatches", unfollowed := true, recurses := true, apart := false }
def EmitBatchesSaid : Prop := emitBatchesRow.holds Try.pinned (OpenSpec.ofChange emitBatchesSpec)

/-- ITS FALSE NEIGHBOUR: 'it returns false'. Refute it at one input. -/
def emitBatchesWrong : ChangeSpec := { name := "emitBatches", fn := fun _ => fun
  | [d1, d2, d3] => { results := [.lit (.bool false)], args := [d1, d2, d3] }
  | _ => none }
def EmitBatchesWrongFalsely : Prop := emitBatchesRow.holds Try.pinned (OpenSpec.ofChange emitBatchesWrong)

/-- 'volutelaw23.RecvNothing': WHATEVER THE INPUT: true; the input reads as it did. -/
def recvNothingSpec : ChangeSpec := { name := "recvNothing", fn := fun _ => fun
  | [d1, d2] => { results := [.lit (.bool true)], args := [d1, d2] }
  | _ => none }
def recvNothingRow : OpenClaim := { program := "ytlolfijadcflaaa", sum := "7dd809efa8472519c50cf2f2731f636a205f86781a67b5b20fb663c2ce7c1c28", func := "volute/volutelaw23.RecvNothing", spec := "recvNothing", unfollowed := true, recurses := true, apart := false }
def RecvNothingSaid : Prop := recvNothingRow.holds Try.pinned (OpenSpec.ofChange recvNothingSpec)

/-- ITS FALSE NEIGHBOUR: 'it returns false'. Refute it at one input. -/
def recvNothingWrong : ChangeSpec := { name := "recvNothing", fn := fun _ => fun
  | [d1, d2] => { results := [.lit (.bool false)], args := [d1, d2] }
  | _ => none }
def RecvNothingWrongFalsely : Prop := recvNothingRow.holds Try.pinned (OpenSpec.ofChange recvNothingWrong)

/-- 'volutelaw12.BeamNothing': WHATEVER THE INPUT: true; the input reads as it did. -/
def beamNothingSpec : ChangeSpec := { name := "beamNothing", fn := fun _ => fun
  | [d1, d2, d3, d4, d5] => { results := [.lit (.bool true)], args := [d1, d2, d3, d4, d5] }
  | _ => none }
def beamNothingRow : OpenClaim := { program := "ytlolfijadcflaaa", sum := "7dd809efa8472519c50cf2f2731f636a205f86781a67b5b20fb663c2ce7c1c28", func := "volute/volutelaw12.BeamNothing", spec := "beamNothing", inPlace := ["slices.overlaps[int]", "slices.overlaps[volute/api.Sym]"], unfollowed := true, recurses := true, apart := false }
def BeamNothingSaid : Prop := beamNothingRow.holds Try.pinned (OpenSpec.ofChange beamNothingSpec)

/-- ITS FALSE NEIGHBOUR: 'it returns false'. Refute it at one input. -/
def beamNothingWrong : ChangeSpec := { name := "beamNothing", fn := fun _ => fun
  | [d1, d2, d3, d4, d5] => { results := [.lit (.bool false)], args := [d1, d2, d3, d4, d5] }
  | _ => none }
def BeamNothingWrongFalsely : Prop := beamNothingRow.holds Try.pinned (OpenSpec.ofChange beamNothingWrong)

/-- 'volutelaw12.BeamWhole': WHATEVER THE INPUT: true; the input reads as it did. -/
def beamWholeSpec : ChangeSpec := { name := "beamWhole", fn := fun _ => fun
  | [d1, d2, d3, d4, d5] => { results := [.lit (.bool true)], args := [d1, d2, d3, d4, d5] }
  | _ => none }
def beamWholeRow : OpenClaim := { program := "ytlolfijadcflaaa", sum := "7dd809efa8472519c50cf2f2731f636a205f86781a67b5b20fb663c2ce7c1c28", func := "volute/volutelaw12.BeamWhole", spec := "beamWhole", inPlace := ["slices.overlaps[volute/api.Sym]", "slices.overlaps[int]"], unfollowed := true, recurses := true, apart := false }
def BeamWholeSaid : Prop := beamWholeRow.holds Try.pinned (OpenSpec.ofChange beamWholeSpec)

/-- ITS FALSE NEIGHBOUR: 'it returns false'. Refute it at one input. -/
def beamWholeWrong : ChangeSpec := { name := "beamWhole", fn := fun _ => fun
  | [d1, d2, d3, d4, d5] => { results := [.lit (.bool false)], args := [d1, d2, d3, d4, d5] }
  | _ => none }
def BeamWholeWrongFalsely : Prop := beamWholeRow.holds Try.pinned (OpenSpec.ofChange beamWholeWrong)

/-- 'volutelaw12.BeamDeep': WHATEVER THE INPUT: true; the input reads as it did. -/
def beamDeepSpec : ChangeSpec := { name := "beamDeep", fn := fun _ => fun
  | [d1, d2, d3, d4, d5] => { results := [.lit (.bool true)], args := [d1, d2, d3, d4, d5] }
  | _ => none }
def beamDeepRow : OpenClaim := { program := "ytlolfijadcflaaa", sum := "7dd809efa8472519c50cf2f2731f636a205f86781a67b5b20fb663c2ce7c1c28", func := "volute/volutelaw12.BeamDeep", spec := "beamDeep", inPlace := ["slices.overlaps[volute/api.Sym]", "slices.overlaps[int]"], unfollowed := true, recurses := true, apart := false }
def BeamDeepSaid : Prop := beamDeepRow.holds Try.pinned (OpenSpec.ofChange beamDeepSpec)

/-- ITS FALSE NEIGHBOUR: 'it returns false'. Refute it at one input. -/
def beamDeepWrong : ChangeSpec := { name := "beamDeep", fn := fun _ => fun
  | [d1, d2, d3, d4, d5] => { results := [.lit (.bool false)], args := [d1, d2, d3, d4, d5] }
  | _ => none }
def BeamDeepWrongFalsely : Prop := beamDeepRow.holds Try.pinned (OpenSpec.ofChange beamDeepWrong)

/-- 'volutelaw12.BeamFirst': WHATEVER THE INPUT: true; the input reads as it did. -/
def beamFirstSpec : ChangeSpec := { name := "beamFirst", fn := fun _ => fun
  | [d1, d2, d3] => { results := [.lit (.bool true)], args := [d1, d2, d3] }
  | _ => none }
def beamFirstRow : OpenClaim := { program := "ytlolfijadcflaaa", sum := "7dd809efa8472519c50cf2f2731f636a205f86781a67b5b20fb663c2ce7c1c28", func := "volute/volutelaw12.BeamFirst", spec := "beamFirst", inPlace := ["slices.overlaps[int]", "slices.overlaps[volute/api.Sym]"], unfollowed := true, recurses := true, apart := false }
def BeamFirstSaid : Prop := beamFirstRow.holds Try.pinned (OpenSpec.ofChange beamFirstSpec)

/-- ITS FALSE NEIGHBOUR: 'it returns false'. Refute it at one input. -/
def beamFirstWrong : ChangeSpec := { name := "beamFirst", fn := fun _ => fun
  | [d1, d2, d3] => { results := [.lit (.bool false)], args := [d1, d2, d3] }
  | _ => none }
def BeamFirstWrongFalsely : Prop := beamFirstRow.holds Try.pinned (OpenSpec.ofChange beamFirstWrong)

/-- 'volutelaw12.BeamClaims': WHATEVER THE INPUT: true; the input reads as it did. -/
def beamClaimsSpec : ChangeSpec := { name := "beamClaims", fn := fun _ => fun
  | [d1, d2, d3, d4, d5, d6] => { results := [.lit (.bool true)], args := [d1, d2, d3, d4, d5, d6] }
  | _ => none }
def beamClaimsRow : OpenClaim := { program := "ytlolfijadcflaaa", sum := "7dd809efa8472519c50cf2f2731f636a205f86781a67b5b20fb663c2ce7c1c28", func := "volute/volutelaw12.BeamClaims", spec := "beamClaims", inPlace := ["slices.overlaps[volute/api.Sym]", "slices.overlaps[int]"], unfollowed := true, recurses := true, apart := false }
def BeamClaimsSaid : Prop := beamClaimsRow.holds Try.pinned (OpenSpec.ofChange beamClaimsSpec)

/-- ITS FALSE NEIGHBOUR: 'it returns false'. Refute it at one input. -/
def beamClaimsWrong : ChangeSpec := { name := "beamClaims", fn := fun _ => fun
  | [d1, d2, d3, d4, d5, d6] => { results := [.lit (.bool false)], args := [d1, d2, d3, d4, d5, d6] }
  | _ => none }
def BeamClaimsWrongFalsely : Prop := beamClaimsRow.holds Try.pinned (OpenSpec.ofChange beamClaimsWrong)

/-- 'volutelaw12.BeamExact': WHATEVER THE INPUT: true; the input reads as it did. -/
def beamExactSpec : ChangeSpec := { name := "beamExact", fn := fun _ => fun
  | [d1, d2, d3, d4] => { results := [.lit (.bool true)], args := [d1, d2, d3, d4] }
  | _ => none }
def beamExactRow : OpenClaim := { program := "ytlolfijadcflaaa", sum := "7dd809efa8472519c50cf2f2731f636a205f86781a67b5b20fb663c2ce7c1c28", func := "volute/volutelaw12.BeamExact", spec := "beamExact", inPlace := ["slices.overlaps[int]", "slices.overlaps[volute/api.Sym]"], unfollowed := true, recurses := true, apart := false }
def BeamExactSaid : Prop := beamExactRow.holds Try.pinned (OpenSpec.ofChange beamExactSpec)

/-- ITS FALSE NEIGHBOUR: 'it returns false'. Refute it at one input. -/
def beamExactWrong : ChangeSpec := { name := "beamExact", fn := fun _ => fun
  | [d1, d2, d3, d4] => { results := [.lit (.bool false)], args := [d1, d2, d3, d4] }
  | _ => none }
def BeamExactWrongFalsely : Prop := beamExactRow.holds Try.pinned (OpenSpec.ofChange beamExactWrong)

/-- 'volutelaw12.BeamCosts': WHATEVER THE INPUT: true; the input reads as it did. -/
def beamCostsSpec : ChangeSpec := { name := "beamCosts", fn := fun _ => fun
  | [d1, d2, d3] => { results := [.lit (.bool true)], args := [d1, d2, d3] }
  | _ => none }
def beamCostsRow : OpenClaim := { program := "ytlolfijadcflaaa", sum := "7dd809efa8472519c50cf2f2731f636a205f86781a67b5b20fb663c2ce7c1c28", func := "volute/volutelaw12.BeamCosts", spec := "beamCosts", inPlace := ["slices.overlaps[volute/api.Sym]", "slices.overlaps[int]"], unfollowed := true, recurses := true, apart := false }
def BeamCostsSaid : Prop := beamCostsRow.holds Try.pinned (OpenSpec.ofChange beamCostsSpec)

/-- ITS FALSE NEIGHBOUR: 'it returns false'. Refute it at one input. -/
def beamCostsWrong : ChangeSpec := { name := "beamCosts", fn := fun _ => fun
  | [d1, d2, d3] => { results := [.lit (.bool false)], args := [d1, d2, d3] }
  | _ => none }
def BeamCostsWrongFalsely : Prop := beamCostsRow.holds Try.pinned (OpenSpec.ofChange beamCostsWrong)

/-- 'volutelaw12.BeamScores': WHATEVER THE INPUT: true; the input reads as it did. -/
def beamScoresSpec : ChangeSpec := { name := "beamScores", fn := fun _ => fun
  | [d1, d2, d3] => { results := [.lit (.bool true)], args := [d1, d2, d3] }
  | _ => none }
def beamScoresRow : OpenClaim := { program := "ytlolfijadcflaaa", sum := "7dd809efa8472519c50cf2f2731f636a205f86781a67b5b20fb663c2ce7c1c28", func := "volute/volutelaw12.BeamScores", spec := "beamScores", inPlace := ["slices.overlaps[volute/api.Sym]", "slices.overlaps[int]"], unfollowed := true, recurses := true, apart := false }
def BeamScoresSaid : Prop := beamScoresRow.holds Try.pinned (OpenSpec.ofChange beamScoresSpec)

/-- ITS FALSE NEIGHBOUR: 'it returns false'. Refute it at one input. -/
def beamScoresWrong : ChangeSpec := { name := "beamScores", fn := fun _ => fun
  | [d1, d2, d3] => { results := [.lit (.bool false)], args := [d1, d2, d3] }
  | _ => none }
def BeamScoresWrongFalsely : Prop := beamScoresRow.holds Try.pinned (OpenSpec.ofChange beamScoresWrong)

/-- 'volutelaw12.BeamTrue': WHATEVER THE INPUT: true; the input reads as it did. -/
def beamTrueSpec : ChangeSpec := { name := "beamTrue", fn := fun _ => fun
  | [d1, d2, d3, d4, d5, d6] => { results := [.lit (.bool true)], args := [d1, d2, d3, d4, d5, d6] }
  | _ => none }
def beamTrueRow : OpenClaim := { program := "ytlolfijadcflaaa", sum := "7dd809efa8472519c50cf2f2731f636a205f86781a67b5b20fb663c2ce7c1c28", func := "volute/volutelaw12.BeamTrue", spec := "beamTrue", inPlace := ["slices.overlaps[volute/api.Sym]", "slices.overlaps[int]"], unfollowed := true, recurses := true, apart := false }
def BeamTrueSaid : Prop := beamTrueRow.holds Try.pinned (OpenSpec.ofChange beamTrueSpec)

/-- ITS FALSE NEIGHBOUR: 'it returns false'. Refute it at one input. -/
def beamTrueWrong : ChangeSpec := { name := "beamTrue", fn := fun _ => fun
  | [d1, d2, d3, d4, d5, d6] => { results := [.lit (.bool false)], args := [d1, d2, d3, d4, d5, d6] }
  | _ => none }
def BeamTrueWrongFalsely : Prop := beamTrueRow.holds Try.pinned (OpenSpec.ofChange beamTrueWrong)

/-- 'volutelaw12.BeamFour': WHATEVER THE INPUT: true; the input reads as it did. -/
def beamFourSpec : ChangeSpec := { name := "beamFour", fn := fun _ => fun
  | [d1, d2, d3, d4] => { results := [.lit (.bool true)], args := [d1, d2, d3, d4] }
  | _ => none }
def beamFourRow : OpenClaim := { program := "ytlolfijadcflaaa", sum := "7dd809efa8472519c50cf2f2731f636a205f86781a67b5b20fb663c2ce7c1c28", func := "volute/volutelaw12.BeamFour", spec := "beamFour", inPlace := ["slices.overlaps[volute/api.Sym]", "slices.overlaps[int]"], unfollowed := true, recurses := true, apart := false }
def BeamFourSaid : Prop := beamFourRow.holds Try.pinned (OpenSpec.ofChange beamFourSpec)

/-- ITS FALSE NEIGHBOUR: 'it returns false'. Refute it at one input. -/
def beamFourWrong : ChangeSpec := { name := "beamFour", fn := fun _ => fun
  | [d1, d2, d3, d4] => { results := [.lit (.bool false)], args := [d1, d2, d3, d4] }
  | _ => none }
def BeamFourWrongFalsely : Prop := beamFourRow.holds Try.pinned (OpenSpec.ofChange beamFourWrong)

/- THE SECOND FORM. 'bulk': how many values and letters a reading holds, each counted each time it is reached (what is shared counts as often as it is met; a slice's spare places count too). A statement '..UptoSaid' is the law's where the arguments, and the package variables that the reading takes, are together of bulk at most 1048576: NARROWER than '..Said'. Prove '..Said' where nothing that the law and all that it calls make is longer than what came in: it says more and counts as full. Else prove '..UptoSaid'. A law counts once. -/
mutual
def uptoBulk {H : Type} : DataW H → Nat
  | .lit (.string bytes) => bytes.length + 1
  | .lit _ => 1
  | .nil => 1
  | .ptr d => uptoBulk d + 1
  | .slice elems spare => uptoBulkAll elems + uptoBulkAll spare + 1
  | .agg parts => uptoBulkAll parts + 1
  | .iface _ d => uptoBulk d + 1
  | .map entries => uptoBulkEntries entries + 1
  | .held _ => 1
def uptoBulkAll {H : Type} : List (DataW H) → Nat
  | [] => 0
  | d :: r => uptoBulk d + uptoBulkAll r
def uptoBulkEntries {H : Type} : List (Lit × DataW H) → Nat
  | [] => 0
  | x :: r => uptoBulkEntry x + uptoBulkEntries r
def uptoBulkEntry {H : Type} : Lit × DataW H → Nat
  | (.string bytes, d) => bytes.length + uptoBulk d + 1
  | (_, d) => uptoBulk d + 1
 end
def uptoSmall : (H : Type) → List (DataW H) → Bool := fun _ ds => decide (uptoBulkAll ds ≤ 1048576)
def OpenSpec.upto (s : _root_.Go.ChangeSpec) : _root_.Go.OpenSpec := { _root_.Go.OpenSpec.ofChange s with cond := some uptoSmall }

/-- 'volutelaw18.EmitBatches', WHERE WHAT IT READS IS OF BULK AT MOST 1048576: true; the input reads as it did. -/
def emitBatchesUptoRow : OpenClaim := { program := "ytlolfijadcflaaa", sum := "7dd809efa8472519c50cf2f2731f636a205f86781a67b5b20fb663c2ce7c1c28", func := "volute/volutelaw18.EmitBatches", spec := "emitBatches", unfollowed := true, recurses := true, apart := false, narrowed := true }
def EmitBatchesUptoSaid : Prop := emitBatchesUptoRow.holds Try.pinned (OpenSpec.upto emitBatchesSpec)

/-- 'volutelaw23.RecvNothing', WHERE WHAT IT READS IS OF BULK AT MOST 1048576: true; the input reads as it did. -/
def recvNothingUptoRow : OpenClaim := { program := "ytlolfijadcflaaa", sum := "7dd809efa8472519c50cf2f2731f636a205f86781a67b5b20fb663c2ce7c1c28", func := "volute/volutelaw23.RecvNothing", spec := "recvNothing", unfollowed := true, recurses := true, apart := false, narrowed := true }
def RecvNothingUptoSaid : Prop := recvNothingUptoRow.holds Try.pinned (OpenSpec.upto recvNothingSpec)

/-- 'volutelaw12.BeamNothing', WHERE WHAT IT READS IS OF BULK AT MOST 1048576: true; the input reads as it did. -/
def beamNothingUptoRow : OpenClaim := { program := "ytlolfijadcflaaa", sum := "7dd809efa8472519c50cf2f2731f636a205f86781a67b5b20fb663c2ce7c1c28", func := "volute/volutelaw12.BeamNothing", spec := "beamNothing", inPlace := ["slices.overlaps[int]", "slices.overlaps[volute/api.Sym]"], unfollowed := true, recurses := true, apart := false, narrowed := true }
def BeamNothingUptoSaid : Prop := beamNothingUptoRow.holds Try.pinned (OpenSpec.upto beamNothingSpec)

/-- 'volutelaw12.BeamWhole', WHERE WHAT IT READS IS OF BULK AT MOST 1048576: true; the input reads as it did. -/
def beamWholeUptoRow : OpenClaim := { program := "ytlolfijadcflaaa", sum := "7dd809efa8472519c50cf2f2731f636a205f86781a67b5b20fb663c2ce7c1c28", func := "volute/volutelaw12.BeamWhole", spec := "beamWhole", inPlace := ["slices.overlaps[volute/api.Sym]", "slices.overlaps[int]"], unfollowed := true, recurses := true, apart := false, narrowed := true }
def BeamWholeUptoSaid : Prop := beamWholeUptoRow.holds Try.pinned (OpenSpec.upto beamWholeSpec)

/-- 'volutelaw12.BeamDeep', WHERE WHAT IT READS IS OF BULK AT MOST 1048576: true; the input reads as it did. -/
def beamDeepUptoRow : OpenClaim := { program := "ytlolfijadcflaaa", sum := "7dd809efa8472519c50cf2f2731f636a205f86781a67b5b20fb663c2ce7c1c28", func := "volute/volutelaw12.BeamDeep", spec := "beamDeep", inPlace := ["slices.overlaps[volute/api.Sym]", "slices.overlaps[int]"], unfollowed := true, recurses := true, apart := false, narrowed := true }
def BeamDeepUptoSaid : Prop := beamDeepUptoRow.holds Try.pinned (OpenSpec.upto beamDeepSpec)

/-- 'volutelaw12.BeamFirst', WHERE WHAT IT READS IS OF BULK AT MOST 1048576: true; the input reads as it did. -/
def beamFirstUptoRow : OpenClaim := { program := "ytlolfijadcflaaa", sum := "7dd809efa8472519c50cf2f2731f636a205f86781a67b5b20fb663c2ce7c1c28", func := "volute/volutelaw12.BeamFirst", spec := "beamFirst", inPlace := ["slices.overlaps[int]", "slices.overlaps[volute/api.Sym]"], unfollowed := true, recurses := true, apart := false, narrowed := true }
def BeamFirstUptoSaid : Prop := beamFirstUptoRow.holds Try.pinned (OpenSpec.upto beamFirstSpec)

/-- 'volutelaw12.BeamClaims', WHERE WHAT IT READS IS OF BULK AT MOST 1048576: true; the input reads as it did. -/
def beamClaimsUptoRow : OpenClaim := { program := "ytlolfijadcflaaa", sum := "7dd809efa8472519c50cf2f2731f636a205f86781a67b5b20fb663c2ce7c1c28", func := "volute/volutelaw12.BeamClaims", spec := "beamClaims", inPlace := ["slices.overlaps[volute/api.Sym]", "slices.overlaps[int]"], unfollowed := true, recurses := true, apart := false, narrowed := true }
def BeamClaimsUptoSaid : Prop := beamClaimsUptoRow.holds Try.pinned (OpenSpec.upto beamClaimsSpec)

/-- 'volutelaw12.BeamExact', WHERE WHAT IT READS IS OF BULK AT MOST 1048576: true; the input reads as it did. -/
def beamExactUptoRow : OpenClaim := { program := "ytlolfijadcflaaa", sum := "7dd809efa8472519c50cf2f2731f636a205f86781a67b5b20fb663c2ce7c1c28", func := "volute/volutelaw12.BeamExact", spec := "beamExact", inPlace := ["slices.overlaps[int]", "slices.overlaps[volute/api.Sym]"], unfollowed := true, recurses := true, apart := false, narrowed := true }
def BeamExactUptoSaid : Prop := beamExactUptoRow.holds Try.pinned (OpenSpec.upto beamExactSpec)

/-- 'volutelaw12.BeamCosts', WHERE WHAT IT READS IS OF BULK AT MOST 1048576: true; the input reads as it did. -/
def beamCostsUptoRow : OpenClaim := { program := "ytlolfijadcflaaa", sum := "7dd809efa8472519c50cf2f2731f636a205f86781a67b5b20fb663c2ce7c1c28", func := "volute/volutelaw12.BeamCosts", spec := "beamCosts", inPlace := ["slices.overlaps[volute/api.Sym]", "slices.overlaps[int]"], unfollowed := true, recurses := true, apart := false, narrowed := true }
def BeamCostsUptoSaid : Prop := beamCostsUptoRow.holds Try.pinned (OpenSpec.upto beamCostsSpec)

/-- 'volutelaw12.BeamScores', WHERE WHAT IT READS IS OF BULK AT MOST 1048576: true; the input reads as it did. -/
def beamScoresUptoRow : OpenClaim := { program := "ytlolfijadcflaaa", sum := "7dd809efa8472519c50cf2f2731f636a205f86781a67b5b20fb663c2ce7c1c28", func := "volute/volutelaw12.BeamScores", spec := "beamScores", inPlace := ["slices.overlaps[volute/api.Sym]", "slices.overlaps[int]"], unfollowed := true, recurses := true, apart := false, narrowed := true }
def BeamScoresUptoSaid : Prop := beamScoresUptoRow.holds Try.pinned (OpenSpec.upto beamScoresSpec)

/-- 'volutelaw12.BeamTrue', WHERE WHAT IT READS IS OF BULK AT MOST 1048576: true; the input reads as it did. -/
def beamTrueUptoRow : OpenClaim := { program := "ytlolfijadcflaaa", sum := "7dd809efa8472519c50cf2f2731f636a205f86781a67b5b20fb663c2ce7c1c28", func := "volute/volutelaw12.BeamTrue", spec := "beamTrue", inPlace := ["slices.overlaps[volute/api.Sym]", "slices.overlaps[int]"], unfollowed := true, recurses := true, apart := false, narrowed := true }
def BeamTrueUptoSaid : Prop := beamTrueUptoRow.holds Try.pinned (OpenSpec.upto beamTrueSpec)

/-- 'volutelaw12.BeamFour', WHERE WHAT IT READS IS OF BULK AT MOST 1048576: true; the input reads as it did. -/
def beamFourUptoRow : OpenClaim := { program := "ytlolfijadcflaaa", sum := "7dd809efa8472519c50cf2f2731f636a205f86781a67b5b20fb663c2ce7c1c28", func := "volute/volutelaw12.BeamFour", spec := "beamFour", inPlace := ["slices.overlaps[volute/api.Sym]", "slices.overlaps[int]"], unfollowed := true, recurses := true, apart := false, narrowed := true }
def BeamFourUptoSaid : Prop := beamFourUptoRow.holds Try.pinned (OpenSpec.upto beamFourSpec)

end Rows
end Go.Proofs.Ytlolfijadcflaaa
