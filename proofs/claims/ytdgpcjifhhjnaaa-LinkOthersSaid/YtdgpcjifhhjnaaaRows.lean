/-
  No cell of these rows narrows 'for every input' (looked for: loops, veiled, ifaces, maps, wideKeys, modest, calm, conditions, laid).
  DERIVED. THE GIVEN ROWS OF THIS SEAT. 6 by the template 'for every input the law returns true; each argument reads behind the call as it read before'; 0 by the template 'total and deterministic' (their statements: YtdgpcjifhhjnaaaTotals.lean).
  GIVEN WITH THE SEED: the statements are not yours to turn. If you find one false, say at which input.
  Laid BY PROGRAM, IN A SANDBOX (cutbox-rows.mjs): the forced cells as the released guide's own fill.sh prints them over the translation b2addbc308da829a… (all of the seat's roots in one cut). By AI agents, Wed Nov 11 2026. No macro, syntax, notation, axiom, sorry.
-/
import Derived.Test.YtdgpcjifhhjnaaaChecked
import GoSem.Claim
import GoSem.ClaimJoined
import GoSem.ClaimMapViews
import Derived.JoinedTies
import Derived.KernelRfl
namespace Go.Proofs.Ytdgpcjifhhjnaaa
/- THE CELL 'sum', in the pinned program and in every row, IS THE sha256 OF THE DUMP (.gsa) THAT YtdgpcjifhhjnaaaProg.lean LOADS. Nothing in Lean hashes anything: it is a label: what it is worth is what the hold of that sum in a sandbox is worth. -/
noncomputable def Try.pinned : Pinned := { name := "ytdgpcjifhhjnaaa", sum := "b2addbc308da829a73c58d3120e8390c77c8b6a66c6ee5e9897fe70adfea21d1", checked := Try.checked }
namespace Rows
def none {H : Type} : Left H := { results := [], args := [] }

/-- 'volutelaw24.LinkBack': WHATEVER THE INPUT: true; the input reads as it did. -/
def linkBackSpec : ChangeSpec := { name := "linkBack", fn := fun _ => fun
  | [d1, d2, d3, d4] => { results := [.lit (.bool true)], args := [d1, d2, d3, d4] }
  | _ => none }
def linkBackRow : OpenClaim := { program := "ytdgpcjifhhjnaaa", sum := "b2addbc308da829a73c58d3120e8390c77c8b6a66c6ee5e9897fe70adfea21d1", func := "volute/volutelaw24.LinkBack", spec := "linkBack", apart := false }
def LinkBackSaid : Prop := linkBackRow.holds Try.pinned (OpenSpec.ofChange linkBackSpec)

/-- ITS FALSE NEIGHBOUR: 'it returns false'. Refute it at one input. -/
def linkBackWrong : ChangeSpec := { name := "linkBack", fn := fun _ => fun
  | [d1, d2, d3, d4] => { results := [.lit (.bool false)], args := [d1, d2, d3, d4] }
  | _ => none }
def LinkBackWrongFalsely : Prop := linkBackRow.holds Try.pinned (OpenSpec.ofChange linkBackWrong)

/-- 'volutelaw24.LinkExact': WHATEVER THE INPUT: true; the input reads as it did. -/
def linkExactSpec : ChangeSpec := { name := "linkExact", fn := fun _ => fun
  | [d1, d2, d3, d4, d5, d6] => { results := [.lit (.bool true)], args := [d1, d2, d3, d4, d5, d6] }
  | _ => none }
def linkExactRow : OpenClaim := { program := "ytdgpcjifhhjnaaa", sum := "b2addbc308da829a73c58d3120e8390c77c8b6a66c6ee5e9897fe70adfea21d1", func := "volute/volutelaw24.LinkExact", spec := "linkExact", apart := false }
def LinkExactSaid : Prop := linkExactRow.holds Try.pinned (OpenSpec.ofChange linkExactSpec)

/-- ITS FALSE NEIGHBOUR: 'it returns false'. Refute it at one input. -/
def linkExactWrong : ChangeSpec := { name := "linkExact", fn := fun _ => fun
  | [d1, d2, d3, d4, d5, d6] => { results := [.lit (.bool false)], args := [d1, d2, d3, d4, d5, d6] }
  | _ => none }
def LinkExactWrongFalsely : Prop := linkExactRow.holds Try.pinned (OpenSpec.ofChange linkExactWrong)

/-- 'volutelaw24.LinkOthers': WHATEVER THE INPUT: true; the input reads as it did. -/
def linkOthersSpec : ChangeSpec := { name := "linkOthers", fn := fun _ => fun
  | [d1, d2, d3, d4, d5] => { results := [.lit (.bool true)], args := [d1, d2, d3, d4, d5] }
  | _ => none }
def linkOthersRow : OpenClaim := { program := "ytdgpcjifhhjnaaa", sum := "b2addbc308da829a73c58d3120e8390c77c8b6a66c6ee5e9897fe70adfea21d1", func := "volute/volutelaw24.LinkOthers", spec := "linkOthers", apart := false }
def LinkOthersSaid : Prop := linkOthersRow.holds Try.pinned (OpenSpec.ofChange linkOthersSpec)

/-- ITS FALSE NEIGHBOUR: 'it returns false'. Refute it at one input. -/
def linkOthersWrong : ChangeSpec := { name := "linkOthers", fn := fun _ => fun
  | [d1, d2, d3, d4, d5] => { results := [.lit (.bool false)], args := [d1, d2, d3, d4, d5] }
  | _ => none }
def LinkOthersWrongFalsely : Prop := linkOthersRow.holds Try.pinned (OpenSpec.ofChange linkOthersWrong)

/-- 'volutelaw11.PickExact': WHATEVER THE INPUT: true; the input reads as it did. -/
def pickExactSpec : ChangeSpec := { name := "pickExact", fn := fun _ => fun
  | [d1, d2] => { results := [.lit (.bool true)], args := [d1, d2] }
  | _ => none }
def pickExactRow : OpenClaim := { program := "ytdgpcjifhhjnaaa", sum := "b2addbc308da829a73c58d3120e8390c77c8b6a66c6ee5e9897fe70adfea21d1", func := "volute/volutelaw11.PickExact", spec := "pickExact", inPlace := ["slices.overlaps[int]"], unfollowed := true, recurses := true, apart := false }
def PickExactSaid : Prop := pickExactRow.holds Try.pinned (OpenSpec.ofChange pickExactSpec)

/-- ITS FALSE NEIGHBOUR: 'it returns false'. Refute it at one input. -/
def pickExactWrong : ChangeSpec := { name := "pickExact", fn := fun _ => fun
  | [d1, d2] => { results := [.lit (.bool false)], args := [d1, d2] }
  | _ => none }
def PickExactWrongFalsely : Prop := pickExactRow.holds Try.pinned (OpenSpec.ofChange pickExactWrong)

/-- 'volutelaw09.PileHolds': WHATEVER THE INPUT: true; the input reads as it did. -/
def pileHoldsSpec : ChangeSpec := { name := "pileHolds", fn := fun _ => fun
  | [d1, d2, d3] => { results := [.lit (.bool true)], args := [d1, d2, d3] }
  | _ => none }
def pileHoldsRow : OpenClaim := { program := "ytdgpcjifhhjnaaa", sum := "b2addbc308da829a73c58d3120e8390c77c8b6a66c6ee5e9897fe70adfea21d1", func := "volute/volutelaw09.PileHolds", spec := "pileHolds", inPlace := ["slices.overlaps[volute/api.Sym]"], unfollowed := true, recurses := true, apart := false }
def PileHoldsSaid : Prop := pileHoldsRow.holds Try.pinned (OpenSpec.ofChange pileHoldsSpec)

/-- ITS FALSE NEIGHBOUR: 'it returns false'. Refute it at one input. -/
def pileHoldsWrong : ChangeSpec := { name := "pileHolds", fn := fun _ => fun
  | [d1, d2, d3] => { results := [.lit (.bool false)], args := [d1, d2, d3] }
  | _ => none }
def PileHoldsWrongFalsely : Prop := pileHoldsRow.holds Try.pinned (OpenSpec.ofChange pileHoldsWrong)

/-- 'volutelaw18.EmitRounds': WHATEVER THE INPUT: true; the input reads as it did. -/
def emitRoundsSpec : ChangeSpec := { name := "emitRounds", fn := fun _ => fun
  | [d1, d2, d3, d4] => { results := [.lit (.bool true)], args := [d1, d2, d3, d4] }
  | _ => none }
def emitRoundsRow : OpenClaim := { program := "ytdgpcjifhhjnaaa", sum := "b2addbc308da829a73c58d3120e8390c77c8b6a66c6ee5e9897fe70adfea21d1", func := "volute/volutelaw18.EmitRounds", spec := "emitRounds", unfollowed := true, recurses := true, apart := false }
def EmitRoundsSaid : Prop := emitRoundsRow.holds Try.pinned (OpenSpec.ofChange emitRoundsSpec)

/-- ITS FALSE NEIGHBOUR: 'it returns false'. Refute it at one input. -/
def emitRoundsWrong : ChangeSpec := { name := "emitRounds", fn := fun _ => fun
  | [d1, d2, d3, d4] => { results := [.lit (.bool false)], args := [d1, d2, d3, d4] }
  | _ => none }
def EmitRoundsWrongFalsely : Prop := emitRoundsRow.holds Try.pinned (OpenSpec.ofChange emitRoundsWrong)

/- THE SECOND FORM. 'bulk': how many values and letters a reading holds, each counted each time it is reached (what is shared counts as often as it is met; a slice's spare places count too). A statement '..UptoSaid' is the law's where the arguments, and the package variables that the reading takes, are together of bulk at most 1048576: NARROWER than '..Said'. Prove '..Said' where nothing that the law and all that it calls make is longer than what came in: it says more and counts as full. Else prove '..UptoSaid'. A law counts once. -/
mutual
def uptoBulk {H : Type} : DataW H → Nat
  | .lit (.string bytes) => bytes.length + 1
  | .lit _ => 1
  | .nil => 1
  | .ptr d => uptoBulk d + 1
  | .slice elems spare => uptoBulkAll elems + uptoBulkAll spare + 1
  | .agg parts => uptoBulkAll parts + 1
  | .iface _ d => uptoBulk d + 1
  | .map entries => uptoBulkEntries entries + 1
  | .held _ => 1
def uptoBulkAll {H : Type} : List (DataW H) → Nat
  | [] => 0
  | d :: r => uptoBulk d + uptoBulkAll r
def uptoBulkEntries {H : Type} : List (Lit × DataW H) → Nat
  | [] => 0
  | x :: r => uptoBulkEntry x + uptoBulkEntries r
def uptoBulkEntry {H : Type} : Lit × DataW H → Nat
  | (.string bytes, d) => bytes.length + uptoBulk d + 1
  | (_, d) => uptoBulk d + 1
 end
def uptoSmall : (H : Type) → List (DataW H) → Bool := fun _ ds => decide (uptoBulkAll ds ≤ 1048576)
def OpenSpec.upto (s : _root_.Go.ChangeSpec) : _root_.Go.OpenSpec := { _root_.Go.OpenSpec.ofChange s with cond := some uptoSmall }

/-- 'volutelaw24.LinkBack', WHERE WHAT IT READS IS OF BULK AT MOST 1048576: true; the input reads as it did. -/
def linkBackUptoRow : OpenClaim := { program := "ytdgpcjifhhjnaaa", sum := "b2addbc308da829a73c58d3120e8390c77c8b6a66c6ee5e9897fe70adfea21d1", func := "volute/volutelaw24.LinkBack", spec := "linkBack", apart := false, narrowed := true }
def LinkBackUptoSaid : Prop := linkBackUptoRow.holds Try.pinned (OpenSpec.upto linkBackSpec)

/-- 'volutelaw24.LinkExact', WHERE WHAT IT READS IS OF BULK AT MOST 1048576: true; the input reads as it did. -/
def linkExactUptoRow : OpenClaim := { program := "ytdgpcjifhhjnaaa", sum := "b2addbc308da829a73c58d3120e8390c77c8b6a66c6ee5e9897fe70adfea21d1", func := "volute/volutelaw24.LinkExact", spec := "linkExact", apart := false, narrowed := true }
def LinkExactUptoSaid : Prop := linkExactUptoRow.holds Try.pinned (OpenSpec.upto linkExactSpec)

/-- 'volutelaw24.LinkOthers', WHERE WHAT IT READS IS OF BULK AT MOST 1048576: true; the input reads as it did. -/
def linkOthersUptoRow : OpenClaim := { program := "ytdgpcjifhhjnaaa", sum := "b2addbc308da829a73c58d3120e8390c77c8b6a66c6ee5e9897fe70adfea21d1", func := "volute/volutelaw24.LinkOthers", spec := "linkOthers", apart := false, narrowed := true }
def LinkOthersUptoSaid : Prop := linkOthersUptoRow.holds Try.pinned (OpenSpec.upto linkOthersSpec)

/-- 'volutelaw11.PickExact', WHERE WHAT IT READS IS OF BULK AT MOST 1048576: true; the input reads as it did. -/
def pickExactUptoRow : OpenClaim := { program := "ytdgpcjifhhjnaaa", sum := "b2addbc308da829a73c58d3120e8390c77c8b6a66c6ee5e9897fe70adfea21d1", func := "volute/volutelaw11.PickExact", spec := "pickExact", inPlace := ["slices.overlaps[int]"], unfollowed := true, recurses := true, apart := false, narrowed := true }
def PickExactUptoSaid : Prop := pickExactUptoRow.holds Try.pinned (OpenSpec.upto pickExactSpec)

/-- 'volutelaw09.PileHolds', WHERE WHAT IT READS IS OF BULK AT MOST 1048576: true; the input reads as it did. -/
def pileHoldsUptoRow : OpenClaim := { program := "ytdgpcjifhhjnaaa", sum := "b2addbc308da829a73c58d3120e8390c77c8b6a66c6ee5e9897fe70adfea21d1", func := "volute/volutelaw09.PileHolds", spec := "pileHolds", inPlace := ["slices.overlaps[volute/api.Sym]"], unfollowed := true, recurses := true, apart := false, narrowed := true }
def PileHoldsUptoSaid : Prop := pileHoldsUptoRow.holds Try.pinned (OpenSpec.upto pileHoldsSpec)

/-- 'volutelaw18.EmitRounds', WHERE WHAT IT READS IS OF BULK AT MOST 1048576: true; the input reads as it did. -/
def emitRoundsUptoRow : OpenClaim := { program := "ytdgpcjifhhjnaaa", sum := "b2addbc308da829a73c58d3120e8390c77c8b6a66c6ee5e9897fe70adfea21d1", func := "volute/volutelaw18.EmitRounds", spec := "emitRounds", unfollowed := true, recurses := true, apart := false, narrowed := true }
def EmitRoundsUptoSaid : Prop := emitRoundsUptoRow.holds Try.pinned (OpenSpec.upto emitRoundsSpec)

end Rows
end Go.Proofs.Ytdgpcjifhhjnaaa
