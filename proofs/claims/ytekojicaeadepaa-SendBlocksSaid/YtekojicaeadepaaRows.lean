/-
  No cell of these rows narrows 'for every input' (looked for: loops, veiled, ifaces, maps, wideKeys, modest, calm, conditions, laid).
  DERIVED. THE GIVEN ROWS OF THIS SEAT. 7 by the template 'for every input the law returns true; each argument reads behind the call as it read before'; 0 by the template 'total and deterministic' (their statements: YtekojicaeadepaaTotals.lean).
  GIVEN WITH THE SEED: the statements are not yours to turn. If you find one false, say at which input.
  Laid BY PROGRAM, IN A SANDBOX (cutbox-rows.mjs): the forced cells as the released guide's own fill.sh prints them over the translation 6e483b408586685d… (all of the seat's roots in one cut). By AI agents, Wed Nov 11 2026. No macro, syntax, notation, axiom, sorry.
-/
import Derived.Test.YtekojicaeadepaaChecked
import GoSem.Claim
import GoSem.ClaimJoined
import GoSem.ClaimMapViews
import Derived.JoinedTies
import Derived.KernelRfl
namespace Go.Proofs.Ytekojicaeadepaa
/- THE CELL 'sum', in the pinned program and in every row, IS THE sha256 OF THE DUMP (.gsa) THAT YtekojicaeadepaaProg.lean LOADS. Nothing in Lean hashes anything: it is a label: what it is worth is what the hold of that sum in a sandbox is worth. -/
noncomputable def Try.pinned : Pinned := { name := "ytekojicaeadepaa", sum := "6e483b408586685d92c98240940c708ac4e0d611f0ea2601002512dc0e7a5184", checked := Try.checked }
namespace Rows
def none {H : Type} : Left H := { results := [], args := [] }

/-- 'volutelaw18.EmitRounds': WHATEVER THE INPUT: true; the input reads as it did. -/
def emitRoundsSpec : ChangeSpec := { name := "emitRounds", fn := fun _ => fun
  | [d1, d2, d3, d4] => { results := [.lit (.bool true)], args := [d1, d2, d3, d4] }
  | _ => none }
def emitRoundsRow : OpenClaim := { program := "ytekojicaeadepaa", sum := "6e483b408586685d92c98240940c708ac4e0d611f0ea2601002512dc0e7a5184", func := "volute/volutelaw18.EmitRounds", spec := "emitRounds", unfollowed := true, recurses := true, apart := false }
def EmitRoundsSaid : Prop := emitRoundsRow.holds Try.pinned (OpenSpec.ofChange emitRoundsSpec)

/-- ITS FALSE NEIGHBOUR: 'it returns false'. Refute it at one input. -/
def emitRoundsWrong : ChangeSpec := { name := "emitRounds", fn := fun _ => fun
  | [d1, d2, d3, d4] => { results := [.lit (.bool false)], args := [d1, d2, d3, d4] }
  | _ => none }
def EmitRoundsWrongFalsely : Prop := emitRoundsRow.holds Try.pinned (OpenSpec.ofChange emitRoundsWrong)

/-- 'volutelaw22.SendDone': WHATEVER THE INPUT: true; the input reads as it did. -/
def sendDoneSpec : ChangeSpec := { name := "sendDone", fn := fun _ => fun
  | [d1, d2, d3] => { results := [.lit (.bool true)], args := [d1, d2, d3] }
  | _ => none }
def sendDoneRow : OpenClaim := { program := "ytekojicaeadepaa", sum := "6e483b408586685d92c98240940c708ac4e0d611f0ea2601002512dc0e7a5184", func := "volute/volutelaw22.SendDone", spec := "sendDone", unfollowed := true, recurses := true, apart := false }
def SendDoneSaid : Prop := sendDoneRow.holds Try.pinned (OpenSpec.ofChange sendDoneSpec)

/-- ITS FALSE NEIGHBOUR: 'it returns false'. Refute it at one input. -/
def sendDoneWrong : ChangeSpec := { name := "sendDone", fn := fun _ => fun
  | [d1, d2, d3] => { results := [.lit (.bool false)], args := [d1, d2, d3] }
  | _ => none }
def SendDoneWrongFalsely : Prop := sendDoneRow.holds Try.pinned (OpenSpec.ofChange sendDoneWrong)

/-- 'volutelaw22.SendFar': WHATEVER THE INPUT: true; the input reads as it did. -/
def sendFarSpec : ChangeSpec := { name := "sendFar", fn := fun _ => fun
  | [d1, d2, d3, d4] => { results := [.lit (.bool true)], args := [d1, d2, d3, d4] }
  | _ => none }
def sendFarRow : OpenClaim := { program := "ytekojicaeadepaa", sum := "6e483b408586685d92c98240940c708ac4e0d611f0ea2601002512dc0e7a5184", func := "volute/volutelaw22.SendFar", spec := "sendFar", unfollowed := true, recurses := true, apart := false }
def SendFarSaid : Prop := sendFarRow.holds Try.pinned (OpenSpec.ofChange sendFarSpec)

/-- ITS FALSE NEIGHBOUR: 'it returns false'. Refute it at one input. -/
def sendFarWrong : ChangeSpec := { name := "sendFar", fn := fun _ => fun
  | [d1, d2, d3, d4] => { results := [.lit (.bool false)], args := [d1, d2, d3, d4] }
  | _ => none }
def SendFarWrongFalsely : Prop := sendFarRow.holds Try.pinned (OpenSpec.ofChange sendFarWrong)

/-- 'volutelaw22.SendBlocks': WHATEVER THE INPUT: true; the input reads as it did. -/
def sendBlocksSpec : ChangeSpec := { name := "sendBlocks", fn := fun _ => fun
  | [d1, d2] => { results := [.lit (.bool true)], args := [d1, d2] }
  | _ => none }
def sendBlocksRow : OpenClaim := { program := "ytekojicaeadepaa", sum := "6e483b408586685d92c98240940c708ac4e0d611f0ea2601002512dc0e7a5184", func := "volute/volutelaw22.SendBlocks", spec := "sendBlocks", unfollowed := true, recurses := true, apart := false }
def SendBlocksSaid : Prop := sendBlocksRow.holds Try.pinned (OpenSpec.ofChange sendBlocksSpec)

/-- ITS FALSE NEIGHBOUR: 'it returns false'. Refute it at one input. -/
def sendBlocksWrong : ChangeSpec := { name := "sendBlocks", fn := fun _ => fun
  | [d1, d2] => { results := [.lit (.bool false)], args := [d1, d2] }
  | _ => none }
def SendBlocksWrongFalsely : Prop := sendBlocksRow.holds Try.pinned (OpenSpec.ofChange sendBlocksWrong)

/-- 'volutelaw22.SendTable': WHATEVER THE INPUT: true; the input reads as it did. -/
def sendTableSpec : ChangeSpec := { name := "sendTable", fn := fun _ => fun
  | [d1, d2, d3, d4] => { results := [.lit (.bool true)], args := [d1, d2, d3, d4] }
  | _ => none }
def sendTableRow : OpenClaim := { program := "ytekojicaeadepaa", sum := "6e483b408586685d92c98240940c708ac4e0d611f0ea2601002512dc0e7a5184", func := "volute/volutelaw22.SendTable", spec := "sendTable", unfollowed := true, recurses := true, apart := false }
def SendTableSaid : Prop := sendTableRow.holds Try.pinned (OpenSpec.ofChange sendTableSpec)

/-- ITS FALSE NEIGHBOUR: 'it returns false'. Refute it at one input. -/
def sendTableWrong : ChangeSpec := { name := "sendTable", fn := fun _ => fun
  | [d1, d2, d3, d4] => { results := [.lit (.bool false)], args := [d1, d2, d3, d4] }
  | _ => none }
def SendTableWrongFalsely : Prop := sendTableRow.holds Try.pinned (OpenSpec.ofChange sendTableWrong)

/-- 'volutelaw22.SendTicks': WHATEVER THE INPUT: true; the input reads as it did. -/
def sendTicksSpec : ChangeSpec := { name := "sendTicks", fn := fun _ => fun
  | [d1, d2, d3, d4] => { results := [.lit (.bool true)], args := [d1, d2, d3, d4] }
  | _ => none }
def sendTicksRow : OpenClaim := { program := "ytekojicaeadepaa", sum := "6e483b408586685d92c98240940c708ac4e0d611f0ea2601002512dc0e7a5184", func := "volute/volutelaw22.SendTicks", spec := "sendTicks", unfollowed := true, recurses := true, apart := false }
def SendTicksSaid : Prop := sendTicksRow.holds Try.pinned (OpenSpec.ofChange sendTicksSpec)

/-- ITS FALSE NEIGHBOUR: 'it returns false'. Refute it at one input. -/
def sendTicksWrong : ChangeSpec := { name := "sendTicks", fn := fun _ => fun
  | [d1, d2, d3, d4] => { results := [.lit (.bool false)], args := [d1, d2, d3, d4] }
  | _ => none }
def SendTicksWrongFalsely : Prop := sendTicksRow.holds Try.pinned (OpenSpec.ofChange sendTicksWrong)

/-- 'volutelaw22.SendLearns': WHATEVER THE INPUT: true; the input reads as it did. -/
def sendLearnsSpec : ChangeSpec := { name := "sendLearns", fn := fun _ => fun
  | [d1, d2] => { results := [.lit (.bool true)], args := [d1, d2] }
  | _ => none }
def sendLearnsRow : OpenClaim := { program := "ytekojicaeadepaa", sum := "6e483b408586685d92c98240940c708ac4e0d611f0ea2601002512dc0e7a5184", func := "volute/volutelaw22.SendLearns", spec := "sendLearns", unfollowed := true, recurses := true, apart := false }
def SendLearnsSaid : Prop := sendLearnsRow.holds Try.pinned (OpenSpec.ofChange sendLearnsSpec)

/-- ITS FALSE NEIGHBOUR: 'it returns false'. Refute it at one input. -/
def sendLearnsWrong : ChangeSpec := { name := "sendLearns", fn := fun _ => fun
  | [d1, d2] => { results := [.lit (.bool false)], args := [d1, d2] }
  | _ => none }
def SendLearnsWrongFalsely : Prop := sendLearnsRow.holds Try.pinned (OpenSpec.ofChange sendLearnsWrong)

/- THE SECOND FORM. 'bulk': how many values and letters a reading holds, each counted each time it is reached (what is shared counts as often as it is met; a slice's spare places count too). A statement '..UptoSaid' is the law's where the arguments, and the package variables that the reading takes, are together of bulk at most 1048576: NARROWER than '..Said'. Prove '..Said' where nothing that the law and all that it calls make is longer than what came in: it says more and counts as full. Else prove '..UptoSaid'. A law counts once. -/
mutual
def uptoBulk {H : Type} : DataW H → Nat
  | .lit (.string bytes) => bytes.length + 1
  | .lit _ => 1
  | .nil => 1
  | .ptr d => uptoBulk d + 1
  | .slice elems spare => uptoBulkAll elems + uptoBulkAll spare + 1
  | .agg parts => uptoBulkAll parts + 1
  | .iface _ d => uptoBulk d + 1
  | .map entries => uptoBulkEntries entries + 1
  | .held _ => 1
def uptoBulkAll {H : Type} : List (DataW H) → Nat
  | [] => 0
  | d :: r => uptoBulk d + uptoBulkAll r
def uptoBulkEntries {H : Type} : List (Lit × DataW H) → Nat
  | [] => 0
  | x :: r => uptoBulkEntry x + uptoBulkEntries r
def uptoBulkEntry {H : Type} : Lit × DataW H → Nat
  | (.string bytes, d) => bytes.length + uptoBulk d + 1
  | (_, d) => uptoBulk d + 1
 end
def uptoSmall : (H : Type) → List (DataW H) → Bool := fun _ ds => decide (uptoBulkAll ds ≤ 1048576)
def OpenSpec.upto (s : _root_.Go.ChangeSpec) : _root_.Go.OpenSpec := { _root_.Go.OpenSpec.ofChange s with cond := some uptoSmall }

/-- 'volutelaw18.EmitRounds', WHERE WHAT IT READS IS OF BULK AT MOST 1048576: true; the input reads as it did. -/
def emitRoundsUptoRow : OpenClaim := { program := "ytekojicaeadepaa", sum := "6e483b408586685d92c98240940c708ac4e0d611f0ea2601002512dc0e7a5184", func := "volute/volutelaw18.EmitRounds", spec := "emitRounds", unfollowed := true, recurses := true, apart := false, narrowed := true }
def EmitRoundsUptoSaid : Prop := emitRoundsUptoRow.holds Try.pinned (OpenSpec.upto emitRoundsSpec)

/-- 'volutelaw22.SendDone', WHERE WHAT IT READS IS OF BULK AT MOST 1048576: true; the input reads as it did. -/
def sendDoneUptoRow : OpenClaim := { program := "ytekojicaeadepaa", sum := "6e483b408586685d92c98240940c708ac4e0d611f0ea2601002512dc0e7a5184", func := "volute/volutelaw22.SendDone", spec := "sendDone", unfollowed := true, recurses := true, apart := false, narrowed := true }
def SendDoneUptoSaid : Prop := sendDoneUptoRow.holds Try.pinned (OpenSpec.upto sendDoneSpec)

/-- 'volutelaw22.SendFar', WHERE WHAT IT READS IS OF BULK AT MOST 1048576: true; the input reads as it did. -/
def sendFarUptoRow : OpenClaim := { program := "ytekojicaeadepaa", sum := "6e483b408586685d92c98240940c708ac4e0d611f0ea2601002512dc0e7a5184", func := "volute/volutelaw22.SendFar", spec := "sendFar", unfollowed := true, recurses := true, apart := false, narrowed := true }
def SendFarUptoSaid : Prop := sendFarUptoRow.holds Try.pinned (OpenSpec.upto sendFarSpec)

/-- 'volutelaw22.SendBlocks', WHERE WHAT IT READS IS OF BULK AT MOST 1048576: true; the input reads as it did. -/
def sendBlocksUptoRow : OpenClaim := { program := "ytekojicaeadepaa", sum := "6e483b408586685d92c98240940c708ac4e0d611f0ea2601002512dc0e7a5184", func := "volute/volutelaw22.SendBlocks", spec := "sendBlocks", unfollowed := true, recurses := true, apart := false, narrowed := true }
def SendBlocksUptoSaid : Prop := sendBlocksUptoRow.holds Try.pinned (OpenSpec.upto sendBlocksSpec)

/-- 'volutelaw22.SendTable', WHERE WHAT IT READS IS OF BULK AT MOST 1048576: true; the input reads as it did. -/
def sendTableUptoRow : OpenClaim := { program := "ytekojicaeadepaa", sum := "6e483b408586685d92c98240940c708ac4e0d611f0ea2601002512dc0e7a5184", func := "volute/volutelaw22.SendTable", spec := "sendTable", unfollowed := true, recurses := true, apart := false, narrowed := true }
def SendTableUptoSaid : Prop := sendTableUptoRow.holds Try.pinned (OpenSpec.upto sendTableSpec)

/-- 'volutelaw22.SendTicks', WHERE WHAT IT READS IS OF BULK AT MOST 1048576: true; the input reads as it did. -/
def sendTicksUptoRow : OpenClaim := { program := "ytekojicaeadepaa", sum := "6e483b408586685d92c98240940c708ac4e0d611f0ea2601002512dc0e7a5184", func := "volute/volutelaw22.SendTicks", spec := "sendTicks", unfollowed := true, recurses := true, apart := false, narrowed := true }
def SendTicksUptoSaid : Prop := sendTicksUptoRow.holds Try.pinned (OpenSpec.upto sendTicksSpec)

/-- 'volutelaw22.SendLearns', WHERE WHAT IT READS IS OF BULK AT MOST 1048576: true; the input reads as it did. -/
def sendLearnsUptoRow : OpenClaim := { program := "ytekojicaeadepaa", sum := "6e483b408586685d92c98240940c708ac4e0d611f0ea2601002512dc0e7a5184", func := "volute/volutelaw22.SendLearns", spec := "sendLearns", unfollowed := true, recurses := true, apart := false, narrowed := true }
def SendLearnsUptoSaid : Prop := sendLearnsUptoRow.holds Try.pinned (OpenSpec.upto sendLearnsSpec)

end Rows
end Go.Proofs.Ytekojicaeadepaa
