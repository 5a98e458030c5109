/-
  No cell of these rows narrows 'for every input' (looked for: loops, veiled, ifaces, maps, wideKeys, modest, calm, conditions, laid).
  DERIVED. THE GIVEN ROWS OF THIS SEAT. 12 by the template 'for every input the law returns true; each argument reads behind the call as it read before'; 0 by the template 'total and deterministic' (their statements: YtmihnicknicckaaTotals.lean).
  GIVEN WITH THE SEED: the statements are not yours to turn. If you find one false, say at which input.
  Laid BY PROGRAM, IN A SANDBOX (cutbox-rows.mjs): the forced cells as the released guide's own fill.sh prints them over the translation 7ab1b2e8920e3b8a… (all of the seat's roots in one cut). By AI agents, Wed Nov 11 2026. No macro, syntax, notation, axiom, sorry.
-/
import Derived.Test.YtmihnicknicckaaChecked
import GoSem.Claim
import GoSem.ClaimJoined
import GoSem.ClaimMapViews
import Derived.JoinedTies
import Derived.KernelRfl
namespace Go.Proofs.Ytmihnicknicckaa
/- THE CELL 'sum', in the pinned program and in every row, IS THE sha256 OF THE DUMP (.gsa) THAT YtmihnicknicckaaProg.lean LOADS. Nothing in Lean hashes anything: it is a label: what it is worth is what the hold of that sum in a sandbox is worth. -/
noncomputable def Try.pinned : Pinned := { name := "ytmihnicknicckaa", sum := "7ab1b2e8920e3b8a08a3c8ea632ddc3c31c214471d7456ec3cb8adbb60b67764", checked := Try.checked }
namespace Rows
def none {H : Type} : Left H := { results := [], args := [] }

/-- 'volutelaw16.SatExact': WHATEVER THE INPUT: true; the input reads as it did. -/
def satExactSpec : ChangeSpec := { name := "satExact", fn := fun _ => fun
  | [d1, d2] => { results := [.lit (.bool true)], args := [d1, d2] }
  | _ => none }
def satExactRow : OpenClaim := { program := "ytmihnicknicckaa", sum := "7ab1b2e8920e3b8a08a3c8ea632ddc3c31c214471d7456ec3cb8adbb60b67764", func := "volute/volutelaw16.SatExact", spec := "satExact", apart := false }
def SatExactSaid : Prop := satExactRow.holds Try.pinned (OpenSpec.ofChange satExactSpec)

/-- ITS FALSE NEIGHBOUR: 'it returns false'. Refute it at one input. -/
def satExactWrong : ChangeSpec := { name := "satExact", fn := fun _ => fun
  | [d1, d2] => { results := [.lit (.bool false)], args := [d1, d2] }
  | _ => none }
def SatExactWrongFalsely : Prop := satExactRow.holds Try.pinned (OpenSpec.ofChange satExactWrong)

/-- 'volutelaw16.SatStays': WHATEVER THE INPUT: true; the input reads as it did. -/
def satStaysSpec : ChangeSpec := { name := "satStays", fn := fun _ => fun
  | [d1, d2, d3] => { results := [.lit (.bool true)], args := [d1, d2, d3] }
  | _ => none }
def satStaysRow : OpenClaim := { program := "ytmihnicknicckaa", sum := "7ab1b2e8920e3b8a08a3c8ea632ddc3c31c214471d7456ec3cb8adbb60b67764", func := "volute/volutelaw16.SatStays", spec := "satStays", apart := false }
def SatStaysSaid : Prop := satStaysRow.holds Try.pinned (OpenSpec.ofChange satStaysSpec)

/-- ITS FALSE NEIGHBOUR: 'it returns false'. Refute it at one input. -/
def satStaysWrong : ChangeSpec := { name := "satStays", fn := fun _ => fun
  | [d1, d2, d3] => { results := [.lit (.bool false)], args := [d1, d2, d3] }
  | _ => none }
def SatStaysWrongFalsely : Prop := satStaysRow.holds Try.pinned (OpenSpec.ofChange satStaysWrong)

/-- 'volutelaw16.SatMany': WHATEVER THE INPUT: true; the input reads as it did. -/
def satManySpec : ChangeSpec := { name := "satMany", fn := fun _ => fun
  | [d1, d2] => { results := [.lit (.bool true)], args := [d1, d2] }
  | _ => none }
def satManyRow : OpenClaim := { program := "ytmihnicknicckaa", sum := "7ab1b2e8920e3b8a08a3c8ea632ddc3c31c214471d7456ec3cb8adbb60b67764", func := "volute/volutelaw16.SatMany", spec := "satMany", apart := false }
def SatManySaid : Prop := satManyRow.holds Try.pinned (OpenSpec.ofChange satManySpec)

/-- ITS FALSE NEIGHBOUR: 'it returns false'. Refute it at one input. -/
def satManyWrong : ChangeSpec := { name := "satMany", fn := fun _ => fun
  | [d1, d2] => { results := [.lit (.bool false)], args := [d1, d2] }
  | _ => none }
def SatManyWrongFalsely : Prop := satManyRow.holds Try.pinned (OpenSpec.ofChange satManyWrong)

/-- 'volutelaw07.SchedSpread': WHATEVER THE INPUT: true; the input reads as it did. -/
def schedSpreadSpec : ChangeSpec := { name := "schedSpread", fn := fun _ => fun
  | [d1, d2] => { results := [.lit (.bool true)], args := [d1, d2] }
  | _ => none }
def schedSpreadRow : OpenClaim := { program := "ytmihnicknicckaa", sum := "7ab1b2e8920e3b8a08a3c8ea632ddc3c31c214471d7456ec3cb8adbb60b67764", func := "volute/volutelaw07.SchedSpread", spec := "schedSpread", unfollowed := true, recurses := true, apart := false }
def SchedSpreadSaid : Prop := schedSpreadRow.holds Try.pinned (OpenSpec.ofChange schedSpreadSpec)

/-- ITS FALSE NEIGHBOUR: 'it returns false'. Refute it at one input. -/
def schedSpreadWrong : ChangeSpec := { name := "schedSpread", fn := fun _ => fun
  | [d1, d2] => { results := [.lit (.bool false)], args := [d1, d2] }
  | _ => none }
def SchedSpreadWrongFalsely : Prop := schedSpreadRow.holds Try.pinned (OpenSpec.ofChange schedSpreadWrong)

/-- 'volutelaw07.SchedEighths': WHATEVER THE INPUT: true; the input reads as it did. -/
def schedEighthsSpec : ChangeSpec := { name := "schedEighths", fn := fun _ => fun
  | [d] => { results := [.lit (.bool true)], args := [d] }
  | _ => none }
def schedEighthsRow : OpenClaim := { program := "ytmihnicknicckaa", sum := "7ab1b2e8920e3b8a08a3c8ea632ddc3c31c214471d7456ec3cb8adbb60b67764", func := "volute/volutelaw07.SchedEighths", spec := "schedEighths", unfollowed := true, recurses := true, apart := false }
def SchedEighthsSaid : Prop := schedEighthsRow.holds Try.pinned (OpenSpec.ofChange schedEighthsSpec)

/-- ITS FALSE NEIGHBOUR: 'it returns false'. Refute it at one input. -/
def schedEighthsWrong : ChangeSpec := { name := "schedEighths", fn := fun _ => fun
  | [d] => { results := [.lit (.bool false)], args := [d] }
  | _ => none }
def SchedEighthsWrongFalsely : Prop := schedEighthsRow.holds Try.pinned (OpenSpec.ofChange schedEighthsWrong)

/-- 'volutelaw07.SchedExact': WHATEVER THE INPUT: true; the input reads as it did. -/
def schedExactSpec : ChangeSpec := { name := "schedExact", fn := fun _ => fun
  | [d1, d2, d3, d4] => { results := [.lit (.bool true)], args := [d1, d2, d3, d4] }
  | _ => none }
def schedExactRow : OpenClaim := { program := "ytmihnicknicckaa", sum := "7ab1b2e8920e3b8a08a3c8ea632ddc3c31c214471d7456ec3cb8adbb60b67764", func := "volute/volutelaw07.SchedExact", spec := "schedExact", unfollowed := true, recurses := true, apart := false }
def SchedExactSaid : Prop := schedExactRow.holds Try.pinned (OpenSpec.ofChange schedExactSpec)

/-- ITS FALSE NEIGHBOUR: 'it returns false'. Refute it at one input. -/
def schedExactWrong : ChangeSpec := { name := "schedExact", fn := fun _ => fun
  | [d1, d2, d3, d4] => { results := [.lit (.bool false)], args := [d1, d2, d3, d4] }
  | _ => none }
def SchedExactWrongFalsely : Prop := schedExactRow.holds Try.pinned (OpenSpec.ofChange schedExactWrong)

/-- 'volutelaw07.SchedAll': WHATEVER THE INPUT: true; the input reads as it did. -/
def schedAllSpec : ChangeSpec := { name := "schedAll", fn := fun _ => fun
  | [d1, d2] => { results := [.lit (.bool true)], args := [d1, d2] }
  | _ => none }
def schedAllRow : OpenClaim := { program := "ytmihnicknicckaa", sum := "7ab1b2e8920e3b8a08a3c8ea632ddc3c31c214471d7456ec3cb8adbb60b67764", func := "volute/volutelaw07.SchedAll", spec := "schedAll", unfollowed := true, recurses := true, apart := false }
def SchedAllSaid : Prop := schedAllRow.holds Try.pinned (OpenSpec.ofChange schedAllSpec)

/-- ITS FALSE NEIGHBOUR: 'it returns false'. Refute it at one input. -/
def schedAllWrong : ChangeSpec := { name := "schedAll", fn := fun _ => fun
  | [d1, d2] => { results := [.lit (.bool false)], args := [d1, d2] }
  | _ => none }
def SchedAllWrongFalsely : Prop := schedAllRow.holds Try.pinned (OpenSpec.ofChange schedAllWrong)

/-- 'volutelaw24.LinkBack': WHATEVER THE INPUT: true; the input reads as it did. -/
def linkBackSpec : ChangeSpec := { name := "linkBack", fn := fun _ => fun
  | [d1, d2, d3, d4] => { results := [.lit (.bool true)], args := [d1, d2, d3, d4] }
  | _ => none }
def linkBackRow : OpenClaim := { program := "ytmihnicknicckaa", sum := "7ab1b2e8920e3b8a08a3c8ea632ddc3c31c214471d7456ec3cb8adbb60b67764", func := "volute/volutelaw24.LinkBack", spec := "linkBack", apart := false }
def LinkBackSaid : Prop := linkBackRow.holds Try.pinned (OpenSpec.ofChange linkBackSpec)

/-- ITS FALSE NEIGHBOUR: 'it returns false'. Refute it at one input. -/
def linkBackWrong : ChangeSpec := { name := "linkBack", fn := fun _ => fun
  | [d1, d2, d3, d4] => { results := [.lit (.bool false)], args := [d1, d2, d3, d4] }
  | _ => none }
def LinkBackWrongFalsely : Prop := linkBackRow.holds Try.pinned (OpenSpec.ofChange linkBackWrong)

/-- 'volutelaw24.LinkExact': WHATEVER THE INPUT: true; the input reads as it did. -/
def linkExactSpec : ChangeSpec := { name := "linkExact", fn := fun _ => fun
  | [d1, d2, d3, d4, d5, d6] => { results := [.lit (.bool true)], args := [d1, d2, d3, d4, d5, d6] }
  | _ => none }
def linkExactRow : OpenClaim := { program := "ytmihnicknicckaa", sum := "7ab1b2e8920e3b8a08a3c8ea632ddc3c31c214471d7456ec3cb8adbb60b67764", func := "volute/volutelaw24.LinkExact", spec := "linkExact", apart := false }
def LinkExactSaid : Prop := linkExactRow.holds Try.pinned (OpenSpec.ofChange linkExactSpec)

/-- ITS FALSE NEIGHBOUR: 'it returns false'. Refute it at one input. -/
def linkExactWrong : ChangeSpec := { name := "linkExact", fn := fun _ => fun
  | [d1, d2, d3, d4, d5, d6] => { results := [.lit (.bool false)], args := [d1, d2, d3, d4, d5, d6] }
  | _ => none }
def LinkExactWrongFalsely : Prop := linkExactRow.holds Try.pinned (OpenSpec.ofChange linkExactWrong)

/-- 'volutelaw24.LinkOthers': WHATEVER THE INPUT: true; the input reads as it did. -/
def linkOthersSpec : ChangeSpec := { name := "linkOthers", fn := fun _ => fun
  | [d1, d2, d3, d4, d5] => { results := [.lit (.bool true)], args := [d1, d2, d3, d4, d5] }
  | _ => none }
def linkOthersRow : OpenClaim := { program := "ytmihnicknicckaa", sum := "7ab1b2e8920e3b8a08a3c8ea632ddc3c31c214471d7456ec3cb8adbb60b67764", func := "volute/volutelaw24.LinkOthers", spec := "linkOthers", apart := false }
def LinkOthersSaid : Prop := linkOthersRow.holds Try.pinned (OpenSpec.ofChange linkOthersSpec)

/-- ITS FALSE NEIGHBOUR: 'it returns false'. Refute it at one input. -/
def linkOthersWrong : ChangeSpec := { name := "linkOthers", fn := fun _ => fun
  | [d1, d2, d3, d4, d5] => { results := [.lit (.bool false)], args := [d1, d2, d3, d4, d5] }
  | _ => none }
def LinkOthersWrongFalsely : Prop := linkOthersRow.holds Try.pinned (OpenSpec.ofChange linkOthersWrong)

/-- 'volutelaw08.CodeExact': WHATEVER THE INPUT: true; the input reads as it did. -/
def codeExactSpec : ChangeSpec := { name := "codeExact", fn := fun _ => fun
  | [d1, d2, d3] => { results := [.lit (.bool true)], args := [d1, d2, d3] }
  | _ => none }
def codeExactRow : OpenClaim := { program := "ytmihnicknicckaa", sum := "7ab1b2e8920e3b8a08a3c8ea632ddc3c31c214471d7456ec3cb8adbb60b67764", func := "volute/volutelaw08.CodeExact", spec := "codeExact", unfollowed := true, recurses := true, apart := false }
def CodeExactSaid : Prop := codeExactRow.holds Try.pinned (OpenSpec.ofChange codeExactSpec)

/-- ITS FALSE NEIGHBOUR: 'it returns false'. Refute it at one input. -/
def codeExactWrong : ChangeSpec := { name := "codeExact", fn := fun _ => fun
  | [d1, d2, d3] => { results := [.lit (.bool false)], args := [d1, d2, d3] }
  | _ => none }
def CodeExactWrongFalsely : Prop := codeExactRow.holds Try.pinned (OpenSpec.ofChange codeExactWrong)

/-- 'volutelaw08.CodeParts': WHATEVER THE INPUT: true; the input reads as it did. -/
def codePartsSpec : ChangeSpec := { name := "codeParts", fn := fun _ => fun
  | [d1, d2] => { results := [.lit (.bool true)], args := [d1, d2] }
  | _ => none }
def codePartsRow : OpenClaim := { program := "ytmihnicknicckaa", sum := "7ab1b2e8920e3b8a08a3c8ea632ddc3c31c214471d7456ec3cb8adbb60b67764", func := "volute/volutelaw08.CodeParts", spec := "codeParts", unfollowed := true, recurses := true, apart := false }
def CodePartsSaid : Prop := codePartsRow.holds Try.pinned (OpenSpec.ofChange codePartsSpec)

/-- ITS FALSE NEIGHBOUR: 'it returns false'. Refute it at one input. -/
def codePartsWrong : ChangeSpec := { name := "codeParts", fn := fun _ => fun
  | [d1, d2] => { results := [.lit (.bool false)], args := [d1, d2] }
  | _ => none }
def CodePartsWrongFalsely : Prop := codePartsRow.holds Try.pinned (OpenSpec.ofChange codePartsWrong)

/- THE SECOND FORM. 'bulk': how many values and letters a reading holds, each counted each time it is reached (what is shared counts as often as it is met; a slice's spare places count too). A statement '..UptoSaid' is the law's where the arguments, and the package variables that the reading takes, are together of bulk at most 1048576: NARROWER than '..Said'. Prove '..Said' where nothing that the law and all that it calls make is longer than what came in: it says more and counts as full. Else prove '..UptoSaid'. A law counts once. -/
mutual
def uptoBulk {H : Type} : DataW H → Nat
  | .lit (.string bytes) => bytes.length + 1
  | .lit _ => 1
  | .nil => 1
  | .ptr d => uptoBulk d + 1
  | .slice elems spare => uptoBulkAll elems + uptoBulkAll spare + 1
  | .agg parts => uptoBulkAll parts + 1
  | .iface _ d => uptoBulk d + 1
  | .map entries => uptoBulkEntries entries + 1
  | .held _ => 1
def uptoBulkAll {H : Type} : List (DataW H) → Nat
  | [] => 0
  | d :: r => uptoBulk d + uptoBulkAll r
def uptoBulkEntries {H : Type} : List (Lit × DataW H) → Nat
  | [] => 0
  | x :: r => uptoBulkEntry x + uptoBulkEntries r
def uptoBulkEntry {H : Type} : Lit × DataW H → Nat
  | (.string bytes, d) => bytes.length + uptoBulk d + 1
  | (_, d) => uptoBulk d + 1
 end
def uptoSmall : (H : Type) → List (DataW H) → Bool := fun _ ds => decide (uptoBulkAll ds ≤ 1048576)
def OpenSpec.upto (s : _root_.Go.ChangeSpec) : _root_.Go.OpenSpec := { _root_.Go.OpenSpec.ofChange s with cond := some uptoSmall }

/-- 'volutelaw16.SatExact', WHERE WHAT IT READS IS OF BULK AT MOST 1048576: true; the input reads as it did. -/
def satExactUptoRow : OpenClaim := { program := "ytmihnicknicckaa", sum := "7ab1b2e8920e3b8a08a3c8ea632ddc3c31c214471d7456ec3cb8adbb60b67764", func := "volute/volutelaw16.SatExact", spec := "satExact", apart := false, narrowed := true }
def SatExactUptoSaid : Prop := satExactUptoRow.holds Try.pinned (OpenSpec.upto satExactSpec)

/-- 'volutelaw16.SatStays', WHERE WHAT IT READS IS OF BULK AT MOST 1048576: true; the input reads as it did. -/
def satStaysUptoRow : OpenClaim := { program := "ytmihnicknicckaa", sum := "7ab1b2e8920e3b8a08a3c8ea632ddc3c31c214471d7456ec3cb8adbb60b67764", func := "volute/volutelaw16.SatStays", spec := "satStays", apart := false, narrowed := true }
def SatStaysUptoSaid : Prop := satStaysUptoRow.holds Try.pinned (OpenSpec.upto satStaysSpec)

/-- 'volutelaw16.SatMany', WHERE WHAT IT READS IS OF BULK AT MOST 1048576: true; the input reads as it did. -/
def satManyUptoRow : OpenClaim := { program := "ytmihnicknicckaa", sum := "7ab1b2e8920e3b8a08a3c8ea632ddc3c31c214471d7456ec3cb8adbb60b67764", func := "volute/volutelaw16.SatMany", spec := "satMany", apart := false, narrowed := true }
def SatManyUptoSaid : Prop := satManyUptoRow.holds Try.pinned (OpenSpec.upto satManySpec)

/-- 'volutelaw07.SchedSpread', WHERE WHAT IT READS IS OF BULK AT MOST 1048576: true; the input reads as it did. -/
def schedSpreadUptoRow : OpenClaim := { program := "ytmihnicknicckaa", sum := "7ab1b2e8920e3b8a08a3c8ea632ddc3c31c214471d7456ec3cb8adbb60b67764", func := "volute/volutelaw07.SchedSpread", spec := "schedSpread", unfollowed := true, recurses := true, apart := false, narrowed := true }
def SchedSpreadUptoSaid : Prop := schedSpreadUptoRow.holds Try.pinned (OpenSpec.upto schedSpreadSpec)

/-- 'volutelaw07.SchedEighths', WHERE WHAT IT READS IS OF BULK AT MOST 1048576: true; the input reads as it did. -/
def schedEighthsUptoRow : OpenClaim := { program := "ytmihnicknicckaa", sum := "7ab1b2e8920e3b8a08a3c8ea632ddc3c31c214471d7456ec3cb8adbb60b67764", func := "volute/volutelaw07.SchedEighths", spec := "schedEighths", unfollowed := true, recurses := true, apart := false, narrowed := true }
def SchedEighthsUptoSaid : Prop := schedEighthsUptoRow.holds Try.pinned (OpenSpec.upto schedEighthsSpec)

/-- 'volutelaw07.SchedExact', WHERE WHAT IT READS IS OF BULK AT MOST 1048576: true; the input reads as it did. -/
def schedExactUptoRow : OpenClaim := { program := "ytmihnicknicckaa", sum := "7ab1b2e8920e3b8a08a3c8ea632ddc3c31c214471d7456ec3cb8adbb60b67764", func := "volute/volutelaw07.SchedExact", spec := "schedExact", unfollowed := true, recurses := true, apart := false, narrowed := true }
def SchedExactUptoSaid : Prop := schedExactUptoRow.holds Try.pinned (OpenSpec.upto schedExactSpec)

/-- 'volutelaw07.SchedAll', WHERE WHAT IT READS IS OF BULK AT MOST 1048576: true; the input reads as it did. -/
def schedAllUptoRow : OpenClaim := { program := "ytmihnicknicckaa", sum := "7ab1b2e8920e3b8a08a3c8ea632ddc3c31c214471d7456ec3cb8adbb60b67764", func := "volute/volutelaw07.SchedAll", spec := "schedAll", unfollowed := true, recurses := true, apart := false, narrowed := true }
def SchedAllUptoSaid : Prop := schedAllUptoRow.holds Try.pinned (OpenSpec.upto schedAllSpec)

/-- 'volutelaw24.LinkBack', WHERE WHAT IT READS IS OF BULK AT MOST 1048576: true; the input reads as it did. -/
def linkBackUptoRow : OpenClaim := { program := "ytmihnicknicckaa", sum := "7ab1b2e8920e3b8a08a3c8ea632ddc3c31c214471d7456ec3cb8adbb60b67764", func := "volute/volutelaw24.LinkBack", spec := "linkBack", apart := false, narrowed := true }
def LinkBackUptoSaid : Prop := linkBackUptoRow.holds Try.pinned (OpenSpec.upto linkBackSpec)

/-- 'volutelaw24.LinkExact', WHERE WHAT IT READS IS OF BULK AT MOST 1048576: true; the input reads as it did. -/
def linkExactUptoRow : OpenClaim := { program := "ytmihnicknicckaa", sum := "7ab1b2e8920e3b8a08a3c8ea632ddc3c31c214471d7456ec3cb8adbb60b67764", func := "volute/volutelaw24.LinkExact", spec := "linkExact", apart := false, narrowed := true }
def LinkExactUptoSaid : Prop := linkExactUptoRow.holds Try.pinned (OpenSpec.upto linkExactSpec)

/-- 'volutelaw24.LinkOthers', WHERE WHAT IT READS IS OF BULK AT MOST 1048576: true; the input reads as it did. -/
def linkOthersUptoRow : OpenClaim := { program := "ytmihnicknicckaa", sum := "7ab1b2e8920e3b8a08a3c8ea632ddc3c31c214471d7456ec3cb8adbb60b67764", func := "volute/volutelaw24.LinkOthers", spec := "linkOthers", apart := false, narrowed := true }
def LinkOthersUptoSaid : Prop := linkOthersUptoRow.holds Try.pinned (OpenSpec.upto linkOthersSpec)

/-- 'volutelaw08.CodeExact', WHERE WHAT IT READS IS OF BULK AT MOST 1048576: true; the input reads as it did. -/
def codeExactUptoRow : OpenClaim := { program := "ytmihnicknicckaa", sum := "7ab1b2e8920e3b8a08a3c8ea632ddc3c31c214471d7456ec3cb8adbb60b67764", func := "volute/volutelaw08.CodeExact", spec := "codeExact", unfollowed := true, recurses := true, apart := false, narrowed := true }
def CodeExactUptoSaid : Prop := codeExactUptoRow.holds Try.pinned (OpenSpec.upto codeExactSpec)

/-- 'volutelaw08.CodeParts', WHERE WHAT IT READS IS OF BULK AT MOST 1048576: true; the input reads as it did. -/
def codePartsUptoRow : OpenClaim := { program := "ytmihnicknicckaa", sum := "7ab1b2e8920e3b8a08a3c8ea632ddc3c31c214471d7456ec3cb8adbb60b67764", func := "volute/volutelaw08.CodeParts", spec := "codeParts", unfollowed := true, recurses := true, apart := false, narrowed := true }
def CodePartsUptoSaid : Prop := codePartsUptoRow.holds Try.pinned (OpenSpec.upto codePartsSpec)

end Rows
end Go.Proofs.Ytmihnicknicckaa
