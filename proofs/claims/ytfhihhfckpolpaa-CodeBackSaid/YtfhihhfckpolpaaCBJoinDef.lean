/- What the law's proof needs: JoinDef. -/
import Derived.Test.YtfhihhfckpolpaaCBNib
namespace Go.Proofs.Ytfhihhfckpolpaa.P
open Go.RowKit Go.Proofs.YtfhihhfckpolpaaW.PrintWords Go.Proofs.YtfhihhfckpolpaaW.PrintLast
def notNib (x : Int) : Bool := decide (x < 0) || decide (x ≥ 16)
def joinL : List Int → List Int
  | a :: b :: r => (16 * a + b) % 256 :: joinL r
  | _ => []
def bit_Join.f (l : List Int) : Option (List Int × Int) :=
  if l.length ≤ 32768 ∧ l.length % 2 = 0 then (if l.any notNib = true then some ([], 1) else some (joinL l, 0)) else some ([], 2)
end Go.Proofs.Ytfhihhfckpolpaa.P
