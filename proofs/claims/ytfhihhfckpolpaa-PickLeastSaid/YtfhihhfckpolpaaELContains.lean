/- What the law's proof needs: Contains. -/
import Derived.Shelf.Abstract
import Derived.Test.YtfhihhfckpolpaaELPx0
namespace Go.Proofs.Ytfhihhfckpolpaa.P
open Go.RowKit Go.Shelf Go.Proofs.YtfhihhfckpolpaaW.PrintWords Go.Proofs.YtfhihhfckpolpaaW.PrintLast Go.Proofs.YtfhihhfckpolpaaW.PrintMore
set_option linter.unusedSimpArgs false
set_option linter.unusedVariables false
end Go.Proofs.Ytfhihhfckpolpaa.P
