/- What the law's proof needs: PxVoluteref04. -/
import Derived.Test.YtfhihhfckpolpaaCBPx0
import Derived.Test.YtfhihhfckpolpaaCBPxVoluteref01
import Derived.Test.YtfhihhfckpolpaaCBShort
namespace Go.Proofs.Ytfhihhfckpolpaa.P
open Go.RowKit Go.Proofs.YtfhihhfckpolpaaW.PrintWords Go.Proofs.YtfhihhfckpolpaaW.PrintLast Go.Proofs.YtfhihhfckpolpaaW.PrintMore
attribute [local go_sem] max2_int min2_int max_two min_two max_three min_three max_four min_four   -- for this text's walks alone
set_option linter.unusedVariables false
set_option linter.unusedSimpArgs false
end Go.Proofs.Ytfhihhfckpolpaa.P
