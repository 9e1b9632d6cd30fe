-- Written by a program of this session over the print of the translation (its own patch, foreign contracts, cut ways): not trusted: Lean checks it.
import Derived.Test.YtoglapodcejocaaDoorGx0
import Derived.Test.YtoglapodcejocaaDoorGx1
import Derived.Test.YtoglapodcejocaaDoorGx2
import Derived.Test.YtoglapodcejocaaDoorGx3
namespace Go.Proofs.YtoglapodcejocaaDoor.G
open Go.RowKit Go.Proofs.YtoglapodcejocaaDoorW.PrintWords Go.Proofs.YtoglapodcejocaaDoorW.PrintLast Go.Proofs.YtoglapodcejocaaDoorW.PrintMore
attribute [local go_sem] max2_int min2_int max_two min_two max_three min_three max_four min_four   -- for this text's walks alone
set_option linter.unusedVariables false
set_option linter.unusedSimpArgs false

end Go.Proofs.YtoglapodcejocaaDoor.G
