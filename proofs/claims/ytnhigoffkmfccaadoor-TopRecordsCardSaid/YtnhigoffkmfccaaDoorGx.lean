-- Written by a program of this session over the print of the translation (its own patch, foreign contracts, cut ways): not trusted: Lean checks it.
import Derived.Test.YtnhigoffkmfccaaDoorGx0
import Derived.Test.YtnhigoffkmfccaaDoorGx1
import Derived.Test.YtnhigoffkmfccaaDoorGx2
import Derived.Test.YtnhigoffkmfccaaDoorGx3
namespace Go.Proofs.YtnhigoffkmfccaaDoor.G
open Go.RowKit Go.Proofs.YtnhigoffkmfccaaDoorW.PrintWords Go.Proofs.YtnhigoffkmfccaaDoorW.PrintLast Go.Proofs.YtnhigoffkmfccaaDoorW.PrintMore
attribute [local go_sem] max2_int min2_int max_two min_two max_three min_three max_four min_four   -- for this text's walks alone
set_option linter.unusedVariables false
set_option linter.unusedSimpArgs false

end Go.Proofs.YtnhigoffkmfccaaDoor.G
