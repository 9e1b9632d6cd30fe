/- CacheLast: the pure statement: numbers and lists alone. Conditions: those of the statement itself. -/
import Derived.OpenShut
import Derived.OpenShut
import Derived.Test.YtoglapodcejocaaCacheLast
namespace Go.Proofs.Ytoglapodcejocaa.Pure
open Go.RowKit Go.Proofs.Ytoglapodcejocaa.G Go.Proofs.YtoglapodcejocaaW.PrintWords Go.Proofs.YtoglapodcejocaaW.PrintLast Go.Proofs.YtoglapodcejocaaW.PrintMore Go.OpenShut
set_option linter.unusedVariables false
set_option linter.unusedSimpArgs false
theorem CacheLast : caulklaw36_CacheLast.Pure := caulklaw36_CacheLast.pure
end Go.Proofs.Ytoglapodcejocaa.Pure
