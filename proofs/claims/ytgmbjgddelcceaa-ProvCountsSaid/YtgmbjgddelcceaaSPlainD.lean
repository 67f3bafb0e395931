import Derived.Test.YtgmbjgddelcceaaSPlainC
import Derived.Test.YtgmbjgddelcceaaSPx8
set_option linter.unusedVariables false
set_option linter.unusedSimpArgs false
namespace Go.Proofs.Ytgmbjgddelcceaa.P
open Go.RowKit Go.Proofs.YtgmbjgddelcceaaW.PrintWords Go.Proofs.YtgmbjgddelcceaaW.PrintLast
end Go.Proofs.Ytgmbjgddelcceaa.P
