import Derived.Test.YtgmbjgddelcceaaUPx0
import Derived.Test.YtgmbjgddelcceaaUPx4
import Derived.Test.YtgmbjgddelcceaaUPx5
import Derived.Test.YtgmbjgddelcceaaUPx6
namespace Go.Proofs.Ytgmbjgddelcceaa.P
open Go.RowKit Go.Proofs.YtgmbjgddelcceaaW.PrintWords Go.Proofs.YtgmbjgddelcceaaW.PrintLast Go.Proofs.YtgmbjgddelcceaaW.PrintMore
attribute [local go_sem] max2_int min2_int max_two min_two max_three min_three max_four min_four   -- for this text's walks alone
set_option linter.unusedVariables false
set_option linter.unusedSimpArgs false
end Go.Proofs.Ytgmbjgddelcceaa.P
