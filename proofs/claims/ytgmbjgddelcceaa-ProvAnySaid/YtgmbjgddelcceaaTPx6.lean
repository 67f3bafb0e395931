import Derived.Test.YtgmbjgddelcceaaTPx0
import Derived.Test.YtgmbjgddelcceaaTPx2
import Derived.Test.YtgmbjgddelcceaaTPx3
namespace Go.Proofs.Ytgmbjgddelcceaa.P
open Go.RowKit Go.Proofs.YtgmbjgddelcceaaW.PrintWords Go.Proofs.YtgmbjgddelcceaaW.PrintLast Go.Proofs.YtgmbjgddelcceaaW.PrintMore
attribute [local go_sem] max2_int min2_int max_two min_two max_three min_three max_four min_four   -- for this text's walks alone
set_option linter.unusedVariables false
set_option linter.unusedSimpArgs false
attribute [local go_sem high] eqA74 eqA80
end Go.Proofs.Ytgmbjgddelcceaa.P
