import Derived.Test.YtcbkcgnigncahaaDGivenXf
import Derived.Test.YtcbkcgnigncahaaDGivenU
import Derived.Test.YtcbkcgnigncahaaDPlainK
namespace Go.Proofs.Ytcbkcgnigncahaa.P
open Go.RowKit Go.Maps Go.Proofs.YtcbkcgnigncahaaW.PrintWords Go.Proofs.YtcbkcgnigncahaaW.PrintLast Go.Proofs.YtcbkcgnigncahaaW.PrintMore
attribute [local go_sem] max2_int min2_int max_two min_two max_three min_three max_four min_four
set_option linter.unusedVariables false
set_option linter.unusedSimpArgs false
end Go.Proofs.Ytcbkcgnigncahaa.P
