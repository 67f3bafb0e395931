import Derived.SizedLaws
import Derived.ChangeSlices
namespace Go.Proofs.YtcbkcgnigncahaaW.PrintWords
open Go.ChangeShapes Go.WideShapes
end Go.Proofs.YtcbkcgnigncahaaW.PrintWords
