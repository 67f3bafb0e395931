import Derived.Test.YtgmbjgddelcceaaUPx18
import Derived.Test.YtgmbjgddelcceaaUPlainC
namespace Go.Proofs.Ytgmbjgddelcceaa.Pure
open Go.RowKit Go.Proofs.Ytgmbjgddelcceaa.P Go.Proofs.YtgmbjgddelcceaaW.PrintWords Go.Proofs.YtgmbjgddelcceaaW.PrintLast
theorem lives_ends : Ev (fun k => skymosaiclaw36_lives.f k) true :=
  Ev.of skymosaiclaw36_lives.mono (k := 300) (by decide +kernel)
end Go.Proofs.Ytgmbjgddelcceaa.Pure
