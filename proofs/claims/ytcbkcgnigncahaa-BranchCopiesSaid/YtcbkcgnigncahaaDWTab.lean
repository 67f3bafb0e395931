import Derived.Test.YtcbkcgnigncahaaDWLast
import Derived.Test.YtcbkcgnigncahaaDWWords
namespace Go.Proofs.YtcbkcgnigncahaaW.PrintLast
open Go.Proofs.YtcbkcgnigncahaaW.PrintWords (Aside0)
section
variable {md : Region.Mode} {ops : Array Oper} {T : Bool × List (List Nat × List Nat)} {l l' li lj lk : Array Bool} {ds : List Nat} {i j k : Nat}
end
end Go.Proofs.YtcbkcgnigncahaaW.PrintLast
