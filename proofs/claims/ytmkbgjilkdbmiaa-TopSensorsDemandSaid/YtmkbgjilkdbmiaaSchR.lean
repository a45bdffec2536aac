/- The contract of the reference's Check of a schedule. -/
import Derived.Test.YtmkbgjilkdbmiaaSchA
namespace Go.Proofs.Ytmkbgjilkdbmiaa
open Go.RowKit Go.Maps

end Go.Proofs.Ytmkbgjilkdbmiaa
