/- The contract of the reference's fills. -/
import Derived.Test.YtmkbgjilkdbmiaaTskB
namespace Go.Proofs.Ytmkbgjilkdbmiaa
open Go.RowKit Go.Maps

end Go.Proofs.Ytmkbgjilkdbmiaa
