/- Contracts of Useful and Ints, of the program and of the reference. -/
import Derived.Test.YtmoakdplhfgipaaVehK
namespace Go.Proofs.Ytmoakdplhfgipaa
set_option maxRecDepth 20000
open Go.RowKit Go.Maps

end Go.Proofs.Ytmoakdplhfgipaa
