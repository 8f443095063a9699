/- Contract of the laws' word sameEffect. -/
import Derived.Test.YtehlgfgkobblbaaQBase
import Derived.Test.YtehlgfgkobblbaaQSame
namespace Go.Proofs.Ytehlgfgkobblbaa
open Go.RowKit


end Go.Proofs.Ytehlgfgkobblbaa
