/- Words for regions that draw their order. -/
import Derived.Test.YtpomiglcplbdbaaKeep
import Derived.Deep.RegionHeld3
import Derived.Deep.RegionLaw
namespace Go.Proofs.Ytpomiglcplbdbaa
open Go.RowKit

theorem below_ud {B : Nat} {w w' : World} (h : Below B w.drew w') : Below B w w' := ⟨h.os, h.tape, h.output, h.size, h.block⟩

end Go.Proofs.Ytpomiglcplbdbaa
