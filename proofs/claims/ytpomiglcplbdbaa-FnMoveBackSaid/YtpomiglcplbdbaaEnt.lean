/- Contracts of the copies and comparisons of entries. -/
import Derived.Test.YtpomiglcplbdbaaMem
import Derived.Deep.QuietTactic
import Derived.BigQuiet
import Derived.Deep.RegionHeld3
import Derived.StillTailTactics
namespace Go.Proofs.Ytpomiglcplbdbaa
open Go.RowKit



def entEq (k v k' v' : Int) : Bool := decide (k = k' ∧ v = v')
theorem entEq_iff {a b : Ent} : entEq a.1 a.2 b.1 b.2 = true ↔ a = b := by unfold entEq; rw [decide_eq_true_iff, Prod.ext_iff]




end Go.Proofs.Ytpomiglcplbdbaa
