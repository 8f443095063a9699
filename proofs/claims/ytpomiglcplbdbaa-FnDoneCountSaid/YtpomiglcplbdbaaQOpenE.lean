/- Opening of an effect that a law receives. -/
import Derived.Test.YtpomiglcplbdbaaQBase
namespace Go.Proofs.Ytpomiglcplbdbaa
open Go.ChangeShapes Go.WideShapes Go.ChangeAt Go.RowKit Go.Deep

/-- An effect with the places of its two slices. -/
abbrev EffA := EffT × (Option Addr × Nat) × (Option Addr × Nat)
def EffOk (w : World) (z : EffA) : Prop := z.1.2.1.length ≤ maxLen ∧ z.1.2.2.length ≤ maxLen ∧ EntsAt w z.2.1.1 z.1.2.1 ∧ EntsAt w z.2.2.1 z.1.2.2


end Go.Proofs.Ytpomiglcplbdbaa
