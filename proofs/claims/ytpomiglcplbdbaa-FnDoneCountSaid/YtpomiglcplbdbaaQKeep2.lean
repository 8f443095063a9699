/- What rows and groups of rows keep while an interval of blocks is written. -/
import Derived.Test.YtpomiglcplbdbaaQBase
import Derived.Deep.RegionHeld3
namespace Go.Proofs.Ytpomiglcplbdbaa
open Go.RowKit

theorem RowIs.only {w w' : World} {g E lo hi : Nat} {vs : List Value} (h : RowIs w g E vs) (ho : Only lo hi w w') (hg : g < lo ∨ hi ≤ g) : RowIs w' g E vs := (ho.block g h.lt hg).trans h
theorem only_mark {w w' : World} {base E sz n c : Nat} {A : Option Addr} {xs : List Value} {hi : Nat} (ho : w.ownsRow base E sz (.slice A n c) n xs) (hg : w.grownBy w' (Value.slice A n c).ownBlock) (hl : ∀ k, (Value.slice A n c).ownBlock = some k → k < hi) : Only base hi w w' :=
  Only.of_grown hg (fun k hk => ⟨(ho.lt k hk).1, hl k hk⟩)
theorem own_only_lt {w w' : World} {base E sz n lo hi T : Nat} {v : Value} {xs : List Value} (h : w.ownsRow base E sz v n xs) (ho : Only lo hi w w') (hl : ∀ k, v.ownBlock = some k → k < T) (hT : T ≤ lo) : w'.ownsRow base E sz v n xs :=
  own_only_lo h ho (fun k hk => Nat.lt_of_lt_of_le (hl k hk) hT)
theorem Held.only_lt {w w' : World} {base n lo hi T : Nat} {R : Nat → Row} (h : Held w base R n) (ho : Only lo hi w w') (hl : HeldLt R n T) (hT : T ≤ lo) : Held w' base R n :=
  h.only_lo ho (fun i hi k hk => Nat.lt_of_lt_of_le (hl i hi k hk) hT)
theorem Held.alloc {w : World} {base n : Nat} {R : Nat → Row} (h : Held w base R n) (o : Obj) : Held (w.alloc o) base R n := h.below ((Below.refl _ _).alloc (Nat.le_refl _) _)
theorem below_ud2 {B : Nat} {w w' : World} (h : Below B w.drew w') : Below B w w' := ⟨h.os, h.tape, h.output, h.size, h.block⟩
theorem EntsAt.dr {w : World} {A : Option Addr} {es : List Ent} (h : EntsAt w A es) : EntsAt w.drew A es := h.below (Below.refl _ _).drew

end Go.Proofs.Ytpomiglcplbdbaa
