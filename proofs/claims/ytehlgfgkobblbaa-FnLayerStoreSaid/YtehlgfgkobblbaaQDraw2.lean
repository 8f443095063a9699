/- What the laws draw: a store and a key, actions, proofs. -/
import Derived.Test.YtehlgfgkobblbaaQDraw
import Derived.Test.YtehlgfgkobblbaaQActs
import Derived.Test.YtehlgfgkobblbaaQBase
import Derived.Deep.DeepCutAuto
import Derived.Deep.CutBlock
import Derived.Deep.DrawnRows
namespace Go.Proofs.Ytehlgfgkobblbaa
open Go.RowKit


theorem Gr.setCell {R : Nat} {a b : World} (h : Gr R a b) {p : Addr} (hp : a.heap.size ≤ p.block) (u : Value) : Gr R a (b.setCell p u) :=
  h.upTo ((Below.refl a.heap.size b).setCell hp u) (Nat.le_refl _)
theorem RdAt.setCell {w : World} {R m : Nat} (h : RdAt w R m) {p : Addr} (hp : R < p.block) (u : Value) : RdAt (w.setCell p u) R m :=
  h.belowB ((Below.refl (R + 1) w).setCell (p := p) hp u) (by omega)
theorem RdAt.alloc {w : World} {R m : Nat} (h : RdAt w R m) (o : Obj) : RdAt (w.alloc o) R m := h.below ((Below.refl _ _).alloc (Nat.le_refl _) _)



end Go.Proofs.Ytehlgfgkobblbaa
