/- Contract of the program's RunAction. -/
import Derived.Test.YtmmfblkgappljaaRun2
namespace Go.Proofs.Ytmmfblkgappljaa
open Go.RowKit
attribute [local go_sem ↓] Go.wp_at_zero Go.wp_at_succ

theorem two_start (w : World) (A E : Array Value) (ta te : Nat) :
    RowIs ((w.alloc (.cells A ta)).alloc (.cells E te)) w.heap.size ta A.toList ∧
    RowIs ((w.alloc (.cells A ta)).alloc (.cells E te)) (w.heap.size + 1) te E.toList ∧
    ((w.alloc (.cells A ta)).alloc (.cells E te)).heap.size = w.heap.size + 1 + 1 ∧
    Below w.heap.size w ((w.alloc (.cells A ta)).alloc (.cells E te)) := by
  have e1 : (w.alloc (.cells A ta)).heap.size = w.heap.size + 1 := by simp
  have b1 := (Below.refl w.heap.size w).alloc (Nat.le_refl _) (.cells A ta)
  have b2 := b1.alloc b1.size (.cells E te)
  refine ⟨(RowIs.alloc A ta).alloc_other _, ?_, by simp, b2⟩
  have h := RowIs.alloc (w := w.alloc (.cells A ta)) E te
  rwa [e1] at h

theorem Held.setCell {w : World} {base n : Nat} {R : Nat → Row} (h : Held w base R n) {p : Addr} (hp : p.block < base) (u : Value) : Held (w.setCell p u) base R n :=
  ⟨fun i hi => own_setCell (h.1 i hi) hp u, h.2⟩


end Go.Proofs.Ytmmfblkgappljaa
