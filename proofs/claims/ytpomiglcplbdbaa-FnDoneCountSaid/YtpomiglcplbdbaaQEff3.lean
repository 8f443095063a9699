/- Contracts of single effects: toEffect, szEffect. -/
import Derived.Test.YtpomiglcplbdbaaQBase
namespace Go.Proofs.Ytpomiglcplbdbaa
open Go.RowKit

theorem start3 (w : World) (A E E' : Array Value) (ta te : Nat) :
    RowIs (((w.alloc (.cells A ta)).alloc (.cells E te)).alloc (.cells E' te)) w.heap.size ta A.toList ∧
    RowIs (((w.alloc (.cells A ta)).alloc (.cells E te)).alloc (.cells E' te)) (w.heap.size + 1) te E.toList ∧
    RowIs (((w.alloc (.cells A ta)).alloc (.cells E te)).alloc (.cells E' te)) (w.heap.size + 1 + 1) te E'.toList ∧
    (((w.alloc (.cells A ta)).alloc (.cells E te)).alloc (.cells E' te)).heap.size = w.heap.size + 1 + 1 + 1 ∧
    Below w.heap.size w (((w.alloc (.cells A ta)).alloc (.cells E te)).alloc (.cells E' te)) := by
  have e1 : (w.alloc (.cells A ta)).heap.size = w.heap.size + 1 := by simp
  have e2 : ((w.alloc (.cells A ta)).alloc (.cells E te)).heap.size = w.heap.size + 1 + 1 := by simp
  have b1 := (Below.refl w.heap.size w).alloc (Nat.le_refl _) (.cells A ta)
  have b2 := b1.alloc b1.size (.cells E te)
  have b3 := b2.alloc b2.size (.cells E' te)
  refine ⟨((RowIs.alloc A ta).alloc_other _).alloc_other _, ?_, ?_, by simp, b3⟩
  · have h := (RowIs.alloc (w := w.alloc (.cells A ta)) E te).alloc_other (.cells E' te)
    rwa [e1] at h
  · have h := RowIs.alloc (w := (w.alloc (.cells A ta)).alloc (.cells E te)) E' te
    rwa [e2] at h

theorem own_sc {w : World} {base E sz n : Nat} {v : Value} {xs : List Value} (h : w.ownsRow base E sz v n xs) {p : Addr} (hp : p.block < base) (u : Value) : (w.setCell p u).ownsRow base E sz v n xs := by
  refine h.kept (row := some p.block) ⟨rfl, rfl, rfl, by simp [World.setCell], fun k _ hne => Below.heap_setCell w p u k (fun e => hne (by rw [e]))⟩ ?_
  cases hv : v.ownBlock with
  | none => exact .inl rfl
  | some k =>
    right
    intro he
    injection he with he
    have := (h.lt k hv).1
    omega



end Go.Proofs.Ytpomiglcplbdbaa
