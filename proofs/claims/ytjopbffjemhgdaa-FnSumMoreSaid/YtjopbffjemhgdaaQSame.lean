/- Contracts of the laws' own words: sameInts, sameStore, alive, hasKey. -/
import Derived.Test.YtjopbffjemhgdaaQBase
import Derived.Deep.QuietTactic
import Derived.BigQuiet
import Derived.StillTailTactics
import Derived.Laws.StructEq
namespace Go.Proofs.Ytjopbffjemhgdaa
open Go.RowKit


def entEq2 (k v k' v' : Int) : Bool := decide (k = k' ∧ v = v')
theorem entEq2_iff {a b : Ent} : entEq2 a.1 a.2 b.1 b.2 = true ↔ a = b := by unfold entEq2; rw [decide_eq_true_iff, Prod.ext_iff]


set_option maxRecDepth 100000 in
set_option maxHeartbeats 400000 in
theorem alive_any (w : World) :
    Calls Try.prog 9 #[] w fun e w' => e = .returned (.bool true) ∧ Below w.heap.size w w' := by
  have hb0 : Below w.heap.size w (w.alloc (.cells #[] 3)) := (Below.refl _ _).alloc (Nat.le_refl _) _
  have H := Lib.hid (show sumOfF 0 [] = 17 from by decide)
  go_enter Try.func9, Try.ntmps9
  go_wp2_with fail
  refine (SumOf_any 0 _ _ [] _ (CellsAt.nil _ _) (by simp)).mono ?_
  rintro e w1 ⟨rfl, rfl⟩
  rw [H.out]
  go_wp2
  go_ret
  exact ⟨rfl, hb0⟩


end Go.Proofs.Ytjopbffjemhgdaa
