/- What the laws draw in statements that leave an order open. -/
import Derived.Test.YtehlgfgkobblbaaQDraw
import Derived.Test.YtehlgfgkobblbaaQBase
import Derived.Deep.RegionLaw
import Derived.Deep.DrawnRows
namespace Go.Proofs.Ytehlgfgkobblbaa
open Go.RowKit
attribute [local go_sem ↓] Go.wp_at_zero Go.wp_at_succ

theorem RdAt.alloc_ {w : World} {R m : Nat} (h : RdAt w R m) (o : Obj) : RdAt (w.alloc o) R m := h.below ((Below.refl _ _).alloc (Nat.le_refl _) _)
theorem RdAt.drew {w : World} {R m : Nat} (h : RdAt w R m) : RdAt w.drew R m := h.below (Below.refl _ _).drew

theorem arr_nth (l : List Int) {z : Int} (h0 : 0 ≤ z) (h1 : z < l.length) : (l.map (Value.int .i64)).toArray[z.toNat]? = some (.int .i64 (nth l z)) := by
  rw [List.getElem?_toArray, List.getElem?_map, List.getElem?_eq_getElem (by omega)]
  unfold nth
  rw [List.getD_eq_getElem?_getD, List.getElem?_eq_getElem (by omega)]
  rfl

theorem list_nth (l : List Int) {z : Int} (h0 : 0 ≤ z) (h1 : z < l.length) (h : z.toNat < (l.map (Value.int .i64)).length) : (l.map (Value.int .i64))[z.toNat]'h = .int .i64 (nth l z) := by
  rw [List.getElem_map]
  unfold nth
  rw [List.getD_eq_getElem?_getD, List.getElem?_eq_getElem (by omega)]
  rfl

/-- A drawn store and a key. -/
def DrawKey (w : World) (e : Ending) (w' : World) : Prop :=
  ∃ A c, ∃ es : List Ent, ∃ key : Int, e = .returned (.tuple #[.slice A es.length c, .int .i64 key]) ∧ es.length ≤ 100 ∧ -1 ≤ key ∧ key ≤ 32 ∧ w'.ownsRow w.heap.size 37 2 (.slice A es.length c) es.length (entCells es) ∧ Below w.heap.size w w'


end Go.Proofs.Ytehlgfgkobblbaa
