/- Contracts over lists of layers: eqLayerS, markLayerS, heldLayerS. -/
import Derived.Test.YtehlgfgkobblbaaQLays
namespace Go.Proofs.Ytehlgfgkobblbaa
open Go.ChangeShapes Go.WideShapes Go.ChangeAt Go.RowKit Go.Deep

def layEq (x y : LayT) : Bool := decide (x = y)
theorem layEq_self (x : LayT) : layEq x x = true := by simp [layEq]
theorem layEq_iff {x y : LayT} : layEq x y = true ↔ x = y := by simp [layEq]


/-! ### Marks -/
def markEnts (k : Int) (n : Nat) : List Ent := (List.range n).map fun (i : Nat) => (k + (i * 2 : Nat), k + (i * 2 + 1 : Nat))
theorem markEnts_length (k : Int) (n : Nat) : (markEnts k n).length = n := by simp [markEnts]
theorem marks_ents (k : Int) (n : Nat) : marks k (n * 2) = entCells (markEnts k n) := by
  apply List.ext_getElem?
  intro i
  by_cases h : i < n * 2
  · rw [marks_at k _ i h]
    have h1 := entCells_at (markEnts k n) (i / 2) (by rw [markEnts_length]; omega)
    rcases Nat.mod_two_eq_zero_or_one i with e | e
    · have h2 := h1.1
      rw [show i / 2 * 2 = i by omega] at h2
      rw [h2]
      simp [markEnts]; omega
    · have h2 := h1.2
      rw [show i / 2 * 2 + 1 = i by omega] at h2
      rw [h2]
      simp [markEnts]; omega
  · rw [List.getElem?_eq_none (by rw [marks_length]; omega), List.getElem?_eq_none (by rw [entCells_length, markEnts_length]; omega)]
def markLay (k : Int) (z : LayA) : LayA := ((k, markEnts (k + 1) z.1.2.length), z.2)
def stepLay (k : Int) (z : LayA) : Int := k + 1 + (z.1.2.length * 2 : Nat)
def markLays : Int → List LayA → List LayA
  | _, [] => []
  | k, z :: zs => markLay k z :: markLays (stepLay k z) zs
def endLays : Int → List LayA → Int
  | k, [] => k
  | k, z :: zs => endLays (stepLay k z) zs
theorem markLays_append : ∀ (a b : List LayA) (k : Int), markLays k (a ++ b) = markLays k a ++ markLays (endLays k a) b := by
  intro a
  induction a with
  | nil => intro b k; rfl
  | cons z a ih => intro b k; simp only [List.cons_append, markLays, endLays, ih]
theorem endLays_append : ∀ (a b : List LayA) (k : Int), endLays k (a ++ b) = endLays (endLays k a) b := by
  intro a
  induction a with
  | nil => intro b k; rfl
  | cons z a ih => intro b k; simp only [List.cons_append, endLays, ih]
theorem markLays_length : ∀ (a : List LayA) (k : Int), (markLays k a).length = a.length := by
  intro a
  induction a with
  | nil => intro k; rfl
  | cons z a ih => intro k; simp only [markLays, List.length_cons, ih]
theorem endLays_eq : ∀ (a : List LayA) (k : Int), endLays k a = k + a.length + (totL (laysT a) * 2 : Nat) := by
  intro a
  induction a with
  | nil => intro k; simp [endLays, totL]
  | cons z a ih =>
    intro k
    have e : totL (laysT (z :: a)) = z.1.2.length + totL (laysT a) := totL_cons _ _
    rw [endLays, ih, stepLay, e, List.length_cons]
    omega
theorem endLays_bd {a b : List LayA} {k : Int} (_h0 : 0 ≤ k) : k ≤ endLays k a ∧ endLays k a ≤ endLays k (a ++ b) := by
  rw [endLays_append]
  have h1 := endLays_eq a k
  have h2 := endLays_eq b (endLays k a)
  exact ⟨by rw [h1]; omega, by rw [h2]; omega⟩

theorem own_set_cell {w : World} {base E sz n c : Nat} {A : Option Addr} {xs : List Value} (h : w.ownsRow base E sz (.slice A n c) n xs) {g j : Nat} (hA : A = some ⟨g, 0, none⟩) (hj : j < n * sz) (u : Value) :
    (w.setCell ⟨g, j, none⟩ u).ownsRow base E sz (.slice A n c) n (xs.set j u) ∧ w.grownBy (w.setCell ⟨g, j, none⟩ u) (Value.slice A n c).ownBlock := by
  subst hA
  rcases own_elim h with rfl | ⟨g', cur, e, hrow, hb, hnc, hc, hl, ht⟩
  · omega
  · injection e with e
    injection e with e1
    subst e1
    refine ⟨own_intro (hrow.set j u) hb hnc hc (by simpa using hl) (by rw [List.take_set, ht]), ?_⟩
    exact grown_setCell (World.grownBy.refl w _) j u

/-- What a mark on layers leaves behind. -/
def MarkLays (base hi : Nat) (A : Option Addr) (c : Nat) (zs : List LayA) (k : Int) (w : World) (e : Ending) (w' : World) : Prop :=
  e = .returned (.int .i64 (endLays k zs)) ∧ LaysOwn w' base A c (markLays k zs) ∧ Only base hi w w'

theorem layCells_set (a : List LayA) (z : LayA) (b : List LayA) (u : Int) (j : Nat) (hj : j = a.length * 2) : (layCells (a ++ z :: b)).set j (.int .i64 u) = layCells (a ++ ((u, z.1.2), z.2) :: b) := by
  subst hj
  rw [layCells_append, layCells_append, layCells_cons, layCells_cons]
  have h := layCells_length a
  rw [← h]
  generalize layCells a = l
  induction l with
  | nil => rfl
  | cons x l _ => simp
theorem outRow_block (A : Option Addr) (c : Nat) (zs ys : List LayA) (h : zs.length = ys.length) : rowBlock (outRow A c zs) = rowBlock (outRow A c ys) := by
  unfold outRow rowBlock rowVal; rw [h]



end Go.Proofs.Ytehlgfgkobblbaa
