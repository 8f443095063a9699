/- Several rows that one call has made, held together: they keep while others are written. -/
import Derived.Test.YtpomiglcplbdbaaKeep
import Derived.Test.YtpomiglcplbdbaaMark
namespace Go.Proofs.Ytpomiglcplbdbaa
open Go.RowKit

/-- A slice's place: address, length, capacity. -/
abbrev Sp := Option Addr × Nat × Nat
/-- A row: element type, cells of an element, place, cells. -/
abbrev Row := Nat × Nat × Sp × List Value
def rowVal (r : Row) : Value := .slice r.2.2.1.1 r.2.2.1.2.1 r.2.2.1.2.2
def rowBlock (r : Row) : Option Nat := (rowVal r).ownBlock
def rowOwn (w : World) (base : Nat) (r : Row) : Prop := w.ownsRow base r.1 r.2.1 (.slice r.2.2.1.1 r.2.2.1.2.1 r.2.2.1.2.2) r.2.2.1.2.1 r.2.2.2

/-- The first n rows are the call's own, each in a block of its own. -/
def Held (w : World) (base : Nat) (R : Nat → Row) (n : Nat) : Prop :=
  (∀ i, i < n → rowOwn w base (R i)) ∧ ∀ i j, i < n → j < n → i ≠ j → ∀ k, rowBlock (R i) = some k → rowBlock (R j) ≠ some k
def HeldLt (R : Nat → Row) (n S : Nat) : Prop := ∀ i, i < n → ∀ k, rowBlock (R i) = some k → k < S

/-- Nothing but blocks from lo on, before hi, is written. -/
structure Only (lo hi : Nat) (w w' : World) : Prop where
  os : w'.os = w.os
  tape : w'.tape = w.tape
  output : w'.output = w.output
  size : w.heap.size ≤ w'.heap.size
  block : ∀ k, k < w.heap.size → (k < lo ∨ hi ≤ k) → w'.heap[k]? = w.heap[k]?

theorem Only.refl (lo hi : Nat) (w : World) : Only lo hi w w := ⟨rfl, rfl, rfl, Nat.le_refl _, fun _ _ _ => rfl⟩
theorem Only.trans {lo hi : Nat} {a b c : World} (h : Only lo hi a b) (k : Only lo hi b c) : Only lo hi a c :=
  ⟨k.os.trans h.os, k.tape.trans h.tape, k.output.trans h.output, Nat.le_trans h.size k.size, fun i hi ho => (k.block i (Nat.lt_of_lt_of_le hi h.size) ho).trans (h.block i hi ho)⟩
theorem Only.of_grown {lo hi : Nat} {w w' : World} {row : Option Nat} (h : w.grownBy w' row) (hr : ∀ k, row = some k → lo ≤ k ∧ k < hi) : Only lo hi w w' :=
  ⟨h.os, h.tape, h.output, h.size, fun k hk ho => h.block k hk (fun e => by have := hr k e.symm; omega)⟩
theorem Only.below {lo hi : Nat} {a w w' : World} {B : Nat} (hb : Below B a w) (h : Only lo hi w w') (hlo : B ≤ lo) (hB : B ≤ w.heap.size) : Below B a w' :=
  hb.trans ⟨h.os, h.tape, h.output, h.size, fun k hk => h.block k (by omega) (by omega)⟩
theorem Only.drew {lo hi : Nat} {a b : World} (h : Only lo hi a b) : Only lo hi a b.drew := ⟨h.os, h.tape, h.output, h.size, h.block⟩

theorem own_only_lo {w w' : World} {base E sz n lo hi : Nat} {v : Value} {xs : List Value} (h : w.ownsRow base E sz v n xs) (ho : Only lo hi w w') (hl : ∀ k, v.ownBlock = some k → k < lo) : w'.ownsRow base E sz v n xs := by
  refine ⟨h.1, ?_⟩
  rcases h.2 with h2 | ⟨g, cap, cur, h1, h2, h3, h4⟩
  · exact .inl h2
  · exact .inr ⟨g, cap, cur, h1, h2, (ho.block g (Array.getElem?_eq_some_iff.1 h3).1 (.inl (hl g (by rw [h1]; rfl)))).trans h3, h4⟩
theorem own_only_hi {w w' : World} {base E sz n lo hi : Nat} {v : Value} {xs : List Value} (h : w.ownsRow base E sz v n xs) (ho : Only lo hi w w') (hb : hi ≤ base) : w'.ownsRow base E sz v n xs := by
  refine ⟨h.1, ?_⟩
  rcases h.2 with h2 | ⟨g, cap, cur, h1, h2, h3, h4⟩
  · exact .inl h2
  · exact .inr ⟨g, cap, cur, h1, h2, (ho.block g (Array.getElem?_eq_some_iff.1 h3).1 (.inr (by omega))).trans h3, h4⟩

section
variable {w w' : World} {base n : Nat} {R R' : Nat → Row}

theorem Held.own (h : Held w base R n) {i : Nat} (hi : i < n) : rowOwn w base (R i) := h.1 i hi
theorem Held.below (h : Held w base R n) (hb : Below w.heap.size w w') : Held w' base R n := ⟨fun i hi => own_below (h.1 i hi) hb, h.2⟩
theorem Held.only_lo {lo hi : Nat} (h : Held w base R n) (ho : Only lo hi w w') (hl : HeldLt R n lo) : Held w' base R n :=
  ⟨fun i hi => own_only_lo (h.1 i hi) ho (hl i hi), h.2⟩
theorem Held.only_hi {lo hi : Nat} (h : Held w base R n) (ho : Only lo hi w w') (hb : hi ≤ base) : Held w' base R n :=
  ⟨fun i hi => own_only_hi (h.1 i hi) ho hb, h.2⟩
theorem Held.heldLt (h : Held w base R n) : HeldLt R n w.heap.size := fun i hi k hk => ((h.1 i hi).lt k hk).2
theorem Held.ge (h : Held w base R n) {i : Nat} (hi : i < n) {k : Nat} (hk : rowBlock (R i) = some k) : base ≤ k := ((h.1 i hi).lt k hk).1
theorem Held.weaken {base' : Nat} (h : Held w base R n) (hb : base' ≤ base) : Held w base' R n := ⟨fun i hi => own_weaken (h.1 i hi) hb, h.2⟩

/-- One row is written. -/
theorem Held.set {i : Nat} (h : Held w base R n) (hi : i < n) (hg : w.grownBy w' (rowBlock (R i))) (ho : rowOwn w' base (R' i)) (hb : rowBlock (R' i) = rowBlock (R i)) (hR : ∀ j, j < n → j ≠ i → R' j = R j) : Held w' base R' n := by
  refine ⟨fun j hj => ?_, fun j l hj hl hne k hk => ?_⟩
  · by_cases e : j = i
    · subst e; exact ho
    · rw [hR j hj e]
      refine (h.1 j hj).kept hg ?_
      cases hv : rowBlock (R j) with
      | none => exact .inl hv
      | some k => right; intro e2; exact h.2 j i hj hi e k hv (e2.symm.trans hv)
  · have hbl : ∀ j, j < n → rowBlock (R' j) = rowBlock (R j) := fun j hj => by
      by_cases e : j = i
      · subst e; exact hb
      · rw [hR j hj e]
    rw [hbl j hj] at hk
    rw [hbl l hl]
    exact h.2 j l hj hl hne k hk

theorem held_one {E sz m c : Nat} {A : Option Addr} {cells : List Value} (h : w.ownsRow base E sz (.slice A m c) m cells) : Held w base (fun _ => (E, sz, (A, m, c), cells)) 1 :=
  ⟨fun _ _ => h, fun i j hi hj hne => by omega⟩
end

end Go.Proofs.Ytpomiglcplbdbaa
