/- Contracts of the marks: markIntS, heldIntS, markEntryS, heldEntryS. -/
import Derived.Test.YtpomiglcplbdbaaOwn
namespace Go.Proofs.Ytpomiglcplbdbaa
open Go.RowKit

def marks (k : Int) (m : Nat) : List Value := (List.range m).map fun (i : Nat) => Value.int .i64 (k + (i : Int))
theorem marks_length (k : Int) (m : Nat) : (marks k m).length = m := by simp [marks]
theorem marks_at (k : Int) (m i : Nat) (h : i < m) : (marks k m)[i]? = some (.int .i64 (k + (i : Int))) := by simp [marks, h]

theorem own_elim {w : World} {base E sz n c : Nat} {A : Option Addr} {xs : List Value} (h : w.ownsRow base E sz (.slice A n c) n xs) :
    n = 0 ∨ ∃ g cur, A = some ⟨g, 0, none⟩ ∧ RowIs w g E cur ∧ base ≤ g ∧ n ≤ c ∧ c ≤ maxLen ∧ cur.length = c * sz ∧ cur.take (n * sz) = xs := by
  rcases h.2 with ⟨_, h0⟩ | ⟨g, cap, cur, hv, hb, hh, hn, hc, hs, ht⟩
  · exact .inl h0
  · injection hv with h1 h2 h3
    subst h3
    refine .inr ⟨g, cur.toList, h1, ?_, hb, hn, hc, by simpa using hs, ht⟩
    unfold RowIs
    rw [Array.toArray_toList]
    exact hh

theorem own_intro {w : World} {base E sz n c g : Nat} {cur xs : List Value} (h : RowIs w g E cur) (hb : base ≤ g) (hn : n ≤ c) (hc : c ≤ maxLen) (hl : cur.length = c * sz) (ht : cur.take (n * sz) = xs) :
    w.ownsRow base E sz (.slice (some ⟨g, 0, none⟩) n c) n xs := by
  refine ⟨?_, .inr ⟨g, c, cur.toArray, rfl, hb, h, hn, hc, by simpa using hl, by simpa using ht⟩⟩
  rw [← ht, List.length_take, hl]
  exact Nat.min_eq_left (Nat.mul_le_mul_right _ hn)

theorem own_zero {w w' : World} {base E sz c : Nat} {A : Option Addr} {xs ys : List Value} (h : w.ownsRow base E sz (.slice A 0 c) 0 xs) (hw : w' = w) (hy : ys = []) : w'.ownsRow base E sz (.slice A 0 c) 0 ys := by
  have h1 := h.1
  have hx : xs = [] := List.eq_nil_of_length_eq_zero (by simpa using h1)
  rw [hw, hy, ← hx]
  exact h

theorem grown_setCell {w w' : World} {g : Nat} (h : w.grownBy w' (some g)) (j : Nat) (u : Value) : w.grownBy (w'.setCell ⟨g, j, none⟩ u) (some g) :=
  ⟨h.os, h.tape, h.output, by simpa [World.setCell] using h.size, fun k hk hne => (Below.heap_setCell w' ⟨g, j, none⟩ u k (fun e => hne (by rw [e]))).trans (h.block k hk hne)⟩

theorem RowIs.grown {w w' : World} {g E : Nat} {vs : List Value} {row : Option Nat} (h : RowIs w g E vs) (hg : w.grownBy w' row) (hr : ∀ k, row = some k → g < k) : RowIs w' g E vs :=
  (hg.block g h.lt (fun e => by have := hr g e.symm; omega)).trans h

/-- Cells set one after the other. -/
theorem half_mark {cur : List Value} {k : Int} {m j : Nat} (hm : m ≤ cur.length) (hj : j < m) :
    (half j (marks k m ++ cur.drop m) cur).set j (.int .i64 (k + (j : Int))) = half (j + 1) (marks k m ++ cur.drop m) cur := by
  have hl : (marks k m ++ cur.drop m).length = cur.length := by rw [List.length_append, marks_length, List.length_drop]; omega
  have h := half_set (xs := marks k m ++ cur.drop m) (zs := cur) (k := j) hl (by rw [hl]; omega)
  have e : (marks k m ++ cur.drop m)[j]? = some (.int .i64 (k + (j : Int))) := by
    rw [List.getElem?_append_left (by rw [marks_length]; exact hj)]
    exact marks_at k m j hj
  rw [List.getElem?_eq_getElem (by rw [hl]; omega)] at e
  rw [Option.some.inj e] at h
  exact h
theorem half_zero (xs zs : List Value) : half 0 xs zs = zs := by simp [half]
theorem half_end {cur : List Value} {k : Int} {m : Nat} (_hm : m ≤ cur.length) : (half m (marks k m ++ cur.drop m) cur).take m = marks k m := by
  unfold half
  have h1 : (marks k m ++ cur.drop m).take m = marks k m := by
    have := List.take_left (l₁ := marks k m) (l₂ := cur.drop m)
    rwa [marks_length] at this
  rw [h1]
  have := List.take_left (l₁ := marks k m) (l₂ := cur.drop m)
  rwa [marks_length] at this
theorem half_marklen {cur : List Value} {k : Int} {m j : Nat} (hm : m ≤ cur.length) : (half j (marks k m ++ cur.drop m) cur).length = cur.length :=
  half_len (by rw [List.length_append, marks_length, List.length_drop]; omega)

/-- What a mark leaves behind. -/
def MarkRes (E sz : Nat) (base : Nat) (A : Option Addr) (n c : Nat) (k : Int) (w : World) (e : Ending) (w' : World) : Prop :=
  e = .returned (.int .i64 (k + (n * sz : Nat))) ∧ w'.ownsRow base E sz (.slice A n c) n (marks k (n * sz)) ∧ w.grownBy w' (Value.ownBlock (.slice A n c))





end Go.Proofs.Ytpomiglcplbdbaa
