/- Contracts of the marks: markIntS, heldIntS, markEntryS, heldEntryS. -/
import Derived.Test.YtmmfblkgappljaaOwn
namespace Go.Proofs.Ytmmfblkgappljaa
open Go.RowKit

def marks (k : Int) (m : Nat) : List Value := (List.range m).map fun (i : Nat) => Value.int .i64 (k + (i : Int))
theorem marks_length (k : Int) (m : Nat) : (marks k m).length = m := by simp [marks]
theorem marks_at (k : Int) (m i : Nat) (h : i < m) : (marks k m)[i]? = some (.int .i64 (k + (i : Int))) := by simp [marks, h]

theorem own_elim {w : World} {base E sz n c : Nat} {A : Option Addr} {xs : List Value} (h : w.ownsRow base E sz (.slice A n c) n xs) :
    n = 0 ∨ ∃ g cur, A = some ⟨g, 0, none⟩ ∧ RowIs w g E cur ∧ base ≤ g ∧ n ≤ c ∧ c ≤ maxLen ∧ cur.length = c * sz ∧ cur.take (n * sz) = xs := by
  rcases h.2 with ⟨_, h0⟩ | ⟨g, cap, cur, hv, hb, hh, hn, hc, hs, ht⟩
  · exact .inl h0
  · injection hv with h1 h2 h3
    subst h3
    refine .inr ⟨g, cur.toList, h1, ?_, hb, hn, hc, by simpa using hs, ht⟩
    unfold RowIs
    rw [Array.toArray_toList]
    exact hh

theorem own_intro {w : World} {base E sz n c g : Nat} {cur xs : List Value} (h : RowIs w g E cur) (hb : base ≤ g) (hn : n ≤ c) (hc : c ≤ maxLen) (hl : cur.length = c * sz) (ht : cur.take (n * sz) = xs) :
    w.ownsRow base E sz (.slice (some ⟨g, 0, none⟩) n c) n xs := by
  refine ⟨?_, .inr ⟨g, c, cur.toArray, rfl, hb, h, hn, hc, by simpa using hl, by simpa using ht⟩⟩
  rw [← ht, List.length_take, hl]
  exact Nat.min_eq_left (Nat.mul_le_mul_right _ hn)

theorem own_zero {w w' : World} {base E sz c : Nat} {A : Option Addr} {xs ys : List Value} (h : w.ownsRow base E sz (.slice A 0 c) 0 xs) (hw : w' = w) (hy : ys = []) : w'.ownsRow base E sz (.slice A 0 c) 0 ys := by
  have h1 := h.1
  have hx : xs = [] := List.eq_nil_of_length_eq_zero (by simpa using h1)
  rw [hw, hy, ← hx]
  exact h

theorem grown_setCell {w w' : World} {g : Nat} (h : w.grownBy w' (some g)) (j : Nat) (u : Value) : w.grownBy (w'.setCell ⟨g, j, none⟩ u) (some g) :=
  ⟨h.os, h.tape, h.output, by simpa [World.setCell] using h.size, fun k hk hne => (Below.heap_setCell w' ⟨g, j, none⟩ u k (fun e => hne (by rw [e]))).trans (h.block k hk hne)⟩

theorem RowIs.grown {w w' : World} {g E : Nat} {vs : List Value} {row : Option Nat} (h : RowIs w g E vs) (hg : w.grownBy w' row) (hr : ∀ k, row = some k → g < k) : RowIs w' g E vs :=
  (hg.block g h.lt (fun e => by have := hr g e.symm; omega)).trans h

/-- Cells set one after the other. -/
theorem half_mark {cur : List Value} {k : Int} {m j : Nat} (hm : m ≤ cur.length) (hj : j < m) :
    (half j (marks k m ++ cur.drop m) cur).set j (.int .i64 (k + (j : Int))) = half (j + 1) (marks k m ++ cur.drop m) cur := by
  have hl : (marks k m ++ cur.drop m).length = cur.length := by rw [List.length_append, marks_length, List.length_drop]; omega
  have h := half_set (xs := marks k m ++ cur.drop m) (zs := cur) (k := j) hl (by rw [hl]; omega)
  have e : (marks k m ++ cur.drop m)[j]? = some (.int .i64 (k + (j : Int))) := by
    rw [List.getElem?_append_left (by rw [marks_length]; exact hj)]
    exact marks_at k m j hj
  rw [List.getElem?_eq_getElem (by rw [hl]; omega)] at e
  rw [Option.some.inj e] at h
  exact h
theorem half_zero (xs zs : List Value) : half 0 xs zs = zs := by simp [half]
theorem half_end {cur : List Value} {k : Int} {m : Nat} (_hm : m ≤ cur.length) : (half m (marks k m ++ cur.drop m) cur).take m = marks k m := by
  unfold half
  have h1 : (marks k m ++ cur.drop m).take m = marks k m := by
    have := List.take_left (l₁ := marks k m) (l₂ := cur.drop m)
    rwa [marks_length] at this
  rw [h1]
  have := List.take_left (l₁ := marks k m) (l₂ := cur.drop m)
  rwa [marks_length] at this
theorem half_marklen {cur : List Value} {k : Int} {m j : Nat} (hm : m ≤ cur.length) : (half j (marks k m ++ cur.drop m) cur).length = cur.length :=
  half_len (by rw [List.length_append, marks_length, List.length_drop]; omega)

/-- What a mark leaves behind. -/
def MarkRes (E sz : Nat) (base : Nat) (A : Option Addr) (n c : Nat) (k : Int) (w : World) (e : Ending) (w' : World) : Prop :=
  e = .returned (.int .i64 (k + (n * sz : Nat))) ∧ w'.ownsRow base E sz (.slice A n c) n (marks k (n * sz)) ∧ w.grownBy w' (Value.ownBlock (.slice A n c))



set_option maxRecDepth 100000 in
set_option maxHeartbeats 800000 in
theorem markEntryS_any (base E : Nat) (A : Option Addr) (n c : Nat) (xs : List Value) (k : Int) (w : World) (ho : w.ownsRow base E 2 (.slice A n c) n xs) (hn : n ≤ 4294967296) (h0 : 0 ≤ k) (h1 : k ≤ 1099511627776) :
    Calls Try.prog 33 #[.slice A n c, .int .i64 k] w (MarkRes E 2 base A n c k w) := by
  rcases own_elim ho with rfl | ⟨g, cur, rfl, hrow0, hb, hnc, hc, hl, ht⟩
  · have HO := Lib.hid ho
    clear ho
    go_enter Try.func33, Try.ntmps33
    go_wp2
    refine wp_loop_rounds 1 ?_
    rw [rounds_succ]
    go_wp2
    go_ret
    exact ⟨ret_int (by simp), own_zero HO.out rfl (by simp [marks]), World.grownBy.refl w _⟩
  · have hm : n * 2 ≤ cur.length := by omega
    have HT := Lib.hid ht
    have HL := Lib.hid hl
    clear ht hl ho
    go_enter Try.func33, Try.ntmps33
    go_wp2
    go_loopw [1, 5] (fun q i wr => ∃ j : Nat, j ≤ n ∧ i = .int .i64 j ∧ q = .int .i64 (k + (j * 2 : Nat)) ∧ RowIs wr g E (half (j * 2) (marks k (n * 2) ++ cur.drop (n * 2)) cur) ∧ w.grownBy wr (some g)) (fun _ i _ => n - (intOf i).toNat)
    case atStart => exact ⟨0, Nat.zero_le _, rfl, by simp, by rw [Nat.zero_mul, half_zero]; exact hrow0, World.grownBy.refl w _⟩
    case round =>
      obtain ⟨j, hj, rfl, rfl, hrow, hgr⟩ := hrel
      by_cases hlt : j < n
      · obtain ⟨v0, hold⟩ := hrow.some_ (k := j * 2) (by rw [half_marklen hm]; omega)
        obtain ⟨v1, hold1⟩ := hrow.some_ (k := j * 2 + 1) (by rw [half_marklen hm]; omega)
        have hfz := hrow.frozen (j * 2)
        have hfz1 := hrow.frozen (j * 2 + 1)
        have HR := Lib.hid hrow
        have HS := Lib.hid (half_mark (k := k) (j := j * 2) hm (by omega))
        have HS1 := Lib.hid (half_mark (k := k) (j := j * 2 + 1) hm (by omega))
        clear hrow
        go_wp2
        go_roundw
        case rel =>
          refine ⟨j + 1, by omega, by go_num, by go_num, ?_, grown_setCell (grown_setCell hgr _ _) _ _⟩
          have h2 := (HR.out.set (j * 2) (.int .i64 (k + (j * 2 : Nat)))).set (j * 2 + 1) (.int .i64 (k + (j * 2 + 1 : Nat)))
          rw [HS.out, HS1.out] at h2
          rw [show (j + 1) * 2 = j * 2 + 1 + 1 from by omega]
          rw [show k + ((j * 2 : Nat) : Int) = k + (j : Int) * 2 from by omega, show k + ((j * 2 + 1 : Nat) : Int) = k + (j : Int) * 2 + 1 from by omega] at h2
          exact h2
        case measure => simp [intOf]; omega
      · obtain rfl : j = n := by omega
        go_wp2
        go_ret
        refine ⟨ret_int (by simp), own_intro hrow hb hnc hc (by rw [half_marklen hm]; exact HL.out) (half_end hm), hgr⟩

set_option maxRecDepth 100000 in
set_option maxHeartbeats 800000 in
theorem heldEntryS_any (A : Option Addr) (n c : Nat) (k : Int) (w : World) (hr : CellsAt w A (marks k (n * 2))) (hn : n ≤ 4294967296) (h0 : 0 ≤ k) (h1 : k ≤ 1099511627776) :
    Calls Try.prog 35 #[.slice A n c, .int .i64 k] w fun e w' => e = .returned (.int .i64 (k + (n * 2 : Nat))) ∧ w = w' := by
  have HR := Lib.hid hr
  clear hr
  go_enter Try.func35, Try.ntmps35
  go_wp2
  go_loop [1, 5] (fun q i => ∃ j : Nat, j ≤ n ∧ i = .int .i64 j ∧ q = .int .i64 (k + (j * 2 : Nat))) (fun _ i => n - (intOf i).toNat)
  case atStart => exact ⟨0, Nat.zero_le _, rfl, by simp⟩
  case round =>
    obtain ⟨j, hj, rfl, rfl⟩ := hrel
    by_cases hlt : j < n
    · obtain ⟨b, o, rfl, hb, hc⟩ := HR.out.pos (k := j * 2) (by rw [marks_length]; omega)
      have hcell : w.cell? ⟨b, o + j * 2, none⟩ = some (.int .i64 (k + (j : Int) * 2)) := by
        have := hc (j * 2) _ (marks_at k (n * 2) (j * 2) (by omega))
        rw [show k + ((j * 2 : Nat) : Int) = k + (j : Int) * 2 from by omega] at this
        exact this
      have hcell1 : w.cell? ⟨b, o + j * 2 + 1, none⟩ = some (.int .i64 (k + (j : Int) * 2 + 1)) := by
        have := hc (j * 2 + 1) _ (marks_at k (n * 2) (j * 2 + 1) (by omega))
        rw [show k + ((j * 2 + 1 : Nat) : Int) = k + (j : Int) * 2 + 1 from by omega] at this
        exact this
      clear hc
      go_wp2
      go_round
      case rel => exact ⟨j + 1, by omega, by go_num, by go_num⟩
      case measure => simp [intOf]; omega
    · obtain rfl : j = n := by omega
      go_wp2
      go_ret
      exact ⟨ret_int (by simp), rfl⟩

end Go.Proofs.Ytmmfblkgappljaa
