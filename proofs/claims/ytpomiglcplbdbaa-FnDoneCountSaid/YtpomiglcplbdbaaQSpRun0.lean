/- Contracts of the reference's actions: l4Put, l6Run, RunAction. -/
import Derived.Test.YtpomiglcplbdbaaQRun3
import Derived.Test.YtpomiglcplbdbaaQL4Put
namespace Go.Proofs.Ytpomiglcplbdbaa
open Go.RowKit


theorem reads_val {k f t : Int} {v : List Int} : ∀ x ∈ readsF k f t, (if x = f then atV v f else atV v t) = atV v x := by
  intro x hx
  by_cases e : x = f
  · rw [if_pos e, e]
  · rw [if_neg e]
    have : x = f ∨ x = t := by
      unfold readsF at hx
      split at hx
      · simp at hx
      · split at hx <;> simp at hx <;> omega
    rcases this with h | h
    · exact absurd h e
    · rw [h]

theorem wrsF_spWr {k f t m : Int} (h : actOk k f t m = true) {v : List Int} (hd : doneF k f t m v = true) : wrsF k f t m v = spWr k f t m (atV v f) (atV v t) := by
  rw [← spWr_eq h v, wrsF, if_pos hd]
theorem wrsF_no {k f t m : Int} {v : List Int} (hd : doneF k f t m v = false) : wrsF k f t m v = [] := by simp [wrsF, hd]

theorem ent_one (w : World) (base E : Nat) (a b : Int) (hb : base ≤ w.heap.size) (T : Nat) (hT : T = E) : (w.alloc (.cells #[.int .i64 a, .int .i64 b] T)).ownsRow base E 2 (.slice (some ⟨w.heap.size, 0, none⟩) 1 1) 1 (entCells [(a, b)]) := by
  subst hT
  exact own_lit base T 2 1 #[.int .i64 a, .int .i64 b] hb rfl (by unfold maxLen; omega)

theorem own_drewN {w : World} {base E sz n : Nat} {v : Value} {xs : List Value} (h : w.ownsRow base E sz v n xs) (q : Nat) : (w.drewN q).ownsRow base E sz v n xs := h
theorem below_undrewN {B q : Nat} {w w' : World} (h : Below B (w.drewN q) w') : Below B w w' := ⟨h.os, h.tape, h.output, h.size, h.block⟩
/-- The ends: the effect's rows, whatever was laid in between. -/
theorem fin_row {w W : World} {E : Nat} {A B : Option Addr} {c d : Nat} {x : EffT} {S base : Nat} {n m : Nat} (hn : n = x.2.1.length) (hm : m = x.2.2.length) (hA : W.ownsRow base E 2 (.slice A n c) n (entCells x.2.1)) (hB : W.ownsRow S E 2 (.slice B m d) m (entCells x.2.2))
    (hlt : ∀ k, (Value.slice A n c).ownBlock = some k → k < S) (hS : base ≤ S) (hbase : w.heap.size ≤ base) (hb : Below w.heap.size w W) :
    EffRes E x w (.returned (.agg #[.bool x.1, .slice A n c, .slice B m d])) W := by
  subst hn hm
  exact ⟨A, c, B, d, rfl, (held_two hA hB hlt hS).weaken hbase, hb⟩
theorem fin_lit {w W : World} {E : Nat} {A : Option Addr} {c : Nat} {x : EffT} {base g n : Nat} {a b : Int} (hx : x.2.2 = [(a, b)]) (hn : n = x.2.1.length) (hA : W.ownsRow base E 2 (.slice A n c) n (entCells x.2.1)) (hg : W.heap.size = g) (hgb : base ≤ g) (hbase : w.heap.size ≤ base) (hb : Below w.heap.size w W) :
    EffRes E x w (.returned (.agg #[.bool x.1, .slice A n c, .slice (some ⟨g, 0, none⟩) 1 1])) (W.alloc (.cells #[.int .i64 a, .int .i64 b] E)) := by
  subst hg
  refine fin_row (S := W.heap.size) hn (by rw [hx]; rfl) (hA.alloc _) ?_ (own_lt hA) hgb hbase (hb.alloc hb.size _)
  rw [hx]
  exact ent_one W W.heap.size E a b (Nat.le_refl _) E rfl
theorem fin_empty {w W : World} {E : Nat} {A : Option Addr} {c : Nat} {x : EffT} {base g n : Nat} (hx : x.2.2 = []) (hn : n = x.2.1.length) (hA : W.ownsRow base E 2 (.slice A n c) n (entCells x.2.1)) (hg : W.heap.size = g) (hgb : base ≤ g) (hbase : w.heap.size ≤ base) (hb : Below w.heap.size w W) :
    EffRes E x w (.returned (.agg #[.bool x.1, .slice A n c, .slice (some ⟨g, 0, none⟩) 0 0])) (W.alloc (.cells #[] E)) := by
  subst hg
  refine fin_row (S := W.heap.size) hn (by rw [hx]; rfl) (hA.alloc _) ?_ (own_lt hA) hgb hbase (hb.alloc hb.size _)
  rw [hx]
  exact own_empty W W.heap.size E 2 (Nat.le_refl _)

theorem three_start (w : World) (A E E' : Array Value) (ta te : Nat) :
    RowIs (((w.alloc (.cells A ta)).alloc (.cells E te)).alloc (.cells E' te)) w.heap.size ta A.toList ∧
    RowIs (((w.alloc (.cells A ta)).alloc (.cells E te)).alloc (.cells E' te)) (w.heap.size + 1) te E.toList ∧
    RowIs (((w.alloc (.cells A ta)).alloc (.cells E te)).alloc (.cells E' te)) (w.heap.size + 1 + 1) te E'.toList ∧
    (((w.alloc (.cells A ta)).alloc (.cells E te)).alloc (.cells E' te)).heap.size = w.heap.size + 1 + 1 + 1 ∧
    Below w.heap.size w (((w.alloc (.cells A ta)).alloc (.cells E te)).alloc (.cells E' te)) := by
  obtain ⟨h0, h1, h2, h3⟩ := two_start w A E ta te
  refine ⟨h0.alloc_other _, h1.alloc_other _, ?_, by simp, h3.alloc h3.size _⟩
  have h := RowIs.alloc (w := (w.alloc (.cells A ta)).alloc (.cells E te)) E' te
  rwa [h2] at h

end Go.Proofs.Ytpomiglcplbdbaa
