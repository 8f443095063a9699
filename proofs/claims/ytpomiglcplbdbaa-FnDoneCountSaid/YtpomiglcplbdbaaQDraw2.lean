/- What the laws draw: a store and a key, actions, proofs. -/
import Derived.Test.YtpomiglcplbdbaaQDraw
import Derived.Test.YtpomiglcplbdbaaQActs
import Derived.Test.YtpomiglcplbdbaaQBase
import Derived.Deep.DeepCutAuto
import Derived.Deep.CutBlock
import Derived.Deep.DrawnRows
namespace Go.Proofs.Ytpomiglcplbdbaa
open Go.RowKit

/-- A drawn action. -/
def ActRes (R m : Nat) (w : World) (e : Ending) (w' : World) : Prop :=
  ∃ a : ActT, e = .returned (.agg #[.int .i64 a.1, .int .i64 a.2.1, .int .i64 a.2.2.1, .int .i64 a.2.2.2]) ∧ RdAt w' R m ∧ Gr R w w'

theorem Gr.setCell {R : Nat} {a b : World} (h : Gr R a b) {p : Addr} (hp : a.heap.size ≤ p.block) (u : Value) : Gr R a (b.setCell p u) :=
  h.upTo ((Below.refl a.heap.size b).setCell hp u) (Nat.le_refl _)
theorem RdAt.setCell {w : World} {R m : Nat} (h : RdAt w R m) {p : Addr} (hp : R < p.block) (u : Value) : RdAt (w.setCell p u) R m :=
  h.belowB ((Below.refl (R + 1) w).setCell (p := p) hp u) (by omega)
theorem RdAt.alloc {w : World} {R m : Nat} (h : RdAt w R m) (o : Obj) : RdAt (w.alloc o) R m := h.below ((Below.refl _ _).alloc (Nat.le_refl _) _)

/-- Where the action that is being drawn lies. -/
def ActAt (w0 : World) (R m g : Nat) (a : ActT) (w : World) : Prop :=
  RowIs w g 44 [.int .i64 a.1, .int .i64 a.2.1, .int .i64 a.2.2.1, .int .i64 a.2.2.2] ∧ (∃ r, RowIs w w0.heap.size 44 [.int .i64 r, .int .i64 r, .int .i64 r, .int .i64 r]) ∧ w0.heap.size < g ∧ RdAt w R m ∧ Gr R w0 w

theorem ActAt.set {w0 w : World} {R m g : Nat} {a : ActT} (h : ActAt w0 R m g a w) (hR : R < w0.heap.size) (j : Nat) (x : Int) (b : ActT)
    (hb : [Value.int .i64 a.1, .int .i64 a.2.1, .int .i64 a.2.2.1, .int .i64 a.2.2.2].set j (.int .i64 x) = [.int .i64 b.1, .int .i64 b.2.1, .int .i64 b.2.2.1, .int .i64 b.2.2.2]) : ActAt w0 R m g b (w.setCell ⟨g, j, none⟩ (.int .i64 x)) := by
  obtain ⟨h1, ⟨r, h2⟩, h3, h4, h5⟩ := h
  refine ⟨?_, ⟨r, h2.setCell_other (by simp; omega) _⟩, h3, h4.setCell (by simp; omega) _, h5.setCell (by simp; omega) _⟩
  rw [← hb]
  exact h1.set j _

theorem ActAt.gr {w0 w w' : World} {R m m' g : Nat} {a : ActT} (h : ActAt w0 R m g a w) (hR : R < w0.heap.size) (hg : Gr R w w') (hr : RdAt w' R m') : ActAt w0 R m' g a w' := by
  obtain ⟨h1, ⟨r, h2⟩, h3, h4, h5⟩ := h
  exact ⟨h1.gr hg (by omega), ⟨r, h2.gr hg (by omega)⟩, h3, hr, h5.trans hg⟩

theorem ActAt.alloc {w0 w : World} {R m g : Nat} {a : ActT} (h : ActAt w0 R m g a w) (o : Obj) : ActAt w0 R m g a (w.alloc o) := by
  obtain ⟨h1, ⟨r, h2⟩, h3, h4, h5⟩ := h
  exact ⟨h1.alloc_other _, ⟨r, h2.alloc_other _⟩, h3, h4.alloc _, h5.alloc _⟩

theorem ActAt.facts {w0 w : World} {R m g : Nat} {a : ActT} (h : ActAt w0 R m g a w) :
    w.cell? ⟨g, 0, none⟩ = some (.int .i64 a.1) ∧ w.cell? ⟨g, 1, none⟩ = some (.int .i64 a.2.1) ∧ w.cell? ⟨g, 2, none⟩ = some (.int .i64 a.2.2.1) ∧ w.cell? ⟨g, 3, none⟩ = some (.int .i64 a.2.2.2) ∧
    (∃ r, w.cell? ⟨w0.heap.size, 0, none⟩ = some (.int .i64 r)) ∧ (∃ r, w.cell? ⟨w0.heap.size, 1, none⟩ = some (.int .i64 r)) ∧ (∃ r, w.cell? ⟨w0.heap.size, 2, none⟩ = some (.int .i64 r)) ∧ (∃ r, w.cell? ⟨w0.heap.size, 3, none⟩ = some (.int .i64 r)) ∧
    w.frozen? ⟨w0.heap.size, 0, none⟩ = false ∧ w.frozen? ⟨w0.heap.size, 1, none⟩ = false ∧ w.frozen? ⟨w0.heap.size, 2, none⟩ = false ∧ w.frozen? ⟨w0.heap.size, 3, none⟩ = false ∧
    w.frozen? ⟨g, 0, none⟩ = false ∧ w.frozen? ⟨g, 1, none⟩ = false ∧ w.frozen? ⟨g, 2, none⟩ = false ∧ w.frozen? ⟨g, 3, none⟩ = false := by
  obtain ⟨h1, ⟨r, h2⟩, _⟩ := h
  exact ⟨h1.cell 0, h1.cell 1, h1.cell 2, h1.cell 3, ⟨r, h2.cell 0⟩, ⟨r, h2.cell 1⟩, ⟨r, h2.cell 2⟩, ⟨r, h2.cell 3⟩, h2.frozen 0, h2.frozen 1, h2.frozen 2, h2.frozen 3, h1.frozen 0, h1.frozen 1, h1.frozen 2, h1.frozen 3⟩

/-- The end: the action is laid into the result's cells. -/
def laid4 (w : World) (g : Nat) (a : ActT) : World := (((w.setCell ⟨g, 0, none⟩ (.int .i64 a.1)).setCell ⟨g, 1, none⟩ (.int .i64 a.2.1)).setCell ⟨g, 2, none⟩ (.int .i64 a.2.2.1)).setCell ⟨g, 3, none⟩ (.int .i64 a.2.2.2)
theorem ActAt.done {w0 w : World} {R m g : Nat} {a : ActT} (h : ActAt w0 R m g a w) (hR : R < w0.heap.size) :
    RdAt ((((w.setCell ⟨w0.heap.size, 0, none⟩ (.int .i64 a.1)).setCell ⟨w0.heap.size, 1, none⟩ (.int .i64 a.2.1)).setCell ⟨w0.heap.size, 2, none⟩ (.int .i64 a.2.2.1)).setCell ⟨w0.heap.size, 3, none⟩ (.int .i64 a.2.2.2)) R m ∧
    Gr R w0 ((((w.setCell ⟨w0.heap.size, 0, none⟩ (.int .i64 a.1)).setCell ⟨w0.heap.size, 1, none⟩ (.int .i64 a.2.1)).setCell ⟨w0.heap.size, 2, none⟩ (.int .i64 a.2.2.1)).setCell ⟨w0.heap.size, 3, none⟩ (.int .i64 a.2.2.2)) := by
  obtain ⟨_, _, _, h4, h5⟩ := h
  exact ⟨(((h4.setCell hR _).setCell hR _).setCell hR _).setCell hR _, (((h5.setCell (Nat.le_refl _) _).setCell (Nat.le_refl _) _).setCell (Nat.le_refl _) _).setCell (Nat.le_refl _) _⟩

set_option maxRecDepth 100000 in
set_option maxHeartbeats 8000000 in
theorem l20Action_any (n : Int) (R m : Nat) (w : World) (h : RdAt w R m) (hm : m ≤ 1000000) (hn0 : 0 ≤ n) (hn : n ≤ 1000) :
    Calls Try.prog 75 #[.pointer (some ⟨R, 0, none⟩), .int .i64 n] w (ActRes R (m + 20) w) := by
  have hR := h.lt
  have hr0 : RdAt (w.alloc (.cells #[.int .i64 0, .int .i64 0, .int .i64 0, .int .i64 0] 44)) R m := h.alloc _
  have hrow0 := RowIs.alloc (w := w) #[.int .i64 0, .int .i64 0, .int .i64 0, .int .i64 0] 44
  have hg0 : Gr R w (w.alloc (.cells #[.int .i64 0, .int .i64 0, .int .i64 0, .int .i64 0] 44)) := (Gr.refl _ _).alloc _
  clear h
  go_enter Try.func75, Try.ntmps75
  go_wp2_with fail
  refine (pick_any 6 R m _ hr0 (by omega) (by omega)).mono ?_
  rintro e w1 ⟨k, rfl, hk0, hk1, _, hr1, hg1⟩
  have hk1 := hk1 (by omega)
  go_wp2_with fail
  refine (l20Key_any R _ _ hr1 (by omega)).mono ?_
  rintro e w2 ⟨f, rfl, hf0, hf1, hr2, hg2⟩
  go_wp2_with fail
  refine (l20Key_any R _ _ hr2 (by omega)).mono ?_
  rintro e w3 ⟨t, rfl, ht0, ht1, hr3, hg3⟩
  go_wp2_with fail
  refine (l20Value_any R _ _ hr3 (by omega)).mono ?_
  rintro e w4 ⟨v, rfl, hv0, hv1, hr4, hg4⟩
  have hg := ((hg0.trans hg1).trans hg2).trans (hg3.trans hg4)
  have hrow4 := (((hrow0.gr hg1 (by omega)).gr hg2 (by omega)).gr hg3 (by omega)).gr hg4 (by omega)
  have hsz := hrow4.lt
  have hA : ∀ a : ActT, ActAt w R (m + 12) w4.heap.size a (w4.alloc (.cells #[.int .i64 a.1, .int .i64 a.2.1, .int .i64 a.2.2.1, .int .i64 a.2.2.2] 44)) :=
    fun a => ⟨RowIs.alloc _ _, ⟨0, hrow4.alloc_other _⟩, hsz, (hr4.alloc _).up (by omega), hg.alloc _⟩
  have HAA := Lib.hid hA
  clear hrow0 hg0 hr0 hg1 hg2 hg3 hg4 hr1 hr2 hr3 hr4 hg hA hrow4
  go_upto_block 0 with (fail)
  go_cut [5] (fun s5 wx => ∃ g a, s5 = .pointer (some ⟨g, 0, none⟩) ∧ ActAt w R (m + 12) g a wx)
  case first =>
    rcases (show k = 0 ∨ k = 1 ∨ k = 2 ∨ k = 3 ∨ k = 4 ∨ k = 5 by omega) with rfl | rfl | rfl | rfl | rfl | rfl
    all_goals
      go_wp2
      go_meet
      first
        | exact ⟨w4.heap.size, (_, f, 0, v), rfl, HAA.out _⟩
        | exact ⟨w4.heap.size, (_, f, t, 0), rfl, HAA.out _⟩
        | exact ⟨w4.heap.size, (_, f, t, v), rfl, HAA.out _⟩
  case rest =>
    obtain ⟨g, a, rfl, hA⟩ := hcut
    clear HAA hsz
    have hrA := hA.2.2.2.1
    have HA := Lib.hid hA
    clear hA
    go_wp2_with fail
    refine (odd_any n R _ _ hrA (by omega) (by omega) hn0).mono ?_
    rintro e w6 ⟨b, rfl, _, hr6, hg6⟩
    have HA6 : ActAt w R (m + 13) g a w6 := HA.out.gr hR hg6 hr6
    have hrA6 := HA6.2.2.2.1
    clear HA hr6 hg6 hrA
    cases b
    case false =>
      obtain ⟨q0, q1, q2, q3, ⟨r0, p0⟩, ⟨r1, p1⟩, ⟨r2, p2⟩, ⟨r3, p3⟩, f0, f1, f2, f3, e0, e1, e2, e3⟩ := HA6.facts
      have HEND := Lib.hid (HA6.done hR)
      clear HA6
      go_wp2
      refine bodyPost_ret (v := .agg #[.int .i64 a.1, .int .i64 a.2.1, .int .i64 a.2.2.1, .int .i64 a.2.2.2]) (by simp [results, Try.results75, go_sem, p0, p1, p2, p3]) rfl ?_
      exact ⟨a, rfl, HEND.out.1.up (by omega), HEND.out.2⟩
    case true =>
      go_wp2_with fail
      refine (pick_any 4 R _ _ hrA6 (by omega) (by omega)).mono ?_
      rintro e w7 ⟨z, rfl, hz0, hz1, _, hr7, hg7⟩
      have hz1 := hz1 (by omega)
      have HA7 := HA6.gr hR hg7 hr7
      clear HA6 hr7 hg7 hrA6
      rcases (show z = 0 ∨ z = 1 ∨ z = 2 ∨ z = 3 by omega) with rfl | rfl | rfl | rfl
      · skip
        have hrA8 := HA7.2.2.2.1.alloc (.cells #[.int .i64 0, .int .i64 7] 3)
        have HA8 : ActAt w R (m + 14) g a (w7.alloc (.cells #[.int .i64 0, .int .i64 7] 3)) := HA7.alloc _
        have hrow := RowIs.alloc (w := w7) #[.int .i64 0, .int .i64 7] 3
        have hlt7 := HA7.2.2.2.1.lt
        have hz7 := HA7.2.2.2.2.size
        have hg7 := HA7.1.lt
        clear HA7
        go_wp2_with fail
        refine (pick_any 2 R _ _ hrA8 (by omega) (by omega)).mono ?_
        rintro e w9 ⟨y, rfl, hy0, hy1, _, hr9, hg9⟩
        have hy1 := hy1 (by omega)
        have hrow9 := hrow.gr hg9 (by omega)
        have HA9 := HA8.gr hR hg9 hr9
        have qy : w9.cell? ⟨w7.heap.size, y.toNat, none⟩ = some (.int .i64 (nth [0, 7] y)) := cells_nth (l := [0, 7]) hrow9 hy0 (by simpa using hy1)
        generalize nth [0, 7] y = q at *
        clear hrow hrow9 hr9 hg9 HA8 hrA8
        have hg9 := HA9.1.lt
        obtain ⟨q0, q1, q2, q3, ⟨r0, p0⟩, ⟨r1, p1⟩, ⟨r2, p2⟩, ⟨r3, p3⟩, f0, f1, f2, f3, e0, e1, e2, e3⟩ := HA9.facts
        have HEND := Lib.hid ((HA9.set hR 0 q (q, a.2.1, a.2.2.1, a.2.2.2) rfl).done hR)
        have hgne := HA9.2.2.1
        clear HA9
        go_wp2
        refine bodyPost_ret (v := .agg #[.int .i64 q, .int .i64 a.2.1, .int .i64 a.2.2.1, .int .i64 a.2.2.2]) (by simp [results, Try.results75, go_sem, p0, p1, p2, p3]) rfl ?_
        exact ⟨(q, a.2.1, a.2.2.1, a.2.2.2), rfl, HEND.out.1.up (by omega), HEND.out.2⟩
      · skip
        have hrA8 := HA7.2.2.2.1.alloc (.cells #[.int .i64 (-1), .int .i64 32] 3)
        have HA8 : ActAt w R (m + 14) g a (w7.alloc (.cells #[.int .i64 (-1), .int .i64 32] 3)) := HA7.alloc _
        have hrow := RowIs.alloc (w := w7) #[.int .i64 (-1), .int .i64 32] 3
        have hlt7 := HA7.2.2.2.1.lt
        have hz7 := HA7.2.2.2.2.size
        have hg7 := HA7.1.lt
        clear HA7
        go_wp2_with fail
        refine (pick_any 2 R _ _ hrA8 (by omega) (by omega)).mono ?_
        rintro e w9 ⟨y, rfl, hy0, hy1, _, hr9, hg9⟩
        have hy1 := hy1 (by omega)
        have hrow9 := hrow.gr hg9 (by omega)
        have HA9 := HA8.gr hR hg9 hr9
        have qy : w9.cell? ⟨w7.heap.size, y.toNat, none⟩ = some (.int .i64 (nth [-1, 32] y)) := cells_nth (l := [-1, 32]) hrow9 hy0 (by simpa using hy1)
        generalize nth [-1, 32] y = q at *
        clear hrow hrow9 hr9 hg9 HA8 hrA8
        have hg9 := HA9.1.lt
        obtain ⟨q0, q1, q2, q3, ⟨r0, p0⟩, ⟨r1, p1⟩, ⟨r2, p2⟩, ⟨r3, p3⟩, f0, f1, f2, f3, e0, e1, e2, e3⟩ := HA9.facts
        have HEND := Lib.hid ((HA9.set hR 1 q (a.1, q, a.2.2.1, a.2.2.2) rfl).done hR)
        have hgne := HA9.2.2.1
        clear HA9
        go_wp2
        refine bodyPost_ret (v := .agg #[.int .i64 a.1, .int .i64 q, .int .i64 a.2.2.1, .int .i64 a.2.2.2]) (by simp [results, Try.results75, go_sem, p0, p1, p2, p3]) rfl ?_
        exact ⟨(a.1, q, a.2.2.1, a.2.2.2), rfl, HEND.out.1.up (by omega), HEND.out.2⟩
      · skip
        have hrA8 := HA7.2.2.2.1.alloc (.cells #[.int .i64 (-1), .int .i64 1000001] 3)
        have HA8 : ActAt w R (m + 14) g a (w7.alloc (.cells #[.int .i64 (-1), .int .i64 1000001] 3)) := HA7.alloc _
        have hrow := RowIs.alloc (w := w7) #[.int .i64 (-1), .int .i64 1000001] 3
        have hlt7 := HA7.2.2.2.1.lt
        have hz7 := HA7.2.2.2.2.size
        have hg7 := HA7.1.lt
        clear HA7
        go_wp2_with fail
        refine (pick_any 2 R _ _ hrA8 (by omega) (by omega)).mono ?_
        rintro e w9 ⟨y, rfl, hy0, hy1, _, hr9, hg9⟩
        have hy1 := hy1 (by omega)
        have hrow9 := hrow.gr hg9 (by omega)
        have HA9 := HA8.gr hR hg9 hr9
        have qy : w9.cell? ⟨w7.heap.size, y.toNat, none⟩ = some (.int .i64 (nth [-1, 1000001] y)) := cells_nth (l := [-1, 1000001]) hrow9 hy0 (by simpa using hy1)
        generalize nth [-1, 1000001] y = q at *
        clear hrow hrow9 hr9 hg9 HA8 hrA8
        have hg9 := HA9.1.lt
        obtain ⟨q0, q1, q2, q3, ⟨r0, p0⟩, ⟨r1, p1⟩, ⟨r2, p2⟩, ⟨r3, p3⟩, f0, f1, f2, f3, e0, e1, e2, e3⟩ := HA9.facts
        have HEND := Lib.hid ((HA9.set hR 3 q (a.1, a.2.1, a.2.2.1, q) rfl).done hR)
        have hgne := HA9.2.2.1
        clear HA9
        go_wp2
        refine bodyPost_ret (v := .agg #[.int .i64 a.1, .int .i64 a.2.1, .int .i64 a.2.2.1, .int .i64 q]) (by simp [results, Try.results75, go_sem, p0, p1, p2, p3]) rfl ?_
        exact ⟨(a.1, a.2.1, a.2.2.1, q), rfl, HEND.out.1.up (by omega), HEND.out.2⟩
      · skip
        obtain ⟨q0, q1, q2, q3, ⟨r0, p0⟩, ⟨r1, p1⟩, ⟨r2, p2⟩, ⟨r3, p3⟩, f0, f1, f2, f3, e0, e1, e2, e3⟩ := HA7.facts
        have HEND := Lib.hid (((((HA7.set hR 0 1 (1, a.2.1, a.2.2.1, a.2.2.2) rfl).set hR 1 0 (1, 0, a.2.2.1, a.2.2.2) rfl).set hR 2 1 (1, 0, 1, a.2.2.2) rfl).set hR 3 0 (1, 0, 1, 0) rfl).done hR)
        have hgne := HA7.2.2.1
        clear HA7
        go_wp2
        refine bodyPost_ret (v := .agg #[.int .i64 1, .int .i64 0, .int .i64 1, .int .i64 0]) (by simp [results, Try.results75, go_sem, p0, p1, p2, p3]) rfl ?_
        exact ⟨(1, 0, 1, 0), rfl, HEND.out.1.up (by omega), HEND.out.2⟩

end Go.Proofs.Ytpomiglcplbdbaa
