/- What the laws of runs draw: DrawRunAction. -/
import Derived.Test.YtpomiglcplbdbaaQDraw
import Derived.Test.YtpomiglcplbdbaaQDraw2
import Derived.Test.YtpomiglcplbdbaaQEff3
namespace Go.Proofs.Ytpomiglcplbdbaa
open Go.RowKit
attribute [local go_sem ↓] Go.wp_at_zero Go.wp_at_succ

/-- A drawn store and an action. -/
def DrawSA (w : World) (e : Ending) (w' : World) : Prop :=
  ∃ A c, ∃ es : List Ent, ∃ a : ActT, e = .returned (.tuple #[.slice A es.length c, .agg #[.int .i64 a.1, .int .i64 a.2.1, .int .i64 a.2.2.1, .int .i64 a.2.2.2]]) ∧ es.length ≤ 100 ∧ w'.ownsRow w.heap.size 49 2 (.slice A es.length c) es.length (entCells es) ∧ Below w.heap.size w w'

set_option maxRecDepth 100000 in
set_option maxHeartbeats 4000000 in
theorem DrawRunAction_any (A : Option Addr) (c : Nat) (bs : List Int) (w : World) (hb : BytesAt w A bs) (hn : bs.length ≤ c) (hc : c ≤ maxLen) :
    Calls Try.prog 39 #[.slice A bs.length c] w (DrawSA w) := by
  have hrow0 := RowIs.alloc (w := w) #[.int .i64 0, .int .i64 0, .int .i64 0, .int .i64 0] 44
  have hb0 : Below w.heap.size w (w.alloc (.cells #[.int .i64 0, .int .i64 0, .int .i64 0, .int .i64 0] 44)) := (Below.refl _ _).alloc (Nat.le_refl _) _
  have hby : BytesAt (w.alloc (.cells #[.int .i64 0, .int .i64 0, .int .i64 0, .int .i64 0] 44)) A bs := ⟨hb.1.below hb0, hb.2⟩
  clear hb
  go_enter Try.func39, Try.ntmps39
  go_wp2_with fail
  refine (l20Open_any _ _ _ _ hby hn hc).mono ?_
  rintro e w1 ⟨R, rfl, hr, hR, hb1⟩
  have hR' : w.heap.size < R := Nat.lt_of_lt_of_le (by simp) hR
  have hrow1 := hrow0.below hb1 hrow0.lt
  have hB1 := hb0.trans (hb1.mono hb0.size)
  clear hby hb0 hb1 hrow0 hR
  go_wp2_with fail
  have hltR := hr.lt
  refine (l20Store_any 12 R 0 _ hr (by omega) (by omega) (by omega)).mono ?_
  rintro e w2 ⟨A2, c2, es, rfl, hl, _, ho, hr2, hg⟩
  have hB2 := Lib.hid (Gr.below hB1 hg (by omega) hB1.size)
  have hrow2 := hrow1.gr hg (by omega)
  have hsz1 := hB1.size
  have hlt1 : w.heap.size < w1.heap.size := by have := hltR; omega
  clear hr hg hrow1 hB1
  go_wp2_with fail
  refine (l20Action_any 12 R _ _ hr2 (by omega) (by omega) (by omega)).mono ?_
  rintro e w3 ⟨a, rfl, hr3, hg3⟩
  have hrow3 := hrow2.gr hg3 (by omega)
  have HO := Lib.hid (own_gr (own_gr ho (Gr.refl _ _) hltR) hg3 hltR)
  have HG := Lib.hid (Gr.below hB2.out hg3 (by omega) hB2.out.size)
  have p0 : w3.cell? ⟨w.heap.size, 0, none⟩ = some (.int .i64 0) := hrow3.cell 0
  have p1 : w3.cell? ⟨w.heap.size, 1, none⟩ = some (.int .i64 0) := hrow3.cell 1
  have p2 : w3.cell? ⟨w.heap.size, 2, none⟩ = some (.int .i64 0) := hrow3.cell 2
  have p3 : w3.cell? ⟨w.heap.size, 3, none⟩ = some (.int .i64 0) := hrow3.cell 3
  have f0 := hrow3.frozen 0
  have f1 := hrow3.frozen 1
  have f2 := hrow3.frozen 2
  have f3 := hrow3.frozen 3
  clear hrow2 hrow3 ho hr2 hr3 hg3
  go_wp2
  refine bodyPost_ret (v := .tuple #[.slice A2 es.length c2, .agg #[.int .i64 a.1, .int .i64 a.2.1, .int .i64 a.2.2.1, .int .i64 a.2.2.2]]) (by simp [results, Try.results39, go_sem, p0, p1, p2, p3]) rfl ?_
  exact ⟨A2, c2, es, a, rfl, hl, ownsRow_weaken (own_sc (own_sc (own_sc (own_sc HO.out hlt1 _) hlt1 _) hlt1 _) hlt1 _) hsz1, (((HG.out.setCell (Nat.le_refl _) _).setCell (Nat.le_refl _) _).setCell (Nat.le_refl _) _).setCell (Nat.le_refl _) _⟩

end Go.Proofs.Ytpomiglcplbdbaa
