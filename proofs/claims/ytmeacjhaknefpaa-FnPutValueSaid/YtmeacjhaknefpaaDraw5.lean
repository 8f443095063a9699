/- What the laws draw: a store, a key and a value. -/
import Derived.Test.YtmeacjhaknefpaaDraw4
import Derived.OwnWalk
namespace Go.Proofs.Ytmeacjhaknefpaa
open Go.RowKit
attribute [local go_sem ↓] Go.wp_at_zero Go.wp_at_succ

theorem BytesAt.upto {w w' : World} {A : Option Addr} {bs : List Int} (h : BytesAt w A bs) (hb : Below w.heap.size w w') : BytesAt w' A bs := ⟨h.1.below hb, h.2⟩

/-- A drawn store, a key and a value. -/
def DrawKV (w : World) (e : Ending) (w' : World) : Prop :=
  ∃ A c, ∃ es : List Ent, ∃ key value : Int, e = .returned (.tuple #[.slice A es.length c, .int .i64 key, .int .i64 value]) ∧ es.length ≤ 100 ∧ -1 ≤ key ∧ key ≤ 32 ∧ -1 ≤ value ∧ value ≤ 1000001 ∧ w'.ownsRow w.heap.size 41 2 (.slice A es.length c) es.length (entCells es) ∧ Below w.heap.size w w'

set_option maxRecDepth 100000 in
set_option maxHeartbeats 8000000 in
theorem DrawPutValue_any (A : Option Addr) (c : Nat) (bs : List Int) (w : World) (hb : BytesAt w A bs) (hn : bs.length ≤ c) (hc : c ≤ maxLen) :
    Calls Try.prog 37 #[.slice A bs.length c] w (DrawKV w) := by
  go_enter Try.func37, Try.ntmps37
  go_wp2_with fail
  refine (l20Open_any _ _ _ _ hb hn hc).mono ?_
  rintro e w1 ⟨R, rfl, hr, hR, hb1⟩
  go_wp2_with fail
  have hltR := hr.lt
  refine (l20Store_any 9 R 0 _ hr (by omega) (by omega) (by omega)).mono ?_
  rintro e w2 ⟨A2, c2, es, rfl, hl, _, ho, hr2, hg⟩
  have hB2 := Gr.below hb1 hg hR hb1.size
  have hsz1 := hb1.size
  clear hr hb hb1 hg
  go_wp2_with fail
  refine (l20Key_any R _ _ hr2 (by omega)).mono ?_
  rintro e w3 ⟨key, rfl, hk0, hk1, hr3, hg3⟩
  have ho3 := own_gr ho hg3 hltR
  have hB3 := Gr.below hB2 hg3 hR hB2.size
  have hlt := hr3.lt
  have hrow0 := RowIs.alloc (w := w3) #[.int .i64 key, .int .i64 (-1), .int .i64 32] 3
  have hrow1 := RowIs.alloc (w := w3.alloc (.cells #[.int .i64 key, .int .i64 (-1), .int .i64 32] 3)) #[.int .i64 0, .int .i64 0, .int .i64 0, .int .i64 0, .int .i64 1, .int .i64 2] 3
  have hrow0 := hrow0.alloc_other (.cells #[.int .i64 0, .int .i64 0, .int .i64 0, .int .i64 0, .int .i64 1, .int .i64 2] 3)
  have hr4 := (hr3.alloc_ (.cells #[.int .i64 key, .int .i64 (-1), .int .i64 32] 3)).alloc_ (.cells #[.int .i64 0, .int .i64 0, .int .i64 0, .int .i64 0, .int .i64 1, .int .i64 2] 3)
  have ho4 := (ho3.alloc (.cells #[.int .i64 key, .int .i64 (-1), .int .i64 32] 3)).alloc (.cells #[.int .i64 0, .int .i64 0, .int .i64 0, .int .i64 0, .int .i64 1, .int .i64 2] 3)
  have hB4 := (hB3.alloc hB3.size (.cells #[.int .i64 key, .int .i64 (-1), .int .i64 32] 3))
  have hB5 := hB4.alloc hB4.size (.cells #[.int .i64 0, .int .i64 0, .int .i64 0, .int .i64 0, .int .i64 1, .int .i64 2] 3)
  clear hB2 hB3 hB4 ho ho3 hr2 hr3 hg3
  go_wp2_with fail
  refine (pick_any 6 R _ _ hr4 (by omega) (by omega)).mono ?_
  rintro e w5 ⟨z, rfl, hz0, hz1, _, hr5, hg5⟩
  have hz1 := hz1 (by omega)
  have hrow0 := hrow0.gr hg5 (by omega)
  have hrow1 := hrow1.gr hg5 (by simp; omega)
  have ho5 := own_gr ho4 hg5 hltR
  have hB6 := Gr.below hB5 hg5 hR hB5.size
  have q1 : w5.cell? ⟨w3.heap.size + 1, z.toNat, none⟩ = some (.int .i64 (nth [0, 0, 0, 0, 1, 2] z)) := by
    have := cells_nth (l := [0, 0, 0, 0, 1, 2]) (w := w5) (g := w3.heap.size + 1) (E := 3) (by simpa using hrow1) hz0 (by simpa using hz1)
    exact this
  have hb1 := nth_bd (l := [0, 0, 0, 0, 1, 2]) (lo := 0) (hi := 2) (by decide) hz0 (by simpa using hz1)
  generalize nth [0, 0, 0, 0, 1, 2] z = q at *
  have q0 : w5.cell? ⟨w3.heap.size, q.toNat, none⟩ = some (.int .i64 (nth [key, -1, 32] q)) :=
    cells_nth (l := [key, -1, 32]) hrow0 (by omega) (by simp; omega)
  have hb0 := nth_bd (l := [key, -1, 32]) (lo := -1) (hi := 32) (by simp; omega) (z := q) (by omega) (by simp; omega)
  generalize nth [key, -1, 32] q = key1 at *
  have HO := Lib.hid ho5
  have hlt5 := hr5.lt
  have hB2 := Lib.hid hB6
  clear hrow0 hrow1 hg5 hr4 ho4 ho5 hB5 hB6
  go_wp2
  go_region_law (first
    | (go_simp
       go_at_call 75
       refine (l20Value_any R _ _ (by first | exact hr5 | exact hr5.drew | exact (hr5.drew.alloc_ _) | exact (hr5.drew.alloc_ _).drew) (by omega)).mono ?_
       rintro e w6 ⟨value, rfl, hv0, hv1, hr6, hg6⟩
       have hc6 := gr_cell hg6
       try (have hz6 : w5.heap.size < w6.heap.size := (by (have h := hg6.size); (try simp at h); omega))
       have hs6 := hr6.lt
       have hs7 : R < w6.heap.size + 1 := by omega)
    | (go_simp
       go_at_call 54
       refine (pick_any 6 R _ _ (by first | exact hr6 | exact hr6.drew | exact (hr6.alloc_ _) | exact (hr6.alloc_ _).alloc_ _ | exact (hr6.drew.alloc_ _)) (by omega) (by omega)).mono ?_
       rintro e w7 ⟨y, rfl, hy0, hy1, _, hr7, hg7⟩
       have hy1 := hy1 (by omega)
       have hc7 := gr_cell hg7
       try (have hy7 : w6.heap.size < w7.heap.size := (by (have h := hg7.size); (try simp at h); omega))
       try (have hy8 : w6.heap.size + 1 < w7.heap.size := (by (have h := hg7.size); (try simp at h); omega))
       try (have hy9 : w5.heap.size < w7.heap.size := (by (have h := hg7.size); (try simp at h); omega))
       have hs8 := hr7.lt
       have ht : ∀ h : y.toNat < [Value.int .i64 0, .int .i64 0, .int .i64 0, .int .i64 0, .int .i64 1, .int .i64 2].length, [Value.int .i64 0, .int .i64 0, .int .i64 0, .int .i64 0, .int .i64 1, .int .i64 2][y.toNat]'h = .int .i64 (nth [0, 0, 0, 0, 1, 2] y) := fun h => list_nth [0, 0, 0, 0, 1, 2] hy0 hy1 h
       have hq := nth_bd (l := [0, 0, 0, 0, 1, 2]) (lo := 0) (hi := 2) (by decide) hy0 hy1
       have hq0 := hq.1
       have hq1 : nth [0, 0, 0, 0, 1, 2] y < 3 := by omega
       have hu : ∀ h : (nth [0, 0, 0, 0, 1, 2] y).toNat < [Value.int .i64 value, .int .i64 (-1), .int .i64 1000001].length, [Value.int .i64 value, .int .i64 (-1), .int .i64 1000001][(nth [0, 0, 0, 0, 1, 2] y).toNat]'h = .int .i64 (nth [value, -1, 1000001] (nth [0, 0, 0, 0, 1, 2] y)) := fun h => list_nth [value, -1, 1000001] hq0 hq1 h))
  all_goals
    have hqb := nth_bd (l := [value, -1, 1000001]) (lo := -1) (hi := 1000001) (by simp; omega) hq0 hq1
    clear hc6 hc7 ht hu
    generalize nth [value, -1, 1000001] (nth [0, 0, 0, 0, 1, 2] y) = v at *
    go_wp2
    go_ret3
    refine ⟨A2, c2, es, key1, v, rfl, hl, hb0.1, hb0.2, hqb.1, hqb.2, ownsRow_weaken (own_gr HO.out ?_ hltR) hsz1, Gr.below hB2.out ?_ hR hB2.out.size⟩
    all_goals repeat (first | exact Gr.refl _ _ | exact hg6 | exact hg7 | refine Gr.alloc ?_ _ | refine Gr.drew ?_ | refine Gr.trans ?_ hg7 | refine Gr.trans ?_ hg6)

/-- A drawn key and a value. -/
def DrawKV2 (w : World) (e : Ending) (w' : World) : Prop :=
  ∃ key value : Int, e = .returned (.tuple #[.int .i64 key, .int .i64 value]) ∧ -1 ≤ key ∧ key ≤ 32 ∧ -1 ≤ value ∧ value ≤ 1000001 ∧ Below w.heap.size w w'

set_option maxRecDepth 100000 in
set_option maxHeartbeats 800000 in
theorem DrawLeafSum_any (A : Option Addr) (c : Nat) (bs : List Int) (w : World) (hb : BytesAt w A bs) (hn : bs.length ≤ c) (hc : c ≤ maxLen) :
    Calls Try.prog 31 #[.slice A bs.length c] w (DrawKV2 w) := by
  go_enter Try.func31, Try.ntmps31
  go_wp2_with fail
  refine (DrawPutValue_any _ _ _ _ hb hn hc).mono ?_
  rintro e w1 ⟨A2, c2, es, key, value, rfl, _, hk0, hk1, hv0, hv1, _, hb1⟩
  go_wp2
  go_ret2
  exact ⟨key, value, rfl, hk0, hk1, hv0, hv1, hb1⟩

end Go.Proofs.Ytmeacjhaknefpaa
