/- What the laws draw in statements that leave an order open. -/
import Derived.Test.YtpomiglcplbdbaaQDraw
import Derived.Test.YtpomiglcplbdbaaQBase
import Derived.Deep.RegionLaw
import Derived.Deep.DrawnRows
namespace Go.Proofs.Ytpomiglcplbdbaa
open Go.RowKit
attribute [local go_sem ↓] Go.wp_at_zero Go.wp_at_succ

theorem RdAt.alloc_ {w : World} {R m : Nat} (h : RdAt w R m) (o : Obj) : RdAt (w.alloc o) R m := h.below ((Below.refl _ _).alloc (Nat.le_refl _) _)
theorem RdAt.drew {w : World} {R m : Nat} (h : RdAt w R m) : RdAt w.drew R m := h.below (Below.refl _ _).drew

theorem arr_nth (l : List Int) {z : Int} (h0 : 0 ≤ z) (h1 : z < l.length) : (l.map (Value.int .i64)).toArray[z.toNat]? = some (.int .i64 (nth l z)) := by
  rw [List.getElem?_toArray, List.getElem?_map, List.getElem?_eq_getElem (by omega)]
  unfold nth
  rw [List.getD_eq_getElem?_getD, List.getElem?_eq_getElem (by omega)]
  rfl

theorem list_nth (l : List Int) {z : Int} (h0 : 0 ≤ z) (h1 : z < l.length) (h : z.toNat < (l.map (Value.int .i64)).length) : (l.map (Value.int .i64))[z.toNat]'h = .int .i64 (nth l z) := by
  rw [List.getElem_map]
  unfold nth
  rw [List.getD_eq_getElem?_getD, List.getElem?_eq_getElem (by omega)]
  rfl

/-- A drawn store and a key. -/
def DrawKey (w : World) (e : Ending) (w' : World) : Prop :=
  ∃ A c, ∃ es : List Ent, ∃ key : Int, e = .returned (.tuple #[.slice A es.length c, .int .i64 key]) ∧ es.length ≤ 100 ∧ -1 ≤ key ∧ key ≤ 32 ∧ w'.ownsRow w.heap.size 49 2 (.slice A es.length c) es.length (entCells es) ∧ Below w.heap.size w w'

set_option maxRecDepth 100000 in
set_option maxHeartbeats 8000000 in
theorem DrawValueAt_any (A : Option Addr) (c : Nat) (bs : List Int) (w : World) (hb : BytesAt w A bs) (hn : bs.length ≤ c) (hc : c ≤ maxLen) :
    Calls Try.prog 74 #[.slice A bs.length c] w (DrawKey w) := by
  go_enter Try.func74, Try.ntmps74
  go_wp2_with fail
  refine (l20Open_any _ _ _ _ hb hn hc).mono ?_
  rintro e w1 ⟨R, rfl, hr, hR, hb1⟩
  go_wp2_with fail
  have hltR := hr.lt
  refine (l20Store_any 9 R 0 _ hr (by omega) (by omega) (by omega)).mono ?_
  rintro e w2 ⟨A2, c2, es, rfl, hl, _, ho, hr2, hg⟩
  have hB2 := Lib.hid (Gr.below hb1 hg hR hb1.size)
  have hsz1 := hb1.size
  have HO := Lib.hid ho
  have hlt2 := hr2.lt
  clear hr hb hb1 hg ho
  go_wp2
  go_region_law (first
    | (go_simp
       go_at_call 91
       refine (l20Key_any R _ _ (by first | exact hr2 | exact hr2.drew | exact (hr2.drew.alloc_ _) | exact (hr2.drew.alloc_ _).drew) (by omega)).mono ?_
       rintro e w3 ⟨key, rfl, hk0, hk1, hr3, hg3⟩
       have hc3 := gr_cell hg3
       try (have hz3 : w2.heap.size < w3.heap.size := (by (have h := hg3.size); (try simp at h); omega))
       have hs3 := hr3.lt
       have hs4 : R < w3.heap.size + 1 := by omega)
    | (go_simp
       go_at_call 73
       refine (pick_any 6 R _ _ (by first | exact hr3 | exact hr3.drew | exact (hr3.alloc_ _) | exact (hr3.alloc_ _).alloc_ _ | exact (hr3.drew.alloc_ _)) (by omega) (by omega)).mono ?_
       rintro e w4 ⟨z, rfl, hz0, hz1, _, hr4, hg4⟩
       have hz1 := hz1 (by omega)
       have hc4 := gr_cell hg4
       try (have hz4 : w3.heap.size < w4.heap.size := (by (have h := hg4.size); (try simp at h); omega))
       try (have hz5 : w3.heap.size + 1 < w4.heap.size := (by (have h := hg4.size); (try simp at h); omega))
       try (have hz6 : w2.heap.size < w4.heap.size := (by (have h := hg4.size); (try simp at h); omega))
       have hs5 := hr4.lt
       have ht : ∀ h : z.toNat < [Value.int .i64 0, .int .i64 0, .int .i64 0, .int .i64 0, .int .i64 1, .int .i64 2].length, [Value.int .i64 0, .int .i64 0, .int .i64 0, .int .i64 0, .int .i64 1, .int .i64 2][z.toNat]'h = .int .i64 (nth [0, 0, 0, 0, 1, 2] z) := fun h => list_nth [0, 0, 0, 0, 1, 2] hz0 hz1 h
       have hq := nth_bd (l := [0, 0, 0, 0, 1, 2]) (lo := 0) (hi := 2) (by decide) hz0 hz1
       have hq0 := hq.1
       have hq1 : nth [0, 0, 0, 0, 1, 2] z < 3 := by omega
       have hu : ∀ h : (nth [0, 0, 0, 0, 1, 2] z).toNat < [Value.int .i64 key, .int .i64 (-1), .int .i64 32].length, [Value.int .i64 key, .int .i64 (-1), .int .i64 32][(nth [0, 0, 0, 0, 1, 2] z).toNat]'h = .int .i64 (nth [key, -1, 32] (nth [0, 0, 0, 0, 1, 2] z)) := fun h => list_nth [key, -1, 32] hq0 hq1 h))
  all_goals
    have hqb := nth_bd (l := [key, -1, 32]) (lo := -1) (hi := 32) (by simp; omega) hq0 hq1
    clear hc3 hc4 ht hu
    generalize nth [key, -1, 32] (nth [0, 0, 0, 0, 1, 2] z) = q at *
    go_wp2
    go_ret2
    refine ⟨A2, c2, es, q, rfl, hl, hqb.1, hqb.2, ownsRow_weaken (own_gr HO.out ?_ hltR) hsz1, Gr.below hB2.out ?_ hR hB2.out.size⟩
    all_goals repeat (first | exact Gr.refl _ _ | exact hg3 | exact hg4 | refine Gr.alloc ?_ _ | refine Gr.drew ?_ | refine Gr.trans ?_ hg4 | refine Gr.trans ?_ hg3)

end Go.Proofs.Ytpomiglcplbdbaa
