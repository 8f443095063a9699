/- What the laws draw: layers. -/
import Derived.Test.YtehlgfgkobblbaaQDraw
import Derived.Test.YtehlgfgkobblbaaQDraw2
import Derived.Test.YtehlgfgkobblbaaQDraw4
import Derived.Test.YtehlgfgkobblbaaQLays4
import Derived.Test.YtehlgfgkobblbaaQBase
import Derived.Test.YtehlgfgkobblbaaQWords
namespace Go.Proofs.Ytehlgfgkobblbaa
open Go.RowKit

theorem LaysOwn.gr {w w' : World} {base R : Nat} {A : Option Addr} {c : Nat} {zs : List LayA} (h : LaysOwn w base A c zs) (hg : Gr R w w') (hR : R < base) : LaysOwn w' base A c zs := ⟨fun r hr => own_gr (h.1 r hr) hg hR, h.2⟩
theorem lays_small {zs : List LayA} {N : Nat} (h : (laysT zs).length + totL (laysT zs) ≤ N) : zs.length ≤ N ∧ ∀ z ∈ zs, z.1.2.length ≤ N := by
  refine ⟨by rw [laysT_len] at h; omega, fun z hz => ?_⟩
  have := totL_mem (x := z.1) (xs := laysT zs) (List.mem_map_of_mem hz)
  omega
theorem lays_snoc {zs : List LayA} {z : LayA} {N : Nat} (h : (laysT zs).length + totL (laysT zs) ≤ N) (hz : z.1.2.length ≤ 2) : (laysT (zs ++ [z])).length + totL (laysT (zs ++ [z])) ≤ N + 3 := by
  have e : laysT (zs ++ [z]) = laysT zs ++ [z.1] := by simp [laysT]
  rw [e, List.length_append, totL_append]
  have : totL [z.1] = z.1.2.length := by simp [totL]
  simp only [List.length_singleton]
  omega

/-- A drawn list of layers. -/
def LaysDr (R m : Nat) (w : World) (e : Ending) (w' : World) : Prop :=
  ∃ A c, ∃ zs : List LayA, e = .returned (.slice A zs.length c) ∧ (laysT zs).length + totL (laysT zs) ≤ 30 ∧ LaysOwn w' w.heap.size A c zs ∧ RdAt w' R m ∧ Gr R w w'

set_option maxRecDepth 100000 in
set_option maxHeartbeats 8000000 in
theorem l20Layers_any (n : Int) (R m : Nat) (w : World) (h : RdAt w R m) (hm : m ≤ 1000) (hn0 : 0 ≤ n) (hn : n ≤ 1000) :
    Calls Try.prog 30 #[.pointer (some ⟨R, 0, none⟩), .int .i64 n] w (LaysDr R (m + 300) w) := by
  have hR := h.lt
  have hO : LaysOwn (w.alloc (.cells #[] 28)) w.heap.size (some ⟨w.heap.size, 0, none⟩) 0 [] := LaysOwn.mk (n := 0) rfl (own_empty w w.heap.size 28 2 (Nat.le_refl _)) (HeldL.nil _ _)
  have hr0 : RdAt (w.alloc (.cells #[] 28)) R m := h.alloc _
  have hg0 : Gr R w (w.alloc (.cells #[] 28)) := (Gr.refl _ _).alloc _
  clear h
  go_enter Try.func30, Try.ntmps30
  go_wp2_with fail
  refine (pick_any 6 R m _ hr0 (by omega) (by omega)).mono ?_
  rintro e w1 ⟨x, rfl, hx0, hx1, _, hr, hg⟩
  have hx1 := hx1 (by omega)
  have hO1 := hO.gr hg hR
  have hG1 := hg0.trans hg
  obtain ⟨k0, rfl⟩ : ∃ k0 : Nat, x = (k0 : Int) := ⟨x.toNat, by omega⟩
  clear hO hr0 hg0 hg
  go_wp2
  go_loopw [5, 6] (fun out i wr => ∃ k : Nat, ∃ A c, ∃ zs : List LayA, k ≤ 5 ∧ i = .int .i64 k ∧ out = .slice A zs.length c ∧ (laysT zs).length + totL (laysT zs) ≤ 4 * (5 - k) ∧ LaysOwn wr w.heap.size A c zs ∧ RdAt wr R (m + 250 - 40 * k) ∧ Gr R w wr) (fun _ i _ => (intOf i).toNat)
  case atStart => exact ⟨k0, _, _, [], by omega, rfl, rfl, by simp [laysT, totL], hO1, hr.up (by omega), hG1⟩
  case round =>
    clear hO1 hr hG1
    obtain ⟨k, A, c, zs, hk, rfl, rfl, hbd, hown, hr, hG⟩ := hrel
    obtain ⟨hlen, hsm⟩ := lays_small hbd
    have hsz := hG.size
    by_cases hlt : 0 < k
    · obtain ⟨j, rfl⟩ : ∃ j, k = j + 1 := ⟨k - 1, by omega⟩
      go_wp2_with fail
      refine (pick_any ((zs.length : Int) + 1) R _ _ hr (by omega) (by omega)).mono ?_
      rintro e w2 ⟨y, rfl, hy0, hy1, _, hr2, hg2⟩
      have hy1 := hy1 (by omega)
      have hown2 := hown.gr hg2 hR
      have hG2 := hG.trans hg2
      have hsz2 := hG2.size
      clear hown hr hG hg2
      go_wp2_with fail
      refine (specForkLayer_any _ _ zs (y - 1) _ hown2.at_ (by omega) (fun z hz => by have := hsm z hz; omega)).mono ?_
      rintro e w3 ⟨A3, c3, ds, rfl, hds, hown3, hb3⟩
      have hbd3 : (laysT ds).length + totL (laysT ds) ≤ 4 * (5 - (j + 1)) + 1 := by have := forkF_bd (laysT zs) (y - 1); rw [hds]; omega
      have hown3 := hown3.weaken hsz2
      have hr3 := hr2.below hb3
      have hG3 := hG2.trans (Gr.of_below hb3)
      clear hown2 hr2 hG2 hb3 hds hbd hlen hsm hy0 hy1
      go_wp2_with fail
      refine (pick_any 4 R _ _ hr3 (by omega) (by omega)).mono ?_
      rintro e w4 ⟨u, rfl, hu0, hu1, _, hr4, hg4⟩
      have hu1 := hu1 (by omega)
      have hown4 := hown3.gr hg4 hR
      have hG4 := hG3.trans hg4
      obtain ⟨i0, rfl⟩ : ∃ i0 : Nat, u = (i0 : Int) := ⟨u.toNat, by omega⟩
      clear hown3 hr3 hG3 hg4
      go_wp2
      go_loopw [5, 7] (fun out i wr => ∃ p : Nat, ∃ A c, ∃ zs : List LayA, p ≤ 3 ∧ i = .int .i64 p ∧ out = .slice A zs.length c ∧ (laysT zs).length + totL (laysT zs) ≤ 4 * (5 - (j + 1)) + 1 + (3 - p) ∧ LaysOwn wr w.heap.size A c zs ∧ RdAt wr R (m + 250 - 40 * (j + 1) + 4 + 8 * (3 - p)) ∧ Gr R w wr) (fun _ i _ => (intOf i).toNat)
      case atStart => exact ⟨i0, A3, c3, ds, by omega, rfl, rfl, by omega, hown4, hr4.up (by omega), hG4⟩
      case round =>
        clear hown4 hr4 hG4 hbd3 hsz2 hsz
        obtain ⟨p, A4, c4, es, hp, rfl, rfl, hbd, hown, hr, hG⟩ := hrel
        obtain ⟨hlen, hsm⟩ := lays_small hbd
        have hsz := hG.size
        by_cases hlt2 : 0 < p
        · obtain ⟨q, rfl⟩ : ∃ q, p = q + 1 := ⟨p - 1, by omega⟩
          go_wp2_with fail
          refine (pick_any (es.length : Int) R _ _ hr (by omega) (by omega)).mono ?_
          rintro e w5 ⟨y, rfl, hy0, _, _, hr5, hg5⟩
          have hown5 := hown.gr hg5 hR
          have hG5 := hG.trans hg5
          clear hown hr hG hg5
          go_wp2_with fail
          refine (l20Key_any R _ _ hr5 (by omega)).mono ?_
          rintro e w6 ⟨key, rfl, _, _, hr6, hg6⟩
          have hown6 := hown5.gr hg6 hR
          have hG6 := hG5.trans hg6
          clear hown5 hr5 hG5 hg6
          go_wp2_with fail
          refine (l20Value_any R _ _ hr6 (by omega)).mono ?_
          rintro e w7 ⟨val, rfl, _, _, hr7, hg7⟩
          have hown7 := hown6.gr hg7 hR
          have hG7 := hG6.trans hg7
          have hsz7 := hG7.size
          clear hown6 hr6 hG6 hg7
          go_wp2_with fail
          refine (specLayerWrite_any _ _ es y key val _ hown7.at_ (by omega) (fun z hz => by have := hsm z hz; omega)).mono ?_
          rintro e w8 ⟨A8, c8, fs, rfl, hfs, hown8, hb8⟩
          have hbd8 : (laysT fs).length + totL (laysT fs) ≤ 4 * (5 - (j + 1)) + 1 + (3 - q) := by have := layWriteF_bd (laysT es) y key val; rw [hfs]; omega
          have HO8 := Lib.hid (hown8.weaken hsz7)
          have hr8 := hr7.below hb8
          have hG8 := hG7.trans (Gr.of_below hb8)
          clear hown7 hr7 hG7 hb8 hfs hbd hlen hsm hown8
          go_wp2
          go_roundw
          case rel => exact ⟨q, A8, c8, fs, by omega, by go_num, rfl, hbd8, HO8.out, hr8.up (by omega), hG8⟩
          case measure => simp [intOf]
        · obtain rfl : p = 0 := by omega
          have HO := Lib.hid hown
          clear hown
          go_wp2
          go_roundw
          case rel => exact ⟨j, A4, c4, es, by omega, by go_num, rfl, by omega, HO.out, hr.up (by omega), hG⟩
          case measure => simp [intOf]
    · obtain rfl : k = 0 := by omega
      rw [show ((0 : Nat) : Int) = 0 from rfl]
      go_wp2_with fail
      refine (odd_any n R _ _ hr (by omega) (by omega) hn0).mono ?_
      rintro e w2 ⟨b, rfl, _, hr2, hg2⟩
      have hown2 := hown.gr hg2 hR
      have hG2 := hG.trans hg2
      clear hown hr hG hg2 hsz
      cases b
      · have HO := Lib.hid hown2
        clear hown2
        go_wp2
        go_ret
        exact ⟨_, _, zs, rfl, by omega, HO.out, hr2.up (by omega), hG2⟩
      · go_wp2_with fail
        refine (pick_any 3 R _ _ hr2 (by omega) (by omega)).mono ?_
        rintro e w3 ⟨z, rfl, hz0, hz1, _, hr3, hg3⟩
        have hz1 := hz1 (by omega)
        have hown3 := hown2.gr hg3 hR
        have hG3 := hG2.trans hg3
        have hsz3 := hG3.size
        clear hown2 hr2 hG2 hg3
        rcases (show z = 0 ∨ z = 1 ∨ z = 2 by omega) with rfl | rfl | rfl
        · have hrow4 := RowIs.alloc (w := w3) #[.int .i64 (-2), .int .i64 (zs.length : Int)] 3
          have hr4 := hr3.alloc (.cells #[.int .i64 (-2), .int .i64 (zs.length : Int)] 3)
          have hown4 := hown3.alloc (.cells #[.int .i64 (-2), .int .i64 (zs.length : Int)] 3)
          have hG4 := hG3.alloc (.cells #[.int .i64 (-2), .int .i64 (zs.length : Int)] 3)
          have hlt3 := hr3.lt
          clear hown3 hr3 hG3
          go_wp2_with fail
          refine (pick_any 2 R _ _ hr4 (by omega) (by omega)).mono ?_
          rintro e w4 ⟨y0, rfl, hy0, hy1, _, hr5, hg5⟩
          have hy1 := hy1 (by omega)
          have q1 : w4.cell? ⟨w3.heap.size, y0.toNat, none⟩ = some (.int .i64 (nth [-2, (zs.length : Int)] y0)) := cells_nth (l := [-2, (zs.length : Int)]) (by simpa using hrow4.gr hg5 (by omega)) hy0 (by simpa using hy1)
          generalize nth [-2, (zs.length : Int)] y0 = y at *
          have hown5 := hown4.gr hg5 hR
          have hG5 := hG4.trans hg5
          have hsz5 := hG5.size
          have hlt5 := hown5.laysLt
          clear hrow4 hown4 hr4 hG4 hg5
          go_wp2_with (at_builtin; refine wpList_push_lay layRow_ty rfl _ _ rfl w.heap.size _ _ _ rfl hown5.outer _ y none 0 0 rfl (by omega) hsz5 ?_; intro v6 w6 ho6 hb6 hg6 hs6)
          obtain ⟨A6, c6, rfl, hown6⟩ := hown5.push (S := w4.heap.size) (z := (y, [])) (A2 := none) (c2 := 0) (World.ownsRow_nil _ _ _ _) hlt5 hsz5 ho6 hg6
          have hr6 := hr5.belowB hb6 hR
          have hG6 := hG5.upTo hb6 (Nat.le_refl _)
          have HO6 := Lib.hid hown6
          clear hown6 hown5 ho6 hb6 hg6 hr5 hG5
          go_wp2
          go_ret
          exact ⟨A6, c6, _, rfl, by refine Nat.le_trans (lays_snoc hbd (by simp)) (by omega), HO6.out, hr6.up (by omega), hG6⟩
        · have hO2 : (w3.alloc (.cells #[.int .i64 3, .int .i64 1, .int .i64 3, .int .i64 1] 37)).ownsRow w3.heap.size 37 2 (.slice (some ⟨w3.heap.size, 0, none⟩) 2 2) 2 (entCells [(3, 1), (3, 1)]) := own_lit _ _ _ _ _ (Nat.le_refl _) rfl (by decide)
          have hown4 := hown3.alloc (.cells #[.int .i64 3, .int .i64 1, .int .i64 3, .int .i64 1] 37)
          have hlt4 := hown3.laysLt
          have hr4 := hr3.alloc (.cells #[.int .i64 3, .int .i64 1, .int .i64 3, .int .i64 1] 37)
          have hG4 := hG3.alloc (.cells #[.int .i64 3, .int .i64 1, .int .i64 3, .int .i64 1] 37)
          go_wp2_with (at_builtin; refine wpList_push_lay layRow_ty rfl _ _ rfl w.heap.size _ _ _ rfl hown4.outer _ (-1) (some ⟨w3.heap.size, 0, none⟩) 2 2 (by first | rfl | simp [Act.eval]) (by omega) (by simp; omega) ?_; intro v5 w5 ho5 hb5 hg5 hs5)
          obtain ⟨A5, c5, rfl, hown5⟩ := hown4.push (S := w3.heap.size) (z := (-1, [(3, 1), (3, 1)])) (A2 := some ⟨w3.heap.size, 0, none⟩) (c2 := 2) hO2 hlt4 hsz3 ho5 hg5
          have hr5 := hr4.belowB hb5 hR
          have hG5 := hG4.upTo hb5 (Nat.le_refl _)
          have HO5 := Lib.hid hown5
          clear hown5 hown4 hown3 hO2 ho5 hb5 hg5
          go_wp2
          go_ret
          exact ⟨A5, c5, _, rfl, by refine Nat.le_trans (lays_snoc hbd (by simp)) (by omega), HO5.out, hr5.up (by omega), hG5⟩
        · have hO2 : (w3.alloc (.cells #[.int .i64 3, .int .i64 (-1)] 37)).ownsRow w3.heap.size 37 2 (.slice (some ⟨w3.heap.size, 0, none⟩) 1 1) 1 (entCells [(3, -1)]) := own_lit _ _ _ _ _ (Nat.le_refl _) rfl (by decide)
          have hown4 := hown3.alloc (.cells #[.int .i64 3, .int .i64 (-1)] 37)
          have hlt4 := hown3.laysLt
          have hr4 := hr3.alloc (.cells #[.int .i64 3, .int .i64 (-1)] 37)
          have hG4 := hG3.alloc (.cells #[.int .i64 3, .int .i64 (-1)] 37)
          go_wp2_with (at_builtin; refine wpList_push_lay layRow_ty rfl _ _ rfl w.heap.size _ _ _ rfl hown4.outer _ (-1) (some ⟨w3.heap.size, 0, none⟩) 1 1 (by first | rfl | simp [Act.eval]) (by omega) (by simp; omega) ?_; intro v5 w5 ho5 hb5 hg5 hs5)
          obtain ⟨A5, c5, rfl, hown5⟩ := hown4.push (S := w3.heap.size) (z := (-1, [(3, -1)])) (A2 := some ⟨w3.heap.size, 0, none⟩) (c2 := 1) hO2 hlt4 hsz3 ho5 hg5
          have hr5 := hr4.belowB hb5 hR
          have hG5 := hG4.upTo hb5 (Nat.le_refl _)
          have HO5 := Lib.hid hown5
          clear hown5 hown4 hown3 hO2 ho5 hb5 hg5
          go_wp2
          go_ret
          exact ⟨A5, c5, _, rfl, by refine Nat.le_trans (lays_snoc hbd (by simp)) (by omega), HO5.out, hr5.up (by omega), hG5⟩

end Go.Proofs.Ytehlgfgkobblbaa
