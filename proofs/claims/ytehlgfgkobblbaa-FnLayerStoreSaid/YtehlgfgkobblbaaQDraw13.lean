/- What the laws of layers draw. -/
import Derived.Test.YtehlgfgkobblbaaQDraw11
import Derived.Test.YtehlgfgkobblbaaQBase
namespace Go.Proofs.Ytehlgfgkobblbaa
open Go.RowKit
attribute [local go_sem ↓] Go.wp_at_zero Go.wp_at_succ

theorem tdiv11 {z : Int} (h0 : 0 ≤ z) (h1 : z < 12) : ∃ q, Int.tdiv z 11 = q ∧ 0 ≤ q ∧ q ≤ 1 := by
  rcases (show z ≤ 10 ∨ z = 11 by omega) with h | rfl
  · exact ⟨0, Int.tdiv_eq_zero_of_lt h0 (by omega), by omega, by omega⟩
  · exact ⟨1, rfl, by omega, by omega⟩
theorem tdiv8 {z : Int} (h0 : 0 ≤ z) (h1 : z < 9) : ∃ q, Int.tdiv z 8 = q ∧ 0 ≤ q ∧ q ≤ 1 := by
  rcases (show z ≤ 7 ∨ z = 8 by omega) with h | rfl
  · exact ⟨0, Int.tdiv_eq_zero_of_lt h0 (by omega), by omega, by omega⟩
  · exact ⟨1, rfl, by omega, by omega⟩
def SmallL (zs : List LayA) : Prop := (laysT zs).length + totL (laysT zs) ≤ 30

/-- Drawn layers, as the law receives them. -/
def DrawLs (w : World) (e : Ending) (w' : World) : Prop :=
  ∃ A c, ∃ zs : List LayA, e = .returned (.slice A zs.length c) ∧ SmallL zs ∧ LaysOwn w' w.heap.size A c zs ∧ Below w.heap.size w w'
/-- .. and a number. -/
def DrawLsN (w : World) (e : Ending) (w' : World) : Prop :=
  ∃ A c, ∃ zs : List LayA, ∃ n : Int, e = .returned (.tuple #[.slice A zs.length c, .int .i64 n]) ∧ SmallL zs ∧ LaysOwn w' w.heap.size A c zs ∧ Below w.heap.size w w'
/-- .. and a store ahead, a number, a key behind. -/
def DrawSLsNK (w : World) (e : Ending) (w' : World) : Prop :=
  ∃ A c, ∃ es : List Ent, ∃ B d, ∃ zs : List LayA, ∃ n key : Int, e = .returned (.tuple #[.slice A es.length c, .slice B zs.length d, .int .i64 n, .int .i64 key]) ∧ es.length ≤ 100 ∧ SmallL zs ∧ w'.ownsRow w.heap.size 37 2 (.slice A es.length c) es.length (entCells es) ∧ LaysOwn w' w.heap.size B d zs ∧ Below w.heap.size w w'
def DrawSLsN (w : World) (e : Ending) (w' : World) : Prop :=
  ∃ A c, ∃ es : List Ent, ∃ B d, ∃ zs : List LayA, ∃ n : Int, e = .returned (.tuple #[.slice A es.length c, .slice B zs.length d, .int .i64 n]) ∧ es.length ≤ 100 ∧ SmallL zs ∧ w'.ownsRow w.heap.size 37 2 (.slice A es.length c) es.length (entCells es) ∧ LaysOwn w' w.heap.size B d zs ∧ Below w.heap.size w w'
def DrawLsNKV (w : World) (e : Ending) (w' : World) : Prop :=
  ∃ A c, ∃ zs : List LayA, ∃ n key value : Int, e = .returned (.tuple #[.slice A zs.length c, .int .i64 n, .int .i64 key, .int .i64 value]) ∧ SmallL zs ∧ LaysOwn w' w.heap.size A c zs ∧ Below w.heap.size w w'

set_option maxRecDepth 100000 in
set_option maxHeartbeats 1600000 in
theorem DrawLayersValid_any (A : Option Addr) (c : Nat) (bs : List Int) (w : World) (hb : BytesAt w A bs) (hn : bs.length ≤ c) (hc : c ≤ maxLen) :
    Calls Try.prog 8 #[.slice A bs.length c] w (DrawLs w) := by
  go_enter Try.func8, Try.ntmps8
  go_wp2_with fail
  refine (l20Open_any _ _ _ _ hb hn hc).mono ?_
  rintro e w1 ⟨R, rfl, hr, hR, hb1⟩
  go_wp2_with fail
  refine (l20Layers_any 2 R 0 _ hr (by omega) (by omega) (by omega)).mono ?_
  rintro e w2 ⟨A2, c2, zs, rfl, hbd, ho, _, hg⟩
  have HO := Lib.hid (ho.weaken hb1.size)
  have HB := Lib.hid (Gr.below hb1 hg hR hb1.size)
  have HS := Lib.hid (show SmallL zs from hbd)
  clear hb hb1 hg ho hr hbd
  go_wp2
  go_ret
  exact ⟨A2, c2, zs, rfl, HS.out, HO.out, HB.out⟩

set_option maxRecDepth 100000 in
set_option maxHeartbeats 3200000 in
theorem DrawLayerRead_any (A : Option Addr) (c : Nat) (bs : List Int) (w : World) (hb : BytesAt w A bs) (hn : bs.length ≤ c) (hc : c ≤ maxLen) :
    Calls Try.prog 18 #[.slice A bs.length c] w (DrawSLsNK w) := by
  go_enter Try.func18, Try.ntmps18
  go_wp2_with fail
  refine (l20Open_any _ _ _ _ hb hn hc).mono ?_
  rintro e w1 ⟨R, rfl, hr, hR, hb1⟩
  have hltR := hr.lt
  go_wp2_with fail
  refine (l20Store_any 14 R 0 _ hr (by omega) (by omega) (by omega)).mono ?_
  rintro e w2 ⟨A2, c2, es, rfl, hl, _, ho, hr2, hg2⟩
  have hs2 := hg2.size
  go_wp2_with fail
  refine (l20Layers_any 14 R _ _ hr2 (by omega) (by omega) (by omega)).mono ?_
  rintro e w3 ⟨A3, c3, zs, rfl, hbd, hol, hr3, hg3⟩
  have hlen := (lays_small hbd).1
  have hlt2 : R < w2.heap.size := by omega
  go_wp2_with fail
  refine (pick_any ((zs.length : Int) + 2) R _ _ hr3 (by omega) (by omega)).mono ?_
  rintro e w4 ⟨y, rfl, hy0, hy1, _, hr4, hg4⟩
  have hy1 := hy1 (by omega)
  go_wp2_with fail
  refine (pick_any 12 R _ _ hr4 (by omega) (by omega)).mono ?_
  rintro e w5 ⟨z, rfl, hz0, hz1, _, hr5, hg5⟩
  have hz1 := hz1 (by omega)
  obtain ⟨q, hq, hq0, hq1⟩ := tdiv11 hz0 hz1
  go_wp2_with fail
  refine (l20Key_any R _ _ hr5 (by omega)).mono ?_
  rintro e w6 ⟨key, rfl, _, _, hr6, hg6⟩
  have hG := hg4.trans (hg5.trans hg6)
  have HO := Lib.hid (ownsRow_weaken (own_gr ho (hg3.trans hG) hltR) hb1.size)
  have HL := Lib.hid ((hol.gr hG hlt2).weaken (Nat.le_trans hb1.size hs2))
  have HB := Lib.hid (Gr.below hb1 (hg2.trans (hg3.trans hG)) hR hb1.size)
  have HS := Lib.hid (show SmallL zs from hbd)
  clear hb hb1 hg2 hg3 hg4 hg5 hg6 hG ho hol hr hr2 hr3 hr4 hr5 hr6 hbd
  go_wp2
  refine bodyPost_ret (v := .tuple #[.slice A2 es.length c2, .slice A3 zs.length c3, .int .i64 (y - 1 - q), .int .i64 key]) (by simp [results, Try.results18, go_sem]) rfl ?_
  exact ⟨A2, c2, es, A3, c3, zs, _, _, rfl, hl, HS.out, HO.out, HL.out, HB.out⟩

/-! ### Twenty new layers -/
def z0 : LayA := ((-1, []), (none, 0))
def zl (n : Nat) : List Value := (List.replicate n [Value.int .i64 0, .slice none 0 0]).flatten
theorem zl_succ (n : Nat) : zl (n + 1) = .int .i64 0 :: .slice none 0 0 :: zl n := by simp [zl, List.replicate_succ]
theorem set_one (a r : List Value) (x x' : Value) (k : Nat) (hk : a.length = k) : (a ++ x :: r).set k x' = a ++ x' :: r := by
  subst hk
  induction a with
  | nil => simp
  | cons b a _ => simp
theorem info_LayerD : (Try.prog.info? 28).map (fun i => (i.zero, i.size, i.bytes)) = some (some (.agg #[.int .i64 0, .slice none 0 0]), 2, 32) := by kernel_rfl
theorem made_laysD (n : Nat) : (madeCells #[.int .i64 0, .slice none 0 0] (n * 2)).toList = zl n := by
  have key : ∀ n : Nat, ∀ i : Nat, (zl n)[i]? = if i < n * 2 then (if i % 2 = 0 then some (Value.int .i64 0) else some (.slice none 0 0)) else none := by
    intro n
    induction n with
    | zero => intro i; simp [zl]
    | succ n ih =>
      intro i
      rw [zl_succ]
      match i with
      | 0 => simp
      | 1 => simp; omega
      | i + 2 =>
        simp only [List.getElem?_cons_succ]
        rw [ih i]
        have h1 : (i + 2) % 2 = i % 2 := by omega
        rw [h1]
        by_cases h : i < n * 2
        · rw [if_pos h, if_pos (show i + 2 < (n + 1) * 2 by omega)]
        · rw [if_neg h, if_neg (show ¬ i + 2 < (n + 1) * 2 by omega)]
  apply List.ext_getElem?
  intro i
  rw [key n i]
  by_cases h : i < n * 2
  · rw [if_pos h, List.getElem?_eq_getElem (by simpa [madeCells] using h)]
    have : i % 2 = 0 ∨ i % 2 = 1 := by omega
    rcases this with h1 | h1 <;> simp [madeCells, h1]
  · rw [if_neg h, List.getElem?_eq_none (by simp [madeCells]; omega)]
theorem make_LayerD (n : Nat) (hn : n ≤ 4294967296) (w : World) :
    (Instr.makeSlice 23 (.int .i64 (n : Int)) (.int .i64 (n : Int))).run Try.prog w = .ok (.slice (some ⟨w.heap.size, 0, none⟩) n n) (w.alloc (.cells (madeCells #[.int .i64 0, .slice none 0 0] (n * 2)) 28)) := by
  obtain ⟨i, hi, hz0, hz1, hz2⟩ := info_parts info_LayerD
  have h := run_make w 23 28 i _ Try.underlying23 hi hz0 .i64 .i64 (n : Int) (n : Int) (by omega) (by omega) (by rw [hz2]; omega) (by omega)
  rw [h]
  simp [hz1, Value.cells]
theorem held_rep (w : World) (base : Nat) : ∀ n, HeldL w base (layRows (List.replicate n z0)) := by
  intro n
  induction n with
  | zero => exact HeldL.nil _ _
  | succ n ih =>
    refine ⟨fun r hr => ?_, List.pairwise_cons.2 ⟨fun r hr k hk => ?_, ih.2⟩⟩
    · rcases List.mem_cons.1 hr with rfl | hr
      · exact World.ownsRow_nil _ _ _ _
      · exact ih.1 r hr
    · simp [rowBlock, rowVal, layRow, z0, Value.ownBlock] at hk
theorem rep_step (k n : Nat) : layCells (List.replicate k z0) ++ .int .i64 (-1) :: .slice none 0 0 :: zl n = layCells (List.replicate (k + 1) z0) ++ zl n := by
  rw [List.replicate_succ', layCells_append, List.append_assoc]
  rfl

set_option maxRecDepth 100000 in
set_option maxHeartbeats 3200000 in
theorem DrawForkLayer_any (A : Option Addr) (c : Nat) (bs : List Int) (w : World) (hb : BytesAt w A bs) (hn : bs.length ≤ c) (hc : c ≤ maxLen) :
    Calls Try.prog 12 #[.slice A bs.length c] w (DrawLsN w) := by
  have hmk : ∀ w, (Instr.makeSlice 23 (.int .i64 20) (.int .i64 20)).run Try.prog w = .ok (.slice (some ⟨w.heap.size, 0, none⟩) 20 20) (w.alloc (.cells (madeCells #[.int .i64 0, .slice none 0 0] (20 * 2)) 28)) := fun w => make_LayerD 20 (by omega) w
  go_enter Try.func12, Try.ntmps12
  go_wp2_with fail
  refine (l20Open_any _ _ _ _ hb hn hc).mono ?_
  rintro e w1 ⟨R, rfl, hr, hR, hb1⟩
  have hltR := hr.lt
  go_wp2_with fail
  refine (l20Layers_any 9 R 0 _ hr (by omega) (by omega) (by omega)).mono ?_
  rintro e w3 ⟨A3, c3, zs, rfl, hbd, hol, hr3, hg3⟩
  have hlen := (lays_small hbd).1
  go_wp2_with fail
  refine (odd_any 9 R _ _ hr3 (by omega) (by omega) (by omega)).mono ?_
  rintro e w4 ⟨b, rfl, _, hr4, hg4⟩
  cases b
  · go_wp2_with fail
    refine (pick_any ((zs.length : Int) + 2) R _ _ hr4 (by omega) (by omega)).mono ?_
    rintro e w5 ⟨y, rfl, hy0, hy1, _, hr5, hg5⟩
    have hy1 := hy1 (by omega)
    have hG := hg4.trans hg5
    have HL := Lib.hid ((hol.gr hG hltR).weaken hb1.size)
    have HB := Lib.hid (Gr.below hb1 (hg3.trans hG) hR hb1.size)
    have HS := Lib.hid (show SmallL zs from hbd)
    clear hb hb1 hg3 hg4 hg5 hG hol hr hr3 hr4 hr5 hbd
    go_wp2
    go_ret2
    exact ⟨A3, c3, zs, _, rfl, HS.out, HL.out, HB.out⟩
  · have hB4 := Gr.below hb1 (hg3.trans hg4) hR hb1.size
    have hsz := Nat.le_trans hg3.size hg4.size
    have hlt4 : R < w4.heap.size := by omega
    have hrow0 : RowIs (w4.alloc (.cells (madeCells #[.int .i64 0, .slice none 0 0] (20 * 2)) 28)) w4.heap.size 28 (layCells (List.replicate 0 z0) ++ zl (20 - 0)) := by
      have := RowIs.alloc (w := w4) (madeCells #[.int .i64 0, .slice none 0 0] (20 * 2)) 28
      rwa [made_laysD] at this
    have HROW := Lib.hid hrow0
    have HB5 := Lib.hid (hB4.alloc hB4.size (.cells (madeCells #[.int .i64 0, .slice none 0 0] (20 * 2)) 28))
    have HR5 := Lib.hid (hr4.alloc (.cells (madeCells #[.int .i64 0, .slice none 0 0] (20 * 2)) 28))
    have HS4 := Lib.hid hB4.size
    clear hrow0 hB4 hb hb1 hg3 hg4 hol hr hr3 hr4 hbd hlen
    go_wp2
    go_loopw [6] (fun i wr => ∃ k : Nat, k ≤ 20 ∧ i = .int .i64 k ∧ RowIs wr w4.heap.size 28 (layCells (List.replicate k z0) ++ zl (20 - k)) ∧ RdAt wr R 1000 ∧ Below w.heap.size w wr) (fun i _ => 20 - (intOf i).toNat)
    case atStart => exact ⟨0, by omega, rfl, HROW.out, HR5.out.up (by omega), HB5.out⟩
    case round =>
      clear HROW HR5 HB5
      obtain ⟨k, hk, rfl, hrow, hr, hB⟩ := hrel
      by_cases hlt : k < 20
      · have hk0 : (0 : Int) ≤ (k : Int) := by omega
        have hk1 : (k : Int) < 20 := by omega
        rw [show 20 - k = (20 - (k + 1)) + 1 by omega, zl_succ] at hrow
        have hlen : (layCells (List.replicate k z0)).length = k * 2 := by rw [layCells_length, List.length_replicate]
        obtain ⟨v0, hold0⟩ := hrow.some_ (k := k * 2) (by simp [hlen])
        have hfz0 := hrow.frozen (k * 2)
        have HR := Lib.hid (show RowIs (wr.setCell ⟨w4.heap.size, k * 2, none⟩ (.int .i64 (-1))) w4.heap.size 28 (layCells (List.replicate (k + 1) z0) ++ zl (20 - (k + 1))) by
          have h := hrow.set (k * 2) (.int .i64 (-1))
          rw [set_one _ _ _ _ _ hlen, rep_step] at h
          exact h)
        have HRD := Lib.hid (RdAt.setCell hr (p := ⟨w4.heap.size, k * 2, none⟩) hlt4 (.int .i64 (-1)))
        have HB := Lib.hid (hB.setCell (p := ⟨w4.heap.size, k * 2, none⟩) HS4.out (.int .i64 (-1)))
        clear hrow hr hB hlen
        go_wp2
        go_roundw
        case rel => exact ⟨k + 1, by omega, by go_num, HR.out, HRD.out, HB.out⟩
        case measure => simp [intOf]; omega
      · obtain rfl : k = 20 := by omega
        have HROW := Lib.hid hrow
        have HB := Lib.hid hB
        clear hrow hB
        go_wp2_with fail
        refine (pick_any 22 R _ _ hr (by omega) (by omega)).mono ?_
        rintro e w6 ⟨y, rfl, hy0, hy1, _, hr6, hg6⟩
        have hy1 := hy1 (by omega)
        have hO := LaysOwn.mk (n := 20) (zs := List.replicate 20 z0) (by rw [List.length_replicate]) (own_of_row (w := wr) (base := w4.heap.size) (n := 20) (sz := 2) (by have h := HROW.out; rw [Nat.sub_self, show zl 0 = [] from rfl, List.append_nil] at h; exact h) (Nat.le_refl _) (by rw [layCells_length, List.length_replicate]) (by decide)) (held_rep _ _ _)
        have HL := Lib.hid ((hO.gr hg6 hlt4).weaken HS4.out)
        have HB6 := Lib.hid (Gr.below HB.out hg6 hR HB.out.size)
        clear hO hg6 hr hr6
        go_wp2
        go_ret2
        exact ⟨some ⟨w4.heap.size, 0, none⟩, 20, List.replicate 20 z0, y - 1, (show Ending.returned (.tuple #[.slice (some ⟨w4.heap.size, 0, none⟩) 20 20, .int .i64 (y - 1)]) = _ by rw [List.length_replicate]), by unfold SmallL; decide, HL.out, HB6.out⟩

set_option maxRecDepth 100000 in
set_option maxHeartbeats 1600000 in
theorem DrawLayerStore_any (A : Option Addr) (c : Nat) (bs : List Int) (w : World) (hb : BytesAt w A bs) (hn : bs.length ≤ c) (hc : c ≤ maxLen) :
    Calls Try.prog 22 #[.slice A bs.length c] w (DrawSLsN w) := by
  go_enter Try.func22, Try.ntmps22
  go_wp2_with fail
  refine (DrawLayerRead_any _ _ _ _ hb hn hc).mono ?_
  rintro e w1 ⟨A2, c2, es, A3, c3, zs, n, key, rfl, hl, hs, ho, hol, hb1⟩
  have HO := Lib.hid ho
  have HL := Lib.hid hol
  have HS := Lib.hid hs
  clear ho hol hs
  go_wp2
  go_ret3
  exact ⟨A2, c2, es, A3, c3, zs, n, rfl, hl, HS.out, HO.out, HL.out, hb1⟩

set_option maxRecDepth 100000 in
set_option maxHeartbeats 3200000 in
theorem DrawLayerWrite_any (A : Option Addr) (c : Nat) (bs : List Int) (w : World) (hb : BytesAt w A bs) (hn : bs.length ≤ c) (hc : c ≤ maxLen) :
    Calls Try.prog 27 #[.slice A bs.length c] w (DrawLsNKV w) := by
  go_enter Try.func27, Try.ntmps27
  go_wp2_with fail
  refine (l20Open_any _ _ _ _ hb hn hc).mono ?_
  rintro e w1 ⟨R, rfl, hr, hR, hb1⟩
  have hltR := hr.lt
  go_wp2_with fail
  refine (l20Layers_any 9 R 0 _ hr (by omega) (by omega) (by omega)).mono ?_
  rintro e w3 ⟨A3, c3, zs, rfl, hbd, hol, hr3, hg3⟩
  have hlen := (lays_small hbd).1
  go_wp2_with fail
  refine (pick_any ((zs.length : Int) + 1) R _ _ hr3 (by omega) (by omega)).mono ?_
  rintro e w4 ⟨y, rfl, hy0, hy1, _, hr4, hg4⟩
  have hy1 := hy1 (by omega)
  go_wp2_with fail
  refine (pick_any 9 R _ _ hr4 (by omega) (by omega)).mono ?_
  rintro e w5 ⟨z, rfl, hz0, hz1, _, hr5, hg5⟩
  have hz1 := hz1 (by omega)
  obtain ⟨q, hq, hq0, hq1⟩ := tdiv8 hz0 hz1
  go_wp2_with fail
  refine (l20Key_any R _ _ hr5 (by omega)).mono ?_
  rintro e w6 ⟨key, rfl, hk0, hk1, hr6, hg6⟩
  go_wp2_with fail
  refine (pick_any 9 R _ _ hr6 (by omega) (by omega)).mono ?_
  rintro e w7 ⟨u, rfl, hu0, hu1, _, hr7, hg7⟩
  have hu1 := hu1 (by omega)
  obtain ⟨p, hp, hp0, hp1⟩ := tdiv8 hu0 hu1
  go_wp2_with fail
  refine (l20Value_any R _ _ hr7 (by omega)).mono ?_
  rintro e w8 ⟨val, rfl, hv0, hv1, hr8, hg8⟩
  go_wp2_with fail
  refine (pick_any 12 R _ _ hr8 (by omega) (by omega)).mono ?_
  rintro e w9 ⟨t, rfl, ht0, ht1, _, hr9, hg9⟩
  have ht1 := ht1 (by omega)
  obtain ⟨r, hr', hr0, hr1⟩ := tdiv11 ht0 ht1
  have hG := hg4.trans (hg5.trans (hg6.trans (hg7.trans (hg8.trans hg9))))
  have HL := Lib.hid ((hol.gr hG hltR).weaken hb1.size)
  have HB := Lib.hid (Gr.below hb1 (hg3.trans hG) hR hb1.size)
  have HS := Lib.hid (show SmallL zs from hbd)
  clear hb hb1 hg3 hg4 hg5 hg6 hg7 hg8 hg9 hG hol hr hr3 hr4 hr5 hr6 hr7 hr8 hr9 hbd
  go_wp2
  refine bodyPost_ret (v := .tuple #[.slice A3 zs.length c3, .int .i64 (y - q), .int .i64 (key + p * 30), .int .i64 (val - r)]) (by simp [results, Try.results27, go_sem]) rfl ?_
  exact ⟨A3, c3, zs, _, _, _, rfl, HS.out, HL.out, HB.out⟩

end Go.Proofs.Ytehlgfgkobblbaa
