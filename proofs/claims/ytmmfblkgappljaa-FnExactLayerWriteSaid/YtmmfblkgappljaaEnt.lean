/- Contracts of the copies and comparisons of entries. -/
import Derived.Test.YtmmfblkgappljaaMem
import Derived.Deep.QuietTactic
import Derived.BigQuiet
import Derived.Deep.RegionHeld3
import Derived.StillTailTactics
namespace Go.Proofs.Ytmmfblkgappljaa
open Go.RowKit

set_option maxRecDepth 100000 in
set_option maxHeartbeats 400000 in
theorem szEntryS_big (A : Option Addr) (n c : Nat) (left : Int) (w : World) (hn : n ≤ 9223372036854775807) (h0 : 0 ≤ left) (h1 : left < n) :
    Calls Try.prog 28 #[.slice A n c, .int .i64 left] w fun e w' => e = .returned (.int .i64 (-1)) ∧ w = w' := by
  go_enter Try.func28, Try.ntmps28
  go_wp2
  go_ret
  exact ⟨rfl, rfl⟩

set_option maxRecDepth 100000 in
set_option maxHeartbeats 400000 in
theorem szEntryS_fits (A : Option Addr) (n c : Nat) (left : Int) (w : World) (h0 : (n : Int) ≤ left) (h1 : left ≤ 4294967296) :
    Calls Try.prog 28 #[.slice A n c, .int .i64 left] w fun e w' => e = .returned (.int .i64 (left - n)) ∧ w = w' := by
  go_enter Try.func28, Try.ntmps28
  go_wp2
  go_ret
  exact ⟨rfl, rfl⟩

set_option maxRecDepth 100000 in
set_option maxHeartbeats 400000 in
theorem toEntry_any (k v : Int) (w : World) :
    Calls Try.prog 68 #[.agg #[.int .i64 k, .int .i64 v]] w fun e w' => e = .returned (.agg #[.int .i64 k, .int .i64 v]) ∧ Below w.heap.size w w' := by
  go_enter Try.func68, Try.ntmps68
  go_wp2
  go_returns
  exact ⟨rfl, by go_grown⟩

def entEq (k v k' v' : Int) : Bool := decide (k = k' ∧ v = v')
theorem entEq_iff {a b : Ent} : entEq a.1 a.2 b.1 b.2 = true ↔ a = b := by unfold entEq; rw [decide_eq_true_iff, Prod.ext_iff]

set_option maxRecDepth 100000 in
set_option maxHeartbeats 400000 in
theorem eqEntry_any (k v k' v' : Int) (w : World) :
    Calls Try.prog 71 #[.agg #[.int .i64 k, .int .i64 v], .agg #[.int .i64 k', .int .i64 v']] w fun e w' => e = .returned (.bool (entEq k v k' v')) ∧ Below w.heap.size w w' := by
  cases h1 : (k != k')
  · cases h2 : (v != v')
    · have H := Lib.hid (show entEq k v k' v' = true by simp at h1 h2; simp [entEq, h1, h2])
      go_enter Try.func71, Try.ntmps71
      go_wp2
      go_ret
      exact ⟨ret_bool H.out.symm, by go_grown⟩
    · have H := Lib.hid (show entEq k v k' v' = false by simp at h1 h2; simp [entEq, h2])
      go_enter Try.func71, Try.ntmps71
      go_wp2
      go_ret
      exact ⟨ret_bool H.out.symm, by go_grown⟩
  · have H := Lib.hid (show entEq k v k' v' = false by simp at h1; simp [entEq, h1])
    go_enter Try.func71, Try.ntmps71
    go_wp2
    go_ret
    exact ⟨ret_bool H.out.symm, by go_grown⟩

set_option maxRecDepth 100000 in
set_option maxHeartbeats 800000 in
theorem eqEntryS_any (A B : Option Addr) (c d : Nat) (xs ys : List Ent) (w : World) (hx : EntsAt w A xs) (hy : EntsAt w B ys) (hn : xs.length ≤ 4294967296) (_hm : ys.length ≤ 4294967296) :
    Calls Try.prog 32 #[.slice A xs.length c, .slice B ys.length d] w fun e w' => e = .returned (.bool (decide (xs = ys))) ∧ Below w.heap.size w w' := by
  by_cases hl : xs.length = ys.length
  · have hne : ((xs.length : Int) != (ys.length : Int)) = false := by rw [hl]; simp
    have HL := Lib.hid hl
    clear hl
    go_enter Try.func32, Try.ntmps32
    go_wp2
    go_loopw [5] (fun i wr => ∃ k : Nat, k ≤ xs.length ∧ i = .int .i64 k ∧ Below w.heap.size w wr ∧ ∀ j (h : j < xs.length) (h' : j < ys.length), j < k → xs[j] = ys[j]) (fun i _ => xs.length - (intOf i).toNat)
    case atStart => exact ⟨0, Nat.zero_le _, rfl, Below.refl _ _, by intros; omega⟩
    case round =>
      obtain ⟨k, hk, rfl, hdr, hall⟩ := hrel
      have HA := Lib.hid hall
      clear hall
      by_cases hlt : k < xs.length
      · have hlt2 : k < ys.length := by have := HL.out; omega
        obtain ⟨b, o, rfl, hb, hc⟩ := (hx.below hdr).at_ hlt
        obtain ⟨hcell, hcell'⟩ := hc k hlt
        clear hc
        obtain ⟨b2, o2, rfl, hb2, hc2⟩ := (hy.below hdr).at_ hlt2
        obtain ⟨hcell2, hcell2'⟩ := hc2 k hlt2
        clear hc2
        cases h1 : entEq xs[k].1 xs[k].2 ys[k].1 ys[k].2
        · have hf := Lib.hid (show xs ≠ ys from fun h => by simp [h, entEq] at h1)
          go_wp2
          go_still_tail 8, (by kernel_rfl)
          go_wp2_with (go_at_call 71; refine (eqEntry_any _ _ _ _ _).mono ?_; rintro e w' ⟨rfl, hb'⟩)
          go_ret
          exact ⟨ret_bool (by simp [hf.out]), hdr.drew.trans (hb'.mono hdr.size)⟩
        · have HF := Lib.hid h1
          go_wp2
          go_still_tail 8, (by kernel_rfl)
          go_wp2_with (go_at_call 71; refine (eqEntry_any _ _ _ _ _).mono ?_; rintro e w' ⟨rfl, hb'⟩)
          go_roundw
          case rel => exact ⟨k + 1, by omega, by go_num, hdr.drew.trans (hb'.mono hdr.size), fun j h h' hj => by
            by_cases e : j = k
            · subst e; exact entEq_iff.1 HF.out
            · exact HA.out j h h' (by omega)⟩
          case measure => simp [intOf]; omega
      · have HF := Lib.hid (show xs = ys from List.ext_getElem HL.out (fun j h h' => HA.out j h h' (by omega)))
        go_wp2
        go_ret
        exact ⟨ret_bool (by simp [HF.out]), hdr⟩
  · have hne : ((xs.length : Int) != (ys.length : Int)) = true := by rw [bne_iff_ne]; omega
    have hf : xs ≠ ys := fun h => hl (by rw [h])
    go_enter Try.func32, Try.ntmps32
    go_wp2
    go_ret
    exact ⟨ret_bool (by simp [hf]), Below.refl _ _⟩

theorem info_Entry : (Try.prog.info? 86).map (fun i => (i.zero, i.size, i.bytes)) = some (some (.agg #[.int .i64 0, .int .i64 0]), 2, 16) := by kernel_rfl

theorem made_ents (n : Nat) : (madeCells #[.int .i64 0, .int .i64 0] (n * 2)).toList = List.replicate (n * 2) (.int .i64 0) := by
  apply List.ext_getElem
  · simp [madeCells]
  · intro i h1 h2
    have : i % 2 = 0 ∨ i % 2 = 1 := by omega
    rcases this with h | h <;> simp [madeCells, h]

theorem make_Entry (n : Nat) (hn : n ≤ 4294967296) (w : World) :
    (Instr.makeSlice 41 (.int .i64 (n : Int)) (.int .i64 (n : Int))).run Try.prog w = .ok (.slice (some ⟨w.heap.size, 0, none⟩) n n) (w.alloc (.cells (madeCells #[.int .i64 0, .int .i64 0] (n * 2)) 86)) := by
  obtain ⟨i, hi, hz0, hz1, hz2⟩ := info_parts info_Entry
  have h := run_make w 41 86 i _ Try.underlying41 hi hz0 .i64 .i64 (n : Int) (n : Int) (by omega) (by omega) (by rw [hz2]; omega) (by omega)
  rw [h]
  simp [hz1, Value.cells]

theorem half_ent2 {xs : List Ent} {k : Nat} (hlt : k < xs.length) :
    ((half (k * 2) (entCells xs) (List.replicate (xs.length * 2) (.int .i64 0))).set (k * 2) (.int .i64 xs[k].1)).set (k * 2 + 1) (.int .i64 xs[k].2) = half ((k + 1) * 2) (entCells xs) (List.replicate (xs.length * 2) (.int .i64 0)) := by
  have hL : (entCells xs).length = (List.replicate (xs.length * 2) (Value.int .i64 0)).length := by simp [entCells_length]
  have hl := entCells_length xs
  obtain ⟨e1, e2⟩ := entCells_at xs k hlt
  have h1 := half_set (xs := entCells xs) (zs := List.replicate (xs.length * 2) (.int .i64 0)) (k := k * 2) hL (by omega)
  have h2 := half_set (xs := entCells xs) (zs := List.replicate (xs.length * 2) (.int .i64 0)) (k := k * 2 + 1) hL (by omega)
  rw [List.getElem?_eq_getElem (by omega)] at e1 e2
  rw [Option.some.inj e1] at h1
  rw [Option.some.inj e2] at h2
  rw [h1, h2, show (k + 1) * 2 = k * 2 + 1 + 1 from by omega]

set_option maxRecDepth 100000 in
set_option maxHeartbeats 400000 in
theorem toEntryS_any (A : Option Addr) (c : Nat) (xs : List Ent) (w : World) (hx : EntsAt w A xs) (hn : xs.length ≤ 4294967296) :
    Calls Try.prog 30 #[.slice A xs.length c] w (OwnRes 86 2 (entCells xs) xs.length w) := by
  have hmk := make_Entry xs.length hn
  go_enter Try.func30, Try.ntmps30
  go_wp2
  go_loopw [4] (fun i wr => ∃ k : Nat, k ≤ xs.length ∧ i = .int .i64 k ∧ RowIs wr w.heap.size 86 (half (k * 2) (entCells xs) (List.replicate (xs.length * 2) (.int .i64 0))) ∧ Below w.heap.size w wr) (fun i _ => xs.length - (intOf i).toNat)
  case atStart => exact ⟨0, Nat.zero_le _, rfl, by
    have := RowIs.alloc (w := w) (madeCells #[.int .i64 0, .int .i64 0] (xs.length * 2)) 86
    rw [made_ents] at this; simpa [half] using this, (Below.refl _ _).alloc (Nat.le_refl _) _⟩
  case round =>
    obtain ⟨k, hk, rfl, hrow, hbel⟩ := hrel
    have hsz := hbel.size
    have hlt0 := hrow.lt
    by_cases hlt : k < xs.length
    · obtain ⟨b, o, rfl, hb, hc⟩ := (hx.below hbel).at_ hlt
      obtain ⟨hcell, hcell'⟩ := hc k hlt
      clear hc
      have hl : (half (k * 2) (entCells xs) (List.replicate (xs.length * 2) (.int .i64 0))).length = xs.length * 2 := by rw [half_len (by simp [entCells_length])]; simp
      go_wp2_with fail
      refine (toEntry_any _ _ _).mono ?_
      rintro e w2 ⟨rfl, hb2⟩
      have hrow2 := hrow.below hb2 (by omega)
      have hbel2 := hbel.trans (hb2.mono hbel.size)
      have hsz2 := hbel2.size
      obtain ⟨v0, hold0⟩ := hrow2.some_ (k := k * 2) (by omega)
      obtain ⟨v1, hold1⟩ := hrow2.some_ (k := k * 2 + 1) (by omega)
      have hfz0 := hrow2.frozen (k * 2)
      have hfz1 := hrow2.frozen (k * 2 + 1)
      clear hl
      have HR := Lib.hid hrow2
      clear hrow2 hrow
      go_wp2
      go_roundw
      case rel =>
        refine ⟨k + 1, by omega, by go_num, ?_, (hbel2.setCell (p := ⟨w.heap.size, k * 2, none⟩) (Nat.le_refl _) _).setCell (p := ⟨w.heap.size, k * 2 + 1, none⟩) (Nat.le_refl _) _⟩
        have h1 := (HR.out.set (k * 2) (.int .i64 xs[k].1)).set (k * 2 + 1) (.int .i64 xs[k].2)
        rw [half_ent2 hlt] at h1
        exact h1
      case measure => simp [intOf]; omega
    · obtain rfl : k = xs.length := by omega
      go_wp2
      go_ret
      have e1 : half (xs.length * 2) (entCells xs) (List.replicate (xs.length * 2) (.int .i64 0)) = entCells xs := by
        have := half_all (xs := entCells xs) (zs := List.replicate (xs.length * 2) (.int .i64 0)) (by simp [entCells_length])
        rwa [entCells_length] at this
      rw [e1] at hrow
      exact ⟨_, _, rfl, own_of_row hrow (Nat.le_refl _) (entCells_length _) (by unfold maxLen; omega), hbel⟩

end Go.Proofs.Ytmmfblkgappljaa
