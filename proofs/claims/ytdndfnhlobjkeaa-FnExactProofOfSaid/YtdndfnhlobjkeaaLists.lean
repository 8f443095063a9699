/- Contracts of the copies and comparisons of integer slices. -/
import Derived.Test.YtdndfnhlobjkeaaMem
import Derived.Deep.QuietTactic
import Derived.BigQuiet
namespace Go.Proofs.Ytdndfnhlobjkeaa
open Go.RowKit

set_option maxHeartbeats 400000 in
theorem eqIntS_any (A B : Option Addr) (c d : Nat) (xs ys : List Int) (w : World) (hx : IntsAt w A xs) (hy : IntsAt w B ys) (hn : xs.length ≤ 4294967296) (_hm : ys.length ≤ 4294967296) :
    Calls Try.prog 23 #[.slice A xs.length c, .slice B ys.length d] w fun e w' => e = .returned (.bool (decide (xs = ys))) ∧ DrewOf w w' := by
  by_cases hl : xs.length = ys.length
  · have hne : ((xs.length : Int) != (ys.length : Int)) = false := by rw [hl]; simp
    have HL := Lib.hid hl
    clear hl
    go_enter Try.func23, Try.ntmps23
    go_wp2
    go_loopw [5] (fun i wr => ∃ k : Nat, k ≤ xs.length ∧ i = .int .i64 k ∧ DrewOf w wr ∧ ∀ j (h : j < xs.length) (h' : j < ys.length), j < k → xs[j] = ys[j]) (fun i _ => xs.length - (intOf i).toNat)
    case atStart => exact ⟨0, Nat.zero_le _, rfl, DrewOf.refl _, by intros; omega⟩
    case round =>
      obtain ⟨k, hk, rfl, hdr, hall⟩ := hrel
      have HA := Lib.hid hall
      clear hall
      by_cases hlt : k < xs.length
      · have hlt2 : k < ys.length := by have := HL.out; omega
        obtain ⟨b, o, rfl, hb, hc⟩ := (hx.below (hdr.below _)).at_ hlt
        have hcell := hc k hlt
        clear hc
        obtain ⟨b2, o2, rfl, hb2, hc2⟩ := (hy.below (hdr.below _)).at_ hlt2
        have hcell2 := hc2 k hlt2
        clear hc2
        cases h1 : (xs[k] != ys[k])
        · have HF := Lib.hid h1
          go_wp2
          go_quiet (fail)
          go_wp2
          go_roundw
          case rel => exact ⟨k + 1, by omega, by go_num, hdr.drewN _, fun j h h' hj => by
            by_cases e : j = k
            · subst e; simpa using HF.out
            · exact HA.out j h h' (by omega)⟩
          case measure => simp [intOf]; omega
        · have hf := Lib.hid (show xs ≠ ys from fun h => by simp [h] at h1)
          go_wp2
          go_quiet (fail)
          go_wp2
          go_ret
          exact ⟨ret_bool (by simp [hf.out]), hdr.drewN _⟩
      · have HF := Lib.hid (show xs = ys from List.ext_getElem HL.out (fun j h h' => HA.out j h h' (by omega)))
        go_wp2
        go_ret
        exact ⟨ret_bool (by simp [HF.out]), hdr⟩
  · have hne : ((xs.length : Int) != (ys.length : Int)) = true := by rw [bne_iff_ne]; omega
    have hf : xs ≠ ys := fun h => hl (by rw [h])
    go_enter Try.func23, Try.ntmps23
    go_wp2
    go_ret
    exact ⟨ret_bool (by simp [hf]), DrewOf.refl _⟩

theorem info_int : (Try.prog.info? 3).map (fun i => (i.zero, i.size, i.bytes)) = some (some (.int .i64 0), 1, 8) := by kernel_rfl

theorem make_int (n : Nat) (hn : n ≤ 4294967296) (w : World) :
    (Instr.makeSlice 31 (.int .i64 (n : Int)) (.int .i64 (n : Int))).run Try.prog w = .ok (.slice (some ⟨w.heap.size, 0, none⟩) n n) (w.alloc (.cells (madeCells #[.int .i64 0] n) 3)) := by
  obtain ⟨i, hi, hz0, hz1, hz2⟩ := info_parts info_int
  have h := run_make w 31 3 i (.int .i64 0) Try.underlying31 hi hz0 .i64 .i64 (n : Int) (n : Int) (by omega) (by omega) (by rw [hz2]; omega) (by omega)
  rw [h]
  simp [hz1, Value.cells]

set_option maxHeartbeats 400000 in
theorem toIntS_any (A : Option Addr) (c : Nat) (xs : List Int) (w : World) (hx : IntsAt w A xs) (hn : xs.length ≤ 4294967296) :
    Calls Try.prog 31 #[.slice A xs.length c] w (OwnRes 3 1 (xs.map (.int .i64)) xs.length w) := by
  have hmk := make_int xs.length hn
  go_enter Try.func31, Try.ntmps31
  go_wp2
  go_loopw [4] (fun i wr => ∃ k : Nat, k ≤ xs.length ∧ i = .int .i64 k ∧ RowIs wr w.heap.size 3 (half k (xs.map (.int .i64)) (List.replicate xs.length (.int .i64 0))) ∧ Below w.heap.size w wr) (fun i _ => xs.length - (intOf i).toNat)
  case atStart => exact ⟨0, Nat.zero_le _, rfl, row_made _ _ _, (Below.refl _ _).alloc (Nat.le_refl _) _⟩
  case round =>
    obtain ⟨k, hk, rfl, hrow, hbel⟩ := hrel
    have hsz := hbel.size
    by_cases hlt : k < xs.length
    · obtain ⟨b, o, rfl, hb, hc⟩ := (hx.below hbel).at_ hlt
      have hcell := hc k hlt
      clear hc
      have hold := hrow.cell k
      have hfz := hrow.frozen k
      have hl : k < (half k (xs.map (.int .i64)) (List.replicate xs.length (.int .i64 0))).length := by rw [half_len (by simp)]; simpa using hlt
      rw [List.getElem?_eq_getElem hl] at hold
      have hnx := Lib.hid (half_set (xs := xs.map (.int .i64)) (zs := List.replicate xs.length (.int .i64 0)) (k := k) (by simp) (by simpa using hlt))
      go_wp2
      go_roundw
      case rel =>
        refine ⟨k + 1, by omega, by go_num, ?_, hbel.setCell (p := ⟨w.heap.size, k, none⟩) (Nat.le_refl _) _⟩
        rw [← hnx.out]
        have := hrow.set k (.int .i64 xs[k])
        simpa using this
      case measure => simp [intOf]; omega
    · obtain rfl : k = xs.length := by omega
      go_wp2
      go_ret
      rw [show half xs.length (xs.map (Value.int .i64)) (List.replicate xs.length (.int .i64 0)) = xs.map (Value.int .i64) from by
        have := half_all (xs := xs.map (Value.int .i64)) (zs := List.replicate xs.length (.int .i64 0)) (by simp)
        simpa using this] at hrow
      exact ⟨_, _, rfl, own_of_row hrow (Nat.le_refl _) (by simp) (by unfold maxLen; omega), hbel⟩

end Go.Proofs.Ytdndfnhlobjkeaa
