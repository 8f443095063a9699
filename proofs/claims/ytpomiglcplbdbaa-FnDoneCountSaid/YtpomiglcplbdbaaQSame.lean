/- Contracts of the laws' own words: sameInts, sameStore, alive, hasKey. -/
import Derived.Test.YtpomiglcplbdbaaQBase
import Derived.Deep.QuietTactic
import Derived.BigQuiet
import Derived.StillTailTactics
import Derived.Laws.StructEq
namespace Go.Proofs.Ytpomiglcplbdbaa
open Go.RowKit

set_option maxRecDepth 100000 in
set_option maxHeartbeats 400000 in
theorem sameInts_any (A B : Option Addr) (c d : Nat) (xs ys : List Int) (w : World) (hx : IntsAt w A xs) (hy : IntsAt w B ys) (hn : xs.length ≤ 4294967296) (_hm : ys.length ≤ 4294967296) :
    Calls Try.prog 30 #[.slice A xs.length c, .slice B ys.length d] w fun e w' => e = .returned (.bool (decide (xs = ys))) ∧ DrewOf w w' := by
  by_cases hl : xs.length = ys.length
  · have hne : ((xs.length : Int) != (ys.length : Int)) = false := by rw [hl]; simp
    have HL := Lib.hid hl
    clear hl
    go_enter Try.func30, Try.ntmps30
    go_wp2
    go_loopw [5] (fun i wr => ∃ k : Nat, k ≤ xs.length ∧ i = .int .i64 k ∧ DrewOf w wr ∧ ∀ j (h : j < xs.length) (h' : j < ys.length), j < k → xs[j] = ys[j]) (fun i _ => xs.length - (intOf i).toNat)
    case atStart => exact ⟨0, Nat.zero_le _, rfl, DrewOf.refl _, by intros; omega⟩
    case round =>
      obtain ⟨k, hk, rfl, hdr, hall⟩ := hrel
      have HA := Lib.hid hall
      clear hall
      by_cases hlt : k < xs.length
      · have hlt2 : k < ys.length := by have := HL.out; omega
        obtain ⟨b, o, rfl, hb, hc⟩ := (hx.below (hdr.below _)).at_ hlt
        have hcell := hc k hlt
        clear hc
        obtain ⟨b2, o2, rfl, hb2, hc2⟩ := (hy.below (hdr.below _)).at_ hlt2
        have hcell2 := hc2 k hlt2
        clear hc2
        cases h1 : (xs[k] != ys[k])
        · have HF := Lib.hid h1
          go_wp2
          go_quiet (fail)
          go_wp2
          go_roundw
          case rel => exact ⟨k + 1, by omega, by go_num, hdr.drewN _, fun j h h' hj => by
            by_cases e : j = k
            · subst e; simpa using HF.out
            · exact HA.out j h h' (by omega)⟩
          case measure => simp [intOf]; omega
        · have hf := Lib.hid (show xs ≠ ys from fun h => by simp [h] at h1)
          go_wp2
          go_quiet (fail)
          go_wp2
          go_ret
          exact ⟨ret_bool (by simp [hf.out]), hdr.drewN _⟩
      · have HF := Lib.hid (show xs = ys from List.ext_getElem HL.out (fun j h h' => HA.out j h h' (by omega)))
        go_wp2
        go_ret
        exact ⟨ret_bool (by simp [HF.out]), hdr⟩
  · have hne : ((xs.length : Int) != (ys.length : Int)) = true := by rw [bne_iff_ne]; omega
    have hf : xs ≠ ys := fun h => hl (by rw [h])
    go_enter Try.func30, Try.ntmps30
    go_wp2
    go_ret
    exact ⟨ret_bool (by simp [hf]), DrewOf.refl _⟩

def entEq2 (k v k' v' : Int) : Bool := decide (k = k' ∧ v = v')
theorem entEq2_iff {a b : Ent} : entEq2 a.1 a.2 b.1 b.2 = true ↔ a = b := by unfold entEq2; rw [decide_eq_true_iff, Prod.ext_iff]

theorem neq_ent (a b c d : Int) (W : World) : (binOp .neq 49 (.agg #[.int .i64 a, .int .i64 b]) (.agg #[.int .i64 c, .int .i64 d])).run Try.prog W = .ok (.bool (!(a == c && b == d))) W := by
  have hi : ∀ (x y : Int) W, (Op.equalIn 9999 3 (.int .i64 x) (.int .i64 y)).run Try.prog W = .ok (x == y) W := fun x y W => run_equalIn_int W 9998 3 .i64 .i64 x y Try.underlying3
  rw [run_neq_struct, run_equalIn_agg]
  · unfold Program.fieldsOf
    rw [Try.underlying49]
    simp only [Op.eqFields]
    cases h1 : (a == c) <;> cases h2 : (b == d) <;> simp [part, sizeOf, typeInfo, hi, h1, h2, Result.andThen]
  · kernel_rfl
  · kernel_rfl
theorem guard_ent (x y : Operand) (a b c d : Int) (W : World) : (eqGuard .neq 49 x y (.agg #[.int .i64 a, .int .i64 b]) (.agg #[.int .i64 c, .int .i64 d])).run Try.prog W = .ok () W := by
  rw [run_eqGuard_agg]
  kernel_rfl

set_option maxRecDepth 100000 in
set_option maxHeartbeats 800000 in
theorem sameStore_any (A B : Option Addr) (c d : Nat) (xs ys : List Ent) (w : World) (hx : EntsAt w A xs) (hy : EntsAt w B ys) (hn : xs.length ≤ 4294967296) (_hm : ys.length ≤ 4294967296) :
    Calls Try.prog 44 #[.slice A xs.length c, .slice B ys.length d] w fun e w' => e = .returned (.bool (decide (xs = ys))) ∧ DrewOf w w' := by
  by_cases hl : xs.length = ys.length
  · have hne : ((xs.length : Int) != (ys.length : Int)) = false := by rw [hl]; simp
    have HL := Lib.hid hl
    clear hl
    go_enter Try.func44, Try.ntmps44
    go_wp2
    go_loopw [5] (fun i wr => ∃ k : Nat, k ≤ xs.length ∧ i = .int .i64 k ∧ DrewOf w wr ∧ ∀ j (h : j < xs.length) (h' : j < ys.length), j < k → xs[j] = ys[j]) (fun i _ => xs.length - (intOf i).toNat)
    case atStart => exact ⟨0, Nat.zero_le _, rfl, DrewOf.refl _, by intros; omega⟩
    case round =>
      obtain ⟨k, hk, rfl, hdr, hall⟩ := hrel
      have HA := Lib.hid hall
      clear hall
      by_cases hlt : k < xs.length
      · have hlt2 : k < ys.length := by have := HL.out; omega
        obtain ⟨b, o, rfl, hb, hc⟩ := (hx.below (hdr.below _)).at_ hlt
        obtain ⟨hcell, hcell'⟩ := hc k hlt
        clear hc
        obtain ⟨b2, o2, rfl, hb2, hc2⟩ := (hy.below (hdr.below _)).at_ hlt2
        obtain ⟨hcell2, hcell2'⟩ := hc2 k hlt2
        clear hc2
        have hneq := fun W => neq_ent xs[k].1 xs[k].2 ys[k].1 ys[k].2 W
        have hgrd := fun x y W => guard_ent x y xs[k].1 xs[k].2 ys[k].1 ys[k].2 W
        cases h1 : (xs[k].1 == ys[k].1)
        rotate_left
        · cases h2 : (xs[k].2 == ys[k].2)
          rotate_left
          · have HF := Lib.hid (show xs[k] = ys[k] from Prod.ext (by simpa using h1) (by simpa using h2))
            go_wp2
            go_quiet (fail)
            go_wp2
            go_roundw
            case rel => exact ⟨k + 1, by omega, by go_num, hdr.drewN _, fun j h h' hj => by
              by_cases e : j = k
              · subst e; exact HF.out
              · exact HA.out j h h' (by omega)⟩
            case measure => simp [intOf]; omega
          · have hf := Lib.hid (show xs ≠ ys from fun h => by simp [h] at h2)
            go_wp2
            go_quiet (fail)
            go_wp2
            go_ret
            exact ⟨ret_bool (by simp [hf.out]), hdr.drewN _⟩
        · have hf := Lib.hid (show xs ≠ ys from fun h => by simp [h] at h1)
          go_wp2
          go_quiet (fail)
          go_wp2
          go_ret
          exact ⟨ret_bool (by simp [hf.out]), hdr.drewN _⟩
      · have HF := Lib.hid (show xs = ys from List.ext_getElem HL.out (fun j h h' => HA.out j h h' (by omega)))
        go_wp2
        go_ret
        exact ⟨ret_bool (by simp [HF.out]), hdr⟩
  · have hne : ((xs.length : Int) != (ys.length : Int)) = true := by rw [bne_iff_ne]; omega
    have hf : xs ≠ ys := fun h => hl (by rw [h])
    go_enter Try.func44, Try.ntmps44
    go_wp2
    go_ret
    exact ⟨ret_bool (by simp [hf]), DrewOf.refl _⟩

set_option maxRecDepth 100000 in
set_option maxHeartbeats 400000 in
theorem alive_any (w : World) :
    Calls Try.prog 18 #[] w fun e w' => e = .returned (.bool true) ∧ Below w.heap.size w w' := by
  have hb0 : Below w.heap.size w (w.alloc (.cells #[] 3)) := (Below.refl _ _).alloc (Nat.le_refl _) _
  have H := Lib.hid (show sumOfF 0 [] = 17 from by decide)
  go_enter Try.func18, Try.ntmps18
  go_wp2_with fail
  refine (SumOf_any 0 _ _ [] _ (CellsAt.nil _ _) (by simp)).mono ?_
  rintro e w1 ⟨rfl, rfl⟩
  rw [H.out]
  go_wp2
  go_ret
  exact ⟨rfl, hb0⟩

set_option maxRecDepth 100000 in
set_option maxHeartbeats 400000 in
theorem hasKey_any (A : Option Addr) (c : Nat) (zs : List Int) (n : Int) (w : World) (hz : IntsAt w A zs) (hn : zs.length ≤ 4294967296) :
    Calls Try.prog 36 #[.slice A zs.length c, .int .i64 n] w fun e w' => e = .returned (.bool (decide (n ∈ zs))) ∧ w = w' := by
  have HZ := Lib.hid hz
  clear hz
  go_enter Try.func36, Try.ntmps36
  go_wp2
  go_loop [5] (fun i => ∃ k : Nat, k ≤ zs.length ∧ i = .int .i64 k ∧ ∀ j (h : j < zs.length), j < k → zs[j] ≠ n) (fun i => zs.length - (intOf i).toNat)
  case atStart => exact ⟨0, Nat.zero_le _, rfl, by intros; omega⟩
  case round =>
    obtain ⟨k, hk, rfl, hall⟩ := hrel
    have HA := Lib.hid hall
    clear hall
    by_cases hlt : k < zs.length
    · obtain ⟨b, o, rfl, hb, hc⟩ := HZ.out.at_ hlt
      have hcell := hc k hlt
      clear hc
      cases h1 : (zs[k] == n)
      · have HX := Lib.hid (show zs[k] ≠ n by simpa using h1)
        go_wp2
        go_round
        case rel => exact ⟨k + 1, by omega, by go_num, fun j h hj => by
          by_cases e : j = k
          · subst e; exact HX.out
          · exact HA.out j h (by omega)⟩
        case measure => simp [intOf]; omega
      · have HF := Lib.hid (show n ∈ zs by have : zs[k] = n := by simpa using h1
                                           exact this ▸ List.getElem_mem hlt)
        go_wp2
        go_ret
        exact ⟨ret_bool (by simp [HF.out]), rfl⟩
    · have HF := Lib.hid (show n ∉ zs from fun h => by obtain ⟨j, hj, he⟩ := List.getElem_of_mem h; exact HA.out j hj (by omega) he)
      go_wp2
      go_ret
      exact ⟨ret_bool (by simp [HF.out]), rfl⟩

end Go.Proofs.Ytpomiglcplbdbaa
