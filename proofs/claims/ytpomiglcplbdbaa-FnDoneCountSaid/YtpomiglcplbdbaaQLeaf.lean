/- Contracts of LeafSum in both packages. -/
import Derived.Test.YtpomiglcplbdbaaQBase
namespace Go.Proofs.Ytpomiglcplbdbaa
open Go.RowKit

def leafF (key value : Int) : Int := if inB key 0 31 && inB value 0 1000000 then sumF 1 [key, value] else -1

theorem two_ints (w : World) (a b : Int) (T : Nat) : IntsAt (w.alloc (.cells #[.int .i64 a, .int .i64 b] T)) (some ⟨w.heap.size, 0, none⟩) [a, b] := by
  refine .inr ⟨_, _, rfl, fun j u hu => ?_⟩
  have h := (RowIs.alloc (w := w) #[.int .i64 a, .int .i64 b] T).cell j
  simp only [Nat.zero_add]
  rw [h]
  simpa using hu

set_option maxRecDepth 100000 in
set_option maxHeartbeats 800000 in
theorem LeafSum_any (key value : Int) (w : World) :
    Calls Try.prog 57 #[.int .i64 key, .int .i64 value] w fun e w' => e = .returned (.int .i64 (leafF key value)) ∧ Below w.heap.size w w' := by
  cases h1 : inB key 0 31 <;> cases h2 : inB value 0 1000000
  case true.true =>
    have H := Lib.hid (show sumOfF 1 [key, value] = leafF key value by
      have b1 := inB_true.1 h1
      have b2 := inB_true.1 h2
      simp [leafF, h1, h2, sumOfF, okSummed, inB_true.2 (show (0:Int) ≤ 1 ∧ (1:Int) ≤ 9 by omega), inB_true.2 (show (0:Int) ≤ key ∧ key ≤ 2000000 by omega), inB_true.2 (show (0:Int) ≤ value ∧ value ≤ 2000000 by omega)])
    go_enter Try.func57, Try.ntmps57
    go_wp2_with (first | (go_at_call 68; refine (isKey_any _ _).mono ?_; rintro e w' ⟨rfl, rfl⟩) | (go_at_call 69; refine (isValue_any _ _).mono ?_; rintro e w' ⟨rfl, rfl⟩) | (go_at_call 61; refine (SumOf_any _ _ _ [key, value] _ (two_ints _ _ _ _) (by simp)).mono ?_; rintro e w' ⟨rfl, rfl⟩))
    go_ret
    exact ⟨ret_int H.out, by go_grown⟩
  all_goals
    have H := Lib.hid (show leafF key value = -1 by simp [leafF, h1, h2])
    go_enter Try.func57, Try.ntmps57
    go_wp2_with (first | (go_at_call 68; refine (isKey_any _ _).mono ?_; rintro e w' ⟨rfl, rfl⟩) | (go_at_call 69; refine (isValue_any _ _).mono ?_; rintro e w' ⟨rfl, rfl⟩))
    go_ret
    exact ⟨ret_int H.out.symm, Below.refl _ _⟩

set_option maxRecDepth 100000 in
set_option maxHeartbeats 800000 in
theorem specLeafSum_any (key value : Int) (w : World) :
    Calls Try.prog 62 #[.int .i64 key, .int .i64 value] w fun e w' => e = .returned (.int .i64 (leafF key value)) ∧ Below w.heap.size w w' := by
  cases h1 : inB key 0 31 <;> cases h2 : inB value 0 1000000
  case true.true =>
    have H := Lib.hid (show sumF 1 [key, value] = leafF key value by simp [leafF, h1, h2])
    have HA := Lib.hid (show [key, value].all okSummed = true by
      have b1 := inB_true.1 h1
      have b2 := inB_true.1 h2
      simp [okSummed, inB_true.2 (show (0:Int) ≤ key ∧ key ≤ 2000000 by omega), inB_true.2 (show (0:Int) ≤ value ∧ value ≤ 2000000 by omega)])
    go_enter Try.func62, Try.ntmps62
    go_wp2_with (first | (go_at_call 63; refine (l1In_any _ _ _ _).mono ?_; rintro e w' ⟨rfl, rfl⟩) | (go_at_call 100; refine (l1Sum_any _ (by omega) (by omega) _ _ [key, value] _ (two_ints _ _ _ _) (by simp) HA.out).mono ?_; rintro e w' ⟨rfl, rfl⟩))
    go_ret
    exact ⟨ret_int H.out, by go_grown⟩
  all_goals
    have H := Lib.hid (show leafF key value = -1 by simp [leafF, h1, h2])
    go_enter Try.func62, Try.ntmps62
    go_wp2_with (go_at_call 63; refine (l1In_any _ _ _ _).mono ?_; rintro e w' ⟨rfl, rfl⟩)
    go_ret
    exact ⟨ret_int H.out.symm, Below.refl _ _⟩

end Go.Proofs.Ytpomiglcplbdbaa
