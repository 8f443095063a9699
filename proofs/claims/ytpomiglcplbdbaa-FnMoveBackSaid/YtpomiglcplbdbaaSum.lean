/- Contracts of the sums: SumOf in both packages. -/
import Derived.Test.YtpomiglcplbdbaaMem
namespace Go.Proofs.Ytpomiglcplbdbaa
open Go.RowKit

def sumF (tag : Int) (zs : List Int) : Int := zs.foldl moreF (17 + tag)
def okSummed (n : Int) : Bool := inB n 0 2000000

set_option maxRecDepth 100000 in
set_option maxHeartbeats 400000 in
theorem SumOf1_any (n : Int) (w : World) :
    Calls Try.prog 97 #[.int .i64 n] w fun e w' => e = .returned (.bool (!okSummed n)) ∧ w = w' := by
  go_enter Try.func97, Try.ntmps97
  go_wp2_with (go_at_call 98; refine (isSummed_any _ _).mono ?_; rintro e w' ⟨rfl, rfl⟩)
  go_ret
  exact ⟨rfl, rfl⟩

set_option maxRecDepth 100000 in
set_option maxHeartbeats 400000 in
theorem IndexFunc_int (A : Option Addr) (c : Nat) (zs : List Int) (w : World) (hz : IntsAt w A zs) (hn : zs.length ≤ 4294967296) :
    Calls Try.prog 95 #[.slice A zs.length c, .func (.func 97) #[] #[]] w fun e w' => e = .returned (.int .i64 (idxF (fun n => !okSummed n) zs)) ∧ w = w' := by
  go_enter Try.func95, Try.ntmps95
  go_wp2
  go_loop [8] (fun i => ∃ k : Nat, k ≤ zs.length ∧ i = .int .i64 k ∧ ∀ j (h : j < zs.length), j < k → okSummed zs[j] = true) (fun i => zs.length - (intOf i).toNat)
  case atStart => exact ⟨0, Nat.zero_le _, rfl, by intros; omega⟩
  case round =>
    obtain ⟨k, hk, rfl, hall⟩ := hrel
    have HA := Lib.hid hall
    clear hall
    by_cases hlt : k < zs.length
    · obtain ⟨b, o, rfl, hb, hc⟩ := hz.at_ hlt
      have hcell := hc k hlt
      clear hc
      cases h1 : okSummed zs[k]
      · have HF := Lib.hid (idxF_hit (fun n => !okSummed n) zs k hlt (fun j h hj => by simp [HA.out j h hj]) (by simp [h1]))
        go_wp2_with (go_at_call 97; refine (SumOf1_any _ _).mono ?_; rintro e w' ⟨rfl, rfl⟩)
        go_ret
        exact ⟨ret_int HF.out.symm, rfl⟩
      · have HF := Lib.hid h1
        go_wp2_with (go_at_call 97; refine (SumOf1_any _ _).mono ?_; rintro e w' ⟨rfl, rfl⟩)
        go_round
        case rel => exact ⟨k + 1, by omega, by go_num, fun j h hj => by
          by_cases e : j = k
          · subst e; exact HF.out
          · exact HA.out j h (by omega)⟩
        case measure => simp [intOf]; omega
    · have HF := Lib.hid (idxF_none (fun n => !okSummed n) zs (fun j h => by simp [HA.out j h (by omega)]))
      go_wp2
      go_ret
      exact ⟨ret_int HF.out.symm, rfl⟩

set_option maxRecDepth 100000 in
set_option maxHeartbeats 400000 in
theorem ContainsFunc_int (A : Option Addr) (c : Nat) (zs : List Int) (w : World) (hz : IntsAt w A zs) (hn : zs.length ≤ 4294967296) :
    Calls Try.prog 58 #[.slice A zs.length c, .func (.func 97) #[] #[]] w fun e w' => e = .returned (.bool (!(zs.all okSummed))) ∧ w = w' := by
  have HF := Lib.hid (idxF_nonneg (fun n => !okSummed n) zs)
  go_enter Try.func58, Try.ntmps58
  go_wp2_with (go_at_call 95; refine (IndexFunc_int _ _ _ _ hz hn).mono ?_; rintro e w' ⟨rfl, rfl⟩)
  go_ret
  exact ⟨ret_bool (by rw [HF.out, List.any_eq_not_all_not]; simp), rfl⟩

def okSum (n : Int) : Bool := inB n 0 1000002

set_option maxRecDepth 100000 in
set_option maxHeartbeats 400000 in
theorem ProofRoot1_any (n : Int) (w : World) :
    Calls Try.prog 59 #[.int .i64 n] w fun e w' => e = .returned (.bool (!okSum n)) ∧ w = w' := by
  go_enter Try.func59, Try.ntmps59
  go_wp2_with (go_at_call 60; refine (isSum_any _ _).mono ?_; rintro e w' ⟨rfl, rfl⟩)
  go_ret
  exact ⟨rfl, rfl⟩

set_option maxRecDepth 100000 in
set_option maxHeartbeats 400000 in
theorem IndexFunc_sum (A : Option Addr) (c : Nat) (zs : List Int) (w : World) (hz : IntsAt w A zs) (hn : zs.length ≤ 4294967296) :
    Calls Try.prog 95 #[.slice A zs.length c, .func (.func 59) #[] #[]] w fun e w' => e = .returned (.int .i64 (idxF (fun n => !okSum n) zs)) ∧ w = w' := by
  go_enter Try.func95, Try.ntmps95
  go_wp2
  go_loop [8] (fun i => ∃ k : Nat, k ≤ zs.length ∧ i = .int .i64 k ∧ ∀ j (h : j < zs.length), j < k → okSum zs[j] = true) (fun i => zs.length - (intOf i).toNat)
  case atStart => exact ⟨0, Nat.zero_le _, rfl, by intros; omega⟩
  case round =>
    obtain ⟨k, hk, rfl, hall⟩ := hrel
    have HA := Lib.hid hall
    clear hall
    by_cases hlt : k < zs.length
    · obtain ⟨b, o, rfl, hb, hc⟩ := hz.at_ hlt
      have hcell := hc k hlt
      clear hc
      cases h1 : okSum zs[k]
      · have HF := Lib.hid (idxF_hit (fun n => !okSum n) zs k hlt (fun j h hj => by simp [HA.out j h hj]) (by simp [h1]))
        go_wp2_with (go_at_call 59; refine (ProofRoot1_any _ _).mono ?_; rintro e w' ⟨rfl, rfl⟩)
        go_ret
        exact ⟨ret_int HF.out.symm, rfl⟩
      · have HF := Lib.hid h1
        go_wp2_with (go_at_call 59; refine (ProofRoot1_any _ _).mono ?_; rintro e w' ⟨rfl, rfl⟩)
        go_round
        case rel => exact ⟨k + 1, by omega, by go_num, fun j h hj => by
          by_cases e : j = k
          · subst e; exact HF.out
          · exact HA.out j h (by omega)⟩
        case measure => simp [intOf]; omega
    · have HF := Lib.hid (idxF_none (fun n => !okSum n) zs (fun j h => by simp [HA.out j h (by omega)]))
      go_wp2
      go_ret
      exact ⟨ret_int HF.out.symm, rfl⟩

set_option maxRecDepth 100000 in
set_option maxHeartbeats 400000 in
theorem ContainsFunc_sum (A : Option Addr) (c : Nat) (zs : List Int) (w : World) (hz : IntsAt w A zs) (hn : zs.length ≤ 4294967296) :
    Calls Try.prog 58 #[.slice A zs.length c, .func (.func 59) #[] #[]] w fun e w' => e = .returned (.bool (!(zs.all okSum))) ∧ w = w' := by
  have HF := Lib.hid (idxF_nonneg (fun n => !okSum n) zs)
  go_enter Try.func58, Try.ntmps58
  go_wp2_with (go_at_call 95; refine (IndexFunc_sum _ _ _ _ hz hn).mono ?_; rintro e w' ⟨rfl, rfl⟩)
  go_ret
  exact ⟨ret_bool (by rw [HF.out, List.any_eq_not_all_not]; simp), rfl⟩

theorem sumF_snoc (tag : Int) (zs : List Int) (k : Nat) (h : k < zs.length) : sumF tag (zs.take (k + 1)) = moreF (sumF tag (zs.take k)) zs[k] := by
  unfold sumF
  rw [List.take_succ_eq_append_getElem h, List.foldl_append]
  rfl
theorem sumF_bd (tag : Int) (h0 : 0 ≤ tag) (h1 : tag ≤ 9) (zs : List Int) : 0 ≤ sumF tag zs ∧ sumF tag zs ≤ 1000002 := by
  unfold sumF
  rcases List.eq_nil_or_concat zs with rfl | ⟨l, x, rfl⟩
  · simp; omega
  · simp only [List.concat_eq_append, List.foldl_append, List.foldl_cons, List.foldl_nil]
    exact moreF_bd _ _

def sumOfF (tag : Int) (zs : List Int) : Int := if inB tag 0 9 && zs.all okSummed then sumF tag zs else -1

set_option maxRecDepth 100000 in
set_option maxHeartbeats 800000 in
theorem SumOf_any (tag : Int) (A : Option Addr) (c : Nat) (zs : List Int) (w : World) (hz : IntsAt w A zs) (hn : zs.length ≤ 4294967296) :
    Calls Try.prog 61 #[.int .i64 tag, .slice A zs.length c] w fun e w' => e = .returned (.int .i64 (sumOfF tag zs)) ∧ w = w' := by
  have HZ := Lib.hid hz
  clear hz
  cases h1 : inB tag 0 9 <;> cases h2 : zs.all okSummed
  case true.true =>
    have b1 := inB_true.1 h1
    have b2 := Lib.hid (List.all_eq_true.1 h2)
    have H := Lib.hid (show sumOfF tag zs = sumF tag zs by simp [sumOfF, h1, h2])
    go_enter Try.func61, Try.ntmps61
    go_wp2_with (first | (go_at_call 96; refine (in_any _ _ _ _).mono ?_; rintro e w' ⟨rfl, rfl⟩) | (go_at_call 58; refine (ContainsFunc_int _ _ _ _ HZ.out hn).mono ?_; rintro e w' ⟨rfl, rfl⟩))
    go_loop [5, 19] (fun s i => ∃ k : Nat, k ≤ zs.length ∧ i = .int .i64 k ∧ s = .int .i64 (sumF tag (zs.take k))) (fun _ i => zs.length - (intOf i).toNat)
    case atStart => exact ⟨0, Nat.zero_le _, rfl, rfl⟩
    case round =>
      obtain ⟨k, hk, rfl, rfl⟩ := hrel
      have hs := sumF_bd tag b1.1 b1.2 (zs.take k)
      by_cases hlt : k < zs.length
      · obtain ⟨b, o, rfl, hb, hc⟩ := HZ.out.at_ hlt
        have hcell := hc k hlt
        clear hc
        have hx := inB_true.1 (b2.out zs[k] (List.getElem_mem hlt))
        have HN := Lib.hid (sumF_snoc tag zs k hlt)
        go_wp2_with (go_at_call 99; refine (more_any _ _ (by omega) (by omega) (by omega) (by omega) _).mono ?_; rintro e w' ⟨rfl, rfl⟩)
        go_round
        case rel => exact ⟨k + 1, by omega, by go_num, by rw [HN.out]⟩
        case measure => simp [intOf]; omega
      · obtain rfl : k = zs.length := by omega
        go_wp2
        go_ret
        exact ⟨ret_int (by rw [H.out]; try rw [List.take_length]), rfl⟩
  all_goals
    have H := Lib.hid (show sumOfF tag zs = -1 by simp [sumOfF, h1, h2])
    go_enter Try.func61, Try.ntmps61
    go_wp2_with (first | (go_at_call 96; refine (in_any _ _ _ _).mono ?_; rintro e w' ⟨rfl, rfl⟩) | (go_at_call 58; refine (ContainsFunc_int _ _ _ _ HZ.out hn).mono ?_; rintro e w' ⟨rfl, rfl⟩))
    go_ret
    exact ⟨ret_int H.out.symm, rfl⟩

set_option maxRecDepth 100000 in
set_option maxHeartbeats 800000 in
theorem l1Sum_any (tag : Int) (b1 : 0 ≤ tag) (b2 : tag ≤ 9) (A : Option Addr) (c : Nat) (zs : List Int) (w : World) (hz : IntsAt w A zs) (hn : zs.length ≤ 4294967296) (hall : zs.all okSummed = true) :
    Calls Try.prog 100 #[.int .i64 tag, .slice A zs.length c] w fun e w' => e = .returned (.int .i64 (sumF tag zs)) ∧ w = w' := by
  have HZ := Lib.hid hz
  clear hz
  have HA := Lib.hid (List.all_eq_true.1 hall)
  clear hall
  go_enter Try.func100, Try.ntmps100
  go_wp2
  go_loop [5, 6] (fun s i => ∃ k : Nat, k ≤ zs.length ∧ i = .int .i64 k ∧ s = .int .i64 (sumF tag (zs.take k))) (fun _ i => zs.length - (intOf i).toNat)
  case atStart => exact ⟨0, Nat.zero_le _, rfl, rfl⟩
  case round =>
    obtain ⟨k, hk, rfl, rfl⟩ := hrel
    have hs := sumF_bd tag b1 b2 (zs.take k)
    by_cases hlt : k < zs.length
    · obtain ⟨b, o, rfl, hb, hc⟩ := HZ.out.at_ hlt
      have hcell := hc k hlt
      clear hc
      have hx := inB_true.1 (HA.out zs[k] (List.getElem_mem hlt))
      have HN := Lib.hid (sumF_snoc tag zs k hlt)
      go_wp2
      go_round
      case rel => exact ⟨k + 1, by omega, by go_num, by rw [HN.out]; rfl⟩
      case measure => simp [intOf]; omega
    · obtain rfl : k = zs.length := by omega
      go_wp2
      go_ret
      exact ⟨ret_int (by first | rfl | rw [List.take_length]), rfl⟩

set_option maxRecDepth 100000 in
set_option maxHeartbeats 800000 in
theorem specSumOf_any (tag : Int) (A : Option Addr) (c : Nat) (zs : List Int) (w : World) (hz : IntsAt w A zs) (hn : zs.length ≤ 4294967296) :
    Calls Try.prog 89 #[.int .i64 tag, .slice A zs.length c] w fun e w' => e = .returned (.int .i64 (sumOfF tag zs)) ∧ w = w' := by
  have HZ := Lib.hid hz
  clear hz
  go_enter Try.func89, Try.ntmps89
  go_wp2
  go_loop [5] (fun i => ∃ k : Nat, k ≤ zs.length ∧ i = .int .i64 k ∧ ∀ j (h : j < zs.length), j < k → okSummed zs[j] = true) (fun i => zs.length - (intOf i).toNat)
  case atStart => exact ⟨0, Nat.zero_le _, rfl, by intros; omega⟩
  case round =>
    obtain ⟨k, hk, rfl, hall⟩ := hrel
    have HA := Lib.hid hall
    clear hall
    by_cases hlt : k < zs.length
    · obtain ⟨b, o, rfl, hb, hc⟩ := HZ.out.at_ hlt
      have hcell := hc k hlt
      clear hc
      cases h1 : inB zs[k] 0 2000000
      · have HF := Lib.hid (show sumOfF tag zs = -1 by
          have : zs.all okSummed = false := by
            rw [List.all_eq_false]; exact ⟨zs[k], List.getElem_mem hlt, by simp [okSummed, h1]⟩
          simp [sumOfF, this])
        go_wp2_with (go_at_call 63; refine (l1In_any _ _ _ _).mono ?_; rintro e w' ⟨rfl, rfl⟩)
        go_ret
        exact ⟨ret_int HF.out.symm, rfl⟩
      · have HF := Lib.hid h1
        go_wp2_with (go_at_call 63; refine (l1In_any _ _ _ _).mono ?_; rintro e w' ⟨rfl, rfl⟩)
        go_round
        case rel => exact ⟨k + 1, by omega, by go_num, fun j h hj => by
          by_cases e : j = k
          · subst e; exact HF.out
          · exact HA.out j h (by omega)⟩
        case measure => simp [intOf]; omega
    · have hall := List.all_eq_true.2 (fun x hx => by obtain ⟨j, hj, rfl⟩ := List.getElem_of_mem hx; exact HA.out j hj (by omega) : ∀ x ∈ zs, okSummed x = true)
      have HB := Lib.hid hall
      cases h1 : inB tag 0 9
      · have HF := Lib.hid (show sumOfF tag zs = -1 by simp [sumOfF, h1])
        clear hall
        go_wp2_with (go_at_call 63; refine (l1In_any _ _ _ _).mono ?_; rintro e w' ⟨rfl, rfl⟩)
        go_ret
        exact ⟨ret_int HF.out.symm, rfl⟩
      · have HF := Lib.hid (show sumOfF tag zs = sumF tag zs by simp [sumOfF, h1, hall])
        clear hall
        have b1 := inB_true.1 h1
        go_wp2_with (first | (go_at_call 63; refine (l1In_any _ _ _ _).mono ?_; rintro e w' ⟨rfl, rfl⟩) | (go_at_call 100; refine (l1Sum_any _ b1.1 b1.2 _ _ _ _ HZ.out hn HB.out).mono ?_; rintro e w' ⟨rfl, rfl⟩))
        go_ret
        exact ⟨ret_int HF.out.symm, rfl⟩

end Go.Proofs.Ytpomiglcplbdbaa
