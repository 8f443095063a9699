/- Contracts of the proofs: ProofRoot, ProofRight in both packages. -/
import Derived.Test.YtpomiglcplbdbaaLeaf
import Derived.Test.YtpomiglcplbdbaaTreeMath
namespace Go.Proofs.Ytpomiglcplbdbaa
open Go.RowKit

theorem and_bit : ∀ kk < 32, ∀ j < 5, bits .and .i64 (((kk : Nat) : Int) / 2 ^ j) 1 = ((kk / 2 ^ j % 2 : Nat) : Int) := by decide +kernel
theorem mod_bit : ∀ kk < 32, ∀ j < 5, (((kk : Nat) : Int) / 2 ^ j) % 2 = ((kk / 2 ^ j % 2 : Nat) : Int) := by decide +kernel

theorem upF_snoc (key : Nat) (xs : List Int) (x : Int) : ∀ (l : Nat) (s : Int), upF key s l (xs ++ [x]) = stepF key (l + xs.length) (upF key s l xs) x := by
  induction xs with
  | nil => intro l s; rfl
  | cons y ys ih =>
    intro l s
    simp only [List.cons_append, upF, ih]
    congr 1
    simp; omega
theorem upF_take (key : Nat) (s : Int) (xs : List Int) (k : Nat) (hk : k < xs.length) : upF key s 0 (xs.take (k + 1)) = stepF key k (upF key s 0 (xs.take k)) xs[k] := by
  rw [List.take_succ_eq_append_getElem hk, upF_snoc]
  congr 1
  rw [List.length_take]; omega

theorem pair_sumOf {a b : Int} (ha : 0 ≤ a ∧ a ≤ 1000002) (hb : 0 ≤ b ∧ b ≤ 1000002) : sumOfF 2 [a, b] = nodeF a b := by
  have h1 : inB 2 0 9 = true := by decide
  simp [sumOfF, h1, okSummed, inB_true.2 (show (0 : Int) ≤ a ∧ a ≤ 2000000 by omega), inB_true.2 (show (0 : Int) ≤ b ∧ b ≤ 2000000 by omega), nodeF]

def proofRootF (key value : Int) (proof : List Int) : Int :=
  if inB key 0 31 && inB value 0 1000000 && decide (proof.length = 5) && proof.all okSum then upF key.toNat (sumF 1 [key, value]) 0 proof else -1

set_option maxRecDepth 100000 in
set_option maxHeartbeats 2000000 in
theorem ProofRoot_any (key value : Int) (A : Option Addr) (c : Nat) (zs : List Int) (w : World) (hz : IntsAt w A zs) (hn : zs.length ≤ 4294967296) :
    Calls Try.prog 16 #[.int .i64 key, .int .i64 value, .slice A zs.length c] w fun e w' => e = .returned (.int .i64 (proofRootF key value zs)) ∧ Below w.heap.size w w' := by
  have HZ := Lib.hid hz
  clear hz
  cases hkv : (inB key 0 31 && inB value 0 1000000)
  · have H := Lib.hid (show proofRootF key value zs = -1 by simp [proofRootF, hkv])
    have hlf := Lib.hid (show leafF key value = -1 by simp [leafF, hkv])
    go_enter Try.func16, Try.ntmps16
    go_wp2_with fail
    refine (LeafSum_any _ _ _).mono ?_
    rintro e w1 ⟨rfl, hb1⟩
    rw [hlf.out]
    go_wp2
    go_ret
    exact ⟨ret_int H.out.symm, hb1⟩
  · have hlf := Lib.hid (show leafF key value = sumF 1 [key, value] by simp [leafF, hkv])
    have hpos := leafSum_bd key value
    by_cases h5 : zs.length = 5
    · cases hall : zs.all okSum
      · have H := Lib.hid (show proofRootF key value zs = -1 by simp [proofRootF, hall])
        have hne : ((zs.length : Int) != 5) = false := by rw [h5]; rfl
        have HN := Lib.hid h5
        clear h5
        go_enter Try.func16, Try.ntmps16
        go_wp2_with fail
        refine (LeafSum_any _ _ _).mono ?_
        rintro e w1 ⟨rfl, hb1⟩
        rw [hlf.out]
        generalize sumF 1 [key, value] = q at *
        go_wp2_with fail
        refine (ContainsFunc_sum _ _ _ _ (HZ.out.below hb1) hn).mono ?_
        rintro e w' ⟨rfl, rfl⟩
        rw [hall]
        go_wp2
        go_ret
        exact ⟨ret_int H.out.symm, hb1⟩
      · have H := Lib.hid (show proofRootF key value zs = upF key.toNat (sumF 1 [key, value]) 0 zs by
          simp only [proofRootF, hkv, h5, hall]; rfl)
        have hk := inB_true.1 (show inB key 0 31 = true by simp at hkv; exact hkv.1)
        obtain ⟨kk, rfl⟩ : ∃ kk : Nat, key = (kk : Int) := ⟨key.toNat, by omega⟩
        simp only [Int.toNat_natCast] at H
        have HAll := Lib.hid (List.all_eq_true.1 hall)
        have hne : ((zs.length : Int) != 5) = false := by rw [h5]; rfl
        have hle : zs.length ≤ 5 := by omega
        have HN := Lib.hid h5
        clear h5
        go_enter Try.func16, Try.ntmps16
        go_wp2_with fail
        refine (LeafSum_any _ _ _).mono ?_
        rintro e w1 ⟨rfl, hb1⟩
        rw [hlf.out]
        generalize sumF 1 [(kk : Int), value] = q at *
        go_wp2_with fail
        refine (ContainsFunc_sum _ _ _ _ (HZ.out.below hb1) hn).mono ?_
        rintro e w' ⟨rfl, rfl⟩
        rw [hall]
        clear hall
        go_wp2
        go_loopw [7, 26] (fun s i wr => ∃ k : Nat, k ≤ zs.length ∧ i = .int .i64 k ∧ s = .int .i64 (upF kk q 0 (zs.take k)) ∧ Below w.heap.size w wr) (fun _ i _ => zs.length - (intOf i).toNat)
        case atStart => exact ⟨0, Nat.zero_le _, rfl, rfl, hb1⟩
        case round =>
          obtain ⟨k, hkl, rfl, rfl, hbel⟩ := hrel
          have hsz := hbel.size
          by_cases hlt : k < zs.length
          · obtain ⟨b, o, rfl, hb, hc⟩ := (HZ.out.below hbel).at_ hlt
            have hcell := hc k hlt
            clear hc
            have hx := inB_true.1 (HAll.out zs[k] (List.getElem_mem hlt))
            have hs := upF_bd kk (zs.take k) 0 hpos.1 hpos.2
            have hbit := and_bit kk (by omega) k (by omega)
            have HS := Lib.hid (upF_take kk q zs k hlt)
            generalize upF kk q 0 (zs.take k) = u at *
            rcases Nat.mod_two_eq_zero_or_one (kk / 2 ^ k) with h0 | h0
            · rw [h0] at hbit
              have HU := Lib.hid (show stepF kk k u zs[k] = sumOfF 2 [u, zs[k]] by rw [pair_sumOf hs hx, stepF, if_neg (by omega)])
              clear h0
              go_wp2_with fail
              refine (SumOf_any _ _ _ [u, zs[k]] _ (two_ints _ _ _ _) (by simp)).mono ?_
              rintro e w' ⟨rfl, rfl⟩
              rw [← HU.out, ← HS.out]
              go_wp2
              go_roundw
              case rel => exact ⟨k + 1, by omega, by go_num, rfl, hbel.alloc hsz _⟩
              case measure => simp [intOf]; omega
            · rw [h0] at hbit
              have HU := Lib.hid (show stepF kk k u zs[k] = sumOfF 2 [zs[k], u] by rw [pair_sumOf hx hs, stepF, if_pos h0])
              clear h0
              go_wp2_with fail
              refine (SumOf_any _ _ _ [zs[k], u] _ (two_ints _ _ _ _) (by simp)).mono ?_
              rintro e w' ⟨rfl, rfl⟩
              rw [← HU.out, ← HS.out]
              go_wp2
              go_roundw
              case rel => exact ⟨k + 1, by omega, by go_num, rfl, hbel.alloc hsz _⟩
              case measure => simp [intOf]; omega
          · obtain rfl : k = zs.length := by omega
            have HT := Lib.hid (List.take_length (l := zs))
            go_wp2
            go_ret
            exact ⟨ret_int (by first | exact H.out.symm | rw [H.out, HT.out]), hbel⟩
    · have H := Lib.hid (show proofRootF key value zs = -1 by simp [proofRootF, h5])
      have hne : ((zs.length : Int) != 5) = true := by rw [bne_iff_ne]; omega
      go_enter Try.func16, Try.ntmps16
      go_wp2_with fail
      refine (LeafSum_any _ _ _).mono ?_
      rintro e w1 ⟨rfl, hb1⟩
      rw [hlf.out]
      generalize sumF 1 [key, value] = q at *
      go_wp2
      go_ret
      exact ⟨ret_int H.out.symm, hb1⟩

def proofRightF (root key value : Int) (zs : List Int) : Bool := decide (0 ≤ root) && (proofRootF key value zs == root)

set_option maxRecDepth 100000 in
set_option maxHeartbeats 800000 in
theorem ProofRight_any (root key value : Int) (A : Option Addr) (c : Nat) (zs : List Int) (w : World) (hz : IntsAt w A zs) (hn : zs.length ≤ 4294967296) :
    Calls Try.prog 25 #[.int .i64 root, .int .i64 key, .int .i64 value, .slice A zs.length c] w fun e w' => e = .returned (.bool (proofRightF root key value zs)) ∧ Below w.heap.size w w' := by
  have HF := Lib.hid (show proofRightF root key value zs = (decide (0 ≤ root) && (proofRootF key value zs == root)) from rfl)
  by_cases hr : 0 ≤ root
  · have hd : decide (0 ≤ root) = true := decide_eq_true hr
    rw [hd] at HF
    go_enter Try.func25, Try.ntmps25
    go_wp2_with fail
    refine (ProofRoot_any _ _ _ _ _ _ hz hn).mono ?_
    rintro e w1 ⟨rfl, hb1⟩
    generalize proofRootF key value zs = q at *
    go_wp2
    go_ret
    exact ⟨ret_bool (by rw [HF.out]; simp), hb1⟩
  · have hd : decide (0 ≤ root) = false := decide_eq_false hr
    rw [hd] at HF
    go_enter Try.func25, Try.ntmps25
    go_wp2
    go_ret
    exact ⟨ret_bool (by rw [HF.out]; simp), Below.refl _ _⟩

set_option maxRecDepth 100000 in
set_option maxHeartbeats 400000 in
theorem l3Node_any (a b : Int) (w : World) (ha : 0 ≤ a ∧ a ≤ 1000002) (hb : 0 ≤ b ∧ b ≤ 1000002) :
    Calls Try.prog 64 #[.int .i64 a, .int .i64 b] w fun e w' => e = .returned (.int .i64 (nodeF a b)) ∧ Below w.heap.size w w' := by
  have HA := Lib.hid (show [a, b].all okSummed = true by
    simp [okSummed, inB_true.2 (show (0:Int) ≤ a ∧ a ≤ 2000000 by omega), inB_true.2 (show (0:Int) ≤ b ∧ b ≤ 2000000 by omega)])
  go_enter Try.func64, Try.ntmps64
  go_wp2_with (go_at_call 100; refine (l1Sum_any _ (by omega) (by omega) _ _ [a, b] _ (two_ints _ _ _ _) (by simp) HA.out).mono ?_; rintro e w' ⟨rfl, rfl⟩)
  go_ret
  exact ⟨rfl, by go_grown⟩

set_option maxRecDepth 100000 in
set_option maxHeartbeats 2000000 in
theorem specProofRoot_any (key value : Int) (A : Option Addr) (c : Nat) (zs : List Int) (w : World) (hz : IntsAt w A zs) (hn : zs.length ≤ 4294967296) :
    Calls Try.prog 17 #[.int .i64 key, .int .i64 value, .slice A zs.length c] w fun e w' => e = .returned (.int .i64 (proofRootF key value zs)) ∧ Below w.heap.size w w' := by
  have HZ := Lib.hid hz
  clear hz
  cases hkv : (inB key 0 31 && inB value 0 1000000)
  · have H := Lib.hid (show proofRootF key value zs = -1 by simp [proofRootF, hkv])
    have hlf := Lib.hid (show leafF key value = -1 by simp [leafF, hkv])
    go_enter Try.func17, Try.ntmps17
    go_wp2_with fail
    refine (specLeafSum_any _ _ _).mono ?_
    rintro e w1 ⟨rfl, hb1⟩
    rw [hlf.out]
    go_wp2
    go_ret
    exact ⟨ret_int H.out.symm, hb1⟩
  · have hlf := Lib.hid (show leafF key value = sumF 1 [key, value] by simp [leafF, hkv])
    have hpos := leafSum_bd key value
    by_cases h5 : zs.length = 5
    · have HF := Lib.hid (show proofRootF key value zs = if zs.all okSum then upF key.toNat (sumF 1 [key, value]) 0 zs else -1 by
        simp only [proofRootF, hkv, h5]; simp)
      have hk := inB_true.1 (show inB key 0 31 = true by simp at hkv; exact hkv.1)
      obtain ⟨kk, rfl⟩ : ∃ kk : Nat, key = (kk : Int) := ⟨key.toNat, by omega⟩
      simp only [Int.toNat_natCast] at HF
      have hne : ((zs.length : Int) != 5) = false := by rw [h5]; rfl
      have hle : zs.length ≤ 5 := by omega
      have hge : 5 ≤ zs.length := by omega
      have HN := Lib.hid h5
      clear h5
      go_enter Try.func17, Try.ntmps17
      go_wp2_with fail
      refine (specLeafSum_any _ _ _).mono ?_
      rintro e w1 ⟨rfl, hb1⟩
      rw [hlf.out]
      generalize sumF 1 [(kk : Int), value] = q at *
      go_wp2
      go_loopw [7, 8] (fun s i wr => ∃ k : Nat, k ≤ 5 ∧ i = .int .i64 k ∧ s = .int .i64 (upF kk q 0 (zs.take k)) ∧ (∀ j (h : j < zs.length), j < k → okSum zs[j] = true) ∧ Below w.heap.size w wr) (fun _ i _ => 5 - (intOf i).toNat)
      case atStart => exact ⟨0, by omega, rfl, rfl, fun j h hj => by omega, hb1⟩
      case round =>
        obtain ⟨k, hkl, rfl, rfl, hall, hbel⟩ := hrel
        have HA := Lib.hid hall
        clear hall
        have hsz := hbel.size
        by_cases hlt : k < 5
        · have hltz : k < zs.length := by omega
          obtain ⟨b, o, rfl, hb, hc⟩ := (HZ.out.below hbel).at_ hltz
          have hcell := hc k hltz
          clear hc
          have hs := upF_bd kk (zs.take k) 0 hpos.1 hpos.2
          have hbit := mod_bit kk (by omega) k (by omega)
          have hnn : (0 : Int) ≤ (kk : Int) / 2 ^ k := Int.ediv_nonneg (by omega) (Int.pow_nonneg (by omega))
          have hbit2 : ((kk : Int) / 2 ^ k).tmod 2 = ((kk / 2 ^ k % 2 : Nat) : Int) := by rw [Int.tmod_eq_emod_of_nonneg hnn]; exact hbit
          have HS := Lib.hid (upF_take kk q zs k hltz)
          generalize upF kk q 0 (zs.take k) = u at *
          cases hx0 : inB zs[k] 0 1000002
          · have HR := Lib.hid (show proofRootF kk value zs = -1 by
              have : zs.all okSum = false := by rw [List.all_eq_false]; exact ⟨zs[k], List.getElem_mem hltz, by simp [okSum, hx0]⟩
              rw [HF.out, this]; rfl)
            go_wp2_with (go_at_call 63; refine (l1In_any _ _ _ _).mono ?_; rintro e w' ⟨rfl, rfl⟩)
            go_ret
            exact ⟨ret_int HR.out.symm, hbel⟩
          · have hx := inB_true.1 hx0
            have HX := Lib.hid hx0
            rcases Nat.mod_two_eq_zero_or_one (kk / 2 ^ k) with h0 | h0
            · rw [h0] at hbit hbit2
              have HU := Lib.hid (show stepF kk k u zs[k] = nodeF u zs[k] by rw [stepF, if_neg (by omega)])
              clear h0
              go_wp2_with fail
              refine (l1In_any _ _ _ _).mono ?_
              rintro e w' ⟨rfl, rfl⟩
              rw [HX.out]
              go_wp2_with fail
              refine (l3Node_any _ _ _ hs hx).mono ?_
              rintro e w2 ⟨rfl, hb2⟩
              rw [← HU.out, ← HS.out]
              go_wp2
              go_roundw
              case rel => exact ⟨k + 1, by omega, by go_num, rfl, fun j h hj => by
                by_cases e : j = k
                · subst e; exact HX.out
                · exact HA.out j h (by omega), hbel.trans (hb2.mono hsz)⟩
              case measure => simp [intOf]; omega
            · rw [h0] at hbit hbit2
              have HU := Lib.hid (show stepF kk k u zs[k] = nodeF zs[k] u by rw [stepF, if_pos h0])
              clear h0
              go_wp2_with fail
              refine (l1In_any _ _ _ _).mono ?_
              rintro e w' ⟨rfl, rfl⟩
              rw [HX.out]
              go_wp2_with fail
              refine (l3Node_any _ _ _ hx hs).mono ?_
              rintro e w2 ⟨rfl, hb2⟩
              rw [← HU.out, ← HS.out]
              go_wp2
              go_roundw
              case rel => exact ⟨k + 1, by omega, by go_num, rfl, fun j h hj => by
                by_cases e : j = k
                · subst e; exact HX.out
                · exact HA.out j h (by omega), hbel.trans (hb2.mono hsz)⟩
              case measure => simp [intOf]; omega
        · obtain rfl : k = 5 := by omega
          have HR := Lib.hid (show proofRootF kk value zs = upF kk q 0 (zs.take 5) by
            have : zs.all okSum = true := List.all_eq_true.2 (fun x hx => by obtain ⟨j, hj, rfl⟩ := List.getElem_of_mem hx; exact HA.out j hj (by omega))
            rw [HF.out, this, List.take_of_length_le hle]; rfl)
          go_wp2
          go_ret
          exact ⟨ret_int (by rw [HR.out]), hbel⟩
    · have H := Lib.hid (show proofRootF key value zs = -1 by simp [proofRootF, h5])
      have hne : ((zs.length : Int) != 5) = true := by rw [bne_iff_ne]; omega
      go_enter Try.func17, Try.ntmps17
      go_wp2_with fail
      refine (specLeafSum_any _ _ _).mono ?_
      rintro e w1 ⟨rfl, hb1⟩
      rw [hlf.out]
      generalize sumF 1 [key, value] = q at *
      go_wp2
      go_ret
      exact ⟨ret_int H.out.symm, hb1⟩

set_option maxRecDepth 100000 in
set_option maxHeartbeats 800000 in
theorem specProofRight_any (root key value : Int) (A : Option Addr) (c : Nat) (zs : List Int) (w : World) (hz : IntsAt w A zs) (hn : zs.length ≤ 4294967296) :
    Calls Try.prog 26 #[.int .i64 root, .int .i64 key, .int .i64 value, .slice A zs.length c] w fun e w' => e = .returned (.bool (proofRightF root key value zs)) ∧ Below w.heap.size w w' := by
  have HF := Lib.hid (show proofRightF root key value zs = (decide (0 ≤ root) && (proofRootF key value zs == root)) from rfl)
  by_cases hr : 0 ≤ root
  · have hd : decide (0 ≤ root) = true := decide_eq_true hr
    rw [hd] at HF
    go_enter Try.func26, Try.ntmps26
    go_wp2_with fail
    refine (specProofRoot_any _ _ _ _ _ _ hz hn).mono ?_
    rintro e w1 ⟨rfl, hb1⟩
    generalize proofRootF key value zs = q at *
    go_wp2
    go_ret
    exact ⟨ret_bool (by rw [HF.out]; simp), hb1⟩
  · have hd : decide (0 ≤ root) = false := decide_eq_false hr
    rw [hd] at HF
    go_enter Try.func26, Try.ntmps26
    go_wp2
    go_ret
    exact ⟨ret_bool (by rw [HF.out]; simp), Below.refl _ _⟩

end Go.Proofs.Ytpomiglcplbdbaa
