/- Contracts of EffectsSum in both packages. -/
import Derived.Test.YtmmfblkgappljaaEffs
import Derived.Test.YtmmfblkgappljaaEffSum2
namespace Go.Proofs.Ytmmfblkgappljaa
open Go.ChangeShapes Go.WideShapes Go.ChangeAt Go.RowKit Go.Deep

def effsSumF (xs : List EffT) : Int := if 10 < xs.length then -1 else sumOfF 4 (xs.map effSumF)
def sumsK (zs : List EffA) (k : Nat) : List Int := ((effsT zs).take k).map effSumF
theorem sumsK_len (zs : List EffA) (k : Nat) (hk : k ≤ zs.length) : (sumsK zs k).length = k := by
  unfold sumsK; rw [List.length_map, List.length_take, List.length_map]; omega
theorem sumsK_succ (zs : List EffA) (k : Nat) (hk : k < zs.length) : sumsK zs (k + 1) = sumsK zs k ++ [effSumF zs[k].1] := by
  unfold sumsK; rw [List.take_succ_eq_append_getElem (by simpa using hk)]; simp
theorem sumsK_all (zs : List EffA) : sumsK zs zs.length = (effsT zs).map effSumF := by
  unfold sumsK; rw [List.take_of_length_le (by simp)]

set_option maxRecDepth 100000 in
set_option maxHeartbeats 1600000 in
theorem specEffectsSum_any (A : Option Addr) (c : Nat) (zs : List EffA) (w : World) (hz : EffsAt w A zs) (hn : zs.length ≤ 16777216) (hl : ∀ z ∈ zs, z.1.2.1.length ≤ 16777216 ∧ z.1.2.2.length ≤ 16777216) :
    Calls Try.prog 42 #[.slice A zs.length c] w fun e w' => e = .returned (.int .i64 (effsSumF (effsT zs))) ∧ Below w.heap.size w w' := by
  have HZ := Lib.hid hz
  have HL := Lib.hid hl
  have HE := Lib.hid (own_empty w w.heap.size 3 1 (Nat.le_refl _))
  have HF := Lib.hid (show effsSumF (effsT zs) = if 10 < zs.length then -1 else sumOfF 4 (sumsK zs zs.length) by unfold effsSumF; rw [sumsK_all, List.length_map])
  clear hz hl
  go_enter Try.func42, Try.ntmps42
  go_wp2
  go_loopw [3, 4] (fun out i wr => ∃ (k : Nat), k ≤ zs.length ∧ i = .int .i64 k ∧ (∃ A c, out = .slice A k c ∧ wr.ownsRow w.heap.size 3 1 (.slice A k c) k ((sumsK zs k).map (.int .i64))) ∧ Below w.heap.size w wr) (fun _ i _ => zs.length - (intOf i).toNat)
  case atStart => exact ⟨0, Nat.zero_le _, rfl, ⟨_, _, rfl, HE.out⟩, (Below.refl _ _).alloc (Nat.le_refl _) _⟩
  case round =>
    obtain ⟨k, hk, rfl, ⟨A5, c5, rfl, ho⟩, hB⟩ := hrel
    by_cases hlt : k < zs.length
    · obtain ⟨b, o, rfl, hb, hc⟩ := (HZ.out.below hB).at_ hlt
      obtain ⟨c0, c1, c2⟩ := hc k hlt
      clear hc
      have hok := (HZ.out.2 zs[k] (List.getElem_mem hlt)).below hB
      have hll := HL.out zs[k] (List.getElem_mem hlt)
      have HS := Lib.hid (sumsK_succ zs k hlt)
      have hk0 : (0 : Int) ≤ (k : Int) := by omega
      have hk1 : (k : Int) < (zs.length : Int) := by omega
      have hkn : k < 4294967296 := by omega
      generalize zs[k] = z at *
      go_wp2_with fail
      refine (specEffectSum_any z.1 _ _ _ _ _ hok.2.2.1 hok.2.2.2 hll.1 hll.2).mono ?_
      rintro e w2 ⟨rfl, hb2⟩
      have HO2 := Lib.hid (own_below ho hb2)
      have HB2 := Lib.hid (hB.trans (hb2.mono hB.size))
      have hsz2 : w.heap.size ≤ w2.heap.size := HB2.out.size
      clear ho hB hb2 hok c0 c1 c2
      generalize effSumF z.1 = q at *
      go_wp2_with (at_builtin; refine wpList_push_int intRow rfl _ _ rfl w.heap.size _ _ _ rfl HO2.out _ q rfl hkn hsz2 ?_; intro v3 w3 ho3 hb3 hg3 hs3)
      obtain ⟨A3, c3, rfl⟩ := own_form ho3
      have HO3 := Lib.hid (show w3.ownsRow w.heap.size 3 1 (.slice A3 (k + 1) c3) (k + 1) ((sumsK zs (k + 1)).map (.int .i64)) by rw [HS.out, List.map_append]; exact ho3)
      have HB3 := Lib.hid (HB2.out.trans hb3)
      clear ho3 hb3 hg3
      go_wp2
      go_roundw
      case rel => exact ⟨k + 1, by omega, by go_num, ⟨A3, c3, rfl, HO3.out⟩, HB3.out⟩
      case measure => simp [intOf]; omega
    · obtain rfl : k = zs.length := by omega
      by_cases h10 : 10 < zs.length
      · have HF2 := Lib.hid (show effsSumF (effsT zs) = -1 by rw [HF.out, if_pos h10])
        have hd : (10 : Int) < (zs.length : Int) := by omega
        go_wp2
        go_ret
        exact ⟨ret_int HF2.out.symm, hB⟩
      · have HF2 := Lib.hid (show effsSumF (effsT zs) = sumOfF 4 (sumsK zs zs.length) by rw [HF.out, if_neg h10])
        have hd : ¬ ((10 : Int) < (zs.length : Int)) := by omega
        have hlen := sumsK_len zs zs.length (Nat.le_refl _)
        have hI := ints_of_own ho
        have HLEN := Lib.hid hlen
        have hsm : (sumsK zs zs.length).length ≤ 4294967296 := by omega
        generalize sumsK zs zs.length = M at *
        go_wp2_with fail
        refine ((show Calls Try.prog 63 #[.int .i64 4, .slice A5 zs.length c5] wr _ by rw [← HLEN.out]; exact specSumOf_any 4 A5 c5 M wr hI hsm)).mono ?_
        rintro e w' ⟨rfl, rfl⟩
        go_wp2
        go_ret
        exact ⟨ret_int HF2.out.symm, hB⟩

set_option maxRecDepth 100000 in
set_option maxHeartbeats 1600000 in
theorem EffectsSum_any (A : Option Addr) (c : Nat) (zs : List EffA) (w : World) (hz : EffsAt w A zs) (hn : zs.length ≤ 16777216) (hl : ∀ z ∈ zs, z.1.2.1.length ≤ 16777216 ∧ z.1.2.2.length ≤ 16777216) :
    Calls Try.prog 43 #[.slice A zs.length c] w fun e w' => e = .returned (.int .i64 (effsSumF (effsT zs))) ∧ Below w.heap.size w w' := by
  have HZ := Lib.hid hz
  have HL := Lib.hid hl
  have HF := Lib.hid (show effsSumF (effsT zs) = if 10 < zs.length then -1 else sumOfF 4 (sumsK zs zs.length) by unfold effsSumF; rw [sumsK_all, List.length_map])
  clear hz hl
  by_cases h10 : 10 < zs.length
  · have HF2 := Lib.hid (show effsSumF (effsT zs) = -1 by rw [HF.out, if_pos h10])
    have hd : (10 : Int) < (zs.length : Int) := by omega
    go_enter Try.func43, Try.ntmps43
    go_wp2
    go_ret
    exact ⟨ret_int HF2.out.symm, Below.refl _ _⟩
  · have HF2 := Lib.hid (show effsSumF (effsT zs) = sumOfF 4 (sumsK zs zs.length) by rw [HF.out, if_neg h10])
    have hd : ¬ ((10 : Int) < (zs.length : Int)) := by omega
    go_enter Try.func43, Try.ntmps43
    go_wp2
    go_loopw [3, 11] (fun out i wr => ∃ (k : Nat), k ≤ zs.length ∧ i = .int .i64 k ∧ (∃ A c, out = .slice A k c ∧ wr.ownsRow w.heap.size 3 1 (.slice A k c) k ((sumsK zs k).map (.int .i64))) ∧ Below w.heap.size w wr) (fun _ i _ => zs.length - (intOf i).toNat)
    case atStart => exact ⟨0, Nat.zero_le _, rfl, ⟨none, 0, rfl, World.ownsRow_nil _ _ _ _⟩, Below.refl _ _⟩
    case round =>
      obtain ⟨k, hk, rfl, ⟨A5, c5, rfl, ho⟩, hB⟩ := hrel
      by_cases hlt : k < zs.length
      · obtain ⟨b, o, rfl, hb, hc⟩ := (HZ.out.below hB).at_ hlt
        obtain ⟨c0, c1, c2⟩ := hc k hlt
        clear hc
        have hbx : Below wr.heap.size wr (wr.alloc (.cells #[.bool zs[k].1.1, .slice zs[k].2.1.1 zs[k].1.2.1.length zs[k].2.1.2, .slice zs[k].2.2.1 zs[k].1.2.2.length zs[k].2.2.2] 43)) := (Below.refl _ _).alloc (Nat.le_refl _) _
        have hok := ((HZ.out.2 zs[k] (List.getElem_mem hlt)).below hB).below hbx
        have hll := HL.out zs[k] (List.getElem_mem hlt)
        have HS := Lib.hid (sumsK_succ zs k hlt)
        have hk0 : (0 : Int) ≤ (k : Int) := by omega
        have hk1 : (k : Int) < (zs.length : Int) := by omega
        have hkn : k < 4294967296 := by omega
        have HBX := Lib.hid hbx
        clear hbx
        generalize zs[k] = z at *
        go_wp2_with fail
        refine (EffectSum_any z.1 _ _ _ _ _ hok.2.2.1 hok.2.2.2 hll.1 hll.2).mono ?_
        rintro e w2 ⟨rfl, hb2⟩
        have HO2 := Lib.hid (own_below (ho.alloc _) hb2)
        have HB1 := Lib.hid (hB.trans (HBX.out.mono hB.size))
        have HB2 := Lib.hid (HB1.out.trans (hb2.mono HB1.out.size))
        have hsz2 : w.heap.size ≤ w2.heap.size := HB2.out.size
        clear ho hB hb2 hok c0 c1 c2
        generalize effSumF z.1 = q at *
        go_wp2_with (at_builtin; refine wpList_push_int intRow rfl _ _ rfl w.heap.size _ _ _ rfl HO2.out _ q rfl hkn hsz2 ?_; intro v3 w3 ho3 hb3 hg3 hs3)
        obtain ⟨A3, c3, rfl⟩ := own_form ho3
        have HO3 := Lib.hid (show w3.ownsRow w.heap.size 3 1 (.slice A3 (k + 1) c3) (k + 1) ((sumsK zs (k + 1)).map (.int .i64)) by rw [HS.out, List.map_append]; exact ho3)
        have HB3 := Lib.hid (HB2.out.trans hb3)
        clear ho3 hb3 hg3
        go_wp2
        go_roundw
        case rel => exact ⟨k + 1, by omega, by go_num, ⟨A3, c3, rfl, HO3.out⟩, HB3.out⟩
        case measure => simp [intOf]; omega
      · obtain rfl : k = zs.length := by omega
        have hlen := sumsK_len zs zs.length (Nat.le_refl _)
        have hI := ints_of_own ho
        have HLEN := Lib.hid hlen
        have hsm : (sumsK zs zs.length).length ≤ 4294967296 := by omega
        generalize sumsK zs zs.length = M at *
        go_wp2_with fail
        refine ((show Calls Try.prog 65 #[.int .i64 4, .slice A5 zs.length c5] wr _ by rw [← HLEN.out]; exact SumOf_any 4 A5 c5 M wr hI hsm)).mono ?_
        rintro e w' ⟨rfl, rfl⟩
        go_wp2
        go_ret
        exact ⟨ret_int HF2.out.symm, hB⟩

end Go.Proofs.Ytmmfblkgappljaa
