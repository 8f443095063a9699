/- Contracts of the stores: entriesValid, StoreValid in both packages. -/
import Derived.Test.YtpomiglcplbdbaaQBase
import Derived.Deep.QuietTactic
import Derived.BigQuiet
namespace Go.Proofs.Ytpomiglcplbdbaa
open Go.RowKit

set_option maxRecDepth 100000 in
set_option maxHeartbeats 400000 in
theorem entriesValid_any (A : Option Addr) (c : Nat) (es : List Ent) (least : Int) (w : World) (hz : EntsAt w A es) (hn : es.length ≤ 4294967296) :
    Calls Try.prog 81 #[.slice A es.length c, .int .i64 least] w fun e w' => e = .returned (.bool (entsOk least (-1) es)) ∧ Below w.heap.size w w' := by
  go_enter Try.func81, Try.ntmps81
  go_wp2
  go_loopw [5, 10] (fun l i wr => ∃ k : Nat, ∃ last : Int, k ≤ es.length ∧ i = .int .i64 k ∧ l = .int .i64 last ∧ -1 ≤ last ∧ last ≤ 31 ∧ entsOk least (-1) es = entsOk least last (es.drop k) ∧ Below w.heap.size w wr) (fun _ i _ => es.length - (intOf i).toNat)
  case atStart => exact ⟨0, -1, Nat.zero_le _, rfl, rfl, by omega, by omega, rfl, Below.refl _ _⟩
  case round =>
    obtain ⟨k, last, hk, rfl, rfl, hl0, hl1, hok, hbel⟩ := hrel
    have HO := Lib.hid hok
    clear hok
    by_cases hlt : k < es.length
    · obtain ⟨b, o, rfl, hb, hc⟩ := (hz.below hbel).at_ hlt
      obtain ⟨hcell, hcell2⟩ := hc k hlt
      clear hc
      have hd : es.drop k = es[k] :: es.drop (k + 1) := List.drop_eq_getElem_cons hlt
      cases h1 : inB es[k].1 (last + 1) 31 <;> cases h2 : inB es[k].2 least 1000000
      case true.true =>
        have HF := Lib.hid (show entsOk least (-1) es = entsOk least es[k].1 (es.drop (k + 1)) by rw [HO.out, hd]; simp [entsOk, h1, h2])
        have b1 := inB_true.1 h1
        clear hd
        go_wp2_with (go_at_call 96; refine (in_any _ _ _ _).mono ?_; rintro e w' ⟨rfl, rfl⟩)
        go_roundw
        case rel => exact ⟨k + 1, es[k].1, by omega, by go_num, rfl, by omega, by omega, HF.out, hbel.alloc hbel.size _⟩
        case measure => simp [intOf]; omega
      all_goals
        have HF := Lib.hid (show entsOk least (-1) es = false by rw [HO.out, hd]; simp [entsOk, h1, h2])
        clear hd
        go_wp2_with (go_at_call 96; refine (in_any _ _ _ _).mono ?_; rintro e w' ⟨rfl, rfl⟩)
        go_ret
        exact ⟨ret_bool HF.out.symm, hbel.alloc hbel.size _⟩
    · have HF := Lib.hid (show entsOk least (-1) es = true by rw [HO.out, List.drop_of_length_le (by omega)]; rfl)
      go_wp2
      go_ret
      exact ⟨ret_bool HF.out.symm, hbel⟩

set_option maxRecDepth 100000 in
set_option maxHeartbeats 400000 in
theorem StoreValid_any (A : Option Addr) (c : Nat) (es : List Ent) (w : World) (hz : EntsAt w A es) (hn : es.length ≤ 4294967296) :
    Calls Try.prog 42 #[.slice A es.length c] w fun e w' => e = .returned (.bool (entsOk 1 (-1) es)) ∧ Below w.heap.size w w' := by
  go_enter Try.func42, Try.ntmps42
  go_wp2_with (go_at_call 81; refine (entriesValid_any _ _ _ _ _ hz hn).mono ?_; rintro e w' ⟨rfl, hb⟩)
  go_ret
  exact ⟨rfl, hb⟩

set_option maxRecDepth 100000 in
set_option maxHeartbeats 1000000 in
theorem specStoreValid_any (A : Option Addr) (c : Nat) (es : List Ent) (w : World) (hz : EntsAt w A es) (hn : es.length ≤ 4294967296) :
    Calls Try.prog 27 #[.slice A es.length c] w fun e w' => e = .returned (.bool (entsOk 1 (-1) es)) ∧ DrewOf w w' := by
  go_enter Try.func27, Try.ntmps27
  go_wp2
  go_loopw [3] (fun i wr => ∃ k : Nat, ∃ last : Int, k ≤ es.length ∧ i = .int .i64 k ∧ (k = 0 → last = -1) ∧ (∀ (h0 : 0 < k) (h : k - 1 < es.length), last = es[k-1].1) ∧ -1 ≤ last ∧ last ≤ 31 ∧ entsOk 1 (-1) es = entsOk 1 last (es.drop k) ∧ DrewOf w wr) (fun i _ => es.length - (intOf i).toNat)
  case atStart => exact ⟨0, -1, Nat.zero_le _, rfl, fun _ => rfl, fun h => by omega, by omega, by omega, rfl, DrewOf.refl _⟩
  case round =>
    obtain ⟨k, last, hk, rfl, hp0, hp1, hl0, hl1, hok, hdr⟩ := hrel
    have HO := Lib.hid hok
    have HP0 := Lib.hid hp0
    have HP1 := Lib.hid hp1
    clear hok hp0 hp1
    by_cases hlt : k < es.length
    · have hd := Lib.hid (show es.drop k = es[k] :: es.drop (k + 1) from List.drop_eq_getElem_cons hlt)
      obtain ⟨b, o, rfl, hb, hc⟩ := (hz.below (hdr.below _)).at_ hlt
      have HC := Lib.hid hc
      clear hc
      obtain ⟨hcell, hcell2⟩ := HC.out k hlt
      cases h1 : inB es[k].1 0 31
      · have HF := Lib.hid (show entsOk 1 (-1) es = false by
          have := inB_false.1 h1
          rw [HO.out, hd.out, entsOk, inB_false.2 (by omega)]; simp)
        go_wp2
        go_quiet ((go_at_call 63; exact quiet_same (l1In_any _ _ _ _)))
        go_wp2
        go_ret
        exact ⟨ret_bool HF.out.symm, hdr.drewN _⟩
      · cases h2 : inB es[k].2 1 1000000
        · have HF := Lib.hid (show entsOk 1 (-1) es = false by
            rw [HO.out, hd.out, entsOk, h2]; simp)
          go_wp2
          go_quiet ((go_at_call 63; exact quiet_same (l1In_any _ _ _ _)))
          go_wp2
          go_ret
          exact ⟨ret_bool HF.out.symm, hdr.drewN _⟩
        · have hb1 := inB_true.1 h1
          by_cases hk0 : k = 0
          · have hdec : decide (0 < k) = false := by simp; omega
            have HF := Lib.hid (show entsOk 1 (-1) es = entsOk 1 es[k].1 (es.drop (k + 1)) by
              have := HP0.out hk0
              rw [HO.out, hd.out, entsOk, h2, inB_true.2 (by omega)]; simp)
            have HK := Lib.hid hk0
            clear hk0
            go_wp2
            go_quiet ((go_at_call 63; exact quiet_same (l1In_any _ _ _ _)))
            go_wp2
            go_roundw
            case rel => exact ⟨k + 1, es[k].1, by omega, by go_num, fun h => by omega, fun _ _ => rfl, by omega, by omega, HF.out, hdr.drewN _⟩
            case measure => simp [intOf]; omega
          · obtain ⟨p, rfl⟩ : ∃ p, k = p + 1 := ⟨k - 1, by omega⟩
            obtain ⟨hcell3, _⟩ := HC.out p (by omega)
            have hlast : last = es[p].1 := HP1.out (by omega) (by simp; omega)
            have HL := Lib.hid hlast
            have hpk : p < es.length := by omega
            clear hlast
            cases h3 : decide (es[p + 1].1 ≤ es[p].1)
            · have HF := Lib.hid (show entsOk 1 (-1) es = entsOk 1 es[p + 1].1 (es.drop (p + 1 + 1)) by
                have h4 := of_decide_eq_false h3
                rw [HO.out, hd.out, entsOk, h2, inB_true.2 (by rw [HL.out]; omega)]; simp)
              go_wp2
              go_quiet ((go_at_call 63; exact quiet_same (l1In_any _ _ _ _)))
              go_wp2
              go_roundw
              case rel => exact ⟨p + 1 + 1, es[p + 1].1, by omega, by go_num, fun h => by omega, fun _ _ => rfl, by omega, by omega, HF.out, hdr.drewN _⟩
              case measure => simp [intOf]; omega
            · have HF := Lib.hid (show entsOk 1 (-1) es = false by
                have h4 := of_decide_eq_true h3
                rw [HO.out, hd.out, entsOk, inB_false.2 (by rw [HL.out]; omega)]; simp)
              go_wp2
              go_quiet ((go_at_call 63; exact quiet_same (l1In_any _ _ _ _)))
              go_wp2
              go_ret
              exact ⟨ret_bool HF.out.symm, hdr.drewN _⟩
    · have HF := Lib.hid (show entsOk 1 (-1) es = true by rw [HO.out, List.drop_of_length_le (by omega)]; rfl)
      go_wp2
      go_ret
      exact ⟨ret_bool HF.out.symm, hdr⟩

end Go.Proofs.Ytpomiglcplbdbaa
