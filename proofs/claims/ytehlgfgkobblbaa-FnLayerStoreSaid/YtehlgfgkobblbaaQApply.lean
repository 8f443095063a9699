/- Contracts of ApplyEffect in both packages, of l4Writes. -/
import Derived.Test.YtehlgfgkobblbaaQPut2
import Derived.Test.YtehlgfgkobblbaaQBase
import Derived.Deep.RegionHeld3
namespace Go.Proofs.Ytehlgfgkobblbaa
open Go.RowKit

set_option maxRecDepth 100000 in
set_option maxHeartbeats 1000000 in
theorem l4Writes_any (A : Option Addr) (c : Nat) (es : List Ent) (w : World) (hz : EntsAt w A es) (hn : es.length ≤ 4294967296) :
    Calls Try.prog 35 #[.slice A es.length c] w fun e w' => e = .returned (.bool (entsOk 0 (-1) es)) ∧ DrewOf w w' := by
  go_enter Try.func35, Try.ntmps35
  go_wp2
  go_loopw [3] (fun i wr => ∃ k : Nat, ∃ last : Int, k ≤ es.length ∧ i = .int .i64 k ∧ (k = 0 → last = -1) ∧ (∀ (h0 : 0 < k) (h : k - 1 < es.length), last = es[k-1].1) ∧ -1 ≤ last ∧ last ≤ 31 ∧ entsOk 0 (-1) es = entsOk 0 last (es.drop k) ∧ DrewOf w wr) (fun i _ => es.length - (intOf i).toNat)
  case atStart => exact ⟨0, -1, Nat.zero_le _, rfl, fun _ => rfl, fun h => by omega, by omega, by omega, rfl, DrewOf.refl _⟩
  case round =>
    obtain ⟨k, last, hk, rfl, hp0, hp1, hl0, hl1, hok, hdr⟩ := hrel
    have HO := Lib.hid hok
    have HP0 := Lib.hid hp0
    have HP1 := Lib.hid hp1
    clear hok hp0 hp1
    by_cases hlt : k < es.length
    · have hd := Lib.hid (show es.drop k = es[k] :: es.drop (k + 1) from List.drop_eq_getElem_cons hlt)
      obtain ⟨b, o, rfl, hb, hc⟩ := (hz.below (hdr.below _)).at_ hlt
      have HC := Lib.hid hc
      clear hc
      obtain ⟨hcell, hcell2⟩ := HC.out k hlt
      cases h1 : inB es[k].1 0 31
      · have HF := Lib.hid (show entsOk 0 (-1) es = false by
          have := inB_false.1 h1
          rw [HO.out, hd.out, entsOk, inB_false.2 (by omega)]; simp)
        go_wp2
        go_quiet ((go_at_call 34; exact quiet_same (l1In_any _ _ _ _)))
        go_wp2
        go_ret
        exact ⟨ret_bool HF.out.symm, hdr.drewN _⟩
      · cases h2 : inB es[k].2 0 1000000
        · have HF := Lib.hid (show entsOk 0 (-1) es = false by
            rw [HO.out, hd.out, entsOk, h2]; simp)
          go_wp2
          go_quiet ((go_at_call 34; exact quiet_same (l1In_any _ _ _ _)))
          go_wp2
          go_ret
          exact ⟨ret_bool HF.out.symm, hdr.drewN _⟩
        · have hb1 := inB_true.1 h1
          by_cases hk0 : k = 0
          · have hdec : decide (0 < k) = false := by simp; omega
            have HF := Lib.hid (show entsOk 0 (-1) es = entsOk 0 es[k].1 (es.drop (k + 1)) by
              have := HP0.out hk0
              rw [HO.out, hd.out, entsOk, h2, inB_true.2 (by omega)]; simp)
            have HK := Lib.hid hk0
            clear hk0
            go_wp2
            go_quiet ((go_at_call 34; exact quiet_same (l1In_any _ _ _ _)))
            go_wp2
            go_roundw
            case rel => exact ⟨k + 1, es[k].1, by omega, by go_num, fun h => by omega, fun _ _ => rfl, by omega, by omega, HF.out, hdr.drewN _⟩
            case measure => simp [intOf]; omega
          · obtain ⟨p, rfl⟩ : ∃ p, k = p + 1 := ⟨k - 1, by omega⟩
            obtain ⟨hcell3, _⟩ := HC.out p (by omega)
            have hlast : last = es[p].1 := HP1.out (by omega) (by simp; omega)
            have HL := Lib.hid hlast
            have hpk : p < es.length := by omega
            clear hlast
            cases h3 : decide (es[p + 1].1 ≤ es[p].1)
            · have HF := Lib.hid (show entsOk 0 (-1) es = entsOk 0 es[p + 1].1 (es.drop (p + 1 + 1)) by
                have h4 := of_decide_eq_false h3
                rw [HO.out, hd.out, entsOk, h2, inB_true.2 (by rw [HL.out]; omega)]; simp)
              go_wp2
              go_quiet ((go_at_call 34; exact quiet_same (l1In_any _ _ _ _)))
              go_wp2
              go_roundw
              case rel => exact ⟨p + 1 + 1, es[p + 1].1, by omega, by go_num, fun h => by omega, fun _ _ => rfl, by omega, by omega, HF.out, hdr.drewN _⟩
              case measure => simp [intOf]; omega
            · have HF := Lib.hid (show entsOk 0 (-1) es = false by
                have h4 := of_decide_eq_true h3
                rw [HO.out, hd.out, entsOk, inB_false.2 (by rw [HL.out]; omega)]; simp)
              go_wp2
              go_quiet ((go_at_call 34; exact quiet_same (l1In_any _ _ _ _)))
              go_wp2
              go_ret
              exact ⟨ret_bool HF.out.symm, hdr.drewN _⟩
    · have HF := Lib.hid (show entsOk 0 (-1) es = true by rw [HO.out, List.drop_of_length_le (by omega)]; rfl)
      go_wp2
      go_ret
      exact ⟨ret_bool HF.out.symm, hdr⟩

/-- A valid store with what is written; nothing for others. -/
def applyF (s ws : List Ent) : List Ent := if entsOk 1 (-1) s && entsOk 0 (-1) ws then storeOf (setAll (toV s) ws) else []
theorem applyF_length (s ws : List Ent) : (applyF s ws).length ≤ 32 := by
  unfold applyF; split
  · exact storeOf_length (by rw [setAll_length, toV_length])
  · simp
def accF (s ws : List Ent) (k : Nat) : List Ent := storeOf (setAll (toV s) (ws.take k))
theorem entsOk_taken {least last : Int} {a : List Ent} (h : entsOk least last a = true) (k : Nat) : entsOk least last (a.take k) = true := by
  induction a generalizing last k with
  | nil => simpa using h
  | cons e es ih =>
    cases k with
    | zero => rfl
    | succ k =>
      rw [entsOk_cons] at h
      rw [List.take_succ_cons, entsOk_cons]
      exact ⟨h.1, h.2.1, ih h.2.2 k⟩
theorem accV_ok {s ws : List Ent} (h1 : entsOk 1 (-1) s = true) (h2 : entsOk 0 (-1) ws = true) (k : Nat) : vOk (setAll (toV s) (ws.take k)) :=
  setAll_ok (entsOk_taken h2 k) (by omega) (toV_ok h1 (by omega))
theorem accF_zero {s ws : List Ent} (h1 : entsOk 1 (-1) s = true) : accF s ws 0 = s := by
  unfold accF
  rw [List.take_zero]
  exact storeOf_toV h1
theorem accF_length (s ws : List Ent) (k : Nat) : (accF s ws k).length ≤ 32 := storeOf_length (by rw [setAll_length, toV_length])
theorem accF_step {s ws : List Ent} (h1 : entsOk 1 (-1) s = true) (h2 : entsOk 0 (-1) ws = true) (k : Nat) (hk : k < ws.length) : putF ws[k].1 ws[k].2 (decide (ws[k].2 = 0)) (accF s ws k) = accF s ws (k + 1) := by
  have hv := accV_ok h1 h2 k
  have hb1 := keysOk_of h2 ws[k] (List.getElem_mem hk)
  have hb2 := valsOk_of (by omega) h2 ws[k] (List.getElem_mem hk)
  unfold accF
  rw [put_store (storeOf_ok hv) hb1.1 hb1.2 hb2.1 hb2.2, toV_storeOf hv, setAll_snoc (toV s) ws k hk]
theorem accF_end {s ws : List Ent} (h1 : entsOk 1 (-1) s = true) (h2 : entsOk 0 (-1) ws = true) : accF s ws ws.length = applyF s ws := by
  unfold accF applyF
  rw [List.take_length, h1, h2]
  rfl



end Go.Proofs.Ytehlgfgkobblbaa
