/- Contracts of ApplyEffect in both packages, of l4Writes. -/
import Derived.Test.YtpomiglcplbdbaaQPut2
import Derived.Test.YtpomiglcplbdbaaQBase
import Derived.Deep.RegionHeld3
namespace Go.Proofs.Ytpomiglcplbdbaa
open Go.RowKit

set_option maxRecDepth 100000 in
set_option maxHeartbeats 1000000 in
theorem l4Writes_any (A : Option Addr) (c : Nat) (es : List Ent) (w : World) (hz : EntsAt w A es) (hn : es.length ≤ 4294967296) :
    Calls Try.prog 86 #[.slice A es.length c] w fun e w' => e = .returned (.bool (entsOk 0 (-1) es)) ∧ DrewOf w w' := by
  go_enter Try.func86, Try.ntmps86
  go_wp2
  go_loopw [3] (fun i wr => ∃ k : Nat, ∃ last : Int, k ≤ es.length ∧ i = .int .i64 k ∧ (k = 0 → last = -1) ∧ (∀ (h0 : 0 < k) (h : k - 1 < es.length), last = es[k-1].1) ∧ -1 ≤ last ∧ last ≤ 31 ∧ entsOk 0 (-1) es = entsOk 0 last (es.drop k) ∧ DrewOf w wr) (fun i _ => es.length - (intOf i).toNat)
  case atStart => exact ⟨0, -1, Nat.zero_le _, rfl, fun _ => rfl, fun h => by omega, by omega, by omega, rfl, DrewOf.refl _⟩
  case round =>
    obtain ⟨k, last, hk, rfl, hp0, hp1, hl0, hl1, hok, hdr⟩ := hrel
    have HO := Lib.hid hok
    have HP0 := Lib.hid hp0
    have HP1 := Lib.hid hp1
    clear hok hp0 hp1
    by_cases hlt : k < es.length
    · have hd := Lib.hid (show es.drop k = es[k] :: es.drop (k + 1) from List.drop_eq_getElem_cons hlt)
      obtain ⟨b, o, rfl, hb, hc⟩ := (hz.below (hdr.below _)).at_ hlt
      have HC := Lib.hid hc
      clear hc
      obtain ⟨hcell, hcell2⟩ := HC.out k hlt
      cases h1 : inB es[k].1 0 31
      · have HF := Lib.hid (show entsOk 0 (-1) es = false by
          have := inB_false.1 h1
          rw [HO.out, hd.out, entsOk, inB_false.2 (by omega)]; simp)
        go_wp2
        go_quiet ((go_at_call 63; exact quiet_same (l1In_any _ _ _ _)))
        go_wp2
        go_ret
        exact ⟨ret_bool HF.out.symm, hdr.drewN _⟩
      · cases h2 : inB es[k].2 0 1000000
        · have HF := Lib.hid (show entsOk 0 (-1) es = false by
            rw [HO.out, hd.out, entsOk, h2]; simp)
          go_wp2
          go_quiet ((go_at_call 63; exact quiet_same (l1In_any _ _ _ _)))
          go_wp2
          go_ret
          exact ⟨ret_bool HF.out.symm, hdr.drewN _⟩
        · have hb1 := inB_true.1 h1
          by_cases hk0 : k = 0
          · have hdec : decide (0 < k) = false := by simp; omega
            have HF := Lib.hid (show entsOk 0 (-1) es = entsOk 0 es[k].1 (es.drop (k + 1)) by
              have := HP0.out hk0
              rw [HO.out, hd.out, entsOk, h2, inB_true.2 (by omega)]; simp)
            have HK := Lib.hid hk0
            clear hk0
            go_wp2
            go_quiet ((go_at_call 63; exact quiet_same (l1In_any _ _ _ _)))
            go_wp2
            go_roundw
            case rel => exact ⟨k + 1, es[k].1, by omega, by go_num, fun h => by omega, fun _ _ => rfl, by omega, by omega, HF.out, hdr.drewN _⟩
            case measure => simp [intOf]; omega
          · obtain ⟨p, rfl⟩ : ∃ p, k = p + 1 := ⟨k - 1, by omega⟩
            obtain ⟨hcell3, _⟩ := HC.out p (by omega)
            have hlast : last = es[p].1 := HP1.out (by omega) (by simp; omega)
            have HL := Lib.hid hlast
            have hpk : p < es.length := by omega
            clear hlast
            cases h3 : decide (es[p + 1].1 ≤ es[p].1)
            · have HF := Lib.hid (show entsOk 0 (-1) es = entsOk 0 es[p + 1].1 (es.drop (p + 1 + 1)) by
                have h4 := of_decide_eq_false h3
                rw [HO.out, hd.out, entsOk, h2, inB_true.2 (by rw [HL.out]; omega)]; simp)
              go_wp2
              go_quiet ((go_at_call 63; exact quiet_same (l1In_any _ _ _ _)))
              go_wp2
              go_roundw
              case rel => exact ⟨p + 1 + 1, es[p + 1].1, by omega, by go_num, fun h => by omega, fun _ _ => rfl, by omega, by omega, HF.out, hdr.drewN _⟩
              case measure => simp [intOf]; omega
            · have HF := Lib.hid (show entsOk 0 (-1) es = false by
                have h4 := of_decide_eq_true h3
                rw [HO.out, hd.out, entsOk, inB_false.2 (by rw [HL.out]; omega)]; simp)
              go_wp2
              go_quiet ((go_at_call 63; exact quiet_same (l1In_any _ _ _ _)))
              go_wp2
              go_ret
              exact ⟨ret_bool HF.out.symm, hdr.drewN _⟩
    · have HF := Lib.hid (show entsOk 0 (-1) es = true by rw [HO.out, List.drop_of_length_le (by omega)]; rfl)
      go_wp2
      go_ret
      exact ⟨ret_bool HF.out.symm, hdr⟩

/-- A valid store with what is written; nothing for others. -/
def applyF (s ws : List Ent) : List Ent := if entsOk 1 (-1) s && entsOk 0 (-1) ws then storeOf (setAll (toV s) ws) else []
theorem applyF_length (s ws : List Ent) : (applyF s ws).length ≤ 32 := by
  unfold applyF; split
  · exact storeOf_length (by rw [setAll_length, toV_length])
  · simp
def accF (s ws : List Ent) (k : Nat) : List Ent := storeOf (setAll (toV s) (ws.take k))
theorem entsOk_taken {least last : Int} {a : List Ent} (h : entsOk least last a = true) (k : Nat) : entsOk least last (a.take k) = true := by
  induction a generalizing last k with
  | nil => simpa using h
  | cons e es ih =>
    cases k with
    | zero => rfl
    | succ k =>
      rw [entsOk_cons] at h
      rw [List.take_succ_cons, entsOk_cons]
      exact ⟨h.1, h.2.1, ih h.2.2 k⟩
theorem accV_ok {s ws : List Ent} (h1 : entsOk 1 (-1) s = true) (h2 : entsOk 0 (-1) ws = true) (k : Nat) : vOk (setAll (toV s) (ws.take k)) :=
  setAll_ok (entsOk_taken h2 k) (by omega) (toV_ok h1 (by omega))
theorem accF_zero {s ws : List Ent} (h1 : entsOk 1 (-1) s = true) : accF s ws 0 = s := by
  unfold accF
  rw [List.take_zero]
  exact storeOf_toV h1
theorem accF_length (s ws : List Ent) (k : Nat) : (accF s ws k).length ≤ 32 := storeOf_length (by rw [setAll_length, toV_length])
theorem accF_step {s ws : List Ent} (h1 : entsOk 1 (-1) s = true) (h2 : entsOk 0 (-1) ws = true) (k : Nat) (hk : k < ws.length) : putF ws[k].1 ws[k].2 (decide (ws[k].2 = 0)) (accF s ws k) = accF s ws (k + 1) := by
  have hv := accV_ok h1 h2 k
  have hb1 := keysOk_of h2 ws[k] (List.getElem_mem hk)
  have hb2 := valsOk_of (by omega) h2 ws[k] (List.getElem_mem hk)
  unfold accF
  rw [put_store (storeOf_ok hv) hb1.1 hb1.2 hb2.1 hb2.2, toV_storeOf hv, setAll_snoc (toV s) ws k hk]
theorem accF_end {s ws : List Ent} (h1 : entsOk 1 (-1) s = true) (h2 : entsOk 0 (-1) ws = true) : accF s ws ws.length = applyF s ws := by
  unfold accF applyF
  rw [List.take_length, h1, h2]
  rfl

set_option maxRecDepth 100000 in
set_option maxHeartbeats 1600000 in
theorem ApplyEffect_any (dn : Bool) (A B C : Option Addr) (a b c : Nat) (es rs ws : List Ent) (w : World) (hz : EntsAt w A es) (hy : EntsAt w C ws) (hn : es.length ≤ 4294967296) (hm : ws.length ≤ 4294967296) :
    Calls Try.prog 41 #[.slice A es.length a, .agg #[.bool dn, .slice B rs.length b, .slice C ws.length c]] w (OwnRes 49 2 (entCells (applyF es ws)) (applyF es ws).length w) := by
  have hb0 : Below w.heap.size w (w.alloc (.cells #[.bool dn, .slice B rs.length b, .slice C ws.length c] 53)) := (Below.refl _ _).alloc (Nat.le_refl _) _
  have hrow := RowIs.alloc (w := w) #[.bool dn, .slice B rs.length b, .slice C ws.length c] 53
  have HZ := Lib.hid (hz.below hb0)
  have HY := Lib.hid (hy.below hb0)
  have HR := Lib.hid hrow
  clear hz hy hrow
  cases h1 : entsOk 1 (-1) es
  case false =>
    have H := Lib.hid (show applyF es ws = [] by simp [applyF, h1])
    go_enter Try.func41, Try.ntmps41
    go_wp2_with fail
    refine (StoreValid_any _ _ _ _ HZ.out hn).mono ?_
    rintro e w1 ⟨rfl, hb1⟩
    rw [h1]
    have hB := hb0.trans (hb1.mono hb0.size)
    go_wp2
    go_ret
    rw [H.out]
    exact ⟨none, 0, rfl, World.ownsRow_nil _ _ _ _, hB⟩
  case true =>
    go_enter Try.func41, Try.ntmps41
    go_wp2_with fail
    refine (StoreValid_any _ _ _ _ HZ.out hn).mono ?_
    rintro e w1 ⟨rfl, hb1⟩
    rw [h1]
    have r1 := HR.out.below hb1 HR.out.lt
    have q2 : w1.cell? ⟨w.heap.size, 2, none⟩ = some (.slice C ws.length c) := r1.cell 2
    have hz1 := HZ.out.below hb1
    have hy1 := HY.out.below hb1
    have hB := hb0.trans (hb1.mono hb0.size)
    have R1 := Lib.hid r1
    clear r1 hb1
    go_wp2_with fail
    refine (entriesValid_any _ _ ws 0 _ hy1 hm).mono ?_
    rintro e w2 ⟨rfl, hb2⟩
    have r2 := R1.out.below hb2 R1.out.lt
    have q2 : w2.cell? ⟨w.heap.size, 2, none⟩ = some (.slice C ws.length c) := r2.cell 2
    have hz2 := hz1.below hb2
    have hy2 := hy1.below hb2
    have hB2 := hB.trans (hb2.mono hB.size)
    clear r2 hb2
    cases h2 : entsOk 0 (-1) ws
    case false =>
      have H := Lib.hid (show applyF es ws = [] by simp [applyF, h2])
      go_wp2
      go_ret
      rw [H.out]
      exact ⟨none, 0, rfl, World.ownsRow_nil _ _ _ _, hB2⟩
    case true =>
      have H := Lib.hid (show applyF es ws = storeOf (setAll (toV es) ws) by simp [applyF, h1, h2])
      go_wp2_with fail
      refine (write_any _ _ _ _ es ws _ hz2 hy2 hn hm (keysOk_of h1) (keysOk_of h2)).mono ?_
      rintro e w3 ⟨A3, c3, rfl, ho, hb3⟩
      go_wp2
      go_ret
      rw [H.out]
      exact ⟨A3, c3, rfl, ownsRow_weaken ho hB2.size, hB2.trans (hb3.mono hB2.size)⟩

theorem below_unq {B : Nat} {w w' : World} (h : Below B w.drew w') : Below B w w' := ⟨h.os, h.tape, h.output, h.size, h.block⟩
set_option maxRecDepth 100000 in
set_option maxHeartbeats 4000000 in
theorem specApplyEffect_any (dn : Bool) (A B C : Option Addr) (a b c : Nat) (es rs ws : List Ent) (w : World) (hz : EntsAt w A es) (hy : EntsAt w C ws) (hn : es.length ≤ 4294967296) (hm : ws.length ≤ 4294967296) :
    Calls Try.prog 48 #[.slice A es.length a, .agg #[.bool dn, .slice B rs.length b, .slice C ws.length c]] w (OwnRes 49 2 (entCells (applyF es ws)) (applyF es ws).length w) := by
  have hb0 : Below w.heap.size w (w.alloc (.cells #[.bool dn, .slice B rs.length b, .slice C ws.length c] 53)) := (Below.refl _ _).alloc (Nat.le_refl _) _
  have hrow := RowIs.alloc (w := w) #[.bool dn, .slice B rs.length b, .slice C ws.length c] 53
  have HZ := Lib.hid (hz.below hb0)
  have HY := Lib.hid (hy.below hb0)
  have HR := Lib.hid hrow
  clear hz hy hrow
  cases h1 : entsOk 1 (-1) es
  case false =>
    have H := Lib.hid (show applyF es ws = [] by simp [applyF, h1])
    go_enter Try.func48, Try.ntmps48
    go_wp2_with fail
    refine (specStoreValid_any _ _ _ _ HZ.out hn).mono ?_
    rintro e w1 ⟨rfl, hd1⟩
    rw [h1]
    have hb1 := hd1.below (w.alloc (.cells #[.bool dn, .slice B rs.length b, .slice C ws.length c] 53)).heap.size
    have hB := hb0.trans (hb1.mono hb0.size)
    clear hd1 hb1
    go_wp2
    go_ret
    rw [H.out]
    exact ownRes_of (own_empty _ _ _ _ hB.size) (hB.alloc hB.size _)
  case true =>
    go_enter Try.func48, Try.ntmps48
    go_wp2_with fail
    refine (specStoreValid_any _ _ _ _ HZ.out hn).mono ?_
    rintro e w1 ⟨rfl, hd1⟩
    rw [h1]
    have hb1 := hd1.below (w.alloc (.cells #[.bool dn, .slice B rs.length b, .slice C ws.length c] 53)).heap.size
    have r1 := HR.out.below hb1 HR.out.lt
    have q2 : w1.cell? ⟨w.heap.size, 2, none⟩ = some (.slice C ws.length c) := r1.cell 2
    have hz1 := HZ.out.below hb1
    have hy1 := HY.out.below hb1
    have hB := hb0.trans (hb1.mono hb0.size)
    have R1 := Lib.hid r1
    clear r1 hb1 hd1
    go_wp2_with fail
    refine (l4Writes_any _ _ ws _ hy1 hm).mono ?_
    rintro e w2 ⟨rfl, hd2⟩
    have hb2 := hd2.below w1.heap.size
    have r2 := R1.out.below hb2 R1.out.lt
    have hz2 := hz1.below hb2
    have hy2 := hy1.below hb2
    have hB2 := hB.trans (hb2.mono hB.size)
    have R2 := Lib.hid r2
    clear r2 hb2 hd2 q2 hz1 hy1 R1 hB
    cases h2 : entsOk 0 (-1) ws
    case false =>
      have H := Lib.hid (show applyF es ws = [] by simp [applyF, h2])
      go_wp2
      go_ret
      rw [H.out]
      exact ownRes_of (own_empty _ _ _ _ hB2.size) (hB2.alloc hB2.size _)
    case true =>
      have HEND := Lib.hid (accF_end h1 h2)
      have HST := Lib.hid (accF_step h1 h2)
      have HZERO := Lib.hid (accF_zero (ws := ws) h1)
      have hel := entsOk_length h1
      have hwl := entsOk_length h2
      clear h1 h2
      have hS2 := hB2.size
      have hz3 := hz2.below ((Below.refl w2.heap.size w2).alloc (Nat.le_refl _) (.cells #[] 49))
      go_wp2_with (at_builtin; refine wpList_append_at entRow rfl _ _ rfl w2.heap.size _ _ _ rfl (own_empty w2 w2.heap.size 49 2 (Nat.le_refl _)) A es.length a (entCells es) rfl hz3 (entCells_length _) (entCells_one _) (by omega) (by simp) ?_)
      intro v3 w3 ho3 hb3 _
      try rw [Nat.zero_add, List.nil_append] at ho3
      obtain ⟨A3, c3, rfl⟩ := own_form ho3
      have hb4 : Below w2.heap.size w2 w3 := ((Below.refl _ _).alloc (Nat.le_refl _) _).trans hb3
      have ho4 : w3.ownsRow w2.heap.size 49 2 (.slice A3 (accF es ws 0).length c3) (accF es ws 0).length (entCells (accF es ws 0)) := by rw [HZERO.out]; exact ho3
      have e0 : es.length = (accF es ws 0).length := by rw [HZERO.out]
      have HB2 := Lib.hid hB2
      have HY2 := Lib.hid hy2
      rw [e0]
      clear hz2 hz3 hy2 hB2 ho3 hb3 e0
      go_wp2
      go_loopw [5, 6] (fun out i wr => ∃ k : Nat, k ≤ ws.length ∧ i = .int .i64 k ∧ (∃ A c, out = .slice A (accF es ws k).length c ∧ wr.ownsRow w2.heap.size 49 2 (.slice A (accF es ws k).length c) (accF es ws k).length (entCells (accF es ws k))) ∧ Below w2.heap.size w2 wr) (fun _ i _ => ws.length - (intOf i).toNat)
      case atStart => exact ⟨0, Nat.zero_le _, rfl, ⟨A3, c3, rfl, ho4⟩, hb4⟩
      case round =>
        clear ho4 hb4
        obtain ⟨k, hk, rfl, ⟨A5, c5, rfl, ho⟩, hb⟩ := hrel
        have r5 := R2.out.below hb R2.out.lt
        have q2 : wr.cell? ⟨w.heap.size, 2, none⟩ = some (.slice C ws.length c) := r5.cell 2
        have hsz := hb.size
        by_cases hlt : k < ws.length
        · obtain ⟨bb, o, hA, hbl, hc⟩ := (HY2.out.below hb).at_ hlt
          have HC := Lib.hid (show ∀ W', Below wr.heap.size wr W' → W'.cell? ⟨w.heap.size, 2, none⟩ = some (.slice C ws.length c) ∧ W'.cell? ⟨bb, o + k * 2, none⟩ = some (.int .i64 ws[k].1) ∧ W'.cell? ⟨bb, o + k * 2 + 1, none⟩ = some (.int .i64 ws[k].2) from
            fun W' h => ⟨(r5.below h r5.lt).cell 2, (h.cell hbl).trans (hc k hlt).1, (h.cell hbl).trans (hc k hlt).2⟩)
          obtain ⟨q2, hcell, hcell2⟩ := HC.out wr (Below.refl _ _)
          have HS := Lib.hid (HST.out k hlt)
          have hal := accF_length es ws k
          have hk0 : (0 : Int) ≤ (k : Int) := by omega
          have hk1 : (k : Int) < (ws.length : Int) := by omega
          subst hA
          clear hc r5
          generalize accF es ws k = acc at *
          generalize ws[k].1 = key at *
          generalize ws[k].2 = value at *
          go_wp2
          go_region_held3 (fun w' => w'.cell? ⟨w.heap.size, 2, none⟩ = some (.slice (some ⟨bb, o, none⟩) ws.length c) ∧ w'.cell? ⟨bb, o + k * 2, none⟩ = some (.int .i64 key) ∧ w'.cell? ⟨bb, o + k * 2 + 1, none⟩ = some (.int .i64 value)) (first | go_keep | exact HC.out _ (below_unq hb6))
            (first | (go_at_call 87; refine (l2Put_any _ _ acc key value _ (EntsAt.below (ents_of_own ho) (Below.refl _ _).drew) (by omega)).mono ?_; rintro e w6 ⟨A6, c6, rfl, ho6, hb6⟩))
          have hu6 := below_unq hb6
          rw [HS.out] at ho6 ⊢
          have ho7 := ownsRow_weaken ho6 hsz
          have hb7 := hb.trans (hu6.mono hsz)
          clear q2 hcell hcell2 ho6 hb6 hu6
          go_wp2
          go_roundw
          case rel => exact ⟨k + 1, by omega, by go_num, ⟨A6, c6, rfl, ho7⟩, hb7⟩
          case measure => simp [intOf]; omega
        · obtain rfl : k = ws.length := by omega
          rw [HEND.out] at ho ⊢
          go_wp2
          go_ret
          exact ⟨A5, c5, rfl, ownsRow_weaken ho hS2, HB2.out.trans (hb.mono hS2)⟩

end Go.Proofs.Ytpomiglcplbdbaa
