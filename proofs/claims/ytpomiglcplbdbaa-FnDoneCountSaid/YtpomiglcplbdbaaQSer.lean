/- Contracts of RunSerial in both packages. -/
import Derived.Test.YtpomiglcplbdbaaQSer0
import Derived.Test.YtpomiglcplbdbaaQSpRun2
namespace Go.Proofs.Ytpomiglcplbdbaa
open Go.ChangeShapes Go.WideShapes Go.ChangeAt Go.RowKit Go.Deep

set_option maxRecDepth 100000 in
set_option maxHeartbeats 6400000 in
theorem specRunSerial_any (A : Option Addr) (c : Nat) (es : List Ent) (B : Option Addr) (d : Nat) (acts : List ActT) (w : World) (hs : EntsAt w A es) (hn : es.length < 4294967296) (ha : ActsAt w B acts) (hm : acts.length ≤ 4294967296) :
    Calls Try.prog 108 #[.slice A es.length c, .slice B acts.length d] w (SerRes (serSt es acts) (serEf es acts) w) := by
  have hb0 : Below w.heap.size w (w.alloc (.cells #[] 53)) := (Below.refl _ _).alloc (Nat.le_refl _) _
  have HS := Lib.hid hs
  have HA := Lib.hid ha
  have HB0 := Lib.hid hb0
  have HE0 := Lib.hid (show EffsOwn (w.alloc (.cells #[] 53)) w.heap.size (some ⟨w.heap.size, 0, none⟩) 0 [] from EffsOwn.mk (n := 0) rfl (own_empty w w.heap.size 53 3 (Nat.le_refl _)) (HeldL.nil _ _))
  have hs0 := hs.below hb0
  clear hs ha hb0
  go_enter Try.func108, Try.ntmps108
  go_wp2_with fail
  refine (specStoreValid_any _ _ _ _ hs0 (by omega)).mono ?_
  rintro e w1 ⟨rfl, hd1⟩
  have hbd1 := hd1.below (w.alloc (.cells #[] 53)).heap.size
  have HB1 := Lib.hid (HB0.out.trans (hbd1.mono HB0.out.size))
  have HE1 := Lib.hid (HE0.out.below hbd1)
  clear hd1 hbd1 hs0
  cases h1 : entsOk 1 (-1) es
  · have HF := Lib.hid (show serSt es acts = [] ∧ serEf es acts = [] by simp [serSt, serEf, serB, h1])
    go_wp2
    go_ret2
    rw [HF.out.1, HF.out.2]
    exact ⟨_, _, _, _, [], rfl, rfl, own_empty w1 w.heap.size 49 2 HB1.out.size, HE1.out.alloc _, HB1.out.alloc HB1.out.size _⟩
  · go_wp2_with fail
    refine (specActionsValid_any _ _ _ _ (HA.out.below HB1.out) hm).mono ?_
    rintro e w2 ⟨rfl, hb2⟩
    have HB2 := Lib.hid (HB1.out.trans (hb2.mono HB1.out.size))
    have HE2 := Lib.hid (HE1.out.below hb2)
    clear hb2
    cases h2 : actsOk acts
    · have HF := Lib.hid (show serSt es acts = [] ∧ serEf es acts = [] by simp [serSt, serEf, serB, h2])
      go_wp2
      go_ret2
      rw [HF.out.1, HF.out.2]
      exact ⟨_, _, _, _, [], rfl, rfl, own_empty w2 w.heap.size 49 2 HB2.out.size, HE2.out.alloc _, HB2.out.alloc HB2.out.size _⟩
    · have HF := Lib.hid (show serSt es acts = storeOf (serV (toV es) (acts.take acts.length)).1 ∧ serEf es acts = (serV (toV es) (acts.take acts.length)).2 by rw [List.take_length]; simp [serSt, serEf, serB, h1, h2])
      have HOK := Lib.hid (serV_ok (toV_ok h1 (by omega)) h2)
      have HAT := Lib.hid (actsOk_at h2)
      have HTK := Lib.hid (serV_take (toV es) acts)
      have hlen := actsOk_len h2
      have HZ := Lib.hid (show storeOf (serV (toV es) (acts.take 0)).1 = es ∧ (serV (toV es) (acts.take 0)).2 = [] from ⟨storeOf_toV h1, rfl⟩)
      have hel := entsOk_length h1
      clear h1 h2
      have hS2 := HB2.out.size
      have hz3 := (HS.out.below HB2.out).below ((Below.refl w2.heap.size w2).alloc (Nat.le_refl _) (.cells #[] 49))
      have HE3 := Lib.hid (HE2.out.alloc (.cells #[] 49))
      go_wp2_with (at_builtin; refine wpList_append_at entRow rfl _ _ rfl w2.heap.size _ _ _ rfl (own_empty w2 w2.heap.size 49 2 (Nat.le_refl _)) A es.length c (entCells es) rfl hz3 (entCells_length _) (entCells_one _) (by omega) (by simp) ?_)
      intro v3 w3 ho3 hb3 hg3
      try rw [Nat.zero_add] at ho3
      try rw [List.nil_append] at ho3
      obtain ⟨A3, c3, rfl⟩ := own_form ho3
      have hb4 : Below w2.heap.size w2 w3 := ((Below.refl _ _).alloc (Nat.le_refl _) _).trans hb3
      have HB3 := Lib.hid (HB2.out.trans (hb4.mono hS2))
      have HE4 := Lib.hid (HE2.out.below hb4)
      have HO4 := Lib.hid (show w3.ownsRow w.heap.size 49 2 (.slice A3 (storeOf (serV (toV es) (acts.take 0)).1).length c3) (storeOf (serV (toV es) (acts.take 0)).1).length (entCells (storeOf (serV (toV es) (acts.take 0)).1)) by rw [HZ.out.1]; exact own_weaken ho3 hS2)
      clear ho3 hb3 hg3 hb4 hz3
      go_wp2
      go_loopw [6, 7, 8] (fun ef out i wr => ∃ (k : Nat) (ds : List EffA), k ≤ acts.length ∧ i = .int .i64 k ∧ effsT ds = (serV (toV es) (acts.take k)).2 ∧ (∃ B' d', ef = .slice B' ds.length d' ∧ EffsOwn wr w.heap.size B' d' ds) ∧ (∃ A' c', out = .slice A' (storeOf (serV (toV es) (acts.take k)).1).length c' ∧ wr.ownsRow w.heap.size 49 2 (.slice A' (storeOf (serV (toV es) (acts.take k)).1).length c') (storeOf (serV (toV es) (acts.take k)).1).length (entCells (storeOf (serV (toV es) (acts.take k)).1))) ∧ Below w.heap.size w wr) (fun _ _ i _ => acts.length - (intOf i).toNat)
      case atStart => exact ⟨0, [], Nat.zero_le _, rfl, HZ.out.2.symm, ⟨_, _, rfl, HE4.out⟩, ⟨A3, c3, by rw [HZ.out.1], HO4.out⟩, HB3.out⟩
      case round =>
        obtain ⟨k, ds, hk, rfl, hds, ⟨B5, d5, rfl, hown⟩, ⟨A5, c5, rfl, ho⟩, hB⟩ := hrel
        have hsz := hB.size
        by_cases hlt : k < acts.length
        · obtain ⟨b, o, hBA, hbl, hc⟩ := (HA.out.below hB).at_ hlt
          obtain ⟨q0, q1, q2, q3⟩ := hc k hlt
          clear hc
          subst hBA
          have hvk := (HOK.out k hk).1
          have hst := ser_step hvk (HAT.out k hlt)
          have hdl : ds.length = k := by rw [effsT_len hds]; exact (HOK.out k hk).2
          have hdn : ds.length < 4294967296 := by omega
          have HNX := Lib.hid (HTK.out k hlt)
          have HDS := Lib.hid hds
          have HOWN := Lib.hid hown
          have hlv := storeOf_length hvk.1
          have hk0 : (0 : Int) ≤ (k : Int) := by omega
          have hk1 : (k : Int) < (acts.length : Int) := by omega
          generalize hV : (serV (toV es) (acts.take k)).1 = V at *
          generalize hE : (serV (toV es) (acts.take k)).2 = ES at *
          generalize acts[k] = a at *
          obtain ⟨x, hx⟩ : ∃ x, x = runF a V := ⟨_, rfl⟩
          rw [← hx] at hst
          have HX := Lib.hid hx
          have HST := Lib.hid hst
          clear hst hds hown hdl hx hvk
          have HCALL := Lib.hid (show Calls Try.prog 40 #[.slice A5 (storeOf V).length c5, .agg #[.int .i64 a.1, .int .i64 a.2.1, .int .i64 a.2.2.1, .int .i64 a.2.2.2]] wr (EffRes 49 x wr) by
            rw [← HST.out.1]; exact specRunAction_any A5 c5 (storeOf V) a.1 a.2.1 a.2.2.1 a.2.2.2 wr (ents_of_own ho) (by omega))
          go_wp2_with fail
          refine HCALL.out.mono ?_
          rintro e w5 ⟨A6, c6, B6, d6, rfl, hh, hb5⟩
          have hxl : x.2.1.length ≤ 2 ∧ x.2.2.length ≤ 2 := by rw [HX.out]; exact ⟨rdsF_length _ _ _ _, wrsF_length _ _ _ _ _⟩
          have hbx := (Below.refl w5.heap.size w5).alloc (Nat.le_refl _) (.cells #[.bool x.1, .slice A6 x.2.1.length c6, .slice B6 x.2.2.length d6] 53)
          have hb6 := hb5.trans (hbx.mono hb5.size)
          have ho6 := own_below ho hb6
          have hh6 := Held.below hh hbx
          have HOWN6 := Lib.hid (HOWN.out.below hb6)
          have HB6 := Lib.hid (hB.trans (hb6.mono hsz))
          have hrb := RowIs.alloc (w := w5) #[.bool x.1, .slice A6 x.2.1.length c6, .slice B6 x.2.2.length d6] 53
          have HLT := Lib.hid (HOWN.out.effsLt)
          have e1 : (w5.alloc (.cells #[.bool x.1, .slice A6 x.2.1.length c6, .slice B6 x.2.2.length d6] 53)).cell? ⟨w5.heap.size, 0, none⟩ = some (.bool x.1) := hrb.cell 0
          have e2 : (w5.alloc (.cells #[.bool x.1, .slice A6 x.2.1.length c6, .slice B6 x.2.2.length d6] 53)).cell? ⟨w5.heap.size, 1, none⟩ = some (.slice A6 x.2.1.length c6) := hrb.cell 1
          have e3 : (w5.alloc (.cells #[.bool x.1, .slice A6 x.2.1.length c6, .slice B6 x.2.2.length d6] 53)).cell? ⟨w5.heap.size, 2, none⟩ = some (.slice B6 x.2.2.length d6) := hrb.cell 2
          have HRB := Lib.hid hrb
          have HH6 := Lib.hid hh6
          have HOS := Lib.hid (ents_of_own ho6)
          have HS6 := Lib.hid hb5.size
          clear ho ho6 hh hh6 hb5 hb6 hbx hrb hB
          go_wp2_with fail
          refine (specApplyEffect_any x.1 _ _ _ _ _ _ (storeOf V) x.2.1 x.2.2 _ HOS.out (ents_of_own (held_snd HH6.out)) (by omega) (by omega)).mono ?_
          rw [HST.out.2]
          rintro e w7 ⟨A7, c7, rfl, ho7, hb7⟩
          have hrb7 := HRB.out.below hb7 HRB.out.lt
          have q0 : w7.cell? ⟨w5.heap.size, 0, none⟩ = some (.bool x.1) := hrb7.cell 0
          have q1 : w7.cell? ⟨w5.heap.size, 1, none⟩ = some (.slice A6 x.2.1.length c6) := hrb7.cell 1
          have q2 : w7.cell? ⟨w5.heap.size, 2, none⟩ = some (.slice B6 x.2.2.length d6) := hrb7.cell 2
          have HOWN7 := Lib.hid (HOWN6.out.below hb7)
          have HH7 := Lib.hid (Held.below HH6.out hb7)
          have HB7 := Lib.hid (HB6.out.trans (hb7.mono HB6.out.size))
          have hsz7 : w.heap.size ≤ w7.heap.size := HB7.out.size
          have HO7 := Lib.hid ho7
          clear hb7 hrb7 ho7 e1 e2 e3
          go_wp2_with (at_builtin; refine wpList_push_eff effRow_ty rfl _ _ rfl w.heap.size _ _ _ rfl HOWN7.out.outer _ x.1 A6 x.2.1.length c6 B6 x.2.2.length d6 rfl hdn hsz7 ?_; intro v8 w8 ho8 hb8 hg8 hs8)
          obtain ⟨B8, d8, rfl, hown8⟩ := HOWN7.out.push (S := wr.heap.size) (x := x) HH7.out HLT.out hsz ho8 hg8
          have HO8 := Lib.hid (own_kept_type (own_weaken HO7.out (show w.heap.size ≤ _ from HB6.out.size)) HOWN7.out.outer (fun e => effTy_ne e.symm) hg8)
          have HB8 := Lib.hid (HB7.out.trans hb8)
          have HOWN8 := Lib.hid hown8
          clear ho8 hb8 hg8 hown8
          go_wp2
          go_roundw
          case rel =>
            refine ⟨k + 1, _, by omega, by go_num, ?_, ⟨B8, d8, rfl, HOWN8.out⟩, ⟨A7, c7, ?_, ?_⟩, HB8.out⟩
            · rw [HNX.out]; simp only [serS, hV, hE, ← HX.out, ← HDS.out]; simp [effsT]
            · rw [HNX.out]; simp only [serS, hV, ← HX.out]
            · rw [HNX.out]; simp only [serS, hV, ← HX.out]; exact HO8.out
          case measure => simp [intOf]; omega
        · obtain rfl : k = acts.length := by omega
          go_wp2
          go_ret2
          rw [HF.out.1, HF.out.2]
          exact ⟨A5, c5, B5, d5, ds, rfl, hds, ho, hown, hB⟩

end Go.Proofs.Ytpomiglcplbdbaa
