/- Contracts of the program's runAll and RunSerial. -/
import Derived.Test.YtpomiglcplbdbaaQSer0
import Derived.Test.YtpomiglcplbdbaaQRun3
namespace Go.Proofs.Ytpomiglcplbdbaa
open Go.ChangeShapes Go.WideShapes Go.ChangeAt Go.RowKit Go.Deep

theorem results_cellrow_tmp {P : Program} {fn : Func} {p u : Tmp} {ty : TypeId} (h : fn.results = #[.cell p ty, .tmp u]) (tmps : Array Value) (w : World) (g : Nat) (t : TypeId) (cs : Array Value) (fr : Nat × Nat) (d : TypeDesc)
    (hp : tmps.getD p undef = .pointer (some ⟨g, 0, none⟩)) (hg : w.heap[g]? = some (.cells cs t fr))
    (hu : P.underlying ty = some d) (hd : (match d with | .struct _ | .array _ _ => true | _ => false) = true) (hi : (P.info? ty).map (·.size) = some cs.size) :
    (results fn tmps).run P w = .ok (.tuple #[.agg cs, tmps.getD u undef]) w := by
  have hp' : tmps[p]?.getD undef = .pointer (some ⟨g, 0, none⟩) := by simpa using hp
  simp [results, h, hp', asAddr, run_loadVar_row w g t ty cs fr d hg hu hd hi]

theorem HeldL.turn {w w' : World} {base R : Nat} {l : List Row} (h : HeldL w base l) (hg : Turn R w w') (hR : R < base) : HeldL w' base l := ⟨fun r hr => own_turn (h.1 r hr) hg hR, h.2⟩
theorem EffsOwn.turn {w w' : World} {base R : Nat} {A : Option Addr} {c : Nat} {zs : List EffA} (h : EffsOwn w base A c zs) (hg : Turn R w w') (hR : R < base) : EffsOwn w' base A c zs := HeldL.turn h hg hR
theorem Held.turn2 {w w' : World} {base n S : Nat} {R : Nat → Row} (h : Held w base R n) (hg : Turn S w w') (hS : S < base) : Held w' base R n := ⟨fun i hi => own_turn (h.1 i hi) hg hS, h.2⟩

theorem turn_setRow {a b : World} {R : Nat} (h : Turn R a b) (cs : Array Value) : Turn R a (b.setRow R cs) :=
  ⟨h.os, h.tape, h.output, by simpa using h.size, fun k hk hne => (Go.setRow_other b R k cs (fun e => hne (by rw [e]))).trans (h.block k hk hne)⟩

set_option maxRecDepth 100000 in
set_option maxHeartbeats 6400000 in
theorem runAll_any (v : List Int) (hv : vOk v) (B : Option Addr) (d : Nat) (acts : List ActT) (w : World) (ha : ActsAt w B acts) (hok : actsOk acts = true) :
    Calls Try.prog 83 #[.agg (arrV v), .slice B acts.length d] w fun e w' =>
      ∃ B' d' zs, e = .returned (.tuple #[.agg (arrV (serV v acts).1), .slice B' zs.length d']) ∧ effsT zs = (serV v acts).2 ∧ EffsOwn w' w.heap.size B' d' zs ∧ Below w.heap.size w w' := by
  have hb1 : Below w.heap.size w (w.alloc (.cells (arrV v) 85)) := (Below.refl _ _).alloc (Nat.le_refl _) _
  have hb2 : Below w.heap.size w ((w.alloc (.cells (arrV v) 85)).alloc (.cells (arrV zeros) 85)) := hb1.alloc hb1.size _
  have hone : (w.alloc (.cells (arrV v) 85)).heap.size = w.heap.size + 1 := by simp
  have hr1 : RowIs ((w.alloc (.cells (arrV v) 85)).alloc (.cells (arrV zeros) 85)) w.heap.size 85 (v.map (.int .i64)) := by
    have h := (RowIs.alloc (w := w) (arrV v) 85).alloc_other (.cells (arrV zeros) 85)
    rwa [arrV_list] at h
  have hr2 : RowIs ((w.alloc (.cells (arrV v) 85)).alloc (.cells (arrV zeros) 85)) (w.heap.size + 1) 85 (zeros.map (.int .i64)) := by
    have h := RowIs.alloc (w := w.alloc (.cells (arrV v) 85)) (arrV zeros) 85
    rwa [arrV_list, hone] at h
  have HR1 := Lib.hid hr1
  have HR2 := Lib.hid hr2
  have HB2 := Lib.hid hb2
  have HA := Lib.hid ha
  have HOK := Lib.hid (serV_ok hv hok)
  have HAT := Lib.hid (actsOk_at hok)
  have HTK := Lib.hid (serV_take v acts)
  have hlen := actsOk_len hok
  have HEND := Lib.hid (show serV v acts = serV v (acts.take acts.length) by rw [List.take_length])
  clear hb1 hb2 hone hr1 hr2 ha hv hok
  go_enter Try.func83, Try.ntmps83
  go_wp2
  go_loopw [6, 14] (fun ef i wr => ∃ (k : Nat) (ds : List EffA), k ≤ acts.length ∧ i = .int .i64 k ∧ effsT ds = (serV v (acts.take k)).2 ∧ (∃ B' d', ef = .slice B' ds.length d' ∧ EffsOwn wr (w.heap.size + 2) B' d' ds) ∧ RowIs wr w.heap.size 85 ((serV v (acts.take k)).1.map (.int .i64)) ∧ RowIs wr (w.heap.size + 1) 85 (zeros.map (.int .i64)) ∧ Below w.heap.size w wr) (fun _ i _ => acts.length - (intOf i).toNat)
  case atStart => exact ⟨0, [], Nat.zero_le _, rfl, rfl, ⟨none, 0, rfl, effsOwn_nil _ _⟩, HR1.out, HR2.out, HB2.out⟩
  case round =>
    obtain ⟨k, ds, hk, rfl, hds, ⟨B5, d5, rfl, hown⟩, hrow, hres, hB⟩ := hrel
    have hvk := (HOK.out k hk).1
    by_cases hlt : k < acts.length
    · obtain ⟨b, o, hBA, hbl, hc⟩ := (HA.out.below hB).at_ hlt
      obtain ⟨q0, q1, q2, q3⟩ := hc k hlt
      clear hc
      subst hBA
      have hact := HAT.out k hlt
      have HWOK := Lib.hid (wrsF_ok hact hvk)
      have hdl : ds.length = k := by rw [effsT_len hds]; exact (HOK.out k hk).2
      have hdn : ds.length < 4294967296 := by omega
      have HNX := Lib.hid (HTK.out k hlt)
      have HDS := Lib.hid hds
      have HACT := Lib.hid hact
      have HVK := Lib.hid hvk
      have hk0 : (0 : Int) ≤ (k : Int) := by omega
      have hk1 : (k : Int) < (acts.length : Int) := by omega
      generalize hV : (serV v (acts.take k)).1 = V at *
      generalize hE : (serV v (acts.take k)).2 = ES at *
      generalize acts[k] = a at *
      have hbx := (Below.refl wr.heap.size wr).alloc (Nat.le_refl _) (.cells #[.int .i64 a.1, .int .i64 a.2.1, .int .i64 a.2.2.1, .int .i64 a.2.2.2] 44)
      have hrow1 := hrow.alloc_other (.cells #[.int .i64 a.1, .int .i64 a.2.1, .int .i64 a.2.2.1, .int .i64 a.2.2.2] 44)
      have hres1 := hres.alloc_other (.cells #[.int .i64 a.1, .int .i64 a.2.1, .int .i64 a.2.2.1, .int .i64 a.2.2.2] 44)
      have hown1 := hown.alloc (.cells #[.int .i64 a.1, .int .i64 a.2.1, .int .i64 a.2.2.1, .int .i64 a.2.2.2] 44)
      have hB1 := hB.trans (hbx.mono hB.size)
      have hlt1 := hrow1.lt
      have hlt2 := hres1.lt
      have HG := Lib.hid hrow1.heap
      have HROW1 := Lib.hid hrow1
      have HRES1 := Lib.hid hres1
      have HOWN1 := Lib.hid hown1
      have HBB1 := Lib.hid hB1
      have HVL := Lib.hid hvk.1
      have HSZ1 := Lib.hid (show (wr.alloc (.cells #[.int .i64 a.1, .int .i64 a.2.1, .int .i64 a.2.2.1, .int .i64 a.2.2.2] 44)).heap.size = wr.heap.size + 1 by simp)
      have HLTW := Lib.hid (show w.heap.size + 1 < wr.heap.size from hres.lt)
      clear hrow hres hown hrow1 hres1 hown1 hB hB1 hbx hds hdl hact hvk hlt1 hlt2
      go_wp2_with (refine wpList_load_row rfl 85 _ rfl w.heap.size rfl 85 _ (0, 0) _ HG.out Try.underlying85 rfl (by rw [size_values, arrV_size, HVL.out]) ?_)
      refine (run_any a V HVK.out HACT.out _).mono ?_
      rintro e w5 ⟨A6, c6, B6, d6, rfl, hh, hb5⟩
      obtain ⟨x, hx⟩ : ∃ x, x = runF a V := ⟨_, rfl⟩
      rw [← hx] at hh ⊢
      have hxl : x.2.1.length ≤ 2 ∧ x.2.2.length ≤ 2 := by rw [hx]; exact ⟨rdsF_length _ _ _ _, wrsF_length _ _ _ _ _⟩
      have HX := Lib.hid hx
      have HWO := Lib.hid (show entsOk 0 (-1) x.2.2 = true by rw [hx]; exact HWOK.out)
      rw [HSZ1.out] at hh
      have hs5 := hb5.size
      rw [HSZ1.out] at hs5
      have hrow5 := HROW1.out.below hb5 HROW1.out.lt
      have hres5 := HRES1.out.below hb5 HRES1.out.lt
      have hown5 := HOWN1.out.below hb5
      have hB5 := HBB1.out.trans (hb5.mono HBB1.out.size)
      -- the effect's box
      have hrb := RowIs.alloc (w := w5) #[.bool x.1, .slice A6 x.2.1.length c6, .slice B6 x.2.2.length d6] 53
      have hrow6 := hrow5.alloc_other (.cells #[.bool x.1, .slice A6 x.2.1.length c6, .slice B6 x.2.2.length d6] 53)
      have hres6 := hres5.alloc_other (.cells #[.bool x.1, .slice A6 x.2.1.length c6, .slice B6 x.2.2.length d6] 53)
      have hown6 := hown5.alloc (.cells #[.bool x.1, .slice A6 x.2.1.length c6, .slice B6 x.2.2.length d6] 53)
      have hh6 := Held.below hh ((Below.refl w5.heap.size w5).alloc (Nat.le_refl _) (.cells #[.bool x.1, .slice A6 x.2.1.length c6, .slice B6 x.2.2.length d6] 53))
      have hB6 := hB5.alloc hB5.size (.cells #[.bool x.1, .slice A6 x.2.1.length c6, .slice B6 x.2.2.length d6] 53)
      have e1 : (w5.alloc (.cells #[.bool x.1, .slice A6 x.2.1.length c6, .slice B6 x.2.2.length d6] 53)).cell? ⟨w5.heap.size, 2, none⟩ = some (.slice B6 x.2.2.length d6) := hrb.cell 2
      have HRB := Lib.hid hrb
      have HROW6 := Lib.hid hrow6
      have HRES6 := Lib.hid hres6
      have HOWN6 := Lib.hid hown6
      have HH6 := Lib.hid hh6
      have HB6 := Lib.hid hB6
      have HW6 := Lib.hid (ents_of_own (held_snd hh6))
      have HK6 := Lib.hid (keysOk_of HWO.out)
      have HLT6 := Lib.hid (show EffsLt B5 d5 ds (wr.heap.size + 1) from fun r hr kk hk => by have := HOWN1.out.effsLt r hr kk hk; rw [HSZ1.out] at this; exact this)
      obtain ⟨W2, hW2⟩ : ∃ W2, W2 = w5.alloc (.cells #[.bool x.1, .slice A6 x.2.1.length c6, .slice B6 x.2.2.length d6] 53) := ⟨_, rfl⟩
      have HW2 := Lib.hid hW2
      clear hx hh hrow5 hres5 hown5 hB5 hrb hrow6 hres6 hown6 hh6 hB6 hb5 hW2
      go_wp2
      go_loopw [24] (fun i wi => ∃ j : Nat, j ≤ x.2.2.length ∧ i = .int .i64 j ∧ RowIs wi w.heap.size 85 ((setAll V (x.2.2.take j)).map (.int .i64)) ∧ Turn w.heap.size (w5.alloc (.cells #[.bool x.1, .slice A6 x.2.1.length c6, .slice B6 x.2.2.length d6] 53)) wi) (fun i _ => x.2.2.length - (intOf i).toNat)
      case atStart => exact ⟨0, Nat.zero_le _, rfl, HROW6.out, Turn.refl _ _⟩
      case round =>
        clear e1 q0 q1 q2 q3
        obtain ⟨j, hj, rfl, hrj, htj⟩ := hrel
        have hltj := hrj.lt
        by_cases hlj : j < x.2.2.length
        · have hwj : EntsAt _ B6 x.2.2 := ents_of_own (own_turn (held_snd HH6.out) htj (by have := HLTW.out; omega))
          obtain ⟨b2, o2, hA2, hb2, hc2⟩ := hwj.at_ hlj
          obtain ⟨hcell, hcell2⟩ := hc2 j hlj
          clear hc2 hwj
          have hkk := HK6.out x.2.2[j] (List.getElem_mem hlj)
          obtain ⟨v0, hold⟩ := hrj.some_ (k := x.2.2[j].1.toNat) (by rw [List.length_map, setAll_length, HVL.out]; omega)
          have hfz := hrj.frozen x.2.2[j].1.toNat
          have HS1 := Lib.hid (setAll_snoc V x.2.2 j hlj)
          have HR := Lib.hid hrj
          have HT := Lib.hid htj
          clear hrj htj
          go_wp2
          go_roundw
          case rel =>
            refine ⟨j + 1, by omega, by go_num, ?_, (HT.out.set _ _).trans (Turn.of_below ((Below.refl _ _).alloc (Nat.le_refl _) _))⟩
            rw [HS1.out]
            have h1 := (HR.out.set x.2.2[j].1.toNat (.int .i64 x.2.2[j].2)).alloc_other (.cells #[.int .i64 x.2.2[j].1, .int .i64 x.2.2[j].2] 49)
            rw [List.map_set]
            exact h1
          case measure => simp [intOf]; omega
        · obtain rfl : j = x.2.2.length := by omega
          rw [List.take_length] at hrj
          have hrb9 := HRB.out.turn htj (by have := HLTW.out; omega)
          have q0 : wr.cell? ⟨w5.heap.size, 0, none⟩ = some (.bool x.1) := hrb9.cell 0
          have q1 : wr.cell? ⟨w5.heap.size, 1, none⟩ = some (.slice A6 x.2.1.length c6) := hrb9.cell 1
          have q2 : wr.cell? ⟨w5.heap.size, 2, none⟩ = some (.slice B6 x.2.2.length d6) := hrb9.cell 2
          have HOWN9 := Lib.hid (HOWN6.out.turn htj (by omega))
          have HH9 := Lib.hid (Held.turn2 HH6.out htj (by have := HLTW.out; omega))
          have HRES9 := Lib.hid (HRES6.out.turn htj (by omega))
          have HB9 := Lib.hid (Turn.below HB6.out htj (Nat.le_refl _) HB6.out.size)
          have hsz9 : w.heap.size + 2 ≤ wr.heap.size := HRES9.out.lt
          have HRJ := Lib.hid hrj
          clear hrj htj hrb9
          go_wp2_with (at_builtin; refine wpList_push_eff effRow_ty rfl _ _ rfl (w.heap.size + 2) _ _ _ rfl HOWN9.out.outer _ x.1 A6 x.2.1.length c6 B6 x.2.2.length d6 rfl hdn hsz9 ?_; intro v8 w8 ho8 hb8 hg8 hs8)
          obtain ⟨B8, d8, rfl, hown8⟩ := HOWN9.out.push (x := x) HH9.out HLT6.out (by have := HLTW.out; omega) ho8 hg8
          have HROW8 := Lib.hid (HRJ.out.below hb8 (by omega))
          have HRES8 := Lib.hid (HRES9.out.below hb8 (by omega))
          have HB8 := Lib.hid (HB9.out.trans (hb8.mono (by omega)))
          have HOWN8 := Lib.hid hown8
          clear ho8 hb8 hg8 hown8
          go_wp2
          go_roundw
          case rel =>
            refine ⟨k + 1, _, by omega, by go_num, ?_, ⟨B8, d8, rfl, HOWN8.out⟩, ?_, HRES8.out, HB8.out⟩
            · rw [HNX.out]; simp only [serS, hV, hE, ← HX.out, ← HDS.out]; simp [effsT]
            · rw [HNX.out]; simp only [serS, hV, ← HX.out]; exact HROW8.out
          case measure => simp [intOf]; omega
    · obtain rfl : k = acts.length := by omega
      have hg := hrow.heap
      have hg0 := hres.heap
      have HVL := Lib.hid hvk.1
      have HOWN := Lib.hid hown
      have HDS := Lib.hid hds
      generalize hV : (serV v (acts.take acts.length)).1 = V at *
      generalize hE : (serV v (acts.take acts.length)).2 = ES at *
      clear hrow hres hown hvk hds
      go_wp2_with (first | (refine wpList_load_row rfl 85 _ rfl w.heap.size rfl 85 _ (0, 0) _ hg Try.underlying85 rfl (by rw [size_values, arrV_size, HVL.out]) ?_) | (refine wpList_store_row rfl 85 _ _ rfl (w.heap.size + 1) (arrV V) rfl rfl 85 _ hg0 (by rw [size_values, arrV_size, HVL.out]) (by rw [arrV_size, arrV_size, HVL.out]; rfl) (arrV_one _) ?_))
      refine bodyPost_ret (results_cellrow_tmp rfl _ _ (w.heap.size + 1) 85 (arrV V) (0, 0) _ rfl ?h1 Try.underlying85 rfl (by rw [size_values, arrV_size, HVL.out])) rfl ?_
      case h1 => exact setRow_heap _ _ _ _ _ _ hg0
      have hown0 := HOWN.out
      refine ⟨B5, d5, ds, ?_, by rw [HEND.out, hE]; exact HDS.out, ?_, below_setRow hB (Nat.le_succ _) _⟩
      · rw [HEND.out, hV]; rfl
      · exact (hown0.turn (turn_setRow (Turn.refl _ _) _) (Nat.lt_succ_self _)).weaken (by omega)

set_option maxRecDepth 100000 in
set_option maxHeartbeats 3200000 in
theorem RunSerial_any (A : Option Addr) (c : Nat) (es : List Ent) (B : Option Addr) (d : Nat) (acts : List ActT) (w : World) (hs : EntsAt w A es) (hn : es.length ≤ 4294967296) (ha : ActsAt w B acts) (hm : acts.length ≤ 4294967296) :
    Calls Try.prog 45 #[.slice A es.length c, .slice B acts.length d] w (SerRes2 (serSt es acts) (serEf es acts) w) := by
  have HS := Lib.hid hs
  have HA := Lib.hid ha
  clear hs ha
  go_enter Try.func45, Try.ntmps45
  go_wp2_with fail
  refine (StoreValid_any _ _ _ _ HS.out hn).mono ?_
  rintro e w1 ⟨rfl, hb1⟩
  cases h1 : entsOk 1 (-1) es
  · have HF := Lib.hid (show serSt es acts = [] ∧ serEf es acts = [] by simp [serSt, serEf, serB, h1])
    go_wp2
    go_ret2
    rw [HF.out.1, HF.out.2]
    exact ⟨none, 0, none, 0, [], w.heap.size, rfl, rfl, World.ownsRow_nil _ _ _ _, effsOwn_nil _ _, Nat.le_refl _, hb1.size, (fun r hr kk hk => by simp [eRows, eOut] at hr; subst hr; simp [rowBlock, rowVal, Value.ownBlock] at hk), hb1⟩
  · go_wp2_with fail
    refine (ActionsValid_any _ _ _ _ (HA.out.below hb1) hm).mono ?_
    rintro e w2 ⟨rfl, hb2⟩
    have hB2 := hb1.trans (hb2.mono hb1.size)
    cases h2 : actsOk acts
    · have HF := Lib.hid (show serSt es acts = [] ∧ serEf es acts = [] by simp [serSt, serEf, serB, h2])
      go_wp2
      go_ret2
      rw [HF.out.1, HF.out.2]
      exact ⟨none, 0, none, 0, [], w.heap.size, rfl, rfl, World.ownsRow_nil _ _ _ _, effsOwn_nil _ _, Nat.le_refl _, hB2.size, (fun r hr kk hk => by simp [eRows, eOut] at hr; subst hr; simp [rowBlock, rowVal, Value.ownBlock] at hk), hB2⟩
    · have HF := Lib.hid (show serSt es acts = storeOf (serV (toV es) acts).1 ∧ serEf es acts = (serV (toV es) acts).2 by simp [serSt, serEf, serB, h1, h2])
      have HK := Lib.hid (keysOk_of h1)
      have HVO := Lib.hid (toV_ok h1 (by omega))
      have HV1 := Lib.hid (show (serV (toV es) acts).1.length = 32 by
        have h := (serV_ok HVO.out h2 acts.length (Nat.le_refl _)).1
        rw [List.take_length] at h
        exact h.1)
      have HA2 := Lib.hid h2
      have HB2 := Lib.hid hB2
      clear h1 h2 hb1 hb2 hB2
      go_wp2_with fail
      refine (valuesOf_any _ _ _ _ (HS.out.below HB2.out) hn HK.out).mono ?_
      rintro e w3 ⟨rfl, hb3⟩
      have HB3 := Lib.hid (HB2.out.trans (hb3.mono HB2.out.size))
      clear hb3
      go_wp2_with fail
      refine (runAll_any (toV es) HVO.out _ _ acts _ (HA.out.below HB3.out) HA2.out).mono ?_
      rintro e w4 ⟨B4, d4, zs, rfl, hzs, hown, hb4⟩
      have HB4 := Lib.hid (HB3.out.trans (hb4.mono HB3.out.size))
      have hg0 : (w4.alloc (.cells (arrV zeros) 85)).heap[w4.heap.size]? = some (.cells (arrV zeros) 85 (0, 0)) := heap_alloc_new w4 _
      have HG := Lib.hid hg0
      have HZS := Lib.hid hzs
      have HOWN := Lib.hid hown
      have hV := HV1.out
      clear hg0 hzs hown hb4
      generalize (serV (toV es) acts).1 = V at *
      have hR0 := (RowIs.alloc (w := w4) (arrV zeros) 85).setRow (arrV V)
      rw [arrV_list] at hR0
      have hg := hR0.heap
      have HB5 := Lib.hid (show Below w4.heap.size w4 ((w4.alloc (.cells (arrV zeros) 85)).setRow w4.heap.size (arrV V)) from below_setRow ((Below.refl _ _).alloc (Nat.le_refl _) _) (Nat.le_refl _) _)
      have HGG := Lib.hid hg
      clear hR0 hg
      go_wp2_with (first | (refine wpList_store_row rfl 85 _ _ rfl w4.heap.size (arrV V) rfl rfl 85 _ HG.out (by rw [size_values, arrV_size, hV]) (by rw [arrV_size, arrV_size, hV]; rfl) (arrV_one _) ?_) | (refine wpList_load_row rfl 85 _ rfl w4.heap.size rfl 85 _ (0, 0) _ HGG.out Try.underlying85 rfl (by rw [size_values, arrV_size, hV]) ?_))
      refine (store_any V hV _).mono ?_
      rintro e w6 ⟨A6, c6, rfl, ho6, hb6⟩
      have hown6 := (HOWN.out.below HB5.out).below hb6
      have hs5 := HB5.out.size
      have hs6 := hb6.size
      have hB6 := HB4.out.trans ((HB5.out.trans (hb6.mono hs5)).mono HB4.out.size)
      have hlt := HOWN.out.effsLt
      go_wp2
      go_ret2
      rw [HF.out.1, HF.out.2]
      exact ⟨A6, c6, B4, d4, zs, w4.heap.size, rfl, HZS.out, own_weaken ho6 hs5, hown6.weaken HB3.out.size, HB4.out.size, Nat.le_trans hs5 hs6, hlt, hB6⟩

end Go.Proofs.Ytpomiglcplbdbaa
