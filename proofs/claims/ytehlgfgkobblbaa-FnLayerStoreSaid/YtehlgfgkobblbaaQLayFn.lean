/- Contracts of LayersValid and LayerRead in both packages, with what they call. -/
import Derived.Test.YtehlgfgkobblbaaQLays2
import Derived.Test.YtehlgfgkobblbaaQApply
namespace Go.Proofs.Ytehlgfgkobblbaa
open Go.ChangeShapes Go.WideShapes Go.ChangeAt Go.RowKit Go.Deep

theorem laysOk_false {zs : List LayA} {k : Nat} (hk : k < zs.length) (h : layOkB k zs[k].1 = false) : laysOk (laysT zs) = false :=
  laysOk_bad (k := k) (by simpa using hk) (by simpa [laysT] using h)
theorem laysOk_all {zs : List LayA} (h : ∀ j (hj : j < zs.length), layOkB j zs[j].1 = true) : laysOk (laysT zs) = decide (zs.length ≤ 20) := by
  rw [laysOk_end (fun k hk => by have := h k (by simpa using hk); simpa [laysT] using this), laysT_len]
theorem layOkB_eq (k : Nat) (x : LayT) : layOkB k x = (inB x.1 (-1) ((k : Int) - 1) && entsOk 0 (-1) x.2) := rfl
theorem lay_len {z : LayA} {w : World} (h : LayOk w z) : z.1.2.length ≤ maxLen := h.1

set_option maxRecDepth 100000 in
set_option maxHeartbeats 1600000 in
theorem LayersValid_any (A : Option Addr) (c : Nat) (zs : List LayA) (w : World) (hz : LaysAt w A zs) (hn : zs.length ≤ 4294967296) (hl : ∀ z ∈ zs, z.1.2.length ≤ 4294967296) :
    Calls Try.prog 9 #[.slice A zs.length c] w fun e w' => e = .returned (.bool (laysOk (laysT zs))) ∧ Below w.heap.size w w' := by
  have HZ := Lib.hid hz
  have HL := Lib.hid hl
  clear hz hl
  go_enter Try.func9, Try.ntmps9
  go_wp2
  go_loopw [7] (fun i wr => ∃ k : Nat, k ≤ zs.length ∧ i = .int .i64 k ∧ (∀ j (hj : j < zs.length), j < k → layOkB j zs[j].1 = true) ∧ Below w.heap.size w wr) (fun i _ => zs.length - (intOf i).toNat)
  case atStart => exact ⟨0, Nat.zero_le _, rfl, fun _ _ h => by omega, Below.refl _ _⟩
  case round =>
    obtain ⟨k, hk, rfl, hall, hB⟩ := hrel
    have HA := Lib.hid hall
    clear hall
    by_cases hlt : k < zs.length
    · obtain ⟨b, o, rfl, hb, hc⟩ := (HZ.out.below hB).at_ hlt
      obtain ⟨c0, c1⟩ := hc k hlt
      clear hc
      have hok := (HZ.out.2 zs[k] (List.getElem_mem hlt)).below hB
      have hll := HL.out zs[k] (List.getElem_mem hlt)
      have HF := Lib.hid (show layOkB k zs[k].1 = false → laysOk (laysT zs) = false from laysOk_false hlt)
      have HS := Lib.hid (show layOkB k zs[k].1 = true → ∀ j (hj : j < zs.length), j < k + 1 → layOkB j zs[j].1 = true from fun h j hj hjk => by
        by_cases e : j = k
        · subst e; exact h
        · exact HA.out j hj (by omega))
      have hk0 : (0 : Int) ≤ (k : Int) := by omega
      have hk1 : (k : Int) < (zs.length : Int) := by omega
      have HE := Lib.hid (layOkB_eq k zs[k].1)
      have hB1 := hB.alloc hB.size (.cells #[.int .i64 zs[k].1.1, .slice zs[k].2.1 zs[k].1.2.length zs[k].2.2] 28)
      have HQ := Lib.hid (hok.2.below ((Below.refl wr.heap.size wr).alloc (Nat.le_refl _) (.cells #[.int .i64 zs[k].1.1, .slice zs[k].2.1 zs[k].1.2.length zs[k].2.2] 28)))
      clear hok
      generalize zs[k] = z at *
      cases h1 : inB z.1.1 (-1) ((k : Int) - 1)
      · have H := HF.out (by rw [HE.out, h1]; rfl)
        have HF2 := Lib.hid H
        clear H
        go_wp2_with (go_at_call 32; refine (in_any _ _ _ _).mono ?_; rintro e w' ⟨rfl, rfl⟩)
        go_ret
        exact ⟨ret_bool HF2.out.symm, hB1⟩
      · cases h2 : entsOk 0 (-1) z.1.2
        · have HF2 := Lib.hid (HF.out (by rw [HE.out, h1, h2]; rfl))
          go_wp2_with (go_at_call 32; refine (in_any _ _ _ _).mono ?_; rintro e w' ⟨rfl, rfl⟩)
          refine (entriesValid_any _ _ _ _ _ HQ.out hll).mono ?_
          rintro e w2 ⟨rfl, hb2⟩
          rw [h2]
          have hB2 := hB1.trans (hb2.mono hB1.size)
          go_wp2
          go_ret
          exact ⟨ret_bool HF2.out.symm, hB2⟩
        · have HS2 := Lib.hid (HS.out (by rw [HE.out, h1, h2]; rfl))
          go_wp2_with (go_at_call 32; refine (in_any _ _ _ _).mono ?_; rintro e w' ⟨rfl, rfl⟩)
          refine (entriesValid_any _ _ _ _ _ HQ.out hll).mono ?_
          rintro e w2 ⟨rfl, hb2⟩
          rw [h2]
          have hB2 := hB1.trans (hb2.mono hB1.size)
          go_wp2
          go_roundw
          case rel => exact ⟨k + 1, by omega, by go_num, HS2.out, hB2⟩
          case measure => simp [intOf]; omega
    · have HF := Lib.hid (laysOk_all (zs := zs) (fun j hj => HA.out j hj (by omega)))
      go_wp2
      go_ret
      exact ⟨ret_bool (by rw [HF.out]; simp <;> omega), hB⟩

set_option maxRecDepth 100000 in
set_option maxHeartbeats 1600000 in
theorem specLayersValid_any (A : Option Addr) (c : Nat) (zs : List LayA) (w : World) (hz : LaysAt w A zs) (hn : zs.length ≤ 4294967296) (hl : ∀ z ∈ zs, z.1.2.length ≤ 4294967296) :
    Calls Try.prog 10 #[.slice A zs.length c] w fun e w' => e = .returned (.bool (laysOk (laysT zs))) ∧ DrewOf w w' := by
  have HZ := Lib.hid hz
  have HL := Lib.hid hl
  clear hz hl
  go_enter Try.func10, Try.ntmps10
  go_wp2
  go_loopw [3] (fun i wr => ∃ k : Nat, k ≤ zs.length ∧ i = .int .i64 k ∧ (∀ j (hj : j < zs.length), j < k → layOkB j zs[j].1 = true) ∧ DrewOf w wr) (fun i _ => zs.length - (intOf i).toNat)
  case atStart => exact ⟨0, Nat.zero_le _, rfl, fun _ _ h => by omega, DrewOf.refl _⟩
  case round =>
    obtain ⟨k, hk, rfl, hall, hD⟩ := hrel
    have HA := Lib.hid hall
    have hB := hD.below w.heap.size
    clear hall
    by_cases hlt : k < zs.length
    · obtain ⟨b, o, rfl, hb, hc⟩ := (HZ.out.below hB).at_ hlt
      obtain ⟨c0, c1⟩ := hc k hlt
      clear hc
      have hok := (HZ.out.2 zs[k] (List.getElem_mem hlt)).below hB
      have hll := HL.out zs[k] (List.getElem_mem hlt)
      have HF := Lib.hid (show layOkB k zs[k].1 = false → laysOk (laysT zs) = false from laysOk_false hlt)
      have HS := Lib.hid (show layOkB k zs[k].1 = true → ∀ j (hj : j < zs.length), j < k + 1 → layOkB j zs[j].1 = true from fun h j hj hjk => by
        by_cases e : j = k
        · subst e; exact h
        · exact HA.out j hj (by omega))
      have hk0 : (0 : Int) ≤ (k : Int) := by omega
      have hk1 : (k : Int) < (zs.length : Int) := by omega
      have HE := Lib.hid (layOkB_eq k zs[k].1)
      have HQ := Lib.hid hok.2
      clear hok hB
      generalize zs[k] = z at *
      cases h1 : inB z.1.1 (-1) ((k : Int) - 1)
      · have HF2 := Lib.hid (HF.out (by rw [HE.out, h1]; rfl))
        go_wp2_with (go_at_call 34; refine (l1In_any _ _ _ _).mono ?_; rintro e w' ⟨rfl, rfl⟩)
        go_ret
        exact ⟨ret_bool HF2.out.symm, hD⟩
      · cases h2 : entsOk 0 (-1) z.1.2
        · have HF2 := Lib.hid (HF.out (by rw [HE.out, h1, h2]; rfl))
          go_wp2_with (go_at_call 34; refine (l1In_any _ _ _ _).mono ?_; rintro e w' ⟨rfl, rfl⟩)
          refine (l4Writes_any _ _ _ _ HQ.out hll).mono ?_
          rintro e w2 ⟨rfl, hb2⟩
          rw [h2]
          have hD2 := hD.trans hb2
          go_wp2
          go_ret
          exact ⟨ret_bool HF2.out.symm, hD2⟩
        · have HS2 := Lib.hid (HS.out (by rw [HE.out, h1, h2]; rfl))
          go_wp2_with (go_at_call 34; refine (l1In_any _ _ _ _).mono ?_; rintro e w' ⟨rfl, rfl⟩)
          refine (l4Writes_any _ _ _ _ HQ.out hll).mono ?_
          rintro e w2 ⟨rfl, hb2⟩
          rw [h2]
          have hD2 := hD.trans hb2
          go_wp2
          go_roundw
          case rel => exact ⟨k + 1, by omega, by go_num, HS2.out, hD2⟩
          case measure => simp [intOf]; omega
    · have HF := Lib.hid (laysOk_all (zs := zs) (fun j hj => HA.out j hj (by omega)))
      go_wp2
      go_ret
      exact ⟨ret_bool (by rw [HF.out]; simp <;> omega), hD⟩

theorem fitB_eq (s : List Ent) (ls : List LayT) (n : Int) : fitB s ls n = (entsOk 1 (-1) s && laysOk ls && inB n (-1) ((ls.length : Int) - 1)) := rfl

set_option maxRecDepth 100000 in
set_option maxHeartbeats 1600000 in
theorem layersFit_any (B : Option Addr) (d : Nat) (es : List Ent) (A : Option Addr) (c : Nat) (zs : List LayA) (n : Int) (w : World) (hs : EntsAt w B es) (hm : es.length ≤ 4294967296) (hz : LaysAt w A zs) (hn : zs.length ≤ 4294967296) (hl : ∀ z ∈ zs, z.1.2.length ≤ 4294967296) :
    Calls Try.prog 41 #[.slice B es.length d, .slice A zs.length c, .int .i64 n] w fun e w' => e = .returned (.bool (fitB es (laysT zs) n)) ∧ Below w.heap.size w w' := by
  have HF := Lib.hid (fitB_eq es (laysT zs) n)
  have HZ := Lib.hid hz
  have HL := Lib.hid hl
  have HN := Lib.hid (laysT_len zs)
  clear hz hl
  go_enter Try.func41, Try.ntmps41
  go_wp2_with fail
  refine (StoreValid_any _ _ _ _ hs hm).mono ?_
  rintro e w1 ⟨rfl, hb1⟩
  rw [HN.out] at HF
  cases h1 : entsOk 1 (-1) es
  · have HF2 := Lib.hid (show fitB es (laysT zs) n = false by rw [HF.out, h1]; rfl)
    go_wp2
    go_ret
    exact ⟨ret_bool HF2.out.symm, hb1⟩
  · go_wp2_with fail
    refine (LayersValid_any _ _ _ _ (HZ.out.below hb1) hn HL.out).mono ?_
    rintro e w2 ⟨rfl, hb2⟩
    have hB2 := hb1.trans (hb2.mono hb1.size)
    cases h2 : laysOk (laysT zs)
    · have HF2 := Lib.hid (show fitB es (laysT zs) n = false by rw [HF.out, h1, h2]; rfl)
      go_wp2
      go_ret
      exact ⟨ret_bool HF2.out.symm, hB2⟩
    · have HF2 := Lib.hid (show fitB es (laysT zs) n = inB n (-1) ((zs.length : Int) - 1) by rw [HF.out, h1, h2]; rfl)
      go_wp2_with (go_at_call 32; refine (in_any _ _ _ _).mono ?_; rintro e w' ⟨rfl, rfl⟩)
      all_goals (go_ret; exact ⟨ret_bool HF2.out.symm, hB2⟩)

set_option maxRecDepth 100000 in
set_option maxHeartbeats 800000 in
theorem l4Find_any (A : Option Addr) (c : Nat) (es : List Ent) (key : Int) (w : World) (hz : EntsAt w A es) (hn : es.length ≤ 4294967296) :
    Calls Try.prog 61 #[.slice A es.length c, .int .i64 key] w fun e w' => e = .returned (.tuple #[.int .i64 ((look es key).getD 0), .bool (look es key).isSome]) ∧ w = w' := by
  go_enter Try.func61, Try.ntmps61
  go_wp2
  go_loop [6] (fun i => ∃ k : Nat, k ≤ es.length ∧ i = .int .i64 k ∧ look es key = look (es.drop k) key) (fun i => es.length - (intOf i).toNat)
  case atStart => exact ⟨0, Nat.zero_le _, rfl, rfl⟩
  case round =>
    obtain ⟨k, hk, rfl, hv⟩ := hrel
    have HV := Lib.hid hv
    clear hv
    by_cases hlt : k < es.length
    · obtain ⟨b, o, rfl, hb, hc⟩ := hz.at_ hlt
      obtain ⟨hcell, hcell2⟩ := hc k hlt
      clear hc
      have hd := Lib.hid (show es.drop k = es[k] :: es.drop (k + 1) from List.drop_eq_getElem_cons hlt)
      cases h1 : (es[k].1 == key)
      · have HF := Lib.hid (show look es key = look (es.drop (k + 1)) key by
          rw [HV.out, hd.out, look_cons, if_neg (by simpa using h1)])
        go_wp2
        go_round
        case rel => exact ⟨k + 1, by omega, by go_num, HF.out⟩
        case measure => simp [intOf]; omega
      · have HF := Lib.hid (show look es key = some es[k].2 by
          rw [HV.out, hd.out, look_cons, if_pos (by simpa using h1)])
        go_wp2
        go_ret2
        exact ⟨by rw [HF.out]; rfl, rfl⟩
    · have HF := Lib.hid (show look es key = none by rw [HV.out, List.drop_of_length_le (by omega)]; rfl)
      go_wp2
      go_ret2
      exact ⟨by rw [HF.out]; rfl, rfl⟩

set_option maxRecDepth 100000 in
set_option maxHeartbeats 1600000 in
theorem l4Read_any (B : Option Addr) (d : Nat) (es : List Ent) (A : Option Addr) (c : Nat) (zs : List LayA) (n key : Int) (w : World) (hs : EntsAt w B es) (hm : es.length ≤ 4294967296) (hz : LaysAt w A zs) (_hn : zs.length ≤ 4294967296) (hl : ∀ z ∈ zs, z.1.2.length ≤ 4294967296)
    (hv : entsOk 1 (-1) es = true) (hf : laysFine (laysT zs)) (hlo : -1 ≤ n) (hhi : n < zs.length) (hk0 : 0 ≤ key) (_hk1 : key ≤ 31) :
    Calls Try.prog 47 #[.slice B es.length d, .slice A zs.length c, .int .i64 n, .int .i64 key] w fun e w' => e = .returned (.int .i64 ((seenV es (laysT zs) n).getD key.toNat 0)) ∧ w = w' := by
  have HS := Lib.hid hs
  have HZ := Lib.hid hz
  have HL := Lib.hid hl
  have HG := Lib.hid (show ∀ k, ∀ hk : k < zs.length, (seenV es (laysT zs) (k : Int)).getD key.toNat 0 = (look zs[k].1.2 key).getD ((seenV es (laysT zs) zs[k].1.1).getD key.toNat 0) from fun k hk => by
    have h := seenV_get (s := es) hf (k := k) (by simpa using hk) key.toNat
    rw [laysT_at zs k hk, show ((key.toNat : Nat) : Int) = key by omega] at h
    exact h)
  have HB := Lib.hid (show ∀ k, ∀ hk : k < zs.length, -1 ≤ zs[k].1.1 ∧ zs[k].1.1 < k from fun k hk => by
    have h := (layOkB_iff.1 (hf k (by simpa using hk))).1
    rw [laysT_at zs k hk] at h
    omega)
  have HE := Lib.hid (show ∀ m : Int, m < 0 → (seenV es (laysT zs) m).getD key.toNat 0 = valAt es key from fun m hm => by
    rw [seenV_neg hm, toV_get hv, show ((key.toNat : Nat) : Int) = key by omega])
  generalize hR : (seenV es (laysT zs) n).getD key.toNat 0 = R
  clear hs hz hl hv hf
  go_enter Try.func47, Try.ntmps47
  go_wp2
  go_loop [2] (fun i => ∃ m : Int, -1 ≤ m ∧ m < zs.length ∧ i = .int .i64 m ∧ (seenV es (laysT zs) m).getD key.toNat 0 = R) (fun i => (intOf i + 1).toNat)
  case atStart => exact ⟨n, hlo, hhi, rfl, hR⟩
  case round =>
    obtain ⟨m, hm0, hm1, rfl, hv⟩ := hrel
    have HV := Lib.hid hv
    clear hv
    by_cases hneg : m < 0
    · have HF := Lib.hid (show valAt es key = R by rw [← HE.out m hneg, HV.out])
      go_wp2_with fail
      refine (l2At_any _ _ _ _ _ HS.out hm).mono ?_
      rintro e w' ⟨rfl, rfl⟩
      rw [HF.out]
      go_wp2
      go_ret
      exact ⟨rfl, rfl⟩
    · obtain ⟨k, rfl⟩ : ∃ k : Nat, m = (k : Int) := ⟨m.toNat, by omega⟩
      have hlt : k < zs.length := by omega
      obtain ⟨b, o, rfl, hb, hc⟩ := HZ.out.at_ hlt
      obtain ⟨c0, c1⟩ := hc k hlt
      clear hc
      have hok := (HZ.out.2 zs[k] (List.getElem_mem hlt)).2
      have hll := HL.out zs[k] (List.getElem_mem hlt)
      have hbb := HB.out k hlt
      have HGK := Lib.hid (HG.out k hlt)
      generalize zs[k] = z at *
      go_wp2_with fail
      refine (l4Find_any _ _ _ key _ hok hll).mono ?_
      rintro e w' ⟨rfl, rfl⟩
      cases hlk : look z.1.2 key with
      | none =>
        have HF := Lib.hid (show (seenV es (laysT zs) z.1.1).getD key.toNat 0 = R by rw [← HV.out, HGK.out, hlk]; rfl)
        simp only [Option.getD_none, Option.isSome_none]
        go_wp2
        go_round
        case rel => exact ⟨z.1.1, hbb.1, by omega, rfl, HF.out⟩
        case measure => simp [intOf]; omega
      | some v =>
        have HF := Lib.hid (show v = R by rw [← HV.out, HGK.out, hlk]; rfl)
        simp only [Option.getD_some, Option.isSome_some]
        go_wp2
        go_ret
        exact ⟨ret_int HF.out, rfl⟩

set_option maxRecDepth 100000 in
set_option maxHeartbeats 1600000 in
theorem specLayerRead_any (B : Option Addr) (d : Nat) (es : List Ent) (A : Option Addr) (c : Nat) (zs : List LayA) (n key : Int) (w : World) (hs : EntsAt w B es) (hm : es.length ≤ 4294967296) (hz : LaysAt w A zs) (hn : zs.length ≤ 4294967296) (hl : ∀ z ∈ zs, z.1.2.length ≤ 4294967296) :
    Calls Try.prog 20 #[.slice B es.length d, .slice A zs.length c, .int .i64 n, .int .i64 key] w fun e w' => e = .returned (.int .i64 (layReadF es (laysT zs) n key)) ∧ DrewOf w w' := by
  have HF := Lib.hid (show layReadF es (laysT zs) n key = if (entsOk 1 (-1) es && laysOk (laysT zs) && inB n (-1) ((zs.length : Int) - 1)) && inB key 0 31 then (seenV es (laysT zs) n).getD key.toNat 0 else -1 by unfold layReadF; rw [fitB_eq, laysT_len])
  have HS := Lib.hid hs
  have HZ := Lib.hid hz
  have HL := Lib.hid hl
  clear hs hz hl
  go_enter Try.func20, Try.ntmps20
  go_wp2_with fail
  refine (specStoreValid_any _ _ _ _ HS.out hm).mono ?_
  rintro e w1 ⟨rfl, hd1⟩
  cases h1 : entsOk 1 (-1) es
  · have HF2 := Lib.hid (show layReadF es (laysT zs) n key = -1 by rw [HF.out, h1]; rfl)
    go_wp2
    go_ret
    exact ⟨ret_int HF2.out.symm, hd1⟩
  · go_wp2_with fail
    refine (specLayersValid_any _ _ _ _ (HZ.out.below (hd1.below _)) hn HL.out).mono ?_
    rintro e w2 ⟨rfl, hd2⟩
    have hD2 := hd1.trans hd2
    clear hd1 hd2
    cases h2 : laysOk (laysT zs)
    · have HF2 := Lib.hid (show layReadF es (laysT zs) n key = -1 by rw [HF.out, h1, h2]; rfl)
      go_wp2
      go_ret
      exact ⟨ret_int HF2.out.symm, hD2⟩
    · cases h3 : inB n (-1) ((zs.length : Int) - 1)
      · have HF2 := Lib.hid (show layReadF es (laysT zs) n key = -1 by rw [HF.out, h1, h2, h3]; rfl)
        go_wp2_with (go_at_call 34; refine (l1In_any _ _ _ _).mono ?_; rintro e w' ⟨rfl, rfl⟩)
        go_ret
        exact ⟨ret_int HF2.out.symm, hD2⟩
      · cases h4 : inB key 0 31
        · have HF2 := Lib.hid (show layReadF es (laysT zs) n key = -1 by rw [HF.out, h1, h2, h3, h4]; rfl)
          go_wp2_with (go_at_call 34; refine (l1In_any _ _ _ _).mono ?_; rintro e w' ⟨rfl, rfl⟩)
          go_ret
          exact ⟨ret_int HF2.out.symm, hD2⟩
        · have HF2 := Lib.hid (show layReadF es (laysT zs) n key = (seenV es (laysT zs) n).getD key.toNat 0 by rw [HF.out, h1, h2, h3, h4]; rfl)
          have b3 := inB_true.1 h3
          have b4 := inB_true.1 h4
          have HLF := Lib.hid (laysOk_iff.1 h2).1
          have HV := Lib.hid h1
          clear h1 h2
          go_wp2_with (first | (go_at_call 34; refine (l1In_any _ _ _ _).mono ?_; rintro e w' ⟨rfl, rfl⟩) | (go_at_call 47; refine (l4Read_any _ _ es _ _ zs n key _ (HS.out.below (hD2.below _)) hm (HZ.out.below (hD2.below _)) hn HL.out HV.out HLF.out b3.1 (by omega) b4.1 b4.2).mono ?_; rintro e w' ⟨rfl, rfl⟩; generalize (seenV es (laysT zs) n).getD key.toNat 0 = q at *))
          go_ret
          exact ⟨ret_int HF2.out.symm, hD2⟩

set_option maxRecDepth 100000 in
set_option maxHeartbeats 1600000 in
theorem seen_any (es : List Ent) (zs : List LayA) (hm : es.length ≤ 4294967296) (_hn : zs.length ≤ 4294967296) (hl : ∀ z ∈ zs, z.1.2.length ≤ 4294967296) (hv : entsOk 1 (-1) es = true) (hf : laysFine (laysT zs)) :
    ∀ (f : Nat) (n : Int), -1 ≤ n → n < f → n < zs.length → ∀ (B : Option Addr) (d : Nat) (A : Option Addr) (c : Nat) (w : World), EntsAt w B es → LaysAt w A zs →
      Calls Try.prog 42 #[.slice B es.length d, .slice A zs.length c, .int .i64 n] w fun e w' => e = .returned (.agg (arrV (seenV es (laysT zs) n))) ∧ Below w.heap.size w w' := by
  have HL := Lib.hid hl
  have HV := Lib.hid hv
  have HFN := Lib.hid hf
  clear hl hv hf
  intro f
  induction f with
  | zero =>
    intro n h0 h1 h2 B d A c w hs hz
    obtain rfl : n = -1 := by omega
    have HK := Lib.hid (keysOk_of HV.out)
    have HQ := Lib.hid (seenV_neg (s := es) (ls := laysT zs) (n := -1) (by omega))
    have hb0 : Below w.heap.size w (w.alloc (.cells (arrV zeros) 63)) := (Below.refl _ _).alloc (Nat.le_refl _) _
    have hs0 := hs.below hb0
    have hr0 := RowIs.alloc (w := w) (arrV zeros) 63
    have HR0 := Lib.hid hr0
    clear hr0
    go_enter Try.func42, Try.ntmps42
    go_wp2_with fail
    refine (valuesOf_any _ _ _ _ hs0 hm HK.out).mono ?_
    rintro e w1 ⟨rfl, hb1⟩
    have hr1 := HR0.out.below hb1 HR0.out.lt
    rw [arrV_list] at hr1
    have hg := hr1.heap
    have hB1 := hb0.trans (hb1.mono hb0.size)
    go_wp2_with (refine wpList_store_row rfl 63 _ _ rfl w.heap.size (arrV (toV es)) rfl rfl 63 _ hg (by rw [size_values, arrV_size, toV_length]) (by rw [arrV_size, arrV_size, toV_length]; rfl) (arrV_one _) ?_)
    refine bodyPost_ret (results_cell_row rfl _ _ w.heap.size 63 (arrV (toV es)) (0, 0) _ rfl ?h1 Try.underlying63 rfl (by rw [size_values, arrV_size, toV_length])) rfl ?_
    case h1 => exact setRow_heap _ _ _ _ _ _ hg
    rw [HQ.out]
    exact ⟨rfl, below_setRow hB1 (Nat.le_refl _) _⟩
  | succ f ih =>
    intro n h0 h1 h2 B d A c w hs hz
    by_cases hneg : n < 0
    · obtain rfl : n = -1 := by omega
      exact ih (-1) h0 (by omega) h2 B d A c w hs hz
    · obtain ⟨k, rfl⟩ : ∃ k : Nat, n = (k : Int) := ⟨n.toNat, by omega⟩
      have hlt : k < zs.length := by omega
      have IH := Lib.hid ih
      clear ih
      have HST := Lib.hid (show seenV es (laysT zs) (k : Int) = setAll (seenV es (laysT zs) zs[k].1.1) zs[k].1.2 by
        have h := seenV_step (s := es) HFN.out (k := k) (by simpa using hlt)
        rwa [laysT_at zs k hlt] at h)
      have hbb := layOkB_iff.1 (HFN.out k (by simpa using hlt))
      rw [laysT_at zs k hlt] at hbb
      have hbl := hbb.1
      have HKW := Lib.hid (keysOk_of hbb.2)
      have hb0 : Below w.heap.size w (w.alloc (.cells (arrV zeros) 63)) := (Below.refl _ _).alloc (Nat.le_refl _) _
      have HSL := Lib.hid (seenV_length es (laysT zs) zs[k].1.1)
      have hll := HL.out zs[k] (List.getElem_mem hlt)
      have HS := Lib.hid hs
      have HZ := Lib.hid hz
      have HZK := Lib.hid (hz.2 zs[k] (List.getElem_mem hlt))
      obtain ⟨b, o, rfl, hb, hc⟩ := hz.at_ hlt
      have HC := Lib.hid (hc k hlt)
      have hr0 := RowIs.alloc (w := w) (arrV zeros) 63
      rw [arrV_list] at hr0
      have HR0 := Lib.hid hr0
      have hsz : (w.alloc (.cells (arrV zeros) 63)).heap.size = w.heap.size + 1 := by simp
      have c0 : w.cell? ⟨b, o + k * 2, none⟩ = some (.int .i64 zs[k].1.1) := HC.out.1
      have hk0 : (0 : Int) ≤ (k : Int) := by omega
      have hk1 : (k : Int) < (zs.length : Int) := by omega
      have HB0 := Lib.hid hb0
      clear hs hz hc hr0 hbb hb0
      generalize zs[k] = z at *
      go_enter Try.func42, Try.ntmps42
      go_wp2_with fail
      refine (IH.out z.1.1 hbl.1 (by omega) (by omega) B d _ c _ (HS.out.below HB0.out) (HZ.out.below HB0.out)).mono ?_
      rintro e w1 ⟨rfl, hb1⟩
      have hs1 := hb1.size
      have hg0 : (w1.alloc (.cells (arrV zeros) 63)).heap[w1.heap.size]? = some (.cells (arrV zeros) 63 (0, 0)) := heap_alloc_new w1 _
      have HG := Lib.hid hg0
      have hB1 := HB0.out.trans (hb1.mono HB0.out.size)
      have c1 : ∀ W', Below w.heap.size w W' → W'.cell? ⟨b, o + k * 2 + 1, none⟩ = some (.slice z.2.1 z.1.2.length z.2.2) := fun W' h => (h.cell hb).trans HC.out.2
      have C1 := Lib.hid c1
      rw [hsz] at hs1
      have hws : w.heap.size ≤ w1.heap.size := by omega
      have HRW := Lib.hid (HR0.out.below hb1 HR0.out.lt)
      clear hg0 c1 c0
      generalize hV : seenV es (laysT zs) z.1.1 = V at *
      have hR0 := (RowIs.alloc (w := w1) (arrV zeros) 63).setRow (arrV V)
      rw [arrV_list] at hR0
      have hB0 : Below w.heap.size w ((w1.alloc (.cells (arrV zeros) 63)).setRow w1.heap.size (arrV V)) := below_setRow (hB1.alloc hws _) hws _
      have hRR : RowIs ((w1.alloc (.cells (arrV zeros) 63)).setRow w1.heap.size (arrV V)) w.heap.size 63 (zeros.map (.int .i64)) := (HRW.out.alloc_other _).setRow_other (by omega) _
      have c1 : ((w1.alloc (.cells #[Value.int .i64 0, Value.int .i64 0, Value.int .i64 0, Value.int .i64 0, Value.int .i64 0, Value.int .i64 0, Value.int .i64 0, Value.int .i64 0, Value.int .i64 0, Value.int .i64 0, Value.int .i64 0, Value.int .i64 0, Value.int .i64 0, Value.int .i64 0, Value.int .i64 0, Value.int .i64 0, Value.int .i64 0, Value.int .i64 0, Value.int .i64 0, Value.int .i64 0, Value.int .i64 0, Value.int .i64 0, Value.int .i64 0, Value.int .i64 0, Value.int .i64 0, Value.int .i64 0, Value.int .i64 0, Value.int .i64 0, Value.int .i64 0, Value.int .i64 0, Value.int .i64 0, Value.int .i64 0] 63)).setRow w1.heap.size (arrV V)).cell? ⟨b, o + k * 2 + 1, none⟩ = some (.slice z.2.1 z.1.2.length z.2.2) := C1.out _ hB0
      have HR0' := Lib.hid hR0
      have HB0' := Lib.hid hB0
      have HRR' := Lib.hid hRR
      clear hR0 hB0 hRR
      go_wp2_with (refine wpList_store_row rfl 63 _ _ rfl w1.heap.size (arrV V) rfl rfl 63 _ HG.out (by rw [size_values, arrV_size, HSL.out]) (by rw [arrV_size, arrV_size, HSL.out]; rfl) (arrV_one _) ?_)
      go_loopw [28] (fun i wr => ∃ j : Nat, j ≤ z.1.2.length ∧ i = .int .i64 j ∧ RowIs wr w1.heap.size 63 ((setAll V (z.1.2.take j)).map (.int .i64)) ∧ RowIs wr w.heap.size 63 (zeros.map (.int .i64)) ∧ Below w.heap.size w wr) (fun i _ => z.1.2.length - (intOf i).toNat)
      case atStart => exact ⟨0, Nat.zero_le _, rfl, HR0'.out, HRR'.out, HB0'.out⟩
      case round =>
        clear c1
        obtain ⟨j, hj, rfl, hrow, hres, hbel⟩ := hrel
        have hlt0 := hrow.lt
        by_cases hlj : j < z.1.2.length
        · obtain ⟨b2, o2, hA2, hb2, hc2⟩ := (HZK.out.2.below hbel).at_ hlj
          obtain ⟨hcell, hcell2⟩ := hc2 j hlj
          clear hc2
          have hkk := HKW.out z.1.2[j] (List.getElem_mem hlj)
          obtain ⟨v0, hold⟩ := hrow.some_ (k := z.1.2[j].1.toNat) (by rw [List.length_map, setAll_length, HSL.out]; omega)
          have hfz := hrow.frozen z.1.2[j].1.toNat
          have HS1 := Lib.hid (setAll_snoc V z.1.2 j hlj)
          have HR := Lib.hid hrow
          have HRE := Lib.hid hres
          clear hrow hres
          go_wp2
          go_roundw
          case rel =>
            refine ⟨j + 1, by omega, by go_num, ?_, (HRE.out.setCell_other (by show w.heap.size ≠ w1.heap.size; omega) _).alloc_other _, (hbel.setCell (p := ⟨w1.heap.size, z.1.2[j].1.toNat, none⟩) hws _).alloc (by simp [World.setCell]; omega) _⟩
            rw [HS1.out]
            have h1 := (HR.out.set z.1.2[j].1.toNat (.int .i64 z.1.2[j].2)).alloc_other (.cells #[.int .i64 z.1.2[j].1, .int .i64 z.1.2[j].2] 37)
            rw [List.map_set]
            exact h1
          case measure => simp [intOf]; omega
        · obtain rfl : j = z.1.2.length := by omega
          rw [List.take_length] at hrow
          have hg := hrow.heap
          have hg0 := hres.heap
          have HR := Lib.hid hrow
          have HRE := Lib.hid hres
          clear hrow hres
          go_wp2_with (first | (refine wpList_load_row rfl 63 _ rfl w1.heap.size rfl 63 _ (0, 0) _ hg Try.underlying63 rfl (by rw [size_values, arrV_size, setAll_length, HSL.out]) ?_) | (refine wpList_store_row rfl 63 _ _ rfl w.heap.size (arrV (setAll V z.1.2)) rfl rfl 63 _ hg0 (by rw [size_values, arrV_size, setAll_length, HSL.out]) (by rw [arrV_size, arrV_size, setAll_length, HSL.out]; rfl) (arrV_one _) ?_))
          refine bodyPost_ret (results_cell_row rfl _ _ w.heap.size 63 (arrV (setAll V z.1.2)) (0, 0) _ rfl ?h1 Try.underlying63 rfl (by rw [size_values, arrV_size, setAll_length, HSL.out])) rfl ?_
          case h1 => exact setRow_heap _ _ _ _ _ _ hg0
          rw [HST.out]
          exact ⟨rfl, below_setRow hbel (Nat.le_refl _) _⟩

set_option maxRecDepth 100000 in
set_option maxHeartbeats 1600000 in
theorem LayerRead_any (B : Option Addr) (d : Nat) (es : List Ent) (A : Option Addr) (c : Nat) (zs : List LayA) (n key : Int) (w : World) (hs : EntsAt w B es) (hm : es.length ≤ 4294967296) (hz : LaysAt w A zs) (hn : zs.length ≤ 4294967296) (hl : ∀ z ∈ zs, z.1.2.length ≤ 4294967296) :
    Calls Try.prog 19 #[.slice B es.length d, .slice A zs.length c, .int .i64 n, .int .i64 key] w fun e w' => e = .returned (.int .i64 (layReadF es (laysT zs) n key)) ∧ Below w.heap.size w w' := by
  have HF := Lib.hid (show layReadF es (laysT zs) n key = if fitB es (laysT zs) n && inB key 0 31 then (seenV es (laysT zs) n).getD key.toNat 0 else -1 from rfl)
  have HS := Lib.hid hs
  have HZ := Lib.hid hz
  have HL := Lib.hid hl
  have HE := Lib.hid (fitB_eq es (laysT zs) n)
  have HN := Lib.hid (laysT_len zs)
  clear hs hz hl
  go_enter Try.func19, Try.ntmps19
  go_wp2_with fail
  refine (layersFit_any _ _ es _ _ zs n _ HS.out hm HZ.out hn HL.out).mono ?_
  rintro e w1 ⟨rfl, hb1⟩
  cases h1 : fitB es (laysT zs) n
  · have HF2 := Lib.hid (show layReadF es (laysT zs) n key = -1 by rw [HF.out, h1]; rfl)
    go_wp2
    go_ret
    exact ⟨ret_int HF2.out.symm, hb1⟩
  · cases h2 : inB key 0 31
    · have HF2 := Lib.hid (show layReadF es (laysT zs) n key = -1 by rw [HF.out, h1, h2]; rfl)
      go_wp2_with (go_at_call 46; refine (isKey_any _ _).mono ?_; rintro e w' ⟨rfl, rfl⟩)
      go_ret
      exact ⟨ret_int HF2.out.symm, hb1⟩
    · have HF2 := Lib.hid (show layReadF es (laysT zs) n key = (seenV es (laysT zs) n).getD key.toNat 0 by rw [HF.out, h1, h2]; rfl)
      have b2 := inB_true.1 h2
      have hfit := h1
      rw [HE.out, Bool.and_eq_true, Bool.and_eq_true, inB_true, HN.out] at hfit
      have HV := Lib.hid hfit.1.1
      have HLF := Lib.hid (laysOk_iff.1 hfit.1.2).1
      have b3 := hfit.2
      have HIX := Lib.hid (index_values (seenV es (laysT zs) n) (seenV_length _ _ _) key b2.1 (by omega))
      clear hfit
      go_wp2_with (go_at_call 46; refine (isKey_any _ _).mono ?_; rintro e w' ⟨rfl, rfl⟩)
      refine (seen_any es zs hm hn HL.out HV.out HLF.out (n + 1).toNat n b3.1 (by omega) (by omega) _ _ _ _ _ (HS.out.below hb1) (HZ.out.below hb1)).mono ?_
      rintro e w2 ⟨rfl, hb2⟩
      have hix := HIX.out
      generalize (seenV es (laysT zs) n).getD key.toNat 0 = q at *
      generalize seenV es (laysT zs) n = V at *
      go_wp2
      go_ret
      exact ⟨ret_int HF2.out.symm, hb1.trans (hb2.mono hb1.size)⟩

end Go.Proofs.Ytehlgfgkobblbaa
