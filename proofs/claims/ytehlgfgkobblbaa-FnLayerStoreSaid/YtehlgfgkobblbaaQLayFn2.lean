/- Contracts of LayerStore in both packages. -/
import Derived.Test.YtehlgfgkobblbaaQLayFn
namespace Go.Proofs.Ytehlgfgkobblbaa
open Go.ChangeShapes Go.WideShapes Go.ChangeAt Go.RowKit Go.Deep

theorem layStoreF_length (s : List Ent) (ls : List LayT) (n : Int) : (layStoreF s ls n).length ≤ 32 := by
  unfold layStoreF
  split
  · exact storeOf_length (seenV_length _ _ _)
  · simp

set_option maxRecDepth 100000 in
set_option maxHeartbeats 1600000 in
theorem LayerStore_any (B : Option Addr) (d : Nat) (es : List Ent) (A : Option Addr) (c : Nat) (zs : List LayA) (n : Int) (w : World) (hs : EntsAt w B es) (hm : es.length ≤ 4294967296) (hz : LaysAt w A zs) (hn : zs.length ≤ 4294967296) (hl : ∀ z ∈ zs, z.1.2.length ≤ 4294967296) :
    Calls Try.prog 17 #[.slice B es.length d, .slice A zs.length c, .int .i64 n] w (OwnRes 37 2 (entCells (layStoreF es (laysT zs) n)) (layStoreF es (laysT zs) n).length w) := by
  have HF := Lib.hid (show layStoreF es (laysT zs) n = if fitB es (laysT zs) n then storeOf (seenV es (laysT zs) n) else [] from rfl)
  have HS := Lib.hid hs
  have HZ := Lib.hid hz
  have HL := Lib.hid hl
  have HE := Lib.hid (fitB_eq es (laysT zs) n)
  have HN := Lib.hid (laysT_len zs)
  clear hs hz hl
  go_enter Try.func17, Try.ntmps17
  go_wp2_with fail
  refine (layersFit_any _ _ es _ _ zs n _ HS.out hm HZ.out hn HL.out).mono ?_
  rintro e w1 ⟨rfl, hb1⟩
  cases h1 : fitB es (laysT zs) n
  · have HF2 := Lib.hid (show layStoreF es (laysT zs) n = [] by rw [HF.out, h1]; rfl)
    go_wp2
    go_ret
    rw [HF2.out]
    exact ownRes_of (World.ownsRow_nil _ _ _ _) hb1
  · have HF2 := Lib.hid (show layStoreF es (laysT zs) n = storeOf (seenV es (laysT zs) n) by rw [HF.out, h1]; rfl)
    have hfit := h1
    rw [HE.out, Bool.and_eq_true, Bool.and_eq_true, inB_true, HN.out] at hfit
    have HV := Lib.hid hfit.1.1
    have HLF := Lib.hid (laysOk_iff.1 hfit.1.2).1
    have b3 := hfit.2
    have HVL := Lib.hid (seenV_length es (laysT zs) n)
    clear hfit
    go_wp2_with fail
    refine (seen_any es zs hm hn HL.out HV.out HLF.out (n + 1).toNat n b3.1 (by omega) (by omega) _ _ _ _ _ (HS.out.below hb1) (HZ.out.below hb1)).mono ?_
    rintro e w2 ⟨rfl, hb2⟩
    generalize seenV es (laysT zs) n = V at *
    go_wp2_with fail
    refine (store_any V HVL.out _).mono ?_
    rintro e w3 ⟨A', c', rfl, ho, hb3⟩
    go_wp2
    go_ret
    have hB2 := hb1.trans (hb2.mono hb1.size)
    rw [HF2.out]
    exact ⟨A', c', rfl, own_weaken ho hB2.size, hB2.trans (hb3.mono hB2.size)⟩

set_option maxRecDepth 100000 in
set_option maxHeartbeats 1600000 in
theorem specLayerStore_any (B : Option Addr) (d : Nat) (es : List Ent) (A : Option Addr) (c : Nat) (zs : List LayA) (n : Int) (w : World) (hs : EntsAt w B es) (hm : es.length ≤ 4294967296) (hz : LaysAt w A zs) (hn : zs.length ≤ 4294967296) (hl : ∀ z ∈ zs, z.1.2.length ≤ 4294967296) :
    Calls Try.prog 23 #[.slice B es.length d, .slice A zs.length c, .int .i64 n] w (OwnRes 37 2 (entCells (layStoreF es (laysT zs) n)) (layStoreF es (laysT zs) n).length w) := by
  have HF := Lib.hid (show layStoreF es (laysT zs) n = if (entsOk 1 (-1) es && laysOk (laysT zs) && inB n (-1) ((zs.length : Int) - 1)) then storeOf (seenV es (laysT zs) n) else [] by unfold layStoreF; rw [fitB_eq, laysT_len])
  have HS := Lib.hid hs
  have HZ := Lib.hid hz
  have HL := Lib.hid hl
  have hb0 : Below w.heap.size w (w.alloc (.cells #[] 37)) := (Below.refl _ _).alloc (Nat.le_refl _) _
  have HE := Lib.hid (own_empty w w.heap.size 37 2 (Nat.le_refl _))
  have HS0 := Lib.hid (hs.below hb0)
  have HZ0 := Lib.hid (hz.below hb0)
  have HB0 := Lib.hid hb0
  have hsz0 : w.heap.size ≤ (w.alloc (.cells #[] 37)).heap.size := hb0.size
  clear hs hz hl hb0
  go_enter Try.func23, Try.ntmps23
  go_wp2_with fail
  refine (specStoreValid_any _ _ _ _ HS0.out hm).mono ?_
  rintro e w1 ⟨rfl, hd1⟩
  have hbd1 := hd1.below (w.alloc (.cells #[] 37)).heap.size
  have HB1 := Lib.hid (HB0.out.trans (hbd1.mono hsz0))
  have HE1 := Lib.hid (own_below HE.out hbd1)
  have HZ1 := Lib.hid (HZ0.out.below hbd1)
  clear hd1 hbd1
  cases h1 : entsOk 1 (-1) es
  · have HF2 := Lib.hid (show layStoreF es (laysT zs) n = [] by rw [HF.out, h1]; rfl)
    go_wp2
    go_ret
    rw [HF2.out]
    exact ownRes_of HE1.out HB1.out
  · go_wp2_with fail
    refine (specLayersValid_any _ _ _ _ HZ1.out hn HL.out).mono ?_
    rintro e w2 ⟨rfl, hd2⟩
    have hbd2 := hd2.below w1.heap.size
    have HB2 := Lib.hid (HB1.out.trans (hbd2.mono HB1.out.size))
    have HE2 := Lib.hid (own_below HE1.out hbd2)
    clear hd2 hbd2
    cases h2 : laysOk (laysT zs)
    · have HF2 := Lib.hid (show layStoreF es (laysT zs) n = [] by rw [HF.out, h1, h2]; rfl)
      go_wp2
      go_ret
      rw [HF2.out]
      exact ownRes_of HE2.out HB2.out
    · cases h3 : inB n (-1) ((zs.length : Int) - 1)
      · have HF2 := Lib.hid (show layStoreF es (laysT zs) n = [] by rw [HF.out, h1, h2, h3]; rfl)
        go_wp2_with (go_at_call 34; refine (l1In_any _ _ _ _).mono ?_; rintro e w' ⟨rfl, rfl⟩)
        go_ret
        rw [HF2.out]
        exact ownRes_of HE2.out HB2.out
      · have HF2 := Lib.hid (show layStoreF es (laysT zs) n = storeOf (seenV es (laysT zs) n) by rw [HF.out, h1, h2, h3]; rfl)
        have b3 := inB_true.1 h3
        have HV := Lib.hid h1
        have HLF := Lib.hid (laysOk_iff.1 h2).1
        have HVL := Lib.hid (seenV_length es (laysT zs) n)
        obtain ⟨V, hV⟩ : ∃ V, V = seenV es (laysT zs) n := ⟨_, rfl⟩
        have HV2 := Lib.hid hV
        rw [← hV] at HF2 HVL
        clear h1 h2 HF hV
        go_wp2_with (go_at_call 34; refine (l1In_any _ _ _ _).mono ?_; rintro e w' ⟨rfl, rfl⟩)
        go_loopw [7, 8] (fun out i wr => ∃ k : Nat, k ≤ 32 ∧ i = .int .i64 k ∧ (∃ A c, out = .slice A (storeFrom 0 (V.take k)).length c ∧ wr.ownsRow w.heap.size 37 2 (.slice A (storeFrom 0 (V.take k)).length c) (storeFrom 0 (V.take k)).length (entCells (storeFrom 0 (V.take k)))) ∧ Below w.heap.size w wr) (fun _ i _ => 32 - (intOf i).toNat)
        case atStart => exact ⟨0, by omega, rfl, ⟨_, _, rfl, HE2.out⟩, HB2.out⟩
        case round =>
          obtain ⟨k, hk, rfl, ⟨A5, c5, rfl, ho⟩, hB⟩ := hrel
          have hsz := hB.size
          by_cases hlt : k < 32
          · have hlv : k < V.length := by have := HVL.out; omega
            have HST := Lib.hid (storeFrom_snoc V k hlv)
            have hle := storeFrom_length 0 (V.take k)
            have hle2 : (V.take k).length ≤ 32 := by rw [List.length_take]; omega
            have hle3 : (storeFrom 0 (V.take k)).length < 4294967296 := by omega
            have hZr := HZ.out.below hB
            have hSr := HS.out.below hB
            have hget : (seenV es (laysT zs) n).getD ((k : Int)).toNat 0 = V[k] := by rw [← HV2.out, Int.toNat_natCast, List.getD_eq_getElem?_getD, List.getElem?_eq_getElem hlv]; rfl
            have HG := Lib.hid hget
            clear hget
            go_wp2_with fail
            refine (l4Read_any _ _ es _ _ zs n (k : Int) _ hSr hm hZr hn HL.out HV.out HLF.out b3.1 (by omega) (by omega) (by omega)).mono ?_
            rintro e w' ⟨rfl, rfl⟩
            rw [HG.out]
            generalize V[k] = q at *
            by_cases hp : 0 < q
            · have HS2 := Lib.hid HST.out
              rw [if_pos hp] at HS2
              go_wp2_with (at_builtin; refine wpList_push_ent entRow rfl _ _ rfl w.heap.size _ _ _ rfl ho _ (k : Int) q rfl hle3 hsz ?_; intro v3 w3 ho3 hb3 hg3 hs3)
              obtain ⟨A3, c3, rfl⟩ := own_form ho3
              have hB3 := hB.trans hb3
              have e3 : (storeFrom 0 (V.take k)).length + 1 = (storeFrom 0 (V.take (k + 1))).length := by rw [HS2.out, List.length_append]; rfl
              have e4 : entCells (storeFrom 0 (V.take k)) ++ [.int .i64 (k : Int), .int .i64 q] = entCells (storeFrom 0 (V.take (k + 1))) := by rw [HS2.out, entCells_append]; rfl
              have HO3 := Lib.hid ho3
              rw [e4] at HO3
              have E3 := Lib.hid e3
              clear ho3 hb3 hg3 e3 e4 ho
              go_wp2
              go_roundw
              case rel => exact ⟨k + 1, by omega, by go_num, ⟨A3, c3, by rw [E3.out], by rw [← E3.out]; exact HO3.out⟩, hB3⟩
              case measure => simp [intOf]; omega
            · have HS2 := Lib.hid HST.out
              rw [if_neg hp, List.append_nil] at HS2
              go_wp2
              go_roundw
              case rel => exact ⟨k + 1, by omega, by go_num, ⟨A5, c5, by rw [HS2.out], by rw [HS2.out]; exact ho⟩, hB⟩
              case measure => simp [intOf]; omega
          · obtain rfl : k = 32 := by omega
            rw [List.take_of_length_le (by rw [HVL.out]; omega)] at ho
            have HO := Lib.hid ho
            have e5 : (V.take 32) = V := List.take_of_length_le (by rw [HVL.out]; omega)
            rw [e5]
            go_wp2
            go_ret
            rw [HF2.out]
            exact ⟨A5, c5, rfl, HO.out, hB⟩

end Go.Proofs.Ytehlgfgkobblbaa
