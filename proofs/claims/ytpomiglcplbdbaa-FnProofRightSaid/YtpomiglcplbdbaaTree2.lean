/- Contracts of the reference's tree: l3Level, RootOf, ProofOf. -/
import Derived.Test.YtpomiglcplbdbaaTree
import Derived.Test.YtpomiglcplbdbaaProof
import Derived.Deep.RegionLaw
namespace Go.Proofs.Ytpomiglcplbdbaa
open Go.RowKit

theorem below_undrew {B : Nat} {w w' : World} (h : Below B w.drew w') : Below B w w' := ⟨h.os, h.tape, h.output, h.size, h.block⟩

/-- As step_push_int, the world not drawn from behind the new block. -/
theorem step_push_int0 {P : Program} {ops : Array Oper} {o : Oper} {a : Act} {Q : Exit → Act → World → Prop} {W : World} {K : Act → World → Prop} {E0 : Prop} {T E bytes : Nat} (hT : RowType P T E 1 bytes) (hgd : o.guard = none) (s x : Operand) (ho : o.op = .call { callee := .builtin .append, args := #[s, x], argTypes := #[T, T] })
    (base : Nat) (v : Value) (n : Nat) (xs : List Value) (hs : a.eval s = v) (hown : W.ownsRow base E 1 v n xs) (E' : Nat) (k : Int) (hx : a.eval x = .slice (some ⟨W.heap.size, 0, none⟩) 1 1)
    (hn : n < 4294967296) (hbase : base ≤ W.heap.size)
    (h : ∀ v' w', w'.ownsRow base E 1 v' (n + 1) (xs ++ [.int .i64 k]) → Below base W w' → W.grownBy w' v.ownBlock → W.heap.size < w'.heap.size → K (a.put o.dst v') w') :
    if Region.wanted o (yielded ops a.tmps) = true then Oper.wp P o a (W.alloc (.cells #[.int .i64 k] E')) K Q else E0 := by
  have hw : Region.wanted o (yielded ops a.tmps) = true := by simp [Region.wanted, hgd]
  rw [if_pos hw]
  obtain ⟨ht, i, z, hi, hz, hsz, hby, hzs, h0, hb⟩ := hT
  have hlt : bytes * (n + 1) ≤ 4096 * 4294967296 := Nat.mul_le_mul hb (by omega)
  refine wp_append_own _ s x T ho base E i z 1 bytes ht hi hz hsz hby hzs h0 v n xs hs (hown.alloc (.cells #[.int .i64 k] E')) ⟨W.heap.size, 0, none⟩ 1 1 [.int .i64 k] hx rfl (new_cells #[.int .i64 k] E')
    (by simp [Value.oneCell']) (by unfold maxLen; omega) (by rw [Nat.mul_comm]; omega) (by simp; omega) (fun v' w' g1 g2 _ => ?_)
  have hB : Below base W w' := below_own ((Below.refl _ _).alloc hbase _) (hown.alloc _) g2 (by simp; omega) (Nat.le_refl _)
  have hG : W.grownBy w' v.ownBlock := ⟨g2.os, g2.tape, g2.output, Nat.le_trans (by simp) g2.size, fun k hk hne => (g2.block k (by simp; omega) hne).trans (Below.heap_alloc W _ k hk)⟩
  exact h v' w' g1 hB hG (by have := g2.size; simp at this; omega)

theorem step_ready {o : Oper} {ops : Array Oper} {a : Act} {X E0 : Prop} (hgd : o.guard = none) (h : X) : if Region.wanted o (yielded ops a.tmps) = true then X else E0 := by
  have hw : Region.wanted o (yielded ops a.tmps) = true := by simp [Region.wanted, hgd]
  rw [if_pos hw]
  exact h

set_option maxRecDepth 100000 in
set_option maxHeartbeats 4000000 in
theorem l3Level_any (A : Option Addr) (c : Nat) (es : List Ent) (lev : Int) (w : World) (hz : EntsAt w A es) (hn : es.length ≤ 4294967296) (hv : entsOk 1 (-1) es = true) (hl0 : 0 ≤ lev) (hl1 : lev ≤ 5) :
    Calls Try.prog 67 #[.slice A es.length c, .int .i64 lev] w (OwnRes 3 1 ((levelF (toV es) lev.toNat).map (.int .i64)) (levelF (toV es) lev.toNat).length w) := by
  obtain ⟨lv, rfl⟩ : ∃ lv : Nat, lev = (lv : Int) := ⟨lev.toNat, by omega⟩
  simp only [Int.toNat_natCast]
  have HZ := Lib.hid hz
  have HL := Lib.hid (toV_length es)
  have HO := Lib.hid (toV_ok hv (by omega))
  have HG := Lib.hid (show ∀ k : Nat, k < 32 → ∃ h : k < (toV es).length, (toV es)[k] = valAt es k from fun k hk => ⟨by rw [toV_length]; exact hk, by
    have := toV_get hv k
    rw [List.getD_eq_getElem?_getD, List.getElem?_eq_getElem (by rw [toV_length]; exact hk)] at this
    exact this⟩)
  clear hz hv
  go_enter Try.func67, Try.ntmps67
  generalize toV es = v at *
  have hO := own_empty w w.heap.size 3 1 (Nat.le_refl _)
  have hB0 : Below w.heap.size w (w.alloc (.cells #[] 3)) := (Below.refl _ _).alloc (Nat.le_refl _) _
  go_wp2
  go_loopw [5, 6] (fun out i wr => ∃ k : Nat, k ≤ 32 ∧ i = .int .i64 k ∧ wr.ownsRow w.heap.size 3 1 out (leafFrom 0 (v.take k)).length ((leafFrom 0 (v.take k)).map (.int .i64)) ∧ Below w.heap.size w wr) (fun _ i _ => 32 - (intOf i).toNat)
  case atStart => exact ⟨0, by omega, rfl, hO, hB0⟩
  case round =>
    clear hO hB0
    obtain ⟨k, hk, rfl, hown, hbel⟩ := hrel
    have hsz := hbel.size
    by_cases hlt : k < 32
    · obtain ⟨hkv, hval⟩ := HG.out k hlt
      have HS := leaf_snoc HO.out k hkv
      rw [hval] at HS
      have HS := Lib.hid HS
      have hle : (leafFrom 0 (v.take k)).length ≤ 32 := by rw [leafFrom_length, List.length_take]; omega
      clear hval
      go_wp2_with fail
      refine (l2At_any _ _ _ _ _ (HZ.out.below hbel) hn).mono ?_
      rintro e w' ⟨rfl, rfl⟩
      generalize valAt es (k : Int) = q at *
      go_wp2_with fail
      refine (specLeafSum_any _ _ _).mono ?_
      rintro e w2 ⟨rfl, hb2⟩
      have hown2 := own_below hown hb2
      have hB2 := hbel.trans (hb2.mono hsz)
      go_wp2_with (at_builtin; refine wpList_push_int intRow rfl _ _ rfl w.heap.size _ _ _ rfl hown2 _ _ rfl (by omega) hB2.size ?_)
      intro v1 w3 ho1 hb3 _ hs1
      go_wp2
      go_roundw
      case rel => exact ⟨k + 1, by omega, by go_num, by rw [HS.out]; simpa using ho1, hB2.trans hb3⟩
      case measure => simp [intOf]; omega
    · obtain rfl : k = 32 := by omega
      rw [show ((32 : Nat) : Int) = 32 from rfl]
      have HT := Lib.hid (show leafFrom 0 (v.take 32) = levelF v 0 by rw [List.take_of_length_le (by have := HL.out; omega)]; rfl)
      rw [HT.out] at hown
      have HLn := Lib.hid (levelF_len HL.out)
      have HBd := Lib.hid (levelF_bd HL.out)
      go_wp2
      go_loopw [5, 7] (fun row i wr => ∃ j : Nat, j ≤ lv ∧ i = .int .i64 j ∧ wr.ownsRow w.heap.size 3 1 row (levelF v j).length ((levelF v j).map (.int .i64)) ∧ Below w.heap.size w wr) (fun _ i _ => lv - (intOf i).toNat)
      case atStart => exact ⟨0, by omega, rfl, hown, hbel⟩
      case round =>
        clear hown hbel hsz
        obtain ⟨j, hj, rfl, hown, hbel⟩ := hrel
        have hsz := hbel.size
        by_cases hlt : j < lv
        · obtain ⟨A1, c1, rfl⟩ := own_form hown
          have hi1 := ints_of_own hown
          have hpow := HLn.out j (by omega)
          obtain ⟨m1, hm1⟩ : ∃ m1, (levelF v j).length = 2 * m1 := ⟨2 ^ (5 - (j + 1)), by rw [hpow, ← Nat.pow_succ']; congr 1; omega⟩
          have hm32 : (levelF v j).length ≤ 32 := by
            rw [hpow]
            have : (2:Nat) ^ (5 - j) ≤ 2 ^ 5 := Nat.pow_le_pow_right (by omega) (by omega)
            simpa using this
          clear hpow
          have HB1 := Lib.hid (HBd.out j (by omega))
          have HNX := Lib.hid (show levelF v (j + 1) = pairUp (levelF v j) from rfl)
          generalize levelF v j = L at *
          have HM1 := Lib.hid hm1
          have hm1le : 2 * m1 ≤ 32 := by omega
          have hlen2 : L.length = 2 * m1 := hm1
          rw [hlen2] at hown
          rw [hlen2]
          have HI1 := Lib.hid hi1
          have HOwn := Lib.hid hown
          clear hm1 hm32 hi1 hown hlen2
          obtain ⟨wo, hwo⟩ : ∃ wo : World, wo = wr := ⟨_, rfl⟩
          subst hwo
          have hdj : decide ((j : Int) < (lv : Int)) = true := by simp; omega
          have hO2 := own_empty wo wo.heap.size 3 1 (Nat.le_refl _)
          have hB02 : Below wo.heap.size wo (wo.alloc (.cells #[] 3)) := (Below.refl _ _).alloc (Nat.le_refl _) _
          go_wp2
          go_loopw [8, 9] (fun nx i wr => ∃ m : Nat, m ≤ m1 ∧ i = .int .i64 ((2 * m : Nat) : Int) ∧ wr.ownsRow wo.heap.size 3 1 nx m ((pairUp (L.take (2 * m))).map (.int .i64)) ∧ Below wo.heap.size wo wr) (fun _ i _ => 2 * m1 - (intOf i).toNat)
          case atStart => exact ⟨0, by omega, rfl, hO2, hB02⟩
          case round =>
            clear hO2 hB02
            obtain ⟨m, hm, rfl, hownx, hbelx⟩ := hrel
            have hszx := hbelx.size
            by_cases hltx : m < m1
            · have hL : 2 * m + 1 < L.length := by have := HM1.out; omega
              obtain ⟨b, o, rfl, hbl, hc⟩ := HI1.out.at_ (k := 2 * m) (by omega)
              have HC := Lib.hid (show ∀ W', Below wo.heap.size wo W' → W'.cell? ⟨b, o + 2 * m, none⟩ = some (.int .i64 L[2 * m]) ∧ W'.cell? ⟨b, o + (2 * m + 1), none⟩ = some (.int .i64 L[2 * m + 1]) from
                fun W' h => ⟨(h.cell hbl).trans (hc _ _), (h.cell hbl).trans (hc _ _)⟩)
              have hx0 := HB1.out L[2 * m] (List.getElem_mem _)
              have hx1 := HB1.out L[2 * m + 1] (List.getElem_mem _)
              have HSn := Lib.hid (pairUp_snoc m L hL)
              obtain ⟨hcell, hcell1⟩ := HC.out wr hbelx
              clear hc
              have hdm : decide (2 * (m : Int) + 1 < 2 * (m1 : Int)) = true := by simp; omega
              go_wp2
              have hbd0 : (0 : Int) ≤ 2 * (m : Int) := by omega
              have hbd1 : 2 * (m : Int) < 2 * (m1 : Int) := by omega
              have hbd2 : (0 : Int) ≤ 2 * (m : Int) + 1 := by omega
              have hbd3 : 2 * (m : Int) + 1 < 2 * (m1 : Int) := by omega
              have hbw : IntKind.i64.wrap (2 * (m : Int) + 1) = 2 * (m : Int) + 1 := IntWalk.i64_in _ (by omega)
              have hbt : (2 * (m : Int) + 1).toNat = 2 * m + 1 := by omega
              have hbt0 : (2 * (m : Int)).toNat = 2 * m := by omega
              go_region_held3 (fun w' => w'.cell? ⟨b, o + 2 * m, none⟩ = some (.int .i64 L[2 * m]) ∧ w'.cell? ⟨b, o + (2 * m + 1), none⟩ = some (.int .i64 L[2 * m + 1])) (first | go_keep | exact HC.out _ (hbelx.trans ((below_undrew hb2).mono hszx)) | exact HC.out _ ((hbelx.trans ((below_undrew hb2).mono hszx)).trans hb3)) (first | (go_at_call 64; refine (l3Node_any _ _ _ hx0 hx1).mono ?_; rintro e w2 ⟨rfl, hb2⟩; have ho2 := own_below hownx (below_undrew hb2)) | (refine step_push_int0 intRow (by rfl) _ _ (by rfl) wo.heap.size _ _ _ (by rfl) ho2 _ _ (by rfl) (by omega) (hbelx.trans ((below_undrew hb2).mono hszx)).size ?_; intro v1 w3 ho1 hb3 _ hs1))
              clear hbw hbt hbt0
              have HB3 := Lib.hid ((hbelx.trans ((below_undrew hb2).mono hszx)).trans hb3)
              all_goals
                go_wp2
                go_roundw
                case rel => exact ⟨m + 1, by omega, by go_num, by rw [show 2 * (m + 1) = 2 * m + 2 from by omega, HSn.out]; simpa using ho1, HB3.out⟩
                case measure => simp [intOf]; omega
            · obtain rfl : m = m1 := by omega
              have HT1 := Lib.hid (show pairUp (L.take (2 * m)) = levelF v (j + 1) by rw [HNX.out, List.take_of_length_le (by have := HM1.out; omega)])
              rw [HT1.out] at hownx
              have hlen3 : (levelF v (j + 1)).length = m := by have := hownx.1; simpa using this
              have HLen3 := Lib.hid hlen3
              clear hlen3
              go_wp2
              go_roundw
              case rel => exact ⟨j + 1, by omega, by go_num, by rw [HLen3.out]; exact own_weaken hownx hsz, hbel.trans (hbelx.mono hsz)⟩
              case measure => simp [intOf]; omega
        · obtain rfl : j = lv := by omega
          go_wp2
          go_ret
          exact ownRes_of hown hbel

set_option maxRecDepth 100000 in
set_option maxHeartbeats 800000 in
theorem specRootOf_any (A : Option Addr) (c : Nat) (es : List Ent) (w : World) (hz : EntsAt w A es) (hn : es.length ≤ 4294967296) :
    Calls Try.prog 21 #[.slice A es.length c] w fun e w' => e = .returned (.int .i64 (rootOf es)) ∧ Below w.heap.size w w' := by
  have HZ := Lib.hid hz
  clear hz
  cases h1 : entsOk 1 (-1) es
  case false =>
    have H := Lib.hid (show rootOf es = -1 by simp [rootOf, h1])
    go_enter Try.func21, Try.ntmps21
    go_wp2_with fail
    refine (specStoreValid_any _ _ _ _ HZ.out hn).mono ?_
    rintro e w1 ⟨rfl, hb1⟩
    go_wp2
    go_ret
    exact ⟨ret_int H.out.symm, hb1.below _⟩
  case true =>
    have H := Lib.hid (show rootOf es = (levelF (toV es) 5).getD 0 0 by simp [rootOf, h1, rootF])
    have HV := Lib.hid h1
    go_enter Try.func21, Try.ntmps21
    go_wp2_with fail
    refine (specStoreValid_any _ _ _ _ HZ.out hn).mono ?_
    rintro e w1 ⟨rfl, hd1⟩
    have hb1 := hd1.below w.heap.size
    go_wp2_with fail
    refine (l3Level_any _ _ _ 5 _ (HZ.out.below hb1) hn HV.out (by omega) (by omega)).mono ?_
    rintro e w2 ⟨A5, c2, rfl, ho, hb2⟩
    have HB := Lib.hid (hb1.trans (hb2.mono hb1.size))
    rw [show (5 : Int).toNat = 5 from rfl] at ho ⊢
    have hl5 := (levelF_length (toV_length es)).2.2.2.2.2
    have hi5 := ints_of_own ho
    obtain ⟨b5, o5, hA5, hbl5, hcc⟩ := hi5.at_ (k := 0) (by omega)
    subst hA5
    have hcell5 := hcc 0 (by omega)
    have e5 : (levelF (toV es) 5)[0] = (levelF (toV es) 5).getD 0 0 := by simp [hl5]
    rw [e5] at hcell5
    rw [hl5]
    generalize (levelF (toV es) 5).getD 0 0 = q at *
    clear hcc hi5 e5 hl5 ho
    simp only [Nat.add_zero] at hcell5
    go_wp2
    go_ret
    exact ⟨ret_int H.out.symm, HB.out⟩

set_option maxRecDepth 100000 in
set_option maxHeartbeats 2000000 in
theorem specProofOf_any (A : Option Addr) (c : Nat) (es : List Ent) (key : Int) (w : World) (hz : EntsAt w A es) (hn : es.length ≤ 4294967296) :
    Calls Try.prog 31 #[.slice A es.length c, .int .i64 key] w (OwnRes 3 1 ((proofOf es key).map (.int .i64)) (proofOf es key).length w) := by
  have HZ := Lib.hid hz
  clear hz
  have hO := own_empty w w.heap.size 3 1 (Nat.le_refl _)
  have hB0 : Below w.heap.size w (w.alloc (.cells #[] 3)) := (Below.refl _ _).alloc (Nat.le_refl _) _
  cases h1 : entsOk 1 (-1) es
  case false =>
    have H := Lib.hid (show proofOf es key = [] by simp [proofOf, h1])
    go_enter Try.func31, Try.ntmps31
    go_wp2
    refine wp_loop_rounds 1 ?_
    rw [rounds_succ]
    go_wp2_with fail
    refine (specStoreValid_any _ _ _ _ (HZ.out.below hB0) hn).mono ?_
    rintro e w1 ⟨rfl, hb1⟩
    go_wp2
    go_ret
    rw [H.out]
    exact ownRes_of (own_below hO (hb1.below _)) (hB0.trans (hb1.below _))
  case true =>
    cases h2 : inB key 0 31
    case false =>
      have H := Lib.hid (show proofOf es key = [] by simp [proofOf, h2])
      go_enter Try.func31, Try.ntmps31
      go_wp2
      refine wp_loop_rounds 1 ?_
      rw [rounds_succ]
      go_wp2_with fail
      refine (specStoreValid_any _ _ _ _ (HZ.out.below hB0) hn).mono ?_
      rintro e w1 ⟨rfl, hb1⟩
      go_wp2_with (go_at_call 63; refine (l1In_any _ _ _ _).mono ?_; rintro e w' ⟨rfl, rfl⟩)
      go_ret
      rw [H.out]
      exact ownRes_of (own_below hO (hb1.below _)) (hB0.trans (hb1.below _))
    case true =>
      have b2 := inB_true.1 h2
      have H := Lib.hid (show proofOf es key = proofTo (toV es) key.toNat 5 by simp [proofOf, h1, h2, proofF, proofTo])
      have HV := Lib.hid h1
      have H2 := Lib.hid h2
      clear h1 h2
      obtain ⟨kk, rfl⟩ : ∃ kk : Nat, key = (kk : Int) := ⟨key.toNat, by omega⟩
      simp only [Int.toNat_natCast] at H
      go_enter Try.func31, Try.ntmps31
      go_wp2
      go_loopw [5, 6] (fun out i wr => ∃ j : Nat, j ≤ 5 ∧ i = .int .i64 j ∧ wr.ownsRow w.heap.size 3 1 out j ((proofTo (toV es) kk j).map (.int .i64)) ∧ Below w.heap.size w wr) (fun _ i _ => 5 - (intOf i).toNat)
      case atStart => exact ⟨0, by omega, rfl, hO, hB0⟩
      case round =>
        clear hO hB0
        obtain ⟨j, hj, rfl, hown, hbel⟩ := hrel
        have hsz := hbel.size
        by_cases hlt : j < 5
        · have hxs := xor_sib kk (by omega) j hlt
          have hlj := levelF_len (toV_length es) j (by omega)
          have hsb := sib_lt (show kk < 32 by omega) hlt
          have hsn : sib kk j < (levelF (toV es) j).length := by omega
          have hsn2 : ((sib kk j : Nat) : Int) < ((levelF (toV es) j).length : Int) := by omega
          have hqe : (levelF (toV es) j)[sib kk j]'hsn = (levelF (toV es) j).getD (sib kk j) 0 := by simp [hsn]
          have HPS := Lib.hid (proofTo_succ (toV es) kk j)
          rw [← hqe] at HPS
          clear hlj hsb hqe
          go_wp2_with fail
          refine (specStoreValid_any _ _ _ _ (HZ.out.below hbel) hn).mono ?_
          rintro e w1 ⟨rfl, hd1⟩
          rw [HV.out]
          have hB1 := hbel.trans (hd1.below _)
          have hown1 := own_below hown (hd1.below _)
          go_wp2_with fail
          refine (l1In_any _ _ _ _).mono ?_
          rintro e w' ⟨rfl, rfl⟩
          rw [H2.out]
          go_wp2
          go_region_law (first | (refine step_push_int0 intRow (by rfl) _ _ (by rfl) w.heap.size _ _ _ (by rfl) ho2 _ _ (by rfl) (by omega) (hB1.trans ((below_undrew hb2).mono hB1.size)).size ?_; intro v1 w3 ho1 hb3 _ hs1) | (go_simp; go_at_call 67; refine (l3Level_any _ _ _ (j : Int) _ (HZ.out.below hB1.drew) hn HV.out (by omega) (by omega)).mono ?_; rintro e w2 ⟨A5, c2, rfl, ho, hb2⟩; rw [Int.toNat_natCast] at ho ⊢; obtain ⟨b5, o5, hA5, hbl5, hcc⟩ := (ints_of_own ho).at_ (k := sib kk j) hsn; subst hA5; have hcellq := hcc (sib kk j) hsn; clear hcc; have ho2 := own_below hown1 (below_undrew hb2)))
          all_goals
            have HB3 := Lib.hid ((hB1.trans ((below_undrew hb2).mono hB1.size)).trans hb3)
            clear hxs
            go_wp2
            go_roundw
            case rel => exact ⟨j + 1, by omega, by go_num, by rw [HPS.out]; simpa using ho1, HB3.out⟩
            case measure => simp [intOf]; omega
        · obtain rfl : j = 5 := by omega
          go_wp2
          go_ret
          rw [H.out, proofTo_length]
          exact ownRes_of hown hbel

end Go.Proofs.Ytpomiglcplbdbaa
