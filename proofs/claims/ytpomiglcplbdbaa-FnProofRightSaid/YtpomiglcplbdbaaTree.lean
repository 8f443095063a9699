/- Contracts of the tree: levels, RootOf, ProofOf of the program. -/
import Derived.Test.YtpomiglcplbdbaaPut
import Derived.Test.YtpomiglcplbdbaaLeaf
import Derived.Test.YtpomiglcplbdbaaTreeMath
import Derived.Test.YtpomiglcplbdbaaKeep
import Derived.Deep.RegionHeld3
namespace Go.Proofs.Ytpomiglcplbdbaa
open Go.RowKit

theorem leaf_snoc {v : List Int} (hv : vOk v) (k : Nat) (hk : k < v.length) : leafFrom 0 (v.take (k + 1)) = leafFrom 0 (v.take k) ++ [leafF (k : Int) v[k]] := by
  have h32 := hv.1
  have hb := hv.2 v[k] (List.getElem_mem hk)
  rw [List.take_succ_eq_append_getElem hk, leafFrom_append, List.length_take, Nat.min_eq_left (by omega)]
  have : leafF (k : Int) v[k] = sumF 1 [(k : Int), v[k]] := by
    unfold leafF
    rw [inB_true.2 (by omega), inB_true.2 hb]; rfl
  rw [this]
  simp [leafFrom]

theorem pairUp_snoc : ∀ (m : Nat) (l : List Int) (h : 2 * m + 1 < l.length), pairUp (l.take (2 * m + 2)) = pairUp (l.take (2 * m)) ++ [nodeF l[2 * m] l[2 * m + 1]] := by
  intro m
  induction m with
  | zero =>
    intro l h
    match l, h with
    | a :: b :: r, _ => rfl
  | succ m ih =>
    intro l h
    match l, h with
    | a :: b :: r, h =>
      have := ih r (by simp at h; omega)
      have e1 : (a :: b :: r).take (2 * (m + 1) + 2) = a :: b :: r.take (2 * m + 2) := by rw [show 2 * (m + 1) + 2 = 2 * m + 2 + 1 + 1 from by omega]; rfl
      have e2 : (a :: b :: r).take (2 * (m + 1)) = a :: b :: r.take (2 * m) := by rw [show 2 * (m + 1) = 2 * m + 1 + 1 from by omega]; rfl
      rw [e1, e2]
      simp only [pairUp, List.cons_append, this]
      congr 3

theorem node_sumOf {a b : Int} (ha : 0 ≤ a ∧ a ≤ 1000002) (hb : 0 ≤ b ∧ b ≤ 1000002) : sumOfF 2 [a, b] = nodeF a b := by
  have h1 : inB 2 0 9 = true := by decide
  simp [sumOfF, h1, okSummed, inB_true.2 (show (0 : Int) ≤ a ∧ a ≤ 2000000 by omega), inB_true.2 (show (0 : Int) ≤ b ∧ b ≤ 2000000 by omega), nodeF]

/-- Slices of integers, as cells. -/
abbrev Sl := Option Addr × Nat × Nat
def slCells (ls : List Sl) : List Value := ls.map fun t => .slice t.1 t.2.1 t.2.2
theorem slCells_append (a b : List Sl) : slCells (a ++ b) = slCells a ++ slCells b := by simp [slCells]

theorem slRow : RowType Try.prog 80 23 1 24 :=
  rowType_mk (z := .slice none 0 0) Try.underlying80 (by kernel_rfl) rfl (by omega) (by omega)

theorem own_cap {w : World} {base E sz n c : Nat} {A : Option Addr} {xs : List Value} (h : w.ownsRow base E sz (.slice A n c) n xs) : n ≤ c := by
  rcases h.2 with ⟨hv, h0⟩ | ⟨g, cap, cur, hv, _, _, hn, _⟩
  · omega
  · injection hv with _ _ h3
    omega

/-- The levels from 0 on, each a slice of its own. -/
def LevOk (E : Nat) (w : World) (v : List Int) (ls : List Sl) : Prop := ∀ i (h : i < ls.length), w.ownsRow 0 E 1 (.slice ls[i].1 ls[i].2.1 ls[i].2.2) ls[i].2.1 ((levelF v i).map (.int .i64))
theorem LevOk.below {E : Nat} {w w' : World} {v : List Int} {ls : List Sl} (h : LevOk E w v ls) (hb : Below w.heap.size w w') : LevOk E w' v ls := fun i hi => own_below (h i hi) hb
theorem LevOk.pushed {E E' sz n base : Nat} {w w' : World} {v : List Int} {ls : List Sl} {u : Value} {xs : List Value} (h : LevOk E w v ls) (h1 : w.ownsRow base E' sz u n xs) (hne : E ≠ E') (hg : w.grownBy w' u.ownBlock) : LevOk E w' v ls :=
  fun i hi => own_kept_type (h i hi) h1 hne hg
theorem LevOk.snoc {E : Nat} {w : World} {v : List Int} {ls : List Sl} (h : LevOk E w v ls) {t : Sl} (ht : w.ownsRow 0 E 1 (.slice t.1 t.2.1 t.2.2) t.2.1 ((levelF v ls.length).map (.int .i64))) : LevOk E w v (ls ++ [t]) := by
  intro i hi
  rw [List.length_append] at hi
  by_cases e : i < ls.length
  · rw [List.getElem_append_left e]; exact h i e
  · have e2 : i = ls.length := by simp at hi; omega
    subst e2
    simp only [List.getElem_concat_length]
    exact ht
theorem LevOk.at_ {E : Nat} {w : World} {v : List Int} {ls : List Sl} (h : LevOk E w v ls) (i : Nat) (hi : i < ls.length) : IntsAt w ls[i].1 (levelF v i) ∧ ls[i].2.1 = (levelF v i).length ∧ (levelF v i).length ≤ ls[i].2.2 := by
  have h1 := h i hi
  have h2 := h1.1
  simp at h2
  exact ⟨ints_of_own h1, h2.symm, by rw [h2]; exact own_cap h1⟩

def LevRes (E : Nat) (v : List Int) (w : World) (e : Ending) (w' : World) : Prop :=
  ∃ A c ls, e = .returned (.slice A 6 c) ∧ CellsAt w' A (slCells ls) ∧ ls.length = 6 ∧ LevOk E w' v ls ∧ Below w.heap.size w w'

set_option maxRecDepth 100000 in
set_option maxHeartbeats 4000000 in
theorem levels_any (A : Option Addr) (c : Nat) (es : List Ent) (w : World) (hz : EntsAt w A es) (hn : es.length ≤ 4294967296) (hv : entsOk 1 (-1) es = true) :
    Calls Try.prog 66 #[.slice A es.length c] w (LevRes 3 (toV es) w) := by
  have hok := toV_ok hv (by omega)
  have HK := Lib.hid (keysOk_of hv)
  have HL := Lib.hid (toV_length es)
  have HO := Lib.hid hok
  clear hok hv
  go_enter Try.func66, Try.ntmps66
  go_wp2_with fail
  refine (valuesOf_any _ _ _ _ hz hn HK.out).mono ?_
  rintro e w1 ⟨rfl, hb1⟩
  generalize toV es = v at *
  go_wp2
  go_loopw [3, 11] (fun out i wr => ∃ k : Nat, k ≤ 32 ∧ i = .int .i64 k ∧ wr.ownsRow w.heap.size 3 1 out (leafFrom 0 (v.take k)).length ((leafFrom 0 (v.take k)).map (.int .i64)) ∧ Below w.heap.size w wr) (fun _ i _ => 32 - (intOf i).toNat)
  case atStart => exact ⟨0, by omega, rfl, World.ownsRow_nil _ _ _ _, hb1⟩
  case round =>
    obtain ⟨k, hk, rfl, hown, hbel⟩ := hrel
    have hsz := hbel.size
    by_cases hlt : k < 32
    · have hkv : k < v.length := by have := HL.out; omega
      have hix : ∀ W, (Instr.index 85 (.agg (arrV v)) (.int .i64 (k : Int))).run Try.prog W = .ok (.int .i64 v[k]) W := fun W => by
        have h := index_values v HL.out k (by omega) (by omega) W
        rw [h]
        simp [hkv]
      have HS := Lib.hid (leaf_snoc HO.out k hkv)
      have hle : (leafFrom 0 (v.take k)).length ≤ 32 := by rw [leafFrom_length, List.length_take]; omega
      go_wp2_with fail
      refine (LeafSum_any _ _ _).mono ?_
      rintro e w2 ⟨rfl, hb2⟩
      have hown2 := own_below hown hb2
      have hB2 := hbel.trans (hb2.mono hsz)
      go_wp2_with (at_builtin; refine wpList_push_int intRow rfl _ _ rfl w.heap.size _ _ _ rfl hown2 _ _ rfl (by omega) hB2.size ?_)
      intro v1 w3 ho1 hb3 _ hs1
      go_wp2
      go_roundw
      case rel => exact ⟨k + 1, by omega, by go_num, by rw [HS.out]; simpa using ho1, hB2.trans hb3⟩
      case measure => simp [intOf]; omega
    · obtain rfl : k = 32 := by omega
      rw [show ((32 : Nat) : Int) = 32 from rfl]
      have HT := Lib.hid (show leafFrom 0 (v.take 32) = levelF v 0 by rw [List.take_of_length_le (by have := HL.out; omega)]; rfl)
      rw [HT.out] at hown
      obtain ⟨A0, c0, rfl⟩ := own_form hown
      have HLn := Lib.hid (levelF_len HL.out)
      have HBd := Lib.hid (levelF_bd HL.out)
      have hl0 := HLn.out 0 (by omega)
      simp only [Nat.sub_zero] at hl0
      have hbA : Below w.heap.size w (wr.alloc (.cells #[.slice A0 (levelF v 0).length c0] 23)) := hbel.alloc hsz _
      have hoA : (wr.alloc (.cells #[.slice A0 (levelF v 0).length c0] 23)).ownsRow w.heap.size 23 1 (.slice (some ⟨wr.heap.size, 0, none⟩) 1 1) 1 (slCells [(A0, (levelF v 0).length, c0)]) :=
        own_of_row (RowIs.alloc #[.slice A0 (levelF v 0).length c0] 23) hsz rfl (by unfold maxLen; omega)
      have hlA : LevOk 3 (wr.alloc (.cells #[.slice A0 (levelF v 0).length c0] 23)) v [(A0, (levelF v 0).length, c0)] := by
        intro i hi
        have : i = 0 := by simp at hi; omega
        subst this
        exact own_weaken (hown.alloc _) (Nat.zero_le _)
      clear hown hl0
      go_wp2
      go_loopw [3, 6, 24] (fun nw out i wr => ∃ j : Nat, ∃ ls : List Sl, ∃ t : Sl, j ≤ 5 ∧ i = .int .i64 j ∧ ls.length = j ∧ nw = .slice t.1 t.2.1 t.2.2 ∧ wr.ownsRow w.heap.size 23 1 out (j + 1) (slCells (ls ++ [t])) ∧ LevOk 3 wr v (ls ++ [t]) ∧ Below w.heap.size w wr) (fun _ _ i _ => 5 - (intOf i).toNat)
      case atStart => exact ⟨0, [], (A0, (levelF v 0).length, c0), by omega, rfl, rfl, rfl, hoA, hlA, hbA⟩
      case round =>
        clear hoA hlA hbA hbel hsz
        obtain ⟨j, ls, t, hj, rfl, hls, rfl, hown, hlev, hbel⟩ := hrel
        have hsz := hbel.size
        have HLS := Lib.hid hls
        clear hls
        by_cases hlt : j < 5
        · obtain ⟨A1, n1, c1⟩ := t
          have hat := hlev.at_ ls.length (by simp)
          simp only [List.getElem_concat_length] at hat
          rw [HLS.out] at hat
          obtain ⟨hi1, hn1, hcap1⟩ := hat
          have HN1 := Lib.hid hn1
          have hpow := HLn.out j (by omega)
          obtain ⟨m1, hm1⟩ : ∃ m1, (levelF v j).length = 2 * m1 := ⟨2 ^ (5 - (j + 1)), by rw [hpow, ← Nat.pow_succ']; congr 1; omega⟩
          have hm32 : (levelF v j).length ≤ 32 := by
            rw [hpow]
            have : (2:Nat) ^ (5 - j) ≤ 2 ^ 5 := Nat.pow_le_pow_right (by omega) (by omega)
            simpa using this
          clear hpow hn1
          have HB1 := Lib.hid (HBd.out j (by omega))
          have HNX := Lib.hid (show levelF v (j + 1) = pairUp (levelF v j) from rfl)
          have HNL := Lib.hid (HLn.out (j + 1) (by omega))
          generalize levelF v j = L at *
          have HM1 := Lib.hid hm1
          have hm1le : 2 * m1 ≤ 32 := by omega
          have hm1c : 2 * m1 ≤ c1 := by omega
          have HI1 := Lib.hid hi1
          have HOwn := Lib.hid hown
          have HLev := Lib.hid hlev
          obtain rfl : n1 = 2 * m1 := by have h1 : n1 = L.length := HN1.out; have h2 := HM1.out; omega
          clear hm1 hm32 hcap1 hi1 hown hlev
          obtain ⟨wo, hwo⟩ : ∃ wo : World, wo = wr := ⟨_, rfl⟩
          subst hwo
          have hdj : decide ((j : Int) < 5) = true := by simp; omega
          go_wp2
          go_loopw [7, 8] (fun nx i wr => ∃ m : Nat, m ≤ m1 ∧ i = .int .i64 ((2 * m : Nat) : Int) ∧ wr.ownsRow wo.heap.size 3 1 nx m ((pairUp (L.take (2 * m))).map (.int .i64)) ∧ Below wo.heap.size wo wr) (fun _ i _ => 2 * m1 - (intOf i).toNat)
          case atStart => exact ⟨0, by omega, rfl, World.ownsRow_nil _ _ _ _, Below.refl _ _⟩
          case round =>
            obtain ⟨m, hm, rfl, hownx, hbelx⟩ := hrel
            have hszx := hbelx.size
            by_cases hltx : m < m1
            · have hL : 2 * m + 1 < L.length := by have := HM1.out; omega
              obtain ⟨b, o, rfl, hb, hc⟩ := (HI1.out.below hbelx).at_ (k := 2 * m) (by omega)
              have hx0 := HB1.out L[2 * m] (List.getElem_mem _)
              have hx1 := HB1.out L[2 * m + 1] (List.getElem_mem _)
              have hsub : IntsAt wr (some ⟨b, o + 2 * m, none⟩) [L[2 * m], L[2 * m + 1]] := by
                refine .inr ⟨_, _, rfl, fun q u hu => ?_⟩
                match q, hu with
                | 0, hu => simp at hu; subst hu; exact hc (2 * m) (by omega)
                | 1, hu => simp at hu; subst hu; exact hc (2 * m + 1) hL
              have HSum := Lib.hid (node_sumOf hx0 hx1)
              have HSn := Lib.hid (pairUp_snoc m L hL)
              clear hc hx0 hx1
              go_wp2_with fail
              refine (SumOf_any _ _ _ [L[2 * m], L[2 * m + 1]] _ hsub (by simp)).mono ?_
              rintro e w' ⟨rfl, rfl⟩
              rw [HSum.out]
              go_wp2_with (at_builtin; refine wpList_push_int intRow rfl _ _ rfl wo.heap.size _ _ _ rfl hownx _ _ rfl (by omega) hszx ?_)
              intro v1 w3 ho1 hb3 _ hs1
              go_wp2
              go_roundw
              case rel => exact ⟨m + 1, by omega, by go_num, by rw [show 2 * (m + 1) = 2 * m + 2 from by omega, HSn.out]; simpa using ho1, hbelx.trans hb3⟩
              case measure => simp [intOf]; omega
            · obtain rfl : m = m1 := by omega
              have HT1 := Lib.hid (show pairUp (L.take (2 * m)) = levelF v (j + 1) by rw [HNX.out, List.take_of_length_le (by have := HM1.out; omega)])
              rw [HT1.out] at hownx
              obtain ⟨A2, c2, rfl⟩ := own_form hownx
              have hi2 := hownx
              have ho2 := own_below HOwn.out hbelx
              have hl2 := HLev.out.below hbelx
              have hB2 := hbel.trans (hbelx.mono hbel.size)
              have hlen2 : (levelF v (j + 1)).length = m := by have := hownx.1; simpa using this
              have HLen2 := Lib.hid hlen2
              have HL2 := Lib.hid hl2
              have HI2 := Lib.hid hi2
              clear hownx hlen2 hl2 hi2
              go_wp2_with (at_builtin; refine wpList_push_slice slRow rfl _ _ rfl w.heap.size _ _ _ rfl ho2 _ _ _ _ rfl (by omega) hB2.size ?_)
              intro v3 w3 ho3 hb3 hg3 hs3
              have HL3 := Lib.hid (show LevOk 3 w3 v (ls ++ [(A1, 2 * m, c1)] ++ [(A2, m, c2)]) from
                (HL2.out.snoc (t := (A2, m, c2)) (by rw [show (ls ++ [(A1, 2 * m, c1)]).length = j + 1 from by simp [HLS.out]]; exact own_weaken HI2.out (Nat.zero_le _))).pushed ho2 (by omega) hg3)
              go_wp2
              go_roundw
              case rel =>
                refine ⟨j + 1, ls ++ [(A1, 2 * m, c1)], (A2, m, c2), by omega, by go_num, by have := HLS.out; simp [this], rfl, ?_, HL3.out, hB2.trans hb3⟩
                rw [slCells_append]
                exact ho3
              case measure => simp [intOf]; omega
        · obtain rfl : j = 5 := by omega
          obtain ⟨A6, c6, rfl⟩ := own_form hown
          go_wp2
          go_ret
          exact ⟨A6, c6, ls ++ [t], rfl, cells_of_own hown, by simp [HLS.out], hlev, hbel⟩

theorem slCells_at (ls : List Sl) (i : Nat) (h : i < ls.length) : (slCells ls)[i]? = some (.slice ls[i].1 ls[i].2.1 ls[i].2.2) := by simp [slCells, h]

def rootOf (es : List Ent) : Int := if entsOk 1 (-1) es then rootF (toV es) else -1

set_option maxRecDepth 100000 in
set_option maxHeartbeats 800000 in
theorem RootOf_any (A : Option Addr) (c : Nat) (es : List Ent) (w : World) (hz : EntsAt w A es) (hn : es.length ≤ 4294967296) :
    Calls Try.prog 20 #[.slice A es.length c] w fun e w' => e = .returned (.int .i64 (rootOf es)) ∧ Below w.heap.size w w' := by
  have HZ := Lib.hid hz
  clear hz
  cases h1 : entsOk 1 (-1) es
  case false =>
    have H := Lib.hid (show rootOf es = -1 by simp [rootOf, h1])
    go_enter Try.func20, Try.ntmps20
    go_wp2_with fail
    refine (StoreValid_any _ _ _ _ HZ.out hn).mono ?_
    rintro e w1 ⟨rfl, hb1⟩
    go_wp2
    go_ret
    exact ⟨ret_int H.out.symm, hb1⟩
  case true =>
    have H := Lib.hid (show rootOf es = (levelF (toV es) 5).getD 0 0 by simp [rootOf, h1, rootF])
    have HV := Lib.hid h1
    go_enter Try.func20, Try.ntmps20
    go_wp2_with fail
    refine (StoreValid_any _ _ _ _ HZ.out hn).mono ?_
    rintro e w1 ⟨rfl, hb1⟩
    go_wp2_with fail
    refine (levels_any _ _ _ _ (HZ.out.below hb1) hn HV.out).mono ?_
    rintro e w2 ⟨A2, c2, ls, rfl, hcs, hls, hlev, hb2⟩
    have HB := Lib.hid (hb1.trans (hb2.mono hb1.size))
    obtain ⟨b, o, rfl, hbl, hc⟩ := hcs.pos (k := 5) (by simp [slCells, hls])
    have hcell := hc 5 _ (slCells_at ls 5 (by omega))
    obtain ⟨hi5, hn5, hc5⟩ := hlev.at_ 5 (by omega)
    have hl5 := (levelF_length (toV_length es)).2.2.2.2.2
    generalize ls[5] = t5 at *
    obtain ⟨A5, n5, c5⟩ := t5
    obtain ⟨b5, o5, hA5, hbl5, hcc⟩ := hi5.at_ (k := 0) (by omega)
    have hA5' : A5 = some ⟨b5, o5, none⟩ := hA5
    subst hA5'
    have hcell5 := hcc 0 (by omega)
    have e5 : (levelF (toV es) 5)[0] = (levelF (toV es) 5).getD 0 0 := by simp [hl5]
    rw [e5] at hcell5
    have hn5' : n5 = 1 := by have : n5 = _ := hn5; omega
    subst hn5'
    generalize (levelF (toV es) 5).getD 0 0 = q at *
    clear hc hcc hlev hls hA5 hi5 hcs e5 hl5 hn5
    simp only [Nat.add_zero] at hcell5
    go_wp2
    go_ret
    exact ⟨ret_int H.out.symm, HB.out⟩

theorem xor_sib : ∀ kk < 32, ∀ j < 5, bits .xor .i64 (((kk : Nat) : Int) / 2 ^ j) 1 = ((sib kk j : Nat) : Int) := by decide +kernel

theorem sib_lt {key l : Nat} (hk : key < 32) (hl : l < 5) : sib key l < 2 ^ (5 - l) := by
  have h : key / 2 ^ l < 2 ^ (5 - l) := by
    rw [Nat.div_lt_iff_lt_mul (Nat.pow_pos (by omega)), ← Nat.pow_add, show 5 - l + l = 5 from by omega]
    exact hk
  have hev : (2 : Nat) ^ (5 - l) = 2 * 2 ^ (4 - l) := by rw [← Nat.pow_succ']; congr 1; omega
  unfold sib
  generalize key / 2 ^ l = x at *
  generalize (2 : Nat) ^ (5 - l) = P at *
  generalize (2 : Nat) ^ (4 - l) = Q at *
  split <;> omega

/-- The first n sums of a proof. -/
def proofTo (v : List Int) (key n : Nat) : List Int := (List.range n).map fun l => (levelF v l).getD (sib key l) 0
theorem proofTo_succ (v : List Int) (key n : Nat) : proofTo v key (n + 1) = proofTo v key n ++ [(levelF v n).getD (sib key n) 0] := by
  unfold proofTo; rw [List.range_succ]; simp
theorem proofTo_length (v : List Int) (key n : Nat) : (proofTo v key n).length = n := by simp [proofTo]

def proofOf (es : List Ent) (key : Int) : List Int := if entsOk 1 (-1) es && inB key 0 31 then proofF (toV es) key.toNat else []
theorem proofOf_length (es : List Ent) (key : Int) : (proofOf es key).length ≤ 5 := by
  unfold proofOf; split
  · simp [proofF]
  · simp

set_option maxRecDepth 100000 in
set_option maxHeartbeats 2000000 in
theorem ProofOf_any (A : Option Addr) (c : Nat) (es : List Ent) (key : Int) (w : World) (hz : EntsAt w A es) (hn : es.length ≤ 4294967296) :
    Calls Try.prog 28 #[.slice A es.length c, .int .i64 key] w (OwnRes 3 1 ((proofOf es key).map (.int .i64)) (proofOf es key).length w) := by
  have HZ := Lib.hid hz
  clear hz
  cases h1 : entsOk 1 (-1) es <;> cases h2 : inB key 0 31
  case true.true =>
    have b2 := inB_true.1 h2
    have H := Lib.hid (show proofOf es key = proofTo (toV es) key.toNat 5 by simp [proofOf, h1, h2, proofF, proofTo])
    have HV := Lib.hid h1
    clear h1
    obtain ⟨kk, rfl⟩ : ∃ kk : Nat, key = (kk : Int) := ⟨key.toNat, by omega⟩
    simp only [Int.toNat_natCast] at H
    go_enter Try.func28, Try.ntmps28
    go_wp2_with fail
    refine (StoreValid_any _ _ _ _ HZ.out hn).mono ?_
    rintro e w1 ⟨rfl, hb1⟩
    have HT := Lib.hid (show entsOk 1 (-1) es = true from HV.out)
    rw [HT.out]
    go_wp2_with fail
    refine (isKey_any _ _).mono ?_
    rintro e w' ⟨rfl, rfl⟩
    go_wp2_with fail
    refine (levels_any _ _ _ _ (HZ.out.below hb1) hn HV.out).mono ?_
    rintro e w2 ⟨A2, c2, ls, rfl, hcs, hls, hlev, hb2⟩
    have hB := hb1.trans (hb2.mono hb1.size)
    have HLS := Lib.hid hls
    clear hls
    go_wp2
    go_loopw [6, 18] (fun out i wr => ∃ j : Nat, j ≤ 5 ∧ i = .int .i64 j ∧ wr.ownsRow w2.heap.size 3 1 out j ((proofTo (toV es) kk j).map (.int .i64)) ∧ Below w2.heap.size w2 wr) (fun _ i _ => 5 - (intOf i).toNat)
    case atStart => exact ⟨0, by omega, rfl, World.ownsRow_nil _ _ _ _, Below.refl _ _⟩
    case round =>
      obtain ⟨j, hj, rfl, hown, hbel⟩ := hrel
      by_cases hlt : j < 5
      · have hls6 := HLS.out
        obtain ⟨b, o, rfl, hbl, hc⟩ := hcs.pos (k := j) (by simp [slCells, hls6]; omega)
        have hcell0 := hc j _ (slCells_at ls j (by omega))
        obtain ⟨hi5, hn5, hc5⟩ := hlev.at_ j (by omega)
        have hlj := levelF_len (toV_length es) j (by omega)
        have hsb := sib_lt (show kk < 32 by omega) hlt
        generalize ls[j]'(by omega) = tj at *
        obtain ⟨Aj, nj, cj⟩ := tj
        obtain ⟨bj, oj, hAj, hblj, hcc⟩ := hi5.at_ (k := sib kk j) (by omega)
        have hcellj0 := hcc (sib kk j) (by omega)
        have hxs := xor_sib kk (by omega) j hlt
        have hj6 : (j : Int) < 6 := by omega
        have hnj : nj = (levelF (toV es) j).length := hn5
        have hsn : ((sib kk j : Nat) : Int) < (nj : Int) := by omega
        have hqe : (levelF (toV es) j)[sib kk j]'(by omega) = (levelF (toV es) j).getD (sib kk j) 0 := by simp [show sib kk j < (levelF (toV es) j).length by omega]
        rw [hqe] at hcellj0
        have HPS := Lib.hid (proofTo_succ (toV es) kk j)
        generalize (levelF (toV es) j).getD (sib kk j) 0 = q at *
        have hAj' : Aj = some ⟨bj, oj, none⟩ := hAj
        subst hAj'
        have HC := Lib.hid (show ∀ W', Below w2.heap.size w2 W' → W'.cell? ⟨b, o + j, none⟩ = some (.slice (some ⟨bj, oj, none⟩) nj cj) ∧ W'.cell? ⟨bj, oj + sib kk j, none⟩ = some (.int .i64 q) from
          fun W' h => ⟨(h.cell hbl).trans hcell0, (h.cell hblj).trans hcellj0⟩)
        obtain ⟨hcell, hcellj⟩ := HC.out wr hbel
        clear hcell0 hcellj0
        clear hc hcc hqe hnj hn5 hi5 hAj hlj hsb hc5
        obtain ⟨A0, n0, rfl⟩ := own_form hown
        go_wp2
        go_region_held3 (fun w' => w'.cell? ⟨b, o + j, none⟩ = some (.slice (some ⟨bj, oj, none⟩) nj cj) ∧ w'.cell? ⟨bj, oj + sib kk j, none⟩ = some (.int .i64 q)) (first | go_keep | exact HC.out _ (hbel.trans (by assumption))) ((refine step_push_int intRow (by rfl) _ _ (by rfl) w2.heap.size _ _ _ (by rfl) hown _ _ (by rfl) (by omega) hbel.size ?_; intro v1 w3 ho1 hb3 _ hs1))
        all_goals
          go_wp2
          go_roundw
          case rel => exact ⟨j + 1, by omega, by go_num, by rw [HPS.out]; simpa using ho1, hbel.trans hb3⟩
          case measure => simp [intOf]; omega
      · obtain rfl : j = 5 := by omega
        go_wp2
        go_ret
        rw [H.out, proofTo_length]
        exact ownRes_of (own_weaken hown hB.size) (hB.trans (hbel.mono hB.size))
  all_goals
    have H := Lib.hid (show proofOf es key = [] by simp [proofOf, h1, h2])
    go_enter Try.func28, Try.ntmps28
    go_wp2_with fail
    refine (StoreValid_any _ _ _ _ HZ.out hn).mono ?_
    rintro e w1 ⟨rfl, hb1⟩
    go_wp2_with (go_at_call 68; refine (isKey_any _ _).mono ?_; rintro e w' ⟨rfl, rfl⟩)
    go_ret
    rw [H.out]
    exact ownRes_of (World.ownsRow_nil _ _ _ _) hb1

end Go.Proofs.Ytpomiglcplbdbaa
