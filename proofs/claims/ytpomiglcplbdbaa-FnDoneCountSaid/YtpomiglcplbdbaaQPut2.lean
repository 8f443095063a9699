/- Contracts on stores, second part: PutValue of the reference, StoreTotal, ChangedKeys in both packages. -/
import Derived.Test.YtpomiglcplbdbaaQPut
namespace Go.Proofs.Ytpomiglcplbdbaa
open Go.RowKit

theorem ownsRow_drew {w w' : World} {base E sz n : Nat} {v : Value} {xs : List Value} (h : w.ownsRow base E sz v n xs) (hd : DrewOf w w') : w'.ownsRow base E sz v n xs := by
  obtain ⟨q, rfl⟩ := hd
  exact h

set_option maxRecDepth 100000 in
set_option maxHeartbeats 1000000 in
theorem specPutValue_any (A : Option Addr) (c : Nat) (es : List Ent) (key value : Int) (w : World) (hz : EntsAt w A es) (hn : es.length ≤ 2000000) :
    Calls Try.prog 101 #[.slice A es.length c, .int .i64 key, .int .i64 value] w (OwnRes2 49 2 (entCells (putRes es key value)) (putRes es key value).length (putOk es key value) w) := by
  have HZ := Lib.hid hz
  clear hz
  cases h1 : entsOk 1 (-1) es
  case false =>
    have H := Lib.hid (show putRes es key value = [] ∧ putOk es key value = false by simp [putRes, putOk, h1])
    go_enter Try.func101, Try.ntmps101
    go_wp2_with fail
    refine (specStoreValid_any _ _ _ _ HZ.out (by omega)).mono ?_
    rintro e w1 ⟨rfl, hb1⟩
    go_wp2
    go_ret2
    rw [H.out.1, H.out.2]
    have hB := hb1.below w.heap.size
    exact ownRes2_of (own_empty _ _ _ _ hB.size) (hB.alloc hB.size _)
  case true =>
    cases h2 : inB key 0 31 <;> cases h3 : inB value 0 1000000
    case true.true =>
      have b2 := inB_true.1 h2
      have b3 := inB_true.1 h3
      have H := Lib.hid (show putF key value (decide (value = 0)) es = putRes es key value ∧ putOk es key value = true by
        rw [put_store h1 b2.1 b2.2 b3.1 b3.2]; simp [putRes, putOk, h1, h2, h3])
      go_enter Try.func101, Try.ntmps101
      go_wp2_with fail
      refine (specStoreValid_any _ _ _ _ HZ.out (by omega)).mono ?_
      rintro e w1 ⟨rfl, hb1⟩
      have hB := hb1.below w.heap.size
      go_wp2_with (go_at_call 63; refine (l1In_any _ _ _ _).mono ?_; rintro e w' ⟨rfl, rfl⟩)
      refine (l2Put_any _ _ _ _ _ _ (HZ.out.below hB) (by have := entsOk_length h1; omega)).mono ?_
      rintro e w2 ⟨A', c', rfl, ho, hb3⟩
      go_wp2
      go_ret2
      rw [H.out.2]
      rw [H.out.1] at ho
      rw [H.out.1]
      exact ⟨A', c', rfl, ownsRow_weaken ho hB.size, hB.trans (hb3.mono hB.size)⟩
    all_goals
      have H := Lib.hid (show putRes es key value = es ∧ putOk es key value = false by simp [putRes, putOk, h1, h2, h3])
      go_enter Try.func101, Try.ntmps101
      go_wp2_with fail
      refine (specStoreValid_any _ _ _ _ HZ.out (by omega)).mono ?_
      rintro e w1 ⟨rfl, hb1⟩
      have hB := hb1.below w.heap.size
      have hB1 : Below w.heap.size w (w1.alloc (.cells #[] 49)) := hB.alloc hB.size _
      go_wp2_with (first | (go_at_call 63; refine (l1In_any _ _ _ _).mono ?_; rintro e w' ⟨rfl, rfl⟩) | (at_builtin; refine wpList_append_at entRow rfl _ _ rfl w.heap.size _ 0 [] rfl (own_empty _ _ _ _ hB.size) A es.length c (entCells es) rfl (HZ.out.below hB1) (entCells_length es) (entCells_one es) (by omega) hB1.size ?_))
      intro v2 w2 ho hb2 _
      go_wp2
      go_ret2
      rw [H.out.1, H.out.2]
      try rw [Nat.zero_add, List.nil_append] at ho
      exact ownRes2_of ho (hB1.trans hb2)

def sumV (es : List Ent) : Int := es.foldl (fun s e => s + e.2) 0
theorem sumV_snoc (es : List Ent) (k : Nat) (hk : k < es.length) : sumV (es.take (k + 1)) = sumV (es.take k) + es[k].2 := by
  unfold sumV; rw [List.take_succ_eq_append_getElem hk, List.foldl_append]; rfl
theorem sumV_bd {es : List Ent} (h : ∀ e ∈ es, 0 ≤ e.2 ∧ e.2 ≤ 1000000) (k : Nat) (hk : k ≤ es.length) : 0 ≤ sumV (es.take k) ∧ sumV (es.take k) ≤ k * 1000000 := by
  induction k with
  | zero => simp [sumV]
  | succ k ih =>
    have := ih (by omega)
    have h1 := h es[k] (List.getElem_mem _)
    rw [sumV_snoc es k (by omega)]
    omega
theorem valsOk_of {least last : Int} (h0 : 0 ≤ least) {es : List Ent} (h : entsOk least last es = true) : ∀ e ∈ es, 0 ≤ e.2 ∧ e.2 ≤ 1000000 := by
  induction es generalizing last with
  | nil => intro e he; simp at he
  | cons x xs ih =>
    rw [entsOk_cons] at h
    intro e he
    rcases List.mem_cons.1 he with rfl | he
    · omega
    · exact ih h.2.2 e he
def totalF (es : List Ent) : Int := if entsOk 1 (-1) es then sumV es else -1

set_option maxRecDepth 100000 in
set_option maxHeartbeats 800000 in
theorem StoreTotal_any (A : Option Addr) (c : Nat) (es : List Ent) (w : World) (hz : EntsAt w A es) (hn : es.length ≤ 4294967296) :
    Calls Try.prog 43 #[.slice A es.length c] w fun e w' => e = .returned (.int .i64 (totalF es)) ∧ Below w.heap.size w w' := by
  have HZ := Lib.hid hz
  clear hz
  cases h1 : entsOk 1 (-1) es
  case false =>
    have H := Lib.hid (show totalF es = -1 by simp [totalF, h1])
    go_enter Try.func43, Try.ntmps43
    go_wp2_with fail
    refine (StoreValid_any _ _ _ _ HZ.out hn).mono ?_
    rintro e w1 ⟨rfl, hb1⟩
    go_wp2
    go_ret
    exact ⟨ret_int H.out.symm, hb1⟩
  case true =>
    have H := Lib.hid (show totalF es = sumV es by simp [totalF, h1])
    have HV := Lib.hid (valsOk_of (by omega) h1)
    go_enter Try.func43, Try.ntmps43
    go_wp2_with fail
    refine (StoreValid_any _ _ _ _ HZ.out hn).mono ?_
    rintro e w1 ⟨rfl, hb1⟩
    go_wp2
    go_loopw [3, 11] (fun s i wr => ∃ k : Nat, k ≤ es.length ∧ i = .int .i64 k ∧ s = .int .i64 (sumV (es.take k)) ∧ Below w.heap.size w wr) (fun _ i _ => es.length - (intOf i).toNat)
    case atStart => exact ⟨0, Nat.zero_le _, rfl, rfl, hb1⟩
    case round =>
      obtain ⟨k, hk, rfl, rfl, hbel⟩ := hrel
      have hsz := hbel.size
      have hs := sumV_bd HV.out k hk
      by_cases hlt : k < es.length
      · obtain ⟨b, o, rfl, hb, hc⟩ := (HZ.out.below hbel).at_ hlt
        obtain ⟨hcell, hcell2⟩ := hc k hlt
        clear hc
        have hv := HV.out es[k] (List.getElem_mem hlt)
        have HS := Lib.hid (sumV_snoc es k hlt)
        go_wp2
        go_roundw
        case rel => exact ⟨k + 1, by omega, by go_num, by rw [HS.out], hbel.alloc hsz _⟩
        case measure => simp [intOf]; omega
      · obtain rfl : k = es.length := by omega
        have HT := Lib.hid (List.take_length (l := es))
        go_wp2
        go_ret
        exact ⟨ret_int (by first | exact H.out.symm | rw [H.out, HT.out]), hbel⟩


/-- Keys below n at which two vectors differ. -/
def diffF (v u : List Int) (n : Nat) : List Int := (List.range n).flatMap fun k => if v.getD k 0 = u.getD k 0 then [] else [(k : Int)]
theorem diffF_succ (v u : List Int) (n : Nat) : diffF v u (n + 1) = diffF v u n ++ (if v.getD n 0 = u.getD n 0 then [] else [(n : Int)]) := by
  unfold diffF; rw [List.range_succ]; simp
theorem diffF_length (v u : List Int) (n : Nat) : (diffF v u n).length ≤ n := by
  induction n with
  | zero => simp [diffF]
  | succ n ih => rw [diffF_succ, List.length_append]; split <;> simp <;> omega
def changedF (a b : List Ent) : List Int := if entsOk 1 (-1) a && entsOk 1 (-1) b then diffF (toV a) (toV b) 32 else []


theorem changedF_length (a b : List Ent) : (changedF a b).length ≤ 32 := by
  unfold changedF; split
  · exact diffF_length _ _ _
  · simp

set_option maxRecDepth 100000 in
set_option maxHeartbeats 1600000 in
theorem ChangedKeys_any (A B : Option Addr) (c d : Nat) (es fs : List Ent) (w : World) (hz : EntsAt w A es) (hy : EntsAt w B fs) (hn : es.length ≤ 4294967296) (hm : fs.length ≤ 4294967296) :
    Calls Try.prog 49 #[.slice A es.length c, .slice B fs.length d] w (OwnRes 3 1 ((changedF es fs).map (.int .i64)) (changedF es fs).length w) := by
  have HZ := Lib.hid hz
  have HY := Lib.hid hy
  clear hz hy
  cases h1 : entsOk 1 (-1) es
  case false =>
    have H := Lib.hid (show changedF es fs = [] by simp [changedF, h1])
    go_enter Try.func49, Try.ntmps49
    go_wp2_with fail
    refine (StoreValid_any _ _ _ _ HZ.out hn).mono ?_
    rintro e w1 ⟨rfl, hb1⟩
    go_wp2
    go_ret
    rw [H.out]
    exact ownRes_of (World.ownsRow_nil _ _ _ _) hb1
  case true =>
    cases h2 : entsOk 1 (-1) fs
    case false =>
      have H := Lib.hid (show changedF es fs = [] by simp [changedF, h2])
      go_enter Try.func49, Try.ntmps49
      go_wp2_with fail
      refine (StoreValid_any _ _ _ _ HZ.out hn).mono ?_
      rintro e w1 ⟨rfl, hb1⟩
      go_wp2_with fail
      refine (StoreValid_any _ _ _ _ (HY.out.below hb1) hm).mono ?_
      rintro e w2 ⟨rfl, hb2⟩
      go_wp2
      go_ret
      rw [H.out]
      exact ownRes_of (World.ownsRow_nil _ _ _ _) (hb1.trans (hb2.mono hb1.size))
    case true =>
      have H := Lib.hid (show changedF es fs = diffF (toV es) (toV fs) 32 by simp [changedF, h1, h2])
      have HK := Lib.hid (keysOk_of h1)
      have HJ := Lib.hid (keysOk_of h2)
      go_enter Try.func49, Try.ntmps49
      go_wp2_with fail
      refine (StoreValid_any _ _ _ _ HZ.out hn).mono ?_
      rintro e w1 ⟨rfl, hb1⟩
      go_wp2_with fail
      refine (StoreValid_any _ _ _ _ (HY.out.below hb1) hm).mono ?_
      rintro e w2 ⟨rfl, hb2⟩
      have hB2 := hb1.trans (hb2.mono hb1.size)
      go_wp2_with fail
      refine (valuesOf_any _ _ _ _ (HZ.out.below hB2) hn HK.out).mono ?_
      rintro e w3 ⟨rfl, hb3⟩
      have hB3 := hB2.trans (hb3.mono hB2.size)
      go_wp2_with fail
      refine (valuesOf_any _ _ _ _ (HY.out.below hB3) hm HJ.out).mono ?_
      rintro e w4 ⟨rfl, hb4⟩
      have hB4 := hB3.trans (hb4.mono hB3.size)
      have hg0 : ((w4.alloc (.cells (arrV zeros) 85)).alloc (.cells (arrV zeros) 85)).heap[w4.heap.size]? = some (.cells (arrV zeros) 85 (0, 0)) := by
        rw [Below.heap_alloc _ _ _ (by simp)]; exact heap_alloc_new w4 _
      have HG0 := Lib.hid hg0
      clear hg0
      have HG1 := Lib.hid (show (((w4.alloc (.cells (arrV zeros) 85)).alloc (.cells (arrV zeros) 85)).setRow w4.heap.size (arrV (toV es))).heap[w4.heap.size + 1]? = some (.cells (arrV zeros) 85 (0, 0)) by
        rw [Go.setRow_other _ _ _ _ (by omega)]
        have := heap_alloc_new (w4.alloc (.cells (arrV zeros) 85)) (.cells (arrV zeros) 85)
        simpa using this)
      go_wp2_with (first | (refine wpList_store_row rfl 85 _ _ rfl w4.heap.size (arrV (toV es)) rfl rfl 85 _ HG0.out (by rw [size_values, arrV_size, toV_length]) (by rw [arrV_size, arrV_size, toV_length]; rfl) (arrV_one _) ?_) | (refine wpList_store_row rfl 85 _ _ rfl (w4.heap.size + 1) (arrV (toV fs)) rfl rfl 85 _ HG1.out (by rw [size_values, arrV_size, toV_length]) (by rw [arrV_size, arrV_size, toV_length]; rfl) (arrV_one _) ?_))
      have hB5 : Below w.heap.size w ((((w4.alloc (.cells (arrV zeros) 85)).alloc (.cells (arrV zeros) 85)).setRow w4.heap.size (arrV (toV es))).setRow (w4.heap.size + 1) (arrV (toV fs))) :=
        below_setRow (below_setRow ((hB4.alloc hB4.size _).alloc (by have := hB4.size; simp; omega) _) hB4.size _) (by have := hB4.size; omega) _
      have hR1 : RowIs ((((w4.alloc (.cells (arrV zeros) 85)).alloc (.cells (arrV zeros) 85)).setRow w4.heap.size (arrV (toV es))).setRow (w4.heap.size + 1) (arrV (toV fs))) w4.heap.size 85 ((toV es).map (.int .i64)) := by
        have h := (((RowIs.alloc (w := w4) (arrV zeros) 85).alloc_other (.cells (arrV zeros) 85)).setRow (arrV (toV es))).setRow_other (g' := w4.heap.size + 1) (by omega) (arrV (toV fs))
        rwa [arrV_list] at h
      have hR2 : RowIs ((((w4.alloc (.cells (arrV zeros) 85)).alloc (.cells (arrV zeros) 85)).setRow w4.heap.size (arrV (toV es))).setRow (w4.heap.size + 1) (arrV (toV fs))) (w4.heap.size + 1) 85 ((toV fs).map (.int .i64)) := by
        have h0 := RowIs.alloc (w := w4.alloc (.cells (arrV zeros) 85)) (arrV zeros) 85
        rw [show (w4.alloc (.cells (arrV zeros) 85)).heap.size = w4.heap.size + 1 from by simp] at h0
        have h := (h0.setRow_other (g' := w4.heap.size) (by omega) (arrV (toV es))).setRow (arrV (toV fs))
        rwa [arrV_list] at h
      go_loopw [5, 21] (fun out i wr => ∃ k : Nat, k ≤ 32 ∧ i = .int .i64 k ∧ wr.ownsRow (w4.heap.size + 2) 3 1 out (diffF (toV es) (toV fs) k).length ((diffF (toV es) (toV fs) k).map (.int .i64)) ∧ RowIs wr w4.heap.size 85 ((toV es).map (.int .i64)) ∧ RowIs wr (w4.heap.size + 1) 85 ((toV fs).map (.int .i64)) ∧ w4.heap.size + 2 ≤ wr.heap.size ∧ Below w.heap.size w wr) (fun _ i _ => 32 - (intOf i).toNat)
      case atStart => exact ⟨0, by omega, rfl, World.ownsRow_nil _ _ _ _, hR1, hR2, by simp, hB5⟩
      case round =>
        clear hR1 hR2 hB5
        obtain ⟨k, hk, rfl, hown, hR1, hR2, hsz, hbel⟩ := hrel
        by_cases hlt : k < 32
        · have hkv : k < (toV es).length := by rw [toV_length]; exact hlt
          have hku : k < (toV fs).length := by rw [toV_length]; exact hlt
          have hc1 : wr.cell? ⟨w4.heap.size, k, none⟩ = some (.int .i64 (toV es)[k]) := by rw [hR1.cell]; simp [hkv]
          have hc2 : wr.cell? ⟨w4.heap.size + 1, k, none⟩ = some (.int .i64 (toV fs)[k]) := by rw [hR2.cell]; simp [hku]
          have HR1 := Lib.hid hR1
          have HR2 := Lib.hid hR2
          clear hR1 hR2
          have hds := diffF_succ (toV es) (toV fs) k
          have e1 : (toV es).getD k 0 = (toV es)[k] := by simp [hkv]
          have e2 : (toV fs).getD k 0 = (toV fs)[k] := by simp [hku]
          rw [e1, e2] at hds
          clear e1 e2
          have hdl := diffF_length (toV es) (toV fs) k
          cases hne : ((toV es)[k] != (toV fs)[k])
          · have HS := Lib.hid (show diffF (toV es) (toV fs) (k + 1) = diffF (toV es) (toV fs) k by rw [hds, if_pos (by simpa using hne)]; simp)
            clear hds
            go_wp2
            go_quiet (fail)
            go_wp2
            go_roundw
            case rel => exact ⟨k + 1, by omega, by go_num, by rw [HS.out]; exact hown, HR1.out, HR2.out, hsz, below_drewN hbel _⟩
            case measure => simp [intOf]; omega
          · have HS := Lib.hid (show diffF (toV es) (toV fs) (k + 1) = diffF (toV es) (toV fs) k ++ [(k : Int)] by rw [hds, if_neg (by simpa using hne)])
            clear hds
            go_wp2
            go_quiet (fail)
            have hownq : (wr.drewN nq).ownsRow (w4.heap.size + 2) 3 1 _ (diffF (toV es) (toV fs) k).length ((diffF (toV es) (toV fs) k).map (.int .i64)) := hown
            go_wp2_with (at_builtin; refine wpList_push_int intRow rfl _ _ rfl (w4.heap.size + 2) _ _ _ rfl hownq _ _ rfl (by omega) hsz ?_)
            intro v1 w1 ho1 hb1 _ hs1
            have hsz1 := hb1.size
            have HQ1 := Lib.hid (RowIs.below (w := wr.drewN nq) (B := w4.heap.size + 2) HR1.out hb1 (by omega))
            have HQ2 := Lib.hid (RowIs.below (w := wr.drewN nq) (B := w4.heap.size + 2) HR2.out hb1 (by omega))
            go_wp2
            go_roundw
            case rel => exact ⟨k + 1, by omega, by go_num, by rw [HS.out]; simpa using ho1, HQ1.out, HQ2.out, Nat.le_trans hsz hsz1, (below_drewN hbel nq).trans (hb1.mono (by have := hB4.size; omega))⟩
            case measure => simp [intOf]; omega
        · obtain rfl : k = 32 := by omega
          go_wp2
          go_ret
          rw [H.out]
          exact ownRes_of (ownsRow_weaken hown (by have := hB4.size; omega)) hbel


theorem putRes_length (es : List Ent) (key value : Int) : (putRes es key value).length ≤ es.length + 32 := by
  unfold putRes
  split
  · split
    · have := storeOf_length (v := (toV es).set key.toNat value) (by simp [toV_length])
      omega
    · omega
  · simp

end Go.Proofs.Ytpomiglcplbdbaa
