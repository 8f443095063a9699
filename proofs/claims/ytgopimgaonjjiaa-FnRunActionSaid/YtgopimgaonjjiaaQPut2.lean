/- Contracts on stores, second part: PutValue of the reference, StoreTotal, ChangedKeys in both packages. -/
import Derived.Test.YtgopimgaonjjiaaQPut
namespace Go.Proofs.Ytgopimgaonjjiaa
open Go.RowKit

theorem ownsRow_drew {w w' : World} {base E sz n : Nat} {v : Value} {xs : List Value} (h : w.ownsRow base E sz v n xs) (hd : DrewOf w w') : w'.ownsRow base E sz v n xs := by
  obtain ⟨q, rfl⟩ := hd
  exact h

set_option maxRecDepth 100000 in
set_option maxHeartbeats 1000000 in
theorem specPutValue_any (A : Option Addr) (c : Nat) (es : List Ent) (key value : Int) (w : World) (hz : EntsAt w A es) (hn : es.length ≤ 2000000) :
    Calls Try.prog 32 #[.slice A es.length c, .int .i64 key, .int .i64 value] w (OwnRes2 38 2 (entCells (putRes es key value)) (putRes es key value).length (putOk es key value) w) := by
  have HZ := Lib.hid hz
  clear hz
  cases h1 : entsOk 1 (-1) es
  case false =>
    have H := Lib.hid (show putRes es key value = [] ∧ putOk es key value = false by simp [putRes, putOk, h1])
    go_enter Try.func32, Try.ntmps32
    go_wp2_with fail
    refine (specStoreValid_any _ _ _ _ HZ.out (by omega)).mono ?_
    rintro e w1 ⟨rfl, hb1⟩
    go_wp2
    go_ret2
    rw [H.out.1, H.out.2]
    have hB := hb1.below w.heap.size
    exact ownRes2_of (own_empty _ _ _ _ hB.size) (hB.alloc hB.size _)
  case true =>
    cases h2 : inB key 0 31 <;> cases h3 : inB value 0 1000000
    case true.true =>
      have b2 := inB_true.1 h2
      have b3 := inB_true.1 h3
      have H := Lib.hid (show putF key value (decide (value = 0)) es = putRes es key value ∧ putOk es key value = true by
        rw [put_store h1 b2.1 b2.2 b3.1 b3.2]; simp [putRes, putOk, h1, h2, h3])
      go_enter Try.func32, Try.ntmps32
      go_wp2_with fail
      refine (specStoreValid_any _ _ _ _ HZ.out (by omega)).mono ?_
      rintro e w1 ⟨rfl, hb1⟩
      have hB := hb1.below w.heap.size
      go_wp2_with (go_at_call 25; refine (l1In_any _ _ _ _).mono ?_; rintro e w' ⟨rfl, rfl⟩)
      refine (l2Put_any _ _ _ _ _ _ (HZ.out.below hB) (by have := entsOk_length h1; omega)).mono ?_
      rintro e w2 ⟨A', c', rfl, ho, hb3⟩
      go_wp2
      go_ret2
      rw [H.out.2]
      rw [H.out.1] at ho
      rw [H.out.1]
      exact ⟨A', c', rfl, ownsRow_weaken ho hB.size, hB.trans (hb3.mono hB.size)⟩
    all_goals
      have H := Lib.hid (show putRes es key value = es ∧ putOk es key value = false by simp [putRes, putOk, h1, h2, h3])
      go_enter Try.func32, Try.ntmps32
      go_wp2_with fail
      refine (specStoreValid_any _ _ _ _ HZ.out (by omega)).mono ?_
      rintro e w1 ⟨rfl, hb1⟩
      have hB := hb1.below w.heap.size
      have hB1 : Below w.heap.size w (w1.alloc (.cells #[] 38)) := hB.alloc hB.size _
      go_wp2_with (first | (go_at_call 25; refine (l1In_any _ _ _ _).mono ?_; rintro e w' ⟨rfl, rfl⟩) | (at_builtin; refine wpList_append_at entRow rfl _ _ rfl w.heap.size _ 0 [] rfl (own_empty _ _ _ _ hB.size) A es.length c (entCells es) rfl (HZ.out.below hB1) (entCells_length es) (entCells_one es) (by omega) hB1.size ?_))
      intro v2 w2 ho hb2 _
      go_wp2
      go_ret2
      rw [H.out.1, H.out.2]
      try rw [Nat.zero_add, List.nil_append] at ho
      exact ownRes2_of ho (hB1.trans hb2)

def sumV (es : List Ent) : Int := es.foldl (fun s e => s + e.2) 0
theorem sumV_snoc (es : List Ent) (k : Nat) (hk : k < es.length) : sumV (es.take (k + 1)) = sumV (es.take k) + es[k].2 := by
  unfold sumV; rw [List.take_succ_eq_append_getElem hk, List.foldl_append]; rfl
theorem sumV_bd {es : List Ent} (h : ∀ e ∈ es, 0 ≤ e.2 ∧ e.2 ≤ 1000000) (k : Nat) (hk : k ≤ es.length) : 0 ≤ sumV (es.take k) ∧ sumV (es.take k) ≤ k * 1000000 := by
  induction k with
  | zero => simp [sumV]
  | succ k ih =>
    have := ih (by omega)
    have h1 := h es[k] (List.getElem_mem _)
    rw [sumV_snoc es k (by omega)]
    omega
theorem valsOk_of {least last : Int} (h0 : 0 ≤ least) {es : List Ent} (h : entsOk least last es = true) : ∀ e ∈ es, 0 ≤ e.2 ∧ e.2 ≤ 1000000 := by
  induction es generalizing last with
  | nil => intro e he; simp at he
  | cons x xs ih =>
    rw [entsOk_cons] at h
    intro e he
    rcases List.mem_cons.1 he with rfl | he
    · omega
    · exact ih h.2.2 e he
def totalF (es : List Ent) : Int := if entsOk 1 (-1) es then sumV es else -1

set_option maxRecDepth 100000 in
set_option maxHeartbeats 800000 in
theorem StoreTotal_any (A : Option Addr) (c : Nat) (es : List Ent) (w : World) (hz : EntsAt w A es) (hn : es.length ≤ 4294967296) :
    Calls Try.prog 14 #[.slice A es.length c] w fun e w' => e = .returned (.int .i64 (totalF es)) ∧ Below w.heap.size w w' := by
  have HZ := Lib.hid hz
  clear hz
  cases h1 : entsOk 1 (-1) es
  case false =>
    have H := Lib.hid (show totalF es = -1 by simp [totalF, h1])
    go_enter Try.func14, Try.ntmps14
    go_wp2_with fail
    refine (StoreValid_any _ _ _ _ HZ.out hn).mono ?_
    rintro e w1 ⟨rfl, hb1⟩
    go_wp2
    go_ret
    exact ⟨ret_int H.out.symm, hb1⟩
  case true =>
    have H := Lib.hid (show totalF es = sumV es by simp [totalF, h1])
    have HV := Lib.hid (valsOk_of (by omega) h1)
    go_enter Try.func14, Try.ntmps14
    go_wp2_with fail
    refine (StoreValid_any _ _ _ _ HZ.out hn).mono ?_
    rintro e w1 ⟨rfl, hb1⟩
    go_wp2
    go_loopw [3, 11] (fun s i wr => ∃ k : Nat, k ≤ es.length ∧ i = .int .i64 k ∧ s = .int .i64 (sumV (es.take k)) ∧ Below w.heap.size w wr) (fun _ i _ => es.length - (intOf i).toNat)
    case atStart => exact ⟨0, Nat.zero_le _, rfl, rfl, hb1⟩
    case round =>
      obtain ⟨k, hk, rfl, rfl, hbel⟩ := hrel
      have hsz := hbel.size
      have hs := sumV_bd HV.out k hk
      by_cases hlt : k < es.length
      · obtain ⟨b, o, rfl, hb, hc⟩ := (HZ.out.below hbel).at_ hlt
        obtain ⟨hcell, hcell2⟩ := hc k hlt
        clear hc
        have hv := HV.out es[k] (List.getElem_mem hlt)
        have HS := Lib.hid (sumV_snoc es k hlt)
        go_wp2
        go_roundw
        case rel => exact ⟨k + 1, by omega, by go_num, by rw [HS.out], hbel.alloc hsz _⟩
        case measure => simp [intOf]; omega
      · obtain rfl : k = es.length := by omega
        have HT := Lib.hid (List.take_length (l := es))
        go_wp2
        go_ret
        exact ⟨ret_int (by first | exact H.out.symm | rw [H.out, HT.out]), hbel⟩


/-- Keys below n at which two vectors differ. -/
def diffF (v u : List Int) (n : Nat) : List Int := (List.range n).flatMap fun k => if v.getD k 0 = u.getD k 0 then [] else [(k : Int)]
theorem diffF_succ (v u : List Int) (n : Nat) : diffF v u (n + 1) = diffF v u n ++ (if v.getD n 0 = u.getD n 0 then [] else [(n : Int)]) := by
  unfold diffF; rw [List.range_succ]; simp
theorem diffF_length (v u : List Int) (n : Nat) : (diffF v u n).length ≤ n := by
  induction n with
  | zero => simp [diffF]
  | succ n ih => rw [diffF_succ, List.length_append]; split <;> simp <;> omega
def changedF (a b : List Ent) : List Int := if entsOk 1 (-1) a && entsOk 1 (-1) b then diffF (toV a) (toV b) 32 else []


theorem changedF_length (a b : List Ent) : (changedF a b).length ≤ 32 := by
  unfold changedF; split
  · exact diffF_length _ _ _
  · simp



theorem putRes_length (es : List Ent) (key value : Int) : (putRes es key value).length ≤ es.length + 32 := by
  unfold putRes
  split
  · split
    · have := storeOf_length (v := (toV es).set key.toNat value) (by simp [toV_length])
      omega
    · omega
  · simp

end Go.Proofs.Ytgopimgaonjjiaa
