/- Contracts of ApplyEffect in both packages, of l4Writes. -/
import Derived.Test.YtgopimgaonjjiaaQPut2
import Derived.Test.YtgopimgaonjjiaaQBase
import Derived.Deep.RegionHeld3
namespace Go.Proofs.Ytgopimgaonjjiaa
open Go.RowKit


/-- A valid store with what is written; nothing for others. -/
def applyF (s ws : List Ent) : List Ent := if entsOk 1 (-1) s && entsOk 0 (-1) ws then storeOf (setAll (toV s) ws) else []
theorem applyF_length (s ws : List Ent) : (applyF s ws).length ≤ 32 := by
  unfold applyF; split
  · exact storeOf_length (by rw [setAll_length, toV_length])
  · simp
def accF (s ws : List Ent) (k : Nat) : List Ent := storeOf (setAll (toV s) (ws.take k))
theorem entsOk_taken {least last : Int} {a : List Ent} (h : entsOk least last a = true) (k : Nat) : entsOk least last (a.take k) = true := by
  induction a generalizing last k with
  | nil => simpa using h
  | cons e es ih =>
    cases k with
    | zero => rfl
    | succ k =>
      rw [entsOk_cons] at h
      rw [List.take_succ_cons, entsOk_cons]
      exact ⟨h.1, h.2.1, ih h.2.2 k⟩
theorem accV_ok {s ws : List Ent} (h1 : entsOk 1 (-1) s = true) (h2 : entsOk 0 (-1) ws = true) (k : Nat) : vOk (setAll (toV s) (ws.take k)) :=
  setAll_ok (entsOk_taken h2 k) (by omega) (toV_ok h1 (by omega))
theorem accF_zero {s ws : List Ent} (h1 : entsOk 1 (-1) s = true) : accF s ws 0 = s := by
  unfold accF
  rw [List.take_zero]
  exact storeOf_toV h1
theorem accF_length (s ws : List Ent) (k : Nat) : (accF s ws k).length ≤ 32 := storeOf_length (by rw [setAll_length, toV_length])
theorem accF_step {s ws : List Ent} (h1 : entsOk 1 (-1) s = true) (h2 : entsOk 0 (-1) ws = true) (k : Nat) (hk : k < ws.length) : putF ws[k].1 ws[k].2 (decide (ws[k].2 = 0)) (accF s ws k) = accF s ws (k + 1) := by
  have hv := accV_ok h1 h2 k
  have hb1 := keysOk_of h2 ws[k] (List.getElem_mem hk)
  have hb2 := valsOk_of (by omega) h2 ws[k] (List.getElem_mem hk)
  unfold accF
  rw [put_store (storeOf_ok hv) hb1.1 hb1.2 hb2.1 hb2.2, toV_storeOf hv, setAll_snoc (toV s) ws k hk]
theorem accF_end {s ws : List Ent} (h1 : entsOk 1 (-1) s = true) (h2 : entsOk 0 (-1) ws = true) : accF s ws ws.length = applyF s ws := by
  unfold accF applyF
  rw [List.take_length, h1, h2]
  rfl

set_option maxRecDepth 100000 in
set_option maxHeartbeats 1600000 in
theorem ApplyEffect_any (dn : Bool) (A B C : Option Addr) (a b c : Nat) (es rs ws : List Ent) (w : World) (hz : EntsAt w A es) (hy : EntsAt w C ws) (hn : es.length ≤ 4294967296) (hm : ws.length ≤ 4294967296) :
    Calls Try.prog 11 #[.slice A es.length a, .agg #[.bool dn, .slice B rs.length b, .slice C ws.length c]] w (OwnRes 38 2 (entCells (applyF es ws)) (applyF es ws).length w) := by
  have hb0 : Below w.heap.size w (w.alloc (.cells #[.bool dn, .slice B rs.length b, .slice C ws.length c] 29)) := (Below.refl _ _).alloc (Nat.le_refl _) _
  have hrow := RowIs.alloc (w := w) #[.bool dn, .slice B rs.length b, .slice C ws.length c] 29
  have HZ := Lib.hid (hz.below hb0)
  have HY := Lib.hid (hy.below hb0)
  have HR := Lib.hid hrow
  clear hz hy hrow
  cases h1 : entsOk 1 (-1) es
  case false =>
    have H := Lib.hid (show applyF es ws = [] by simp [applyF, h1])
    go_enter Try.func11, Try.ntmps11
    go_wp2_with fail
    refine (StoreValid_any _ _ _ _ HZ.out hn).mono ?_
    rintro e w1 ⟨rfl, hb1⟩
    rw [h1]
    have hB := hb0.trans (hb1.mono hb0.size)
    go_wp2
    go_ret
    rw [H.out]
    exact ⟨none, 0, rfl, World.ownsRow_nil _ _ _ _, hB⟩
  case true =>
    go_enter Try.func11, Try.ntmps11
    go_wp2_with fail
    refine (StoreValid_any _ _ _ _ HZ.out hn).mono ?_
    rintro e w1 ⟨rfl, hb1⟩
    rw [h1]
    have r1 := HR.out.below hb1 HR.out.lt
    have q2 : w1.cell? ⟨w.heap.size, 2, none⟩ = some (.slice C ws.length c) := r1.cell 2
    have hz1 := HZ.out.below hb1
    have hy1 := HY.out.below hb1
    have hB := hb0.trans (hb1.mono hb0.size)
    have R1 := Lib.hid r1
    clear r1 hb1
    go_wp2_with fail
    refine (entriesValid_any _ _ ws 0 _ hy1 hm).mono ?_
    rintro e w2 ⟨rfl, hb2⟩
    have r2 := R1.out.below hb2 R1.out.lt
    have q2 : w2.cell? ⟨w.heap.size, 2, none⟩ = some (.slice C ws.length c) := r2.cell 2
    have hz2 := hz1.below hb2
    have hy2 := hy1.below hb2
    have hB2 := hB.trans (hb2.mono hB.size)
    clear r2 hb2
    cases h2 : entsOk 0 (-1) ws
    case false =>
      have H := Lib.hid (show applyF es ws = [] by simp [applyF, h2])
      go_wp2
      go_ret
      rw [H.out]
      exact ⟨none, 0, rfl, World.ownsRow_nil _ _ _ _, hB2⟩
    case true =>
      have H := Lib.hid (show applyF es ws = storeOf (setAll (toV es) ws) by simp [applyF, h1, h2])
      go_wp2_with fail
      refine (write_any _ _ _ _ es ws _ hz2 hy2 hn hm (keysOk_of h1) (keysOk_of h2)).mono ?_
      rintro e w3 ⟨A3, c3, rfl, ho, hb3⟩
      go_wp2
      go_ret
      rw [H.out]
      exact ⟨A3, c3, rfl, ownsRow_weaken ho hB2.size, hB2.trans (hb3.mono hB2.size)⟩


end Go.Proofs.Ytgopimgaonjjiaa
