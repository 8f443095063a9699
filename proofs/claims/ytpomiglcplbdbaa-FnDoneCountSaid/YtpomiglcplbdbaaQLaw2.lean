/- For the laws of runs: what the runs of two actions lead to. -/
import Derived.Test.YtpomiglcplbdbaaQLawTot
import Derived.Test.YtpomiglcplbdbaaQEffsOwn
import Derived.Test.YtpomiglcplbdbaaQWordsR
import Derived.Test.YtpomiglcplbdbaaQSame2
import Derived.Test.YtpomiglcplbdbaaQDraw8
namespace Go.Proofs.Ytpomiglcplbdbaa
open Go

theorem acts_row {w : World} {g E : Nat} {zs : List ActT} (h : RowIs w g E (actCells zs)) : ActsAt w (some ⟨g, 0, none⟩) zs := by
  refine .inr ⟨g, 0, rfl, fun j u hu => ?_⟩
  rw [Nat.zero_add, h.cell]
  exact hu
theorem effsT_two {zs : List EffA} {x y : EffT} (h : effsT zs = [x, y]) : ∃ p q : EffA, zs = [p, q] ∧ p.1 = x ∧ q.1 = y := by
  match zs, h with
  | [p, q], h => simp only [effsT, List.map_cons, List.map_nil, List.cons.injEq, and_true] at h; exact ⟨p, q, rfl, h.1, h.2⟩
  | [], h => simp [effsT] at h
  | [p], h => simp [effsT] at h
  | p :: q :: r :: l, h => simp [effsT] at h
theorem serB_two {s : List Ent} {a b : ActT} (h1 : entsOk 1 (-1) s = true) (h2 : actOkT a = true) (h3 : actOkT b = true) : serB s [a, b] = true := by
  simp [serB, h1, actsOk, h2, h3]
theorem ser_swap {s : List Ent} {a : ActT} (h1 : entsOk 1 (-1) s = true) (h2 : actOk a.1 a.2.1 a.2.2.1 a.2.2.2 = true) :
    ∃ x y : EffT, serSt s [(4, a.2.1, a.2.2.1, 0), (4, a.2.1, a.2.2.1, 0)] = s ∧ serEf s [(4, a.2.1, a.2.2.1, 0), (4, a.2.1, a.2.2.1, 0)] = [x, y] ∧ cntF [x, y] = 2 := by
  have hk := (swap_ok h2).1
  have hb := serB_two h1 (show actOkT (4, a.2.1, a.2.2.1, 0) = true from hk) (show actOkT (4, a.2.1, a.2.2.1, 0) = true from hk)
  obtain ⟨hs, hx, hy⟩ := swap_twice hk (toV_ok h1 (by omega))
  refine ⟨runF (4, a.2.1, a.2.2.1, 0) (toV s), runF (4, a.2.1, a.2.2.1, 0) (setAll (toV s) (wrsF 4 a.2.1 a.2.2.1 0 (toV s))), ?_, ?_, ?_⟩
  · unfold serSt; rw [if_pos hb, hs]; exact storeOf_toV h1
  · unfold serEf; rw [if_pos hb, hs]
  · simp [cntF, hx, hy]
theorem ser_move {s : List Ent} {a : ActT} (h1 : entsOk 1 (-1) s = true) (h2 : actOk a.1 a.2.1 a.2.2.1 a.2.2.2 = true) (hk : a.1 = 2) :
    ∃ x y : EffT, serEf s [(a.1, a.2.1, a.2.2.1, a.2.2.2), (2, a.2.2.1, a.2.1, a.2.2.2)] = [x, y] ∧ (x.1 = true → y.1 = true ∧ serSt s [(a.1, a.2.1, a.2.2.1, a.2.2.2), (2, a.2.2.1, a.2.1, a.2.2.2)] = s) := by
  rw [hk] at h2 ⊢
  obtain ⟨hf, ht, hm, _⟩ := actOk_elim h2
  have h3 : actOk 2 a.2.2.1 a.2.1 a.2.2.2 = true := by simp [actOk, actKindOk, inB_true.2 hf, inB_true.2 ht, inB_true.2 hm]
  have hb := serB_two h1 (show actOkT (2, a.2.1, a.2.2.1, a.2.2.2) = true from h2) (show actOkT (2, a.2.2.1, a.2.1, a.2.2.2) = true from h3)
  refine ⟨runF (2, a.2.1, a.2.2.1, a.2.2.2) (toV s), runF (2, a.2.2.1, a.2.1, a.2.2.2) (setAll (toV s) (wrsF 2 a.2.1 a.2.2.1 a.2.2.2 (toV s))), ?_, fun hd => ?_⟩
  · unfold serEf; rw [if_pos hb]; rfl
  · obtain ⟨hy, he⟩ := move_back h2 (toV_ok h1 (by omega)) hd
    refine ⟨hy, ?_⟩
    unfold serSt
    rw [if_pos hb]
    show storeOf (setAll (setAll (toV s) (wrsF 2 a.2.1 a.2.2.1 a.2.2.2 (toV s))) (wrsF 2 a.2.2.1 a.2.1 a.2.2.2 (setAll (toV s) (wrsF 2 a.2.1 a.2.2.1 a.2.2.2 (toV s))))) = s
    rw [he]
    exact storeOf_toV h1

end Go.Proofs.Ytpomiglcplbdbaa
