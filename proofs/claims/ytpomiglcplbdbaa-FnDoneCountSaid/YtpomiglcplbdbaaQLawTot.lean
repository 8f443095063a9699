/- Plain laws of runs: totals, what is read. -/
import Derived.Test.YtpomiglcplbdbaaQLawRun
import Derived.Test.YtpomiglcplbdbaaQLawMath
namespace Go.Proofs.Ytpomiglcplbdbaa
open Go

theorem sum_one {v : List Int} (hv : v.length = 32) {p x : Int} (hp : 0 ≤ p ∧ p ≤ 31) : (setAll v [(p, x)]).sum = v.sum - atV v p + x := by
  show (v.set p.toNat x).sum = _
  exact sum_set _ _ _ (by omega)
theorem sum_two {v : List Int} (hv : v.length = 32) {p x q y : Int} (hp : 0 ≤ p ∧ p ≤ 31) (hq : 0 ≤ q ∧ q ≤ 31) (hne : p ≠ q) : (setAll v [(p, x), (q, y)]).sum = v.sum - atV v p + x - atV v q + y := by
  show ((v.set p.toNat x).set q.toNat y).sum = _
  rw [sum_set _ _ _ (by rw [List.length_set]; omega), sum_set _ _ _ (by omega)]
  have e : (v.set p.toNat x).getD q.toNat 0 = atV v q := by
    have := atV_set hv hp hq x
    rw [if_neg (fun h => hne h.symm)] at this
    exact this
  rw [e]
  show v.sum - atV v p + x - atV v q + y = _
  rfl
theorem run_total {k f t m : Int} (h : actOk k f t m = true) {v : List Int} (hv : vOk v) (hk : (k = 2 ∨ k = 4) ∨ doneF k f t m v = false) : (setAll v (wrsF k f t m v)).sum = v.sum := by
  obtain ⟨hf, ht, hm, _⟩ := actOk_elim h
  cases hd : doneF k f t m v with
  | false => unfold wrsF; rw [hd]; rfl
  | true =>
    rcases hk with hk | hk
    · unfold wrsF
      rw [hd, if_pos rfl]
      by_cases e : f = t
      · subst e
        have hw : writesF k f f = [f] := by rcases hk with rfl | rfl <;> simp [writesF]
        have hx : wrF k f f m v f = atV v f := by rcases hk with rfl | rfl <;> simp [wrF]
        rw [hw]
        show (setAll v [(f, wrF k f f m v f)]).sum = v.sum
        rw [sum_one hv.1 hf, hx]
        omega
      · have hw : writesF k f t = [min f t, max f t] := by rcases hk with rfl | rfl <;> simp [writesF, e]
        rw [hw]
        show (setAll v [(min f t, wrF k f t m v (min f t)), (max f t, wrF k f t m v (max f t))]).sum = v.sum
        rw [sum_two hv.1 (by omega) (by omega) (by omega)]
        have hsum : atV v (min f t) + atV v (max f t) = atV v f + atV v t ∧ wrF k f t m v (min f t) + wrF k f t m v (max f t) = wrF k f t m v f + wrF k f t m v t := by
          rcases Int.le_total f t with h1 | h1
          · rw [Int.min_eq_left h1, Int.max_eq_right h1]; exact ⟨rfl, rfl⟩
          · rw [Int.min_eq_right h1, Int.max_eq_left h1]; exact ⟨Int.add_comm _ _, Int.add_comm _ _⟩
        have hwr : wrF k f t m v f + wrF k f t m v t = atV v f + atV v t := by
          have e2 : ¬ t = f := fun h => e h.symm
          rcases hk with rfl | rfl
          · simp [wrF, e, e2]; omega
          · simp [wrF, e]; omega
        omega
    · rw [hd] at hk; cases hk

end Go.Proofs.Ytpomiglcplbdbaa
