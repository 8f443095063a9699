/- Contract of the laws' word sameEffect. -/
import Derived.Test.YtpomiglcplbdbaaQBase
import Derived.Test.YtpomiglcplbdbaaQSame
namespace Go.Proofs.Ytpomiglcplbdbaa
open Go.RowKit

set_option maxRecDepth 100000 in
set_option maxHeartbeats 1600000 in
theorem sameEffect_any (x y : EffT) (A B C D : Option Addr) (a b c d : Nat) (w : World) (h1 : EntsAt w A x.2.1) (h2 : EntsAt w B x.2.2) (h3 : EntsAt w C y.2.1) (h4 : EntsAt w D y.2.2) (n1 : x.2.1.length ≤ 4294967296) (n2 : x.2.2.length ≤ 4294967296) (n3 : y.2.1.length ≤ 4294967296) (n4 : y.2.2.length ≤ 4294967296) :
    Calls Try.prog 37 #[.agg #[.bool x.1, .slice A x.2.1.length a, .slice B x.2.2.length b], .agg #[.bool y.1, .slice C y.2.1.length c, .slice D y.2.2.length d]] w fun e w' => e = .returned (.bool (effEq x y)) ∧ Below w.heap.size w w' := by
  obtain ⟨dx, rx, wx⟩ := x
  obtain ⟨dy, ry, wy⟩ := y
  simp only at h1 h2 h3 h4 n1 n2 n3 n4 ⊢
  have hb0 : Below w.heap.size w ((w.alloc (.cells #[.bool dx, .slice A rx.length a, .slice B wx.length b] 53)).alloc (.cells #[.bool dy, .slice C ry.length c, .slice D wy.length d] 53)) :=
    ((Below.refl _ _).alloc (Nat.le_refl _) _).alloc (by simp) _
  have h1 := h1.below hb0
  have h2 := h2.below hb0
  have h3 := h3.below hb0
  have h4 := h4.below hb0
  by_cases hd : dx = dy
  case neg =>
    have H := Lib.hid (show effEq (dx, rx, wx) (dy, ry, wy) = false by simp [effEq, hd])
    cases dx <;> cases dy <;> first
      | exact absurd rfl hd
      | (go_enter Try.func37, Try.ntmps37
         go_wp2
         go_ret
         exact ⟨ret_bool H.out.symm, hb0⟩)
  case pos =>
    subst hd
    have H := Lib.hid (show effEq (dx, rx, wx) (dx, ry, wy) = (decide (rx = ry) && decide (wx = wy)) by simp [effEq])
    go_enter Try.func37, Try.ntmps37
    go_wp2_with fail
    refine (sameStore_any _ _ _ _ rx ry _ h1 h3 n1 n3).mono ?_
    rintro e w1 ⟨rfl, hd1⟩
    have hb1 := hd1.below ((w.alloc (.cells #[.bool dx, .slice A rx.length a, .slice B wx.length b] 53)).alloc (.cells #[.bool dx, .slice C ry.length c, .slice D wy.length d] 53)).heap.size
    have hc1 := bcell hb1
    have hz1 : w.heap.size + 1 < w1.heap.size := by have := hb1.size; simp at this; omega
    have h2 := h2.below hb1
    have h4 := h4.below hb1
    have hB1 := hb0.trans (hb1.mono hb0.size)
    cases e2 : decide (rx = ry)
    · rw [e2] at H
      go_wp2
      go_ret
      exact ⟨ret_bool H.out.symm, hB1⟩
    · rw [e2] at H
      go_wp2_with fail
      refine (sameStore_any _ _ _ _ wx wy _ h2 h4 n2 n4).mono ?_
      rintro e w2 ⟨rfl, hd2⟩
      have hB2 := hB1.trans ((hd2.below w1.heap.size).mono hB1.size)
      cases e3 : decide (wx = wy)
      all_goals
        rw [e3] at H
        go_wp2
        go_ret
        exact ⟨ret_bool H.out.symm, hB2⟩

end Go.Proofs.Ytpomiglcplbdbaa
