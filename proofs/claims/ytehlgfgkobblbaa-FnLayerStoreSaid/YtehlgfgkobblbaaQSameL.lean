/- Equal lists of effects and of layers are found equal. -/
import Derived.Test.YtehlgfgkobblbaaQSame2
import Derived.Test.YtehlgfgkobblbaaQEffs
import Derived.Test.YtehlgfgkobblbaaQLays
namespace Go.Proofs.Ytehlgfgkobblbaa
open Go.ChangeShapes Go.WideShapes Go.ChangeAt Go.RowKit Go.Deep


set_option maxRecDepth 100000 in
set_option maxHeartbeats 3200000 in
theorem sameLayers_same (A B : Option Addr) (c d : Nat) (xs ys : List LayA) (w : World) (hx : LaysAt w A xs) (hy : LaysAt w B ys) (he : laysT xs = laysT ys) (hn : xs.length ≤ 4294967296)
    (hl : ∀ z ∈ xs, z.1.2.length ≤ 4294967296) :
    Calls Try.prog 15 #[.slice A xs.length c, .slice B ys.length d] w fun e w' => e = .returned (.bool true) ∧ Below w.heap.size w w' := by
  have hl0 : xs.length = ys.length := by have := congrArg List.length he; simpa [laysT] using this
  have hne : ((xs.length : Int) != (ys.length : Int)) = false := by rw [hl0]; simp
  have HE := Lib.hid (show ∀ k (h : k < xs.length) (h' : k < ys.length), ys[k].1 = xs[k].1 from fun k h h' => by
    have h1 := List.getElem_of_eq he (i := k) (by simpa [laysT] using h)
    simpa [laysT] using h1.symm)
  have HL := Lib.hid hl0
  have HX := Lib.hid hx
  have HY := Lib.hid hy
  have HN := Lib.hid hl
  clear hl0 hx hy hl he
  go_enter Try.func15, Try.ntmps15
  go_wp2
  go_loopw [5] (fun i wr => ∃ k : Nat, k ≤ xs.length ∧ i = .int .i64 k ∧ Below w.heap.size w wr) (fun i _ => xs.length - (intOf i).toNat)
  case atStart => exact ⟨0, Nat.zero_le _, rfl, Below.refl _ _⟩
  case round =>
    obtain ⟨k, hk, rfl, hdr⟩ := hrel
    by_cases hlt : k < xs.length
    · have hlt2 : k < ys.length := by have := HL.out; omega
      obtain ⟨b, o, rfl, hb, hc⟩ := (HX.out.below hdr).at_ hlt
      obtain ⟨c0, c1⟩ := hc k hlt
      clear hc
      obtain ⟨b2, o2, rfl, hb2, hc2⟩ := (HY.out.below hdr).at_ hlt2
      obtain ⟨e0, e1⟩ := hc2 k hlt2
      clear hc2
      have hko := (HX.out.2 xs[k] (List.getElem_mem hlt)).below hdr
      have hko2 := (HY.out.2 ys[k] (List.getElem_mem hlt2)).below hdr
      have hkl := HN.out xs[k] (List.getElem_mem hlt)
      have hxy := HE.out k hlt hlt2
      have hk0 : (0 : Int) ≤ (k : Int) := by omega
      have hk1 : (k : Int) < (xs.length : Int) := by omega
      have hk2 : (k : Int) < (ys.length : Int) := by omega
      generalize xs[k] = x at *
      generalize ys[k] = y at *
      obtain ⟨yt, ya⟩ := y
      simp only at hxy
      subst hxy
      have HQ := Lib.hid hko
      have HQ2 := Lib.hid hko2
      have hse : (x.1.1 != x.1.1) = false := by simp
      clear hko hko2
      go_wp2
      go_still_tail 22, (by kernel_rfl)
      go_wp2_with (go_at_call 16; refine (sameStore_any _ _ _ _ x.1.2 x.1.2 _ HQ.out.2.dr HQ2.out.2.dr hkl hkl).mono ?_; rintro e w' ⟨rfl, hd'⟩; rw [show decide (x.1.2 = x.1.2) = true by simp])
      have hb' := hd'.below wr.heap.size
      go_roundw
      case rel => exact ⟨k + 1, by omega, by go_num, hdr.drew.trans (hb'.mono hdr.size)⟩
      case measure => simp [intOf]; omega
    · go_wp2
      go_ret
      exact ⟨rfl, hdr⟩

end Go.Proofs.Ytehlgfgkobblbaa
