/- Contracts of single effects: toEffect, eqEffect, szEffect, markEffect, heldEffect. -/
import Derived.Test.YtmmfblkgappljaaHeld
import Derived.Test.YtmmfblkgappljaaEnt
import Derived.Test.YtmmfblkgappljaaRunMath
import Derived.StillTailTactics
namespace Go.Proofs.Ytmmfblkgappljaa
open Go.RowKit




/-- The two rows of an effect. -/
def effR (E : Nat) (a b : Sp) (p q : List Value) : Nat → Row := fun i => if i = 0 then (E, 2, a, p) else (E, 2, b, q)

theorem held_two {w : World} {base S E : Nat} {A B : Option Addr} {n c m d : Nat} {p q : List Value} (h : w.ownsRow base E 2 (.slice A n c) n p) (h2 : w.ownsRow S E 2 (.slice B m d) m q) (hl : ∀ k, (Value.slice A n c).ownBlock = some k → k < S) (hS : base ≤ S) :
    Held w base (effR E (A, n, c) (B, m, d) p q) 2 := by
  refine ⟨fun i hi => ?_, fun i j hi hj hne k hk => ?_⟩
  · by_cases e : i = 0
    · simp only [effR, if_pos e]; exact h
    · simp only [effR, if_neg e]; exact own_weaken h2 hS
  · by_cases e : i = 0
    · have e2 : j ≠ 0 := by omega
      simp only [effR, if_pos e] at hk
      simp only [effR, if_neg e2]
      intro hk2
      have h3 := hl k hk
      have h4 := (h2.lt k hk2).1
      omega
    · have e2 : j = 0 := by omega
      simp only [effR, if_neg e] at hk
      simp only [effR, if_pos e2]
      intro hk2
      have h3 := hl k hk2
      have h4 := (h2.lt k hk).1
      omega

theorem effR_zero (E : Nat) (a b : Sp) (p q : List Value) : effR E a b p q 0 = (E, 2, a, p) := rfl
theorem effR_one (E : Nat) (a b : Sp) (p q : List Value) : effR E a b p q 1 = (E, 2, b, q) := rfl
theorem held_fst {w : World} {base E : Nat} {A B : Option Addr} {n c m d : Nat} {p q : List Value} (h : Held w base (effR E (A, n, c) (B, m, d) p q) 2) : w.ownsRow base E 2 (.slice A n c) n p := h.1 0 (by omega)
theorem held_snd {w : World} {base E : Nat} {A B : Option Addr} {n c m d : Nat} {p q : List Value} (h : Held w base (effR E (A, n, c) (B, m, d) p q) 2) : w.ownsRow base E 2 (.slice B m d) m q := h.1 1 (by omega)

/-- A new effect. -/
def EffRes (E : Nat) (x : EffT) (w : World) (e : Ending) (w' : World) : Prop :=
  ∃ A c B d, e = .returned (.agg #[.bool x.1, .slice A x.2.1.length c, .slice B x.2.2.length d]) ∧ Held w' w.heap.size (effR E (A, x.2.1.length, c) (B, x.2.2.length, d) (entCells x.2.1) (entCells x.2.2)) 2 ∧ Below w.heap.size w w'

def effEq (x y : EffT) : Bool := decide (x = y)
theorem effEq_self (x : EffT) : effEq x x = true := by simp [effEq]

set_option maxRecDepth 100000 in
set_option maxHeartbeats 1600000 in
theorem eqEffect_any (x y : EffT) (A B C D : Option Addr) (a b c d : Nat) (w : World) (h1 : EntsAt w A x.2.1) (h2 : EntsAt w B x.2.2) (h3 : EntsAt w C y.2.1) (h4 : EntsAt w D y.2.2) (n1 : x.2.1.length ≤ 4294967296) (n2 : x.2.2.length ≤ 4294967296) (n3 : y.2.1.length ≤ 4294967296) (n4 : y.2.2.length ≤ 4294967296) :
    Calls Try.prog 27 #[.agg #[.bool x.1, .slice A x.2.1.length a, .slice B x.2.2.length b], .agg #[.bool y.1, .slice C y.2.1.length c, .slice D y.2.2.length d]] w fun e w' => e = .returned (.bool (effEq x y)) ∧ Below w.heap.size w w' := by
  obtain ⟨dx, rx, wx⟩ := x
  obtain ⟨dy, ry, wy⟩ := y
  simp only at h1 h2 h3 h4 n1 n2 n3 n4 ⊢
  have hb0 : Below w.heap.size w ((w.alloc (.cells #[.bool dx, .slice A rx.length a, .slice B wx.length b] 43)).alloc (.cells #[.bool dy, .slice C ry.length c, .slice D wy.length d] 43)) :=
    ((Below.refl _ _).alloc (Nat.le_refl _) _).alloc (by simp) _
  have h1 := h1.below hb0
  have h2 := h2.below hb0
  have h3 := h3.below hb0
  have h4 := h4.below hb0
  by_cases hd : dx = dy
  case neg =>
    have H := Lib.hid (show effEq (dx, rx, wx) (dy, ry, wy) = false by simp [effEq, hd])
    cases dx <;> cases dy <;> first
      | exact absurd rfl hd
      | (go_enter Try.func27, Try.ntmps27
         go_wp2
         go_ret
         exact ⟨ret_bool H.out.symm, hb0⟩)
  case pos =>
    subst hd
    have H := Lib.hid (show effEq (dx, rx, wx) (dx, ry, wy) = (decide (rx = ry) && decide (wx = wy)) by simp [effEq])
    go_enter Try.func27, Try.ntmps27
    go_wp2_with fail
    refine (eqEntryS_any _ _ _ _ rx ry _ h1 h3 n1 n3).mono ?_
    rintro e w1 ⟨rfl, hb1⟩
    have hc1 := bcell hb1
    have hz1 : w.heap.size + 1 < w1.heap.size := by have := hb1.size; simp at this; omega
    have h2 := h2.below hb1
    have h4 := h4.below hb1
    have hB1 := hb0.trans (hb1.mono hb0.size)
    cases e2 : decide (rx = ry)
    · rw [e2] at H
      go_wp2
      go_ret
      exact ⟨ret_bool H.out.symm, hB1⟩
    · rw [e2] at H
      go_wp2_with fail
      refine (eqEntryS_any _ _ _ _ wx wy _ h2 h4 n2 n4).mono ?_
      rintro e w2 ⟨rfl, hb2⟩
      have hB2 := hB1.trans (hb2.mono hB1.size)
      cases e3 : decide (wx = wy)
      all_goals
        rw [e3] at H
        go_wp2
        go_ret
        exact ⟨ret_bool H.out.symm, hB2⟩


/-- What a mark on an effect leaves behind. -/
def MarkEff (E base hi : Nat) (A B : Option Addr) (n c m d : Nat) (k : Int) (w : World) (e : Ending) (w' : World) : Prop :=
  e = .returned (.int .i64 (k + (n * 2 : Nat) + (m * 2 : Nat))) ∧ Held w' base (effR E (A, n, c) (B, m, d) (marks k (n * 2)) (marks (k + (n * 2 : Nat)) (m * 2))) 2 ∧ Only base hi w w'

theorem RowIs.kept {w w' : World} {g E : Nat} {vs : List Value} {row : Option Nat} (h : RowIs w g E vs) (hg : w.grownBy w' row) (hne : row ≠ some g) : RowIs w' g E vs :=
  (hg.block g h.lt (fun e => hne e.symm)).trans h
theorem Only.alloc_grown {lo hi : Nat} {w w' : World} {o : Obj} {row : Option Nat} (h : (w.alloc o).grownBy w' row) (hr : ∀ k, row = some k → lo ≤ k ∧ k < hi) : Only lo hi w w' :=
  ⟨h.os, h.tape, h.output, Nat.le_trans (by simp) h.size, fun k hk ho => (h.block k (by simp; omega) (fun e => by have := hr k e.symm; omega)).trans (Below.heap_alloc w o k hk)⟩

set_option maxRecDepth 100000 in
set_option maxHeartbeats 1600000 in
theorem markEffect_any (dn : Bool) (base hi E : Nat) (A B : Option Addr) (n c m d : Nat) (xs ys : List Value) (k : Int) (w : World) (ho : Held w base (effR E (A, n, c) (B, m, d) xs ys) 2) (hl : HeldLt (effR E (A, n, c) (B, m, d) xs ys) 2 hi) (hn : n ≤ 4294967296) (hm : m ≤ 4294967296) (h0 : 0 ≤ k) (h1 : k ≤ 1000000000) :
    Calls Try.prog 34 #[.agg #[.bool dn, .slice A n c, .slice B m d], .int .i64 k] w (MarkEff E base hi A B n c m d k w) := by
  have hb0 : Below w.heap.size w (w.alloc (.cells #[.bool dn, .slice A n c, .slice B m d] 43)) := (Below.refl _ _).alloc (Nat.le_refl _) _
  have hap : ∀ kk, (Value.slice A n c).ownBlock = some kk → (Value.slice B m d).ownBlock ≠ some kk := ho.2 0 1 (by omega) (by omega) (by omega)
  have hA1 : ∀ kk, (Value.slice A n c).ownBlock = some kk → (base ≤ kk ∧ kk < hi) ∧ kk < w.heap.size := fun kk hk => ⟨⟨((held_fst ho).lt kk hk).1, hl 0 (by omega) kk hk⟩, ((held_fst ho).lt kk hk).2⟩
  have hB1 : ∀ kk, (Value.slice B m d).ownBlock = some kk → (base ≤ kk ∧ kk < hi) ∧ kk < w.heap.size := fun kk hk => ⟨⟨((held_snd ho).lt kk hk).1, hl 1 (by omega) kk hk⟩, ((held_snd ho).lt kk hk).2⟩
  have o1 := own_below (held_fst ho) hb0
  have o2 := own_below (held_snd ho) hb0
  have hrb := RowIs.alloc (w := w) #[.bool dn, .slice A n c, .slice B m d] 43
  have HAP := Lib.hid hap
  have HA1 := Lib.hid hA1
  have HB1 := Lib.hid hB1
  clear hb0 ho hl hap hA1 hB1
  go_enter Try.func34, Try.ntmps34
  go_wp2_with fail
  refine (markEntryS_any _ _ _ _ _ _ _ _ o1 hn h0 (by omega)).mono ?_
  rintro e w1 ⟨rfl, o1', hg1⟩
  have hrb1 := hrb.kept hg1 (fun e => by have := (HA1.out _ e).2; omega)
  have q2 : w1.cell? ⟨w.heap.size, 2, none⟩ = some (.slice B m d) := hrb1.cell 2
  have o2' := o2.kept hg1 (by
    cases hv : (Value.slice B m d).ownBlock with
    | none => exact .inl rfl
    | some kk => right; intro e; exact HAP.out kk e.symm hv)
  have HO1 := Lib.hid (Only.alloc_grown hg1 (fun kk hk => (HA1.out kk hk).1))
  have hap2 : (Value.slice A n c).ownBlock = none ∨ (Value.slice A n c).ownBlock ≠ (Value.slice B m d).ownBlock := by
    cases hv : (Value.slice A n c).ownBlock with
    | none => exact .inl rfl
    | some kk => right; intro e; exact HAP.out kk hv e.symm
  have HAP2 := Lib.hid hap2
  clear o1 o2 hrb hrb1 hg1 hap2
  go_wp2_with fail
  refine (markEntryS_any _ _ _ _ _ _ _ _ o2' hm (by omega) (by omega)).mono ?_
  rintro e w2 ⟨rfl, o3, hg2⟩
  have o1'' := o1'.kept hg2 HAP2.out
  have HO2 := Lib.hid (HO1.out.trans (Only.of_grown hg2 (fun kk hk => (HB1.out kk hk).1)))
  clear o1' o2' hg2 q2
  go_wp2
  go_ret
  refine ⟨rfl, ⟨fun i hi => ?_, fun i j hi hj hne kk hk => ?_⟩, HO2.out⟩
  · by_cases e : i = 0
    · simp only [effR, if_pos e]; exact o1''
    · simp only [effR, if_neg e]; exact o3
  · by_cases e : i = 0
    · have e2 : j ≠ 0 := by omega
      simp only [effR, if_pos e] at hk
      simp only [effR, if_neg e2]
      exact HAP.out kk hk
    · have e2 : j = 0 := by omega
      simp only [effR, if_neg e] at hk
      simp only [effR, if_pos e2]
      intro hk2
      exact HAP.out kk hk2 hk


end Go.Proofs.Ytmmfblkgappljaa
