/- Contracts of single effects: toEffect, szEffect. -/
import Derived.Test.YtmmfblkgappljaaEff
import Derived.Test.YtmmfblkgappljaaVals
namespace Go.Proofs.Ytmmfblkgappljaa
open Go.RowKit

theorem start3 (w : World) (A E E' : Array Value) (ta te : Nat) :
    RowIs (((w.alloc (.cells A ta)).alloc (.cells E te)).alloc (.cells E' te)) w.heap.size ta A.toList ∧
    RowIs (((w.alloc (.cells A ta)).alloc (.cells E te)).alloc (.cells E' te)) (w.heap.size + 1) te E.toList ∧
    RowIs (((w.alloc (.cells A ta)).alloc (.cells E te)).alloc (.cells E' te)) (w.heap.size + 1 + 1) te E'.toList ∧
    (((w.alloc (.cells A ta)).alloc (.cells E te)).alloc (.cells E' te)).heap.size = w.heap.size + 1 + 1 + 1 ∧
    Below w.heap.size w (((w.alloc (.cells A ta)).alloc (.cells E te)).alloc (.cells E' te)) := by
  have e1 : (w.alloc (.cells A ta)).heap.size = w.heap.size + 1 := by simp
  have e2 : ((w.alloc (.cells A ta)).alloc (.cells E te)).heap.size = w.heap.size + 1 + 1 := by simp
  have b1 := (Below.refl w.heap.size w).alloc (Nat.le_refl _) (.cells A ta)
  have b2 := b1.alloc b1.size (.cells E te)
  have b3 := b2.alloc b2.size (.cells E' te)
  refine ⟨((RowIs.alloc A ta).alloc_other _).alloc_other _, ?_, ?_, by simp, b3⟩
  · have h := (RowIs.alloc (w := w.alloc (.cells A ta)) E te).alloc_other (.cells E' te)
    rwa [e1] at h
  · have h := RowIs.alloc (w := (w.alloc (.cells A ta)).alloc (.cells E te)) E' te
    rwa [e2] at h

theorem own_sc {w : World} {base E sz n : Nat} {v : Value} {xs : List Value} (h : w.ownsRow base E sz v n xs) {p : Addr} (hp : p.block < base) (u : Value) : (w.setCell p u).ownsRow base E sz v n xs := by
  refine h.kept (row := some p.block) ⟨rfl, rfl, rfl, by simp [World.setCell], fun k _ hne => Below.heap_setCell w p u k (fun e => hne (by rw [e]))⟩ ?_
  cases hv : v.ownBlock with
  | none => exact .inl rfl
  | some k =>
    right
    intro he
    injection he with he
    have := (h.lt k hv).1
    omega

set_option maxRecDepth 100000 in
set_option maxHeartbeats 3200000 in
theorem toEffect_any (x : EffT) (A B : Option Addr) (c d : Nat) (w : World) (hx : EntsAt w A x.2.1) (hy : EntsAt w B x.2.2) (hn : x.2.1.length ≤ 4294967296) (hm : x.2.2.length ≤ 4294967296) :
    Calls Try.prog 25 #[.agg #[.bool x.1, .slice A x.2.1.length c, .slice B x.2.2.length d]] w (EffRes 86 x w) := by
  obtain ⟨dn, rs, ws⟩ := x
  simp only at hx hy hn hm ⊢
  obtain ⟨h0, h1, h2, h3, h4⟩ := start3 w #[.bool dn, .slice A rs.length c, .slice B ws.length d] #[.bool false, .slice none 0 0, .slice none 0 0] #[.bool dn, .slice none 0 0, .slice none 0 0] 38 43
  have hx0 := hx.below h4
  have H0 := Lib.hid h0
  have H1 := Lib.hid h1
  have H2 := Lib.hid h2
  have HS := Lib.hid h3
  have HB := Lib.hid h4
  have HY := Lib.hid hy
  clear h0 h1 h2 h3 h4 hx hy
  go_enter Try.func25, Try.ntmps25
  go_wp2_with fail
  refine (toEntryS_any _ _ rs _ hx0 hn).mono ?_
  rintro e w1 ⟨A1, c1, rfl, o1, hb1⟩
  have hs1 := hb1.size
  rw [HS.out] at o1 hs1
  have r0 := H0.out.below hb1 H0.out.lt
  have r1 := H1.out.below hb1 H1.out.lt
  have r2 := H2.out.below hb1 H2.out.lt
  have hB1 := HB.out.trans (hb1.mono HB.out.size)
  have hB2 := hB1.setCell (p := ⟨w.heap.size + 1 + 1, 1, none⟩) (show w.heap.size ≤ w.heap.size + 1 + 1 by omega) (.slice A1 rs.length c1)
  have hz2 : (w1.setCell ⟨w.heap.size + 1 + 1, 1, none⟩ (.slice A1 rs.length c1)).heap.size = w1.heap.size := by simp [World.setCell]
  have hy2 := HY.out.below hB2
  have q2 : w1.cell? ⟨w.heap.size, 2, none⟩ = some (.slice B ws.length d) := r0.cell 2
  have e1 : w1.cell? ⟨w.heap.size + 1 + 1, 1, none⟩ = some (.slice none 0 0) := r2.cell 1
  have f1 := r2.frozen 1
  have OL := Lib.hid (own_lt o1)
  have O2 := Lib.hid (own_sc o1 (p := ⟨w.heap.size + 1 + 1, 1, none⟩) (show w.heap.size + 1 + 1 < w.heap.size + 1 + 1 + 1 by omega) (.slice A1 rs.length c1))
  have R1 := Lib.hid (r1.setCell_other (p := ⟨w.heap.size + 1 + 1, 1, none⟩) (show w.heap.size + 1 ≠ w.heap.size + 1 + 1 by omega) (.slice A1 rs.length c1))
  have R2 := Lib.hid (r2.set 1 (.slice A1 rs.length c1))
  have HB2 := Lib.hid hB2
  clear r0 r1 r2 o1 hB1 hB2 hb1 hx0 H0 H1 H2 HS HB
  go_wp2_with fail
  refine (toEntryS_any _ _ ws _ hy2 hm).mono ?_
  rintro e w2 ⟨A2, c2, rfl, o2, hb2⟩
  have hs2 := hb2.size
  have r1 := R1.out.below hb2 R1.out.lt
  have r2 := R2.out.below hb2 R2.out.lt
  have o3 := own_below O2.out hb2
  have hB3 := HB2.out.trans (hb2.mono HB2.out.size)
  rw [hz2] at o2 hs2
  have e0 : w2.cell? ⟨w.heap.size + 1 + 1, 0, none⟩ = some (.bool dn) := r2.cell 0
  have e1 : w2.cell? ⟨w.heap.size + 1 + 1, 1, none⟩ = some (.slice A1 rs.length c1) := r2.cell 1
  have e2 : w2.cell? ⟨w.heap.size + 1 + 1, 2, none⟩ = some (.slice none 0 0) := r2.cell 2
  have z0 : w2.cell? ⟨w.heap.size + 1, 0, none⟩ = some (.bool false) := r1.cell 0
  have z1 : w2.cell? ⟨w.heap.size + 1, 1, none⟩ = some (.slice none 0 0) := r1.cell 1
  have z2 : w2.cell? ⟨w.heap.size + 1, 2, none⟩ = some (.slice none 0 0) := r1.cell 2
  have f2 := r2.frozen 2
  have g0 := r1.frozen 0
  have g1 := r1.frozen 1
  have g2 := r1.frozen 2
  have O3 := Lib.hid o3
  have O4 := Lib.hid o2
  have HB3 := Lib.hid hB3
  clear r1 r2 o3 o2 hB3 hb2 q2 f1 hy2 hz2
  go_wp2
  refine bodyPost_ret (v := .agg #[.bool dn, .slice A1 rs.length c1, .slice A2 ws.length c2]) (by simp [results, Try.results25, go_sem, z0, z1, z2]) rfl ?_
  have k1 : w.heap.size + 1 < w.heap.size + 1 + 1 + 1 := by omega
  have k2 : w.heap.size + 1 + 1 < w.heap.size + 1 + 1 + 1 := by omega
  have k3 : w.heap.size + 1 < w1.heap.size := by omega
  have k4 : w.heap.size + 1 + 1 < w1.heap.size := by omega
  have k5 : w.heap.size ≤ w.heap.size + 1 := by omega
  have k6 : w.heap.size ≤ w.heap.size + 1 + 1 := by omega
  refine ⟨A1, c1, A2, c2, rfl, (held_two (S := w1.heap.size) (by repeat (first | exact O3.out | exact own_sc O3.out k2 _ | refine own_sc ?_ k1 _)) (by repeat (first | exact O4.out | exact own_sc O4.out k4 _ | refine own_sc ?_ k3 _)) OL.out (by omega)).weaken (by omega), (by repeat (first | exact HB3.out | exact HB3.out.setCell k6 _ | refine Below.setCell ?_ k5 _))⟩

set_option maxRecDepth 100000 in
set_option maxHeartbeats 800000 in
theorem szEffect_big (dn : Bool) (A B : Option Addr) (n c m d : Nat) (left : Int) (w : World) (hn : n ≤ 9223372036854775807) (h0 : 0 ≤ left) (h1 : left < n) :
    Calls Try.prog 23 #[.agg #[.bool dn, .slice A n c, .slice B m d], .int .i64 left] w fun e w' => e = .returned (.int .i64 (-1)) ∧ Below w.heap.size w w' := by
  go_enter Try.func23, Try.ntmps23
  go_wp2_with fail
  refine (szEntryS_big _ _ _ _ _ hn h0 h1).mono ?_
  rintro e w' ⟨rfl, rfl⟩
  go_wp2
  go_ret
  exact ⟨rfl, (Below.refl _ _).alloc (Nat.le_refl _) _⟩
set_option maxRecDepth 100000 in
set_option maxHeartbeats 800000 in
theorem szEffect_big2 (dn : Bool) (A B : Option Addr) (n c m d : Nat) (left : Int) (w : World) (hn : m ≤ 9223372036854775807) (h0 : (n : Int) ≤ left) (h1 : left - n < m) (h2 : left ≤ 4294967296) :
    Calls Try.prog 23 #[.agg #[.bool dn, .slice A n c, .slice B m d], .int .i64 left] w fun e w' => e = .returned (.int .i64 (-1)) ∧ Below w.heap.size w w' := by
  have hp : ¬ left - (n : Int) < 0 := by omega
  go_enter Try.func23, Try.ntmps23
  go_wp2_with fail
  refine (szEntryS_fits _ _ _ _ _ h0 h2).mono ?_
  rintro e w' ⟨rfl, rfl⟩
  go_wp2_with fail
  refine (szEntryS_big _ _ _ _ _ hn (by omega) h1).mono ?_
  rintro e w' ⟨rfl, rfl⟩
  go_wp2
  go_ret
  exact ⟨rfl, (Below.refl _ _).alloc (Nat.le_refl _) _⟩
set_option maxRecDepth 100000 in
set_option maxHeartbeats 800000 in
theorem szEffect_fits (dn : Bool) (A B : Option Addr) (n c m d : Nat) (left : Int) (w : World) (h0 : (n : Int) + m ≤ left) (h2 : left ≤ 4294967296) :
    Calls Try.prog 23 #[.agg #[.bool dn, .slice A n c, .slice B m d], .int .i64 left] w fun e w' => e = .returned (.int .i64 (left - n - m)) ∧ Below w.heap.size w w' := by
  have hp : ¬ left - (n : Int) < 0 := by omega
  have hq : ¬ left - (n : Int) - (m : Int) < 0 := by omega
  go_enter Try.func23, Try.ntmps23
  go_wp2_with fail
  refine (szEntryS_fits _ _ _ _ _ (by omega) h2).mono ?_
  rintro e w' ⟨rfl, rfl⟩
  go_wp2_with fail
  refine (szEntryS_fits _ _ _ _ _ (by omega) (by omega)).mono ?_
  rintro e w' ⟨rfl, rfl⟩
  go_wp2
  go_ret
  exact ⟨rfl, (Below.refl _ _).alloc (Nat.le_refl _) _⟩

end Go.Proofs.Ytmmfblkgappljaa
