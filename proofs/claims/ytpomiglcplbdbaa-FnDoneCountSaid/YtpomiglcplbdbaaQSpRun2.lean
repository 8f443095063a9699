/- Contract of the reference's RunAction. -/
import Derived.Test.YtpomiglcplbdbaaQSpRun
namespace Go.Proofs.Ytpomiglcplbdbaa
open Go.RowKit
attribute [local go_sem ↓] Go.wp_at_zero Go.wp_at_succ

set_option maxRecDepth 100000 in
set_option maxHeartbeats 4000000 in
theorem specRunAction_any (A : Option Addr) (c : Nat) (es : List Ent) (k f t m : Int) (w : World) (hz : EntsAt w A es) (hn : es.length ≤ 4294967296) :
    Calls Try.prog 40 #[.slice A es.length c, .agg #[.int .i64 k, .int .i64 f, .int .i64 t, .int .i64 m]] w (EffRes 49 (runOf es (k, f, t, m)) w) := by
  obtain ⟨h0, h1, h4, h5⟩ := two_start w #[.int .i64 k, .int .i64 f, .int .i64 t, .int .i64 m] #[.bool false, .slice none 0 0, .slice none 0 0] 44 53
  have hz0 := hz.below h5
  have H0 := Lib.hid h0
  have H1 := Lib.hid h1
  have HS := Lib.hid h4
  have HB := Lib.hid h5
  have HZ := Lib.hid hz0
  clear hz h0 h1 h4 h5 hz0
  have bad : runOf es (k, f, t, m) = (false, [], []) → ∀ w1 : World, RowIs w1 (w.heap.size + 1) 53 [.bool false, .slice none 0 0, .slice none 0 0] → Below w.heap.size w w1 → EffRes 49 (runOf es (k, f, t, m)) w (.returned (.agg #[.bool false, .slice none 0 0, .slice none 0 0])) (((w1.setCell ⟨w.heap.size + 1, 0, none⟩ (.bool false)).setCell ⟨w.heap.size + 1, 1, none⟩ (.slice none 0 0)).setCell ⟨w.heap.size + 1, 2, none⟩ (.slice none 0 0)) := by
    intro hr w1 _ hb
    rw [hr]
    exact ⟨none, 0, none, 0, rfl, held_two (World.ownsRow_nil _ w.heap.size _ _) (World.ownsRow_nil _ w.heap.size _ _) (fun kk hk => by cases hk) (Nat.le_refl _), ((hb.setCell (p := ⟨w.heap.size + 1, 0, none⟩) (show w.heap.size ≤ w.heap.size + 1 by omega) _).setCell (p := ⟨w.heap.size + 1, 1, none⟩) (show w.heap.size ≤ w.heap.size + 1 by omega) _).setCell (p := ⟨w.heap.size + 1, 2, none⟩) (show w.heap.size ≤ w.heap.size + 1 by omega) _⟩
  have BAD := Lib.hid bad
  clear bad
  cases h1 : entsOk 1 (-1) es
  case false =>
    have HR := Lib.hid (show runOf es (k, f, t, m) = (false, [], []) by simp [runOf, h1])
    go_enter Try.func40, Try.ntmps40
    go_wp2_with fail
    refine (specStoreValid_any _ _ _ _ HZ.out hn).mono ?_
    rintro e w1 ⟨rfl, hd1⟩
    have hb1 := hd1.below ((w.alloc (.cells #[.int .i64 k, .int .i64 f, .int .i64 t, .int .i64 m] 44)).alloc (.cells #[.bool false, .slice none 0 0, .slice none 0 0] 53)).heap.size
    clear hd1
    rw [h1]
    have hlt : w.heap.size + 1 < ((w.alloc (.cells #[.int .i64 k, .int .i64 f, .int .i64 t, .int .i64 m] 44)).alloc (.cells #[.bool false, .slice none 0 0, .slice none 0 0] 53)).heap.size := by rw [HS.out]; omega
    have r1 := H1.out.below hb1 hlt
    have hB1 := HB.out.trans (hb1.mono HB.out.size)
    have z0 : w1.cell? ⟨w.heap.size + 1, 0, none⟩ = some (.bool false) := r1.cell 0
    have z1 : w1.cell? ⟨w.heap.size + 1, 1, none⟩ = some (.slice none 0 0) := r1.cell 1
    have z2 : w1.cell? ⟨w.heap.size + 1, 2, none⟩ = some (.slice none 0 0) := r1.cell 2
    have f0 := r1.frozen 0
    have f1 := r1.frozen 1
    have f2 := r1.frozen 2
    have R1 := Lib.hid r1
    clear r1 hb1 hlt
    go_wp2
    refine bodyPost_ret (v := .agg #[.bool false, .slice none 0 0, .slice none 0 0]) (by simp [results, Try.results40, go_sem, z0, z1, z2]) rfl ?_
    exact BAD.out HR.out w1 R1.out hB1
  case true =>
    cases h2 : actOk k f t m
    case false =>
      have HR := Lib.hid (show runOf es (k, f, t, m) = (false, [], []) by simp [runOf, h2])
      go_enter Try.func40, Try.ntmps40
      go_wp2_with fail
      refine (specStoreValid_any _ _ _ _ HZ.out hn).mono ?_
      rintro e w1 ⟨rfl, hd1⟩
      have hb1 := hd1.below ((w.alloc (.cells #[.int .i64 k, .int .i64 f, .int .i64 t, .int .i64 m] 44)).alloc (.cells #[.bool false, .slice none 0 0, .slice none 0 0] 53)).heap.size
      clear hd1
      rw [h1]
      have hlt : w.heap.size + 1 < ((w.alloc (.cells #[.int .i64 k, .int .i64 f, .int .i64 t, .int .i64 m] 44)).alloc (.cells #[.bool false, .slice none 0 0, .slice none 0 0] 53)).heap.size := by rw [HS.out]; omega
      have r0 := H0.out.below hb1 (by omega)
      have r1 := H1.out.below hb1 hlt
      have hB1 := HB.out.trans (hb1.mono HB.out.size)
      have q0 : w1.cell? ⟨w.heap.size, 0, none⟩ = some (.int .i64 k) := r0.cell 0
      have q1 : w1.cell? ⟨w.heap.size, 1, none⟩ = some (.int .i64 f) := r0.cell 1
      have q2 : w1.cell? ⟨w.heap.size, 2, none⟩ = some (.int .i64 t) := r0.cell 2
      have q3 : w1.cell? ⟨w.heap.size, 3, none⟩ = some (.int .i64 m) := r0.cell 3
      have R1 := Lib.hid r1
      clear r0 r1 hb1 hlt
      go_wp2_with fail
      refine (specActionValid_any k f t m _).mono ?_
      rintro e w2 ⟨rfl, hb2⟩
      rw [h2]
      have r1 := R1.out.below hb2 R1.out.lt
      have hB2 := hB1.trans (hb2.mono hB1.size)
      have z0 : w2.cell? ⟨w.heap.size + 1, 0, none⟩ = some (.bool false) := r1.cell 0
      have z1 : w2.cell? ⟨w.heap.size + 1, 1, none⟩ = some (.slice none 0 0) := r1.cell 1
      have z2 : w2.cell? ⟨w.heap.size + 1, 2, none⟩ = some (.slice none 0 0) := r1.cell 2
      have f0 := r1.frozen 0
      have f1 := r1.frozen 1
      have f2 := r1.frozen 2
      have R2 := Lib.hid r1
      clear r1 hb2 q0 q1 q2 q3
      go_wp2
      refine bodyPost_ret (v := .agg #[.bool false, .slice none 0 0, .slice none 0 0]) (by simp [results, Try.results40, go_sem, z0, z1, z2]) rfl ?_
      exact BAD.out HR.out w2 R2.out hB2
    case true =>
      have HR := Lib.hid (show runOf es (k, f, t, m) = runF (k, f, t, m) (toV es) by simp [runOf, h1, h2])
      have HV := Lib.hid (toV_ok h1 (by omega))
      have HK := Lib.hid (keysOk_of h1)
      have HA := Lib.hid h2
      have HOK := Lib.hid h1
      go_enter Try.func40, Try.ntmps40
      go_wp2_with fail
      refine (specStoreValid_any _ _ _ _ HZ.out hn).mono ?_
      rintro e w1 ⟨rfl, hd1⟩
      have hb1 := hd1.below ((w.alloc (.cells #[.int .i64 k, .int .i64 f, .int .i64 t, .int .i64 m] 44)).alloc (.cells #[.bool false, .slice none 0 0, .slice none 0 0] 53)).heap.size
      clear hd1
      rw [h1]
      have hlt : w.heap.size + 1 < ((w.alloc (.cells #[.int .i64 k, .int .i64 f, .int .i64 t, .int .i64 m] 44)).alloc (.cells #[.bool false, .slice none 0 0, .slice none 0 0] 53)).heap.size := by rw [HS.out]; omega
      have r0 := H0.out.below hb1 (by omega)
      have r1 := H1.out.below hb1 hlt
      have hB1 := HB.out.trans (hb1.mono HB.out.size)
      have q0 : w1.cell? ⟨w.heap.size, 0, none⟩ = some (.int .i64 k) := r0.cell 0
      have q1 : w1.cell? ⟨w.heap.size, 1, none⟩ = some (.int .i64 f) := r0.cell 1
      have q2 : w1.cell? ⟨w.heap.size, 2, none⟩ = some (.int .i64 t) := r0.cell 2
      have q3 : w1.cell? ⟨w.heap.size, 3, none⟩ = some (.int .i64 m) := r0.cell 3
      have R0 := Lib.hid r0
      have R1 := Lib.hid r1
      have hz1 := Lib.hid (HZ.out.below hb1)
      clear r0 r1 hb1 hlt
      go_wp2_with fail
      refine (specActionValid_any k f t m _).mono ?_
      rintro e w2 ⟨rfl, hb2⟩
      rw [h2]
      have r0 := R0.out.below hb2 R0.out.lt
      have r1 := R1.out.below hb2 R1.out.lt
      have hB2 := hB1.trans (hb2.mono hB1.size)
      have hlt2 := r1.lt
      have R00 := Lib.hid r0
      have R11 := Lib.hid r1
      have hz2 := Lib.hid (hz1.out.below hb2)
      have q0 : w2.cell? ⟨w.heap.size, 0, none⟩ = some (.int .i64 k) := r0.cell 0
      have q1 : w2.cell? ⟨w.heap.size, 1, none⟩ = some (.int .i64 f) := r0.cell 1
      have q2 : w2.cell? ⟨w.heap.size, 2, none⟩ = some (.int .i64 t) := r0.cell 2
      have q3 : w2.cell? ⟨w.heap.size, 3, none⟩ = some (.int .i64 m) := r0.cell 3
      have KEEP := Lib.hid (show ∀ W', Below w2.heap.size w2 W' → W'.cell? ⟨w.heap.size, 0, none⟩ = some (.int .i64 k) ∧ W'.cell? ⟨w.heap.size, 1, none⟩ = some (.int .i64 f) ∧ W'.cell? ⟨w.heap.size, 2, none⟩ = some (.int .i64 t) ∧ W'.cell? ⟨w.heap.size, 3, none⟩ = some (.int .i64 m) from fun W' hb => ⟨(r0.below hb r0.lt).cell 0, (r0.below hb r0.lt).cell 1, (r0.below hb r0.lt).cell 2, (r0.below hb r0.lt).cell 3⟩)
      clear r0 r1 hb2
      go_wp2
      have hat1 : valAt es f = atV (toV es) f := by
        have hb := (actOk_elim HA.out).1
        unfold atV
        rw [toV_get HOK.out, show ((f.toNat : Nat) : Int) = f from by omega]
      have hat2 : valAt es t = atV (toV es) t := by
        have hb := (actOk_elim HA.out).2.1
        unfold atV
        rw [toV_get HOK.out, show ((t.toNat : Nat) : Int) = t from by omega]
      have HA1 := Lib.hid hat1
      have HA2 := Lib.hid hat2
      clear hat1 hat2
      go_region_held3 (fun w' => w'.cell? ⟨w.heap.size, 0, none⟩ = some (.int .i64 k) ∧ w'.cell? ⟨w.heap.size, 1, none⟩ = some (.int .i64 f) ∧ w'.cell? ⟨w.heap.size, 2, none⟩ = some (.int .i64 t) ∧ w'.cell? ⟨w.heap.size, 3, none⟩ = some (.int .i64 m))
        (first | go_keep | exact KEEP.out _ (below_undrew1 hb4))
        (first
          | (go_at_call 79; refine (l6Run_any k f t m (toV es) HV.out HA.out _).mono ?_; rintro e w4 ⟨A4, c4, B4, d4, rfl, hH, hb4⟩
             have hu4 := below_undrew1 hb4
             have r14 := R11.out.below hu4 R11.out.lt
             have z0 : w4.cell? ⟨w.heap.size + 1, 0, none⟩ = some (.bool false) := r14.cell 0
             have z1 : w4.cell? ⟨w.heap.size + 1, 1, none⟩ = some (.slice none 0 0) := r14.cell 1
             have z2 : w4.cell? ⟨w.heap.size + 1, 2, none⟩ = some (.slice none 0 0) := r14.cell 2
             have f0 := r14.frozen 0
             have f1 := r14.frozen 1
             have f2 := r14.frozen 2
             have HHH := Lib.hid hH
             clear hH)
          | (go_at_call 80; refine (l2At_any _ _ es _ _ (EntsAt.below hz2.out (Below.refl _ _).drew) hn).mono ?_; rintro e w' ⟨rfl, rfl⟩; first | rw [HA1.out] | rw [HA2.out]))
      have hB4 := hB2.trans (hu4.mono hB2.size)
      have HB4 := Lib.hid hB4
      have hbase : w.heap.size + 1 < w2.heap.size := hlt2
      clear hB4
      generalize runF (k, f, t, m) (toV es) = x at *
      go_wp2
      refine bodyPost_ret (v := .agg #[.bool x.1, .slice A4 x.2.1.length c4, .slice B4 x.2.2.length d4]) (by simp [results, Try.results40, go_sem, z0, z1, z2]) rfl ?_
      rw [HR.out]
      exact ⟨A4, c4, B4, d4, rfl, ((((show Held w4 w2.heap.size _ 2 from HHH.out).setCell (p := ⟨w.heap.size + 1, 0, none⟩) hbase _).setCell (p := ⟨w.heap.size + 1, 1, none⟩) hbase _).setCell (p := ⟨w.heap.size + 1, 2, none⟩) hbase _).weaken (by omega), ((HB4.out.setCell (p := ⟨w.heap.size + 1, 0, none⟩) (show w.heap.size ≤ w.heap.size + 1 by omega) _).setCell (p := ⟨w.heap.size + 1, 1, none⟩) (show w.heap.size ≤ w.heap.size + 1 by omega) _).setCell (p := ⟨w.heap.size + 1, 2, none⟩) (show w.heap.size ≤ w.heap.size + 1 by omega) _⟩

end Go.Proofs.Ytpomiglcplbdbaa
