/- What the laws draw: proofs, bent. -/
import Derived.Test.YtpomiglcplbdbaaDraw4
import Derived.Test.YtpomiglcplbdbaaLawTree
import Derived.Test.YtpomiglcplbdbaaTree2
import Derived.Test.YtpomiglcplbdbaaWords
import Derived.OwnWalk
namespace Go.Proofs.Ytpomiglcplbdbaa
open Go.RowKit

/-- A drawn store, a key, a value and a proof. -/
def ProofRes (R m : Nat) (w : World) (e : Ending) (w' : World) : Prop :=
  ∃ A c, ∃ es : List Ent, ∃ key value : Int, ∃ B d, ∃ zs : List Int, e = .returned (.tuple #[.slice A es.length c, .int .i64 key, .int .i64 value, .slice B zs.length d]) ∧ es.length ≤ 100 ∧ zs.length ≤ 5 ∧ 0 ≤ key ∧ key ≤ 31 ∧ -1 ≤ value ∧ value ≤ 1000001 ∧
    EntsAt w' A es ∧ IntsAt w' B zs ∧ (∀ a, B = some a → zs ≠ [] → w.heap.size ≤ a.block) ∧ RdAt w' R m ∧ Gr R w w'

theorem CellsAt.gr {R : Nat} {w w' : World} {A : Option Addr} {xs : List Value} (h : CellsAt w A xs) (hg : Gr R w w') (hA : xs = [] ∨ ∀ a, A = some a → a.block ≠ R) : CellsAt w' A xs := by
  rcases h with rfl | ⟨b, o, hA', hc⟩
  · exact .inl rfl
  · rcases hA with hA | hA
    · exact .inl hA
    · refine .inr ⟨b, o, hA', fun j u hu => ?_⟩
      have h1 := hc j u hu
      rw [World.cell?_of_block (World.grownBy.block hg b (World.block_lt_of_cell? w _ h1) (fun e => by injection e with e; exact hA _ hA' e))]
      exact h1

theorem own_ge {w : World} {base E c n : Nat} {A : Option Addr} {zs : List Int} (h : w.ownsRow base E 1 (.slice A n c) n (zs.map (Value.int .i64))) : ∀ a, A = some a → zs ≠ [] → base ≤ a.block := by
  intro a ha hz
  rcases h.2 with ⟨h1, h2⟩ | ⟨g, cap, cur, h1, h2, _⟩
  · injection h1 with h3 _ _
    rw [ha] at h3
    cases h3
  · injection h1 with h3 _ _
    rw [ha] at h3
    injection h3 with h3
    rw [h3]
    exact h2

theorem IntsAt.tail {w : World} {A : Option Addr} {z : Int} {zs : List Int} {b o : Nat} (hA : A = some ⟨b, o, none⟩) (h : IntsAt w A (z :: zs)) : IntsAt w (some ⟨b, o + 1, none⟩) zs := by
  rcases h with h1 | ⟨b', o', hA', hc⟩
  · simp at h1
  · rw [hA] at hA'
    injection hA' with hA'
    injection hA' with h2 h3
    subst h2 h3
    refine .inr ⟨b, o + 1, rfl, fun j u hu => ?_⟩
    have := hc (j + 1) u (by simpa using hu)
    rw [show o + 1 + j = o + (j + 1) from by omega]
    exact this

set_option maxRecDepth 100000 in
set_option maxHeartbeats 4000000 in
theorem l20Proof_any (R m : Nat) (w : World) (h : RdAt w R m) (hm : m ≤ 1000000) :
    Calls Try.prog 55 #[.pointer (some ⟨R, 0, none⟩)] w (ProofRes R (m + 200) w) := by
  have hR := h.lt
  go_enter Try.func55, Try.ntmps55
  go_wp2_with fail
  refine (l20Store_any 0 R m _ h (by omega) (by omega) (by omega)).mono ?_
  rintro e w1 ⟨A1, c1, es, rfl, hl, hok, ho, hr1, hg1⟩
  have HOK2 := Lib.hid (hok (by trivial))
  clear hok
  go_wp2_with fail
  refine (l20Key_any R _ _ hr1 (by omega)).mono ?_
  rintro e w2 ⟨key, rfl, hk0, hk1, hr2, hg2⟩
  have ho2 := own_gr ho hg2 hR
  have hG2 := hg1.trans hg2
  have hok := HOK2.out
  have hvb := valueAtF_bd hok ⟨hk0, hk1⟩
  have hpl := proofOf_len hok ⟨hk0, hk1⟩
  have HPL := Lib.hid hpl
  clear hpl hok h hr1 hg1 hg2 ho
  go_wp2_with fail
  refine (specValueAt_any _ _ es key _ (ents_of_own ho2) (by omega)).mono ?_
  rintro e w3 ⟨rfl, hd3⟩
  have hb3 := hd3.below w2.heap.size
  have hr3 := hr2.below hb3
  have ho3 := own_below ho2 hb3
  have hG3 := hG2.trans (Gr.of_below hb3)
  generalize valueAtF es key = value at *
  go_wp2_with fail
  refine (specProofOf_any _ _ es key _ (ents_of_own ho3) (by omega)).mono ?_
  rintro e w4 ⟨A4, c4, rfl, hp4, hb4⟩
  have hr4 := hr3.below hb4
  have ho4 := own_below ho3 hb4
  have hG4 := hG3.trans (Gr.of_below hb4)
  have hs3 := hG3.size
  generalize proofOf es key = zs at *
  have hzl : zs.length ≤ 5 := by have := HPL.out; omega
  have hp4 := own_weaken hp4 hs3
  clear hd3 hb3 hb4 hr2 hr3 ho2 ho3 hG2 hG3 hs3
  go_wp2_with fail
  refine (odd_any 2 R _ _ hr4 (by omega) (by omega) (by omega)).mono ?_
  rintro e w5 ⟨b, rfl, _, hr5, hg5⟩
  have ho5 := own_gr ho4 hg5 hR
  have hp5 := own_gr hp4 hg5 hR
  have hG5 := hG4.trans hg5
  clear ho4 hp4 hG4 hr4 hg5
  cases b
  · go_wp2
    (try simp only [Exit.inBlock, Exit.then])
    refine bodyPost_ret (v := .tuple #[.slice A1 es.length c1, .int .i64 key, .int .i64 value, .slice A4 zs.length c4]) (by simp [results, Try.results55, go_sem]) rfl ?_
    exact ⟨A1, c1, es, key, value, A4, c4, zs, rfl, hl, hzl, hk0, hk1, by omega, by omega, ents_of_own ho5, ints_of_own hp5, own_ge hp5, hr5.up (by omega), hG5⟩
  · go_wp2_with fail
    refine (pick_any 5 R _ _ hr5 (by omega) (by omega)).mono ?_
    rintro e w6 ⟨x, rfl, hx0, hx1, _, hr6, hg6⟩
    have hx1 := hx1 (by omega)
    have ho6 := own_gr ho5 hg6 hR
    have hp6 := own_gr hp5 hg6 hR
    have hG6 := hG5.trans hg6
    clear ho5 hp5 hG5 hr5 hg6
    rcases (show x = 0 ∨ x = 1 ∨ x = 2 ∨ x = 3 ∨ x = 4 by omega) with rfl | rfl | rfl | rfl | rfl
    · go_wp2_with fail
      refine (l20Value_any R _ _ hr6 (by omega)).mono ?_
      rintro e w7 ⟨v2, rfl, hv0, hv1, hr7, hg7⟩
      go_wp2
      (try simp only [Exit.inBlock, Exit.then])
      refine bodyPost_ret (v := .tuple #[.slice A1 es.length c1, .int .i64 key, .int .i64 v2, .slice A4 zs.length c4]) (by simp [results, Try.results55, go_sem]) rfl ?_
      exact ⟨A1, c1, es, key, v2, A4, c4, zs, rfl, hl, hzl, hk0, hk1, by omega, by omega, ents_of_own (own_gr ho6 hg7 hR), ints_of_own (own_gr hp6 hg7 hR), own_ge hp6, hr7.up (by omega), hG6.trans hg7⟩
    · go_wp2_with fail
      refine (l20Key_any R _ _ hr6 (by omega)).mono ?_
      rintro e w7 ⟨k2, rfl, hv0, hv1, hr7, hg7⟩
      go_wp2
      (try simp only [Exit.inBlock, Exit.then])
      refine bodyPost_ret (v := .tuple #[.slice A1 es.length c1, .int .i64 k2, .int .i64 value, .slice A4 zs.length c4]) (by simp [results, Try.results55, go_sem]) rfl ?_
      exact ⟨A1, c1, es, k2, value, A4, c4, zs, rfl, hl, hzl, hv0, hv1, by omega, by omega, ents_of_own (own_gr ho6 hg7 hR), ints_of_own (own_gr hp6 hg7 hR), own_ge hp6, hr7.up (by omega), hG6.trans hg7⟩
    · go_wp2_with fail
      refine (pick_any 5 R _ _ hr6 (by omega) (by omega)).mono ?_
      rintro e w7 ⟨i, rfl, hi0, hi1, _, hr7, hg7⟩
      have hi1 := hi1 (by omega)
      go_wp2_with fail
      refine (pick_any 256 R _ _ hr7 (by omega) (by omega)).mono ?_
      rintro e w8 ⟨y, rfl, hy0, hy1, _, hr8, hg8⟩
      have hy1 := hy1 (by omega)
      have hr9 := hr8.below ((Below.refl _ _).alloc (Nat.le_refl _) (.cells #[.int .i64 (-1), .int .i64 1000003, .int .i64 y] 3))
      have hrow := RowIs.alloc (w := w8) #[.int .i64 (-1), .int .i64 1000003, .int .i64 y] 3
      have hG8 := (hG6.trans hg7).trans hg8
      have ho8 := own_gr (own_gr ho6 hg7 hR) hg8 hR
      have hp8 := own_gr (own_gr hp6 hg7 hR) hg8 hR
      have hlt8 := hr8.lt
      have hltp := Lib.hid (own_lt hp8)
      clear hr6 hr7 hr8 hg7 hg8 hG6 ho6 hp6
      go_wp2_with fail
      refine (pick_any 3 R _ _ hr9 (by omega) (by omega)).mono ?_
      rintro e w10 ⟨z, rfl, hz0, hz1, _, hr10, hg10⟩
      have hz1 := hz1 (by omega)
      have hrow10 := hrow.gr hg10 (by omega)
      have hG10 := (hG8.alloc (.cells #[.int .i64 (-1), .int .i64 1000003, .int .i64 y] 3)).trans hg10
      have ho10 := own_gr (ho8.alloc (.cells #[.int .i64 (-1), .int .i64 1000003, .int .i64 y] 3)) hg10 hR
      have hp10 := own_gr (hp8.alloc (.cells #[.int .i64 (-1), .int .i64 1000003, .int .i64 y] 3)) hg10 hR
      have q1 : w10.cell? ⟨w8.heap.size, z.toNat, none⟩ = some (.int .i64 (nth [-1, 1000003, y] z)) := cells_nth (l := [-1, 1000003, y]) hrow10 hz0 (by simpa using hz1)
      generalize nth [-1, 1000003, y] z = q at *
      rcases own_elim hp10 with h0 | ⟨g, cur, hA, hrowp, hbase, hnc, hcm, hcl, htk⟩
      · have := HPL.out; omega
      subst hA
      obtain ⟨i0, rfl⟩ : ∃ i0 : Nat, i = (i0 : Int) := ⟨i.toNat, by omega⟩
      have hil : i0 < zs.length := by have := HPL.out; omega
      have hil2 : (i0 : Int) < (zs.length : Int) := by omega
      have hcell := row_int_at hrowp htk hil
      have hfz := hrowp.frozen i0
      have hnew := Lib.hid (own_set_int hrowp hbase hnc hcm hcl htk i0 q)
      have hgl := hltp.out g rfl
      have hgr : w10.grownBy (w10.setCell ⟨g, i0, none⟩ (.int .i64 q)) (Value.ownBlock (.slice (some ⟨g, 0, none⟩) zs.length c4)) := grown_setCell (World.grownBy.refl w10 _) i0 _
      have ho11 := own_kept_type ho10 hp10 (by decide) hgr
      have hr11 := hr10.belowB ((Below.refl (R + 1) w10).setCell (p := ⟨g, i0, none⟩) (show R + 1 ≤ g by omega) (.int .i64 q)) (by omega)
      have hG11 := hG10.upTo ((Below.refl w.heap.size w10).setCell (p := ⟨g, i0, none⟩) hbase (.int .i64 q)) (Nat.le_refl _)
      have HR11 := Lib.hid hr11
      have HG11 := Lib.hid hG11
      clear hrow hrow10 hrowp htk hgr hr11 hG11
      go_wp2
      (try simp only [Exit.inBlock, Exit.then])
      refine bodyPost_ret (v := .tuple #[.slice A1 es.length c1, .int .i64 key, .int .i64 value, .slice (some ⟨g, 0, none⟩) zs.length c4]) (by simp [results, Try.results55, go_sem]) rfl ?_
      exact ⟨A1, c1, es, key, value, some ⟨g, 0, none⟩, c4, zs.set i0 q, by rw [List.length_set], hl, by simpa using hzl, hk0, hk1, by omega, by omega, ents_of_own ho11, ints_of_own hnew.out, (fun a ha _ => by injection ha with ha; rw [← ha]; exact hbase), HR11.out.up (by omega), HG11.out⟩
    · rcases own_elim hp6 with h0 | ⟨g, cur, hA, hrowp, hbase, hnc, hcm, hcl, htk⟩
      · have := HPL.out; omega
      subst hA
      have h5 := HPL.out
      obtain ⟨z0, zt, rfl⟩ : ∃ z0 zt, zs = z0 :: zt := by
        cases zs with
        | nil => simp at h5
        | cons a b => exact ⟨a, b, rfl⟩
      have ht4 : zt.length = 4 := by simpa using h5
      have hI := Lib.hid (IntsAt.tail rfl (ints_of_own hp6))
      have hc1 : 1 ≤ c4 := by simp at hnc; omega
      have hc5 : (1 : Int) ≤ (((z0 :: zt).length : Nat) : Int) := by simp; omega
      have hc6 : (((z0 :: zt).length : Nat) : Int) ≤ (c4 : Int) := by omega
      clear hrowp htk hcl h5
      have hc9 : 5 ≤ c4 := by simp at hnc; omega
      go_wp2
      all_goals first
        | (exfalso; omega)
        | ((try simp only [Exit.inBlock, Exit.then])
           refine bodyPost_ret (v := .tuple #[.slice A1 es.length c1, .int .i64 key, .int .i64 value, .slice (some ⟨g, 1, none⟩) 4 (c4 - 1)]) (by simp [results, Try.results55, go_sem]) rfl ?_
           exact ⟨A1, c1, es, key, value, some ⟨g, 1, none⟩, c4 - 1, zt, by rw [ht4], hl, by omega, hk0, hk1, by omega, by omega, ents_of_own ho6, hI.out, (fun a ha _ => by injection ha with ha; rw [← ha]; exact hbase), hr6.up (by omega), hG6⟩)
    · go_wp2
      (try simp only [Exit.inBlock, Exit.then])
      refine bodyPost_ret (v := .tuple #[.slice A1 es.length c1, .int .i64 key, .int .i64 1000001, .slice A4 zs.length c4]) (by simp [results, Try.results55, go_sem]) rfl ?_
      exact ⟨A1, c1, es, key, 1000001, A4, c4, zs, rfl, hl, hzl, hk0, hk1, by omega, by omega, ents_of_own ho6, ints_of_own hp6, own_ge hp6, hr6.up (by omega), hG6⟩

/-- A drawn key, a value and a proof, as the law receives them. -/
def DrawProof (w : World) (e : Ending) (w' : World) : Prop :=
  ∃ key value : Int, ∃ B d, ∃ zs : List Int, e = .returned (.tuple #[.int .i64 key, .int .i64 value, .slice B zs.length d]) ∧ zs.length ≤ 5 ∧ 0 ≤ key ∧ key ≤ 31 ∧ -1 ≤ value ∧ value ≤ 1000001 ∧ IntsAt w' B zs ∧ Below w.heap.size w w'
def DrawProof4 (w : World) (e : Ending) (w' : World) : Prop :=
  ∃ root key value : Int, ∃ B d, ∃ zs : List Int, e = .returned (.tuple #[.int .i64 root, .int .i64 key, .int .i64 value, .slice B zs.length d]) ∧ zs.length ≤ 5 ∧ 0 ≤ key ∧ key ≤ 31 ∧ -1 ≤ value ∧ value ≤ 1000001 ∧ IntsAt w' B zs ∧ Below w.heap.size w w'

set_option maxRecDepth 100000 in
set_option maxHeartbeats 800000 in
theorem DrawProofRoot_any (A : Option Addr) (c : Nat) (bs : List Int) (w : World) (hb : BytesAt w A bs) (hn : bs.length ≤ c) (hc : c ≤ maxLen) :
    Calls Try.prog 15 #[.slice A bs.length c] w (DrawProof w) := by
  go_enter Try.func15, Try.ntmps15
  go_wp2_with fail
  refine (l20Open_any _ _ _ _ hb hn hc).mono ?_
  rintro e w1 ⟨R, rfl, hr, hR, hb1⟩
  go_wp2_with fail
  refine (l20Proof_any R 0 _ hr (by omega)).mono ?_
  rintro e w2 ⟨A2, c2, es, key, value, B2, d2, zs, rfl, _, hl, hk0, hk1, hv0, hv1, _, hz, _, _, hg⟩
  go_wp2
  go_ret3
  exact ⟨key, value, B2, d2, zs, rfl, hl, hk0, hk1, hv0, hv1, hz, Gr.below hb1 hg hR hb1.size⟩

theorem rd_drew {w : World} {R m : Nat} (h : RdAt w R m) : RdAt w.drew R m := h.below (Below.refl _ _).drew
theorem below_un {B : Nat} {w w' : World} (h : Below B w.drew w') : Below B w w' := ⟨h.os, h.tape, h.output, h.size, h.block⟩
set_option maxRecDepth 100000 in
set_option maxHeartbeats 4000000 in
theorem DrawProofRight_any (A : Option Addr) (c : Nat) (bs : List Int) (w : World) (hb : BytesAt w A bs) (hn : bs.length ≤ c) (hc : c ≤ maxLen) :
    Calls Try.prog 24 #[.slice A bs.length c] w (DrawProof4 w) := by
  go_enter Try.func24, Try.ntmps24
  go_wp2_with fail
  refine (l20Open_any _ _ _ _ hb hn hc).mono ?_
  rintro e w1 ⟨R, rfl, hr, hR, hb1⟩
  go_wp2_with fail
  have hltR := hr.lt
  refine (l20Proof_any R 0 _ hr (by omega)).mono ?_
  rintro e w2 ⟨A2, c2, es, key, value, B2, d2, zs, rfl, hel, hl, hk0, hk1, hv0, hv1, hes, hz, hpb, hr2, hg⟩
  have hB2 := Lib.hid (Gr.below hb1 hg hR hb1.size)
  have HES := Lib.hid hes
  have HZ := Lib.hid hz
  have HR2 := Lib.hid hr2
  have hlt2 := hr2.lt
  clear hr hb hb1 hg hes hz hr2
  go_wp2_with fail
  refine (specRootOf_any _ _ es _ HES.out (by omega)).mono ?_
  rintro e w3 ⟨rfl, hb3⟩
  have hs2 := hb3.size
  have hr3 := (HR2.out.below hb3).below ((Below.refl w3.heap.size w3).alloc (Nat.le_refl _) (.cells #[.int .i64 (rootOf es), .int .i64 (-1)] 3))
  have hrow := RowIs.alloc (w := w3) #[.int .i64 (rootOf es), .int .i64 (-1)] 3
  have hB3 := hB2.out.trans (hb3.mono hB2.out.size)
  have hB4 := hB3.alloc hB3.size (.cells #[.int .i64 (rootOf es), .int .i64 (-1)] 3)
  have hz4 := Lib.hid ((HZ.out.below hb3).below ((Below.refl w3.heap.size w3).alloc (Nat.le_refl _) (.cells #[.int .i64 (rootOf es), .int .i64 (-1)] 3)))
  have hlt3 : R < w3.heap.size := by omega
  clear hb3 hB3
  generalize rootOf es = root at *
  go_wp2_with fail
  refine (pick_any 9 R _ _ hr3 (by omega) (by omega)).mono ?_
  rintro e w4 ⟨z, rfl, hz0, hz1, _, hr4, hg4⟩
  have hz1 := hz1 (by omega)
  have hrow4 := hrow.gr hg4 (by omega)
  have q0 : w4.cell? ⟨w3.heap.size, 0, none⟩ = some (.int .i64 root) := hrow4.cell 0
  have q1 : w4.cell? ⟨w3.heap.size, 1, none⟩ = some (.int .i64 (-1)) := hrow4.cell 1
  have HB := Lib.hid (Gr.below hB4 hg4 hR hB4.size)
  have HZ5 : IntsAt w4 B2 zs := CellsAt.gr hz4.out hg4 (by
    by_cases hzn : zs = []
    · left; simp [hzn]
    · right; intro a ha; have := hpb a ha hzn; omega)
  clear hrow hrow4 hB4 hg4
  rcases (show z / 8 = 0 ∨ z / 8 = 1 by omega) with e | e
  · have e2 : z < 8 := by omega
    go_wp2
    (try simp only [Exit.inBlock, Exit.then])
    refine bodyPost_ret (v := .tuple #[.int .i64 root, .int .i64 key, .int .i64 value, .slice B2 zs.length d2]) (by simp [results, Try.results24, go_sem]) rfl ?_
    exact ⟨root, key, value, B2, d2, zs, rfl, hl, hk0, hk1, hv0, hv1, HZ5, HB.out⟩
  · have e2 : 8 ≤ z := by omega
    go_wp2
    (try simp only [Exit.inBlock, Exit.then])
    refine bodyPost_ret (v := .tuple #[.int .i64 (-1), .int .i64 key, .int .i64 value, .slice B2 zs.length d2]) (by simp [results, Try.results24, go_sem]) rfl ?_
    exact ⟨-1, key, value, B2, d2, zs, rfl, hl, hk0, hk1, hv0, hv1, HZ5, HB.out⟩

end Go.Proofs.Ytpomiglcplbdbaa
