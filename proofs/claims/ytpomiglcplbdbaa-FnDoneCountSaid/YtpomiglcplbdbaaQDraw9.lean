/- What the laws draw: effects (for laws that only read them). -/
import Derived.Test.YtpomiglcplbdbaaQDraw2
import Derived.Test.YtpomiglcplbdbaaQDraw
import Derived.Test.YtpomiglcplbdbaaQDraw4
import Derived.Test.YtpomiglcplbdbaaQEff3
import Derived.Test.YtpomiglcplbdbaaQSpRun2
namespace Go.Proofs.Ytpomiglcplbdbaa
open Go.RowKit

theorem own_len {w : World} {base E sz n m c : Nat} {A : Option Addr} {xs : List Value} (h : w.ownsRow base E sz (.slice A n c) n xs) (e : n = m) : w.ownsRow base E sz (.slice A m c) m xs := e ▸ h
theorem ent_ne_eff : (49 : Nat) ≠ 53 := by decide
theorem own_rne {w : World} {base E E' sz n g : Nat} {v : Value} {xs vs : List Value} (h : w.ownsRow base E sz v n xs) (hr : RowIs w g E' vs) (hne : E ≠ E') : v.ownBlock ≠ some g := by
  intro hk
  rcases h.2 with ⟨rfl, _⟩ | ⟨g1, cap, cur, rfl, _, hh, _⟩
  · simp [Value.ownBlock] at hk
  · simp [Value.ownBlock] at hk
    subst hk
    unfold RowIs at hr
    rw [hh] at hr
    injection hr with hr
    injection hr with _ e2 _
    exact hne e2
theorem own_rset {w : World} {base E E' sz n g : Nat} {v : Value} {xs vs : List Value} (h : w.ownsRow base E sz v n xs) (hr : RowIs w g E' vs) (hne : E ≠ E') (j : Nat) (u : Value) : (w.setCell ⟨g, j, none⟩ u).ownsRow base E sz v n xs := by
  refine h.kept (row := some g) ⟨rfl, rfl, rfl, by simp [World.setCell], fun k _ hk => Below.heap_setCell w ⟨g, j, none⟩ u k (fun e => hk (by rw [e]))⟩ ?_
  exact .inr (own_rne h hr hne)
theorem row_set' {w : World} {g E : Nat} {vs : List Value} (h : RowIs w g E vs) (j : Nat) (u : Value) : RowIs (w.setCell ⟨g, j, none⟩ u) g E (vs.set j u) := h.set j u
theorem own_rset3 {w : World} {base E E' sz n g : Nat} {v : Value} {xs vs : List Value} (h : w.ownsRow base E sz v n xs) (hr : RowIs w g E' vs) (hne : E ≠ E') (a b c : Value) : (((w.setCell ⟨g, 0, none⟩ a).setCell ⟨g, 1, none⟩ b).setCell ⟨g, 2, none⟩ c).ownsRow base E sz v n xs :=
  own_rset (own_rset (own_rset h hr hne 0 a) (hr.set 0 a) hne 1 b) ((hr.set 0 a).set 1 b) hne 2 c
theorem row_set_any {w : World} {g E : Nat} {vs : List Value} (h : RowIs w g E vs) (g' j : Nat) (u : Value) : ∃ ws, RowIs (w.setCell ⟨g', j, none⟩ u) g E ws := by
  by_cases e : g = g'
  · subst e; exact ⟨_, h.set j u⟩
  · exact ⟨vs, (show (w.setCell ⟨g', j, none⟩ u).heap[g]? = _ by rw [Below.heap_setCell w ⟨g', j, none⟩ u g e]; exact h)⟩
theorem own_rset4 {w : World} {base E E' sz n g g' : Nat} {v : Value} {xs vs us : List Value} (h : w.ownsRow base E sz v n xs) (hr' : RowIs w g' E' us) (hr : RowIs w g E' vs) (hne : E ≠ E') (j : Nat) (u a b c : Value) : ((((w.setCell ⟨g', j, none⟩ u).setCell ⟨g, 0, none⟩ a).setCell ⟨g, 1, none⟩ b).setCell ⟨g, 2, none⟩ c).ownsRow base E sz v n xs := by
  obtain ⟨ws, hws⟩ := row_set_any hr g' j u
  exact own_rset3 (own_rset h hr' hne j u) hws hne a b c
theorem rd_set3 {w : World} {R m g : Nat} (h : RdAt w R m) (hg : R < g) (a b c : Value) : RdAt (((w.setCell ⟨g, 0, none⟩ a).setCell ⟨g, 1, none⟩ b).setCell ⟨g, 2, none⟩ c) R m := RdAt.setCell (RdAt.setCell (RdAt.setCell h (p := ⟨g, 0, none⟩) hg a) (p := ⟨g, 1, none⟩) hg b) (p := ⟨g, 2, none⟩) hg c
theorem rd_set4 {w : World} {R m g g' : Nat} (h : RdAt w R m) (hg : R < g') (hg' : R < g) (j : Nat) (u a b c : Value) : RdAt ((((w.setCell ⟨g, j, none⟩ u).setCell ⟨g', 0, none⟩ a).setCell ⟨g', 1, none⟩ b).setCell ⟨g', 2, none⟩ c) R m := rd_set3 (RdAt.setCell h (p := ⟨g, j, none⟩) hg' u) hg a b c
theorem gr_set3 {R : Nat} {w0 w : World} (h : Gr R w0 w) (a b c : Value) : Gr R w0 (((w.setCell ⟨w0.heap.size, 0, none⟩ a).setCell ⟨w0.heap.size, 1, none⟩ b).setCell ⟨w0.heap.size, 2, none⟩ c) :=
  Gr.setCell (Gr.setCell (Gr.setCell h (p := ⟨w0.heap.size, 0, none⟩) (Nat.le_refl _) a) (p := ⟨w0.heap.size, 1, none⟩) (Nat.le_refl _) b) (p := ⟨w0.heap.size, 2, none⟩) (Nat.le_refl _) c
theorem gr_set4 {R g : Nat} {w0 w : World} (h : Gr R w0 w) (hg : w0.heap.size ≤ g) (j : Nat) (u a b c : Value) : Gr R w0 ((((w.setCell ⟨g, j, none⟩ u).setCell ⟨w0.heap.size, 0, none⟩ a).setCell ⟨w0.heap.size, 1, none⟩ b).setCell ⟨w0.heap.size, 2, none⟩ c) :=
  gr_set3 (Gr.setCell h (p := ⟨g, j, none⟩) hg u) a b c

theorem push_pack {R S m E E' n n' g4 g5 : Nat} {w w6 W w8 : World} {v v' : Value} {xs xs' vs4 vs5 : List Value} (hg8 : W.grownBy w8 v.ownBlock) (hb8 : Below S W w8) (hW : Gr R w6 W) (hrW : RdAt W R m)
    (hG6 : Gr R w w6) (hS : w.heap.size ≤ S) (hRS : R < S) (o : w6.ownsRow S E 2 v n xs) (o' : w6.ownsRow S E 2 v' n' xs') (hne : v'.ownBlock = none ∨ v'.ownBlock ≠ v.ownBlock) (r4 : RowIs w6 g4 E' vs4) (r5 : RowIs w6 g5 E' vs5) (h4 : g4 ≠ R) (h5 : g5 ≠ R) (hE : E ≠ E') :
    w8.ownsRow S E 2 v' n' xs' ∧ RowIs w8 g4 E' vs4 ∧ RowIs w8 g5 E' vs5 ∧ RdAt w8 R m ∧ Gr R w w8 :=
  ⟨(own_gr o' hW hRS).kept hg8 hne, (r4.gr hW h4).kept hg8 (own_rne (own_gr o hW hRS) (r4.gr hW h4) hE), (r5.gr hW h5).kept hg8 (own_rne (own_gr o hW hRS) (r5.gr hW h5) hE), hrW.belowB hb8 hRS, (hG6.trans hW).upTo hb8 hS⟩
/-- A drawn effect: its two slices are own, each by itself. -/
def DrawnEff (R m : Nat) (w : World) (e : Ending) (w' : World) : Prop :=
  ∃ A c B d, ∃ x : EffT, e = .returned (.agg #[.bool x.1, .slice A x.2.1.length c, .slice B x.2.2.length d]) ∧ x.2.1.length ≤ 3 ∧ x.2.2.length ≤ 3 ∧
    w'.ownsRow w.heap.size 49 2 (.slice A x.2.1.length c) x.2.1.length (entCells x.2.1) ∧ w'.ownsRow w.heap.size 49 2 (.slice B x.2.2.length d) x.2.2.length (entCells x.2.2) ∧ RdAt w' R m ∧ Gr R w w'

set_option maxRecDepth 100000 in
set_option maxHeartbeats 8000000 in
theorem l20Effect_any (n : Int) (R m : Nat) (w : World) (h : RdAt w R m) (hm : m ≤ 100000) (hn0 : 0 ≤ n) (hn : n ≤ 1000) :
    Calls Try.prog 85 #[.pointer (some ⟨R, 0, none⟩), .int .i64 n] w (DrawnEff R (m + 300) w) := by
  have hR := h.lt
  have hrow0 := RowIs.alloc (w := w) #[.bool false, .slice none 0 0, .slice none 0 0] 53
  have hr0 := h.alloc (.cells #[.bool false, .slice none 0 0, .slice none 0 0] 53)
  have hG0 := (Gr.refl R w).alloc (.cells #[.bool false, .slice none 0 0, .slice none 0 0] 53)
  have hs0 : (w.alloc (.cells #[.bool false, .slice none 0 0, .slice none 0 0] 53)).heap.size = w.heap.size + 1 := by simp
  clear h
  go_enter Try.func85, Try.ntmps85
  go_wp2_with fail
  refine (l20Store_any 0 R m _ hr0 (by omega) (by omega) (by omega)).mono ?_
  rintro e w1 ⟨A1, c1, es, rfl, hl, _, ho, hr1, hg1⟩
  have hrow1 := hrow0.gr hg1 (by omega)
  have hG1 := hG0.trans hg1
  have hsz1 := hg1.size
  rw [hs0] at ho hsz1
  clear hrow0 hr0 hG0 hg1
  go_wp2_with fail
  refine (l20Action_any 0 R _ _ hr1 (by omega) (by omega) (by omega)).mono ?_
  rintro e w2 ⟨a, rfl, hr2, hg2⟩
  have hrow2 := hrow1.gr hg2 (by omega)
  have hG2 := hG1.trans hg2
  have ho2 := own_gr ho hg2 (by omega)
  have hsz2 := hg2.size
  clear hrow1 hr1 hG1 hg2 ho
  go_wp2_with fail
  refine (specRunAction_any _ _ es a.1 a.2.1 a.2.2.1 a.2.2.2 _ (ents_of_own ho2) (by omega)).mono ?_
  rintro e w3 ⟨A, c, B, d, rfl, hH, hb3⟩
  have hl12 := runOf_length es (a.1, a.2.1, a.2.2.1, a.2.2.2)
  generalize runOf es (a.1, a.2.1, a.2.2.1, a.2.2.2) = x at *
  have hl1 := hl12.1
  have hl2 := hl12.2
  have hne12 : ∀ k, (Value.slice A x.2.1.length c).ownBlock = some k → (Value.slice B x.2.2.length d).ownBlock ≠ some k := fun k hk => hH.2 0 1 (by omega) (by omega) (by omega) k hk
  have o1 := held_fst hH
  have o2 := held_snd hH
  have hrow3 := hrow2.below hb3 hrow2.lt
  have hr3 := hr2.below hb3
  have hG3 := hG2.trans (Gr.of_below hb3)
  have hsz3 := hb3.size
  have hRS : R < w2.heap.size := by omega
  have hS : w.heap.size ≤ w2.heap.size := by omega
  have r4 := hrow3.alloc_other (.cells #[.bool x.1, .slice A x.2.1.length c, .slice B x.2.2.length d] 53)
  have r5 := RowIs.alloc (w := w3) #[.bool x.1, .slice A x.2.1.length c, .slice B x.2.2.length d] 53
  have o1 := o1.alloc (.cells #[.bool x.1, .slice A x.2.1.length c, .slice B x.2.2.length d] 53)
  have o2 := o2.alloc (.cells #[.bool x.1, .slice A x.2.1.length c, .slice B x.2.2.length d] 53)
  have hr4 := hr3.alloc (.cells #[.bool x.1, .slice A x.2.1.length c, .slice B x.2.2.length d] 53)
  have hG4 := hG3.alloc (.cells #[.bool x.1, .slice A x.2.1.length c, .slice B x.2.2.length d] 53)
  clear hl12 hH hrow2 hrow3 hr2 hr3 hG2 hG3 hb3 ho2
  go_wp2_with fail
  refine (odd_any n R _ _ hr4 (by omega) (by omega) hn0).mono ?_
  rintro e w5 ⟨b, rfl, _, hr5, hg5⟩
  have r4 := r4.gr hg5 (by omega)
  have r5 := r5.gr hg5 (by omega)
  have o1 := own_gr o1 hg5 hRS
  have o2 := own_gr o2 hg5 hRS
  have hG5 := hG4.trans hg5
  clear hr4 hG4 hg5
  cases b
  case false =>
    have q0 : w5.cell? ⟨w3.heap.size, 0, none⟩ = some (.bool x.1) := r5.cell 0
    have q1 : w5.cell? ⟨w3.heap.size, 1, none⟩ = some (.slice A x.2.1.length c) := r5.cell 1
    have q2 : w5.cell? ⟨w3.heap.size, 2, none⟩ = some (.slice B x.2.2.length d) := r5.cell 2
    have p0 : w5.cell? ⟨w.heap.size, 0, none⟩ = some (.bool false) := r4.cell 0
    have p1 : w5.cell? ⟨w.heap.size, 1, none⟩ = some (.slice none 0 0) := r4.cell 1
    have p2 : w5.cell? ⟨w.heap.size, 2, none⟩ = some (.slice none 0 0) := r4.cell 2
    have f0 := r4.frozen 0
    have f1 := r4.frozen 1
    have f2 := r4.frozen 2
    have e0 := r5.frozen 0
    have e1 := r5.frozen 1
    have e2 := r5.frozen 2
    have O1 := Lib.hid (own_rset3 o1 r4 ent_ne_eff)
    have O2 := Lib.hid (own_rset3 o2 r4 ent_ne_eff)
    have RD := Lib.hid (rd_set3 hr5 hR)
    have GR := Lib.hid (gr_set3 hG5)
    clear o1 o2 hr5 hG5 r4 r5
    go_wp2
    refine bodyPost_ret (v := .agg #[.bool x.1, .slice A x.2.1.length c, .slice B x.2.2.length d]) (by simp [results, Try.results85, go_sem, p0, p1, p2]) rfl ?_
    exact ⟨A, c, B, d, x, rfl, by omega, by omega, ownsRow_weaken (O1.out _ _ _) hS, ownsRow_weaken (O2.out _ _ _) hS, (RD.out _ _ _).up (by omega), GR.out _ _ _⟩
  case true =>
    go_wp2_with fail
    refine (pick_any 3 R _ _ hr5 (by omega) (by omega)).mono ?_
    rintro e w6 ⟨z, rfl, hz0, hz1, _, hr6, hg6⟩
    have hz1 := hz1 (by omega)
    have r4 := r4.gr hg6 (by omega)
    have r5 := r5.gr hg6 (by omega)
    have o1 := own_gr o1 hg6 hRS
    have o2 := own_gr o2 hg6 hRS
    have hG6 := hG5.trans hg6
    clear hr5 hG5 hg6
    rcases (show z = 0 ∨ z = 1 ∨ z = 2 by omega) with rfl | rfl | rfl
    ·
      have q0 : w6.cell? ⟨w3.heap.size, 0, none⟩ = some (.bool x.1) := r5.cell 0
      have q1 : w6.cell? ⟨w3.heap.size, 1, none⟩ = some (.slice A x.2.1.length c) := r5.cell 1
      have q2 : w6.cell? ⟨w3.heap.size, 2, none⟩ = some (.slice B x.2.2.length d) := r5.cell 2
      have p0 : w6.cell? ⟨w.heap.size, 0, none⟩ = some (.bool false) := r4.cell 0
      have p1 : w6.cell? ⟨w.heap.size, 1, none⟩ = some (.slice none 0 0) := r4.cell 1
      have p2 : w6.cell? ⟨w.heap.size, 2, none⟩ = some (.slice none 0 0) := r4.cell 2
      have f0 := r4.frozen 0
      have f1 := r4.frozen 1
      have f2 := r4.frozen 2
      have e0 := r5.frozen 0
      have e1 := r5.frozen 1
      have e2 := r5.frozen 2
      have O1 := Lib.hid (own_rset4 o1 r5 r4 ent_ne_eff)
      have O2 := Lib.hid (own_rset4 o2 r5 r4 ent_ne_eff)
      have RD := Lib.hid (rd_set4 hr6 (g := w3.heap.size) hR (show R < w3.heap.size by omega))
      have GR := Lib.hid (gr_set4 hG6 (g := w3.heap.size) (show w.heap.size ≤ w3.heap.size by omega))
      clear o1 o2 hr6 hG6 r4 r5
      go_wp2
      refine bodyPost_ret (v := .agg #[.bool (!x.1), .slice A x.2.1.length c, .slice B x.2.2.length d]) (by simp [results, Try.results85, go_sem, p0, p1, p2]) rfl ?_
      exact ⟨A, c, B, d, (!x.1, x.2.1, x.2.2), rfl, by simp; omega, by simp; omega, ownsRow_weaken (O1.out _ _ _ _ _) hS, ownsRow_weaken (O2.out _ _ _ _ _) hS, (RD.out _ _ _ _ _).up (by omega), GR.out _ _ _ _ _⟩
    ·
      have u0 : w6.cell? ⟨w3.heap.size, 2, none⟩ = some (.slice B x.2.2.length d) := r5.cell 2
      have hlt6 := hr6.lt
      have hlt5 := r5.lt
      have hlt5b : w3.heap.size < w6.heap.size + 1 := by omega
      have hR3 : R < w3.heap.size := by omega
      have hs6 := hG6.size
      have hnn : (Value.slice A x.2.1.length c).ownBlock = none ∨ (Value.slice A x.2.1.length c).ownBlock ≠ (Value.slice B x.2.2.length d).ownBlock := by
        cases hv : (Value.slice A x.2.1.length c).ownBlock with
        | none => exact .inl rfl
        | some k => exact .inr (fun he => hne12 k hv he.symm)
      have OI := Lib.hid o2
      have OJ := Lib.hid o1
      have R4 := Lib.hid r4
      have R5 := Lib.hid r5
      have NN := Lib.hid hnn
      have G6 := Lib.hid hG6
      clear o1 o2 r4 r5 hnn hG6
      go_wp2
      go_region_law (first
        | (go_simp
           go_at_call 73
           refine (pick_any 3 R _ _ (by repeat (first | exact hr7 | exact hr6 | apply RdAt.drew | apply RdAt.alloc)) (by omega) (by omega)).mono ?_
           rintro e w7 ⟨y0, rfl, hy0, hy1, _, hr7, hg7⟩
           have hy1 := hy1 (by omega)
           have hc7 := gr_cell hg7
           have hz7 : w6.heap.size ≤ w7.heap.size := (by have h := hg7.size; (try simp at h); omega)
           have hz9 : w3.heap.size < w7.heap.size := by omega
           have hz10 : w3.heap.size < w7.heap.size + 1 := by omega
           try (have u7 : w7.cell? ⟨w3.heap.size, 2, none⟩ = some (.slice B x.2.2.length d) := (R5.out.gr (by repeat (first | exact Gr.refl _ _ | exact hg7 | refine Gr.alloc ?_ _ | refine Gr.drew ?_ | refine Gr.trans ?_ hg7)) (by omega)).cell 2)
           try (have f7 := (R5.out.gr (by repeat (first | exact Gr.refl _ _ | exact hg7 | refine Gr.alloc ?_ _ | refine Gr.drew ?_ | refine Gr.trans ?_ hg7)) (show w3.heap.size ≠ R by omega)).frozen 2)
           try (have hz8 : w6.heap.size < w7.heap.size := (by have h := hg7.size; (try simp at h); omega))
           have ht : ∀ h : y0.toNat < [Value.int .i64 (-1), Value.int .i64 32, Value.int .i64 2].length, [Value.int .i64 (-1), Value.int .i64 32, Value.int .i64 2][y0.toNat]'h = .int .i64 (nth [-1, 32, 2] y0) := fun h => list_nth [-1, 32, 2] hy0 hy1 h)
        | (refine step_push_ent0 entRow (by rfl) _ _ (by rfl) w2.heap.size _ _ _ (by rfl) (own_gr OI.out (by repeat (first | exact Gr.refl _ _ | exact hg7 | refine Gr.alloc ?_ _ | refine Gr.drew ?_ | refine Gr.trans ?_ hg7)) hRS) _ _ _ (by first | rfl | simp [Act.eval]) (by omega) (by first | omega | (simp; omega)) ?_
           intro v8 w8 ho8 hb8 hg8 hs8
           obtain ⟨A8, c8, rfl⟩ := own_form ho8
           have HP := Lib.hid (push_pack hg8 hb8 (by repeat (first | exact Gr.refl _ _ | exact hg7 | refine Gr.alloc ?_ _ | refine Gr.drew ?_ | refine Gr.trans ?_ hg7)) (by repeat (first | exact hr7 | exact hr6 | apply RdAt.drew | apply RdAt.alloc)) G6.out hS hRS OI.out OJ.out NN.out R4.out R5.out (by omega) (by omega) ent_ne_eff)
           have hec := HP.out.2.2.1.cell 2
           have hef := HP.out.2.2.1.frozen 2))
      all_goals
        clear hc7 ht
        generalize nth [-1, 32, 2] y0 = y at *
        rw [show entCells x.2.2 ++ [.int .i64 y, .int .i64 3] = entCells (x.2.2 ++ [(y, 3)]) by rw [entCells_append]; rfl] at ho8
        have HLEN := Lib.hid (show x.2.2.length + 1 = (x.2.2 ++ [(y, 3)]).length by simp)
        obtain ⟨oo, r4b, r5b, hr8, hG8⟩ := HP.out
        clear hb8 hg8 hec hef HP OI OJ R4 R5 NN G6
        have q0 : w8.cell? ⟨w3.heap.size, 0, none⟩ = some (.bool x.1) := r5b.cell 0
        have q1 : w8.cell? ⟨w3.heap.size, 1, none⟩ = some (.slice A x.2.1.length c) := r5b.cell 1
        have q2 : w8.cell? ⟨w3.heap.size, 2, none⟩ = some (.slice B x.2.2.length d) := r5b.cell 2
        have p0 : w8.cell? ⟨w.heap.size, 0, none⟩ = some (.bool false) := r4b.cell 0
        have p1 : w8.cell? ⟨w.heap.size, 1, none⟩ = some (.slice none 0 0) := r4b.cell 1
        have p2 : w8.cell? ⟨w.heap.size, 2, none⟩ = some (.slice none 0 0) := r4b.cell 2
        have f0 := r4b.frozen 0
        have f1 := r4b.frozen 1
        have f2 := r4b.frozen 2
        have e0 := r5b.frozen 0
        have e1 := r5b.frozen 1
        have e2 := r5b.frozen 2
        have O1 := Lib.hid (own_rset4 oo r5b r4b ent_ne_eff)
        have O2 := Lib.hid (own_rset4 ho8 r5b r4b ent_ne_eff)
        have RD := Lib.hid (rd_set4 hr8 (g := w3.heap.size) hR (show R < w3.heap.size by omega))
        have GR := Lib.hid (gr_set4 hG8 (g := w3.heap.size) (show w.heap.size ≤ w3.heap.size by omega))
        clear oo ho8 hr8 hG8 r4b r5b
        go_wp2
        refine bodyPost_ret (v := .agg #[.bool x.1, .slice A x.2.1.length c, .slice A8 (x.2.2.length + 1) c8]) (by simp [results, Try.results85, go_sem, p0, p1, p2]) rfl ?_
        exact ⟨A, c, A8, c8, (x.1, x.2.1, x.2.2 ++ [(y, 3)]), by simp, by simp; omega, by simp; omega, ownsRow_weaken (O1.out _ _ _ _ _) hS, own_len (ownsRow_weaken (O2.out _ _ _ _ _) hS) HLEN.out, (RD.out _ _ _ _ _).up (by omega), GR.out _ _ _ _ _⟩
    ·
      have u0 : w6.cell? ⟨w3.heap.size, 1, none⟩ = some (.slice A x.2.1.length c) := r5.cell 1
      have hlt6 := hr6.lt
      have hlt5 := r5.lt
      have hlt5b : w3.heap.size < w6.heap.size + 1 := by omega
      have hR3 : R < w3.heap.size := by omega
      have hs6 := hG6.size
      have hnn : (Value.slice B x.2.2.length d).ownBlock = none ∨ (Value.slice B x.2.2.length d).ownBlock ≠ (Value.slice A x.2.1.length c).ownBlock := by
        cases hv : (Value.slice B x.2.2.length d).ownBlock with
        | none => exact .inl rfl
        | some k => exact .inr (fun he => hne12 k he.symm hv)
      have OI := Lib.hid o1
      have OJ := Lib.hid o2
      have R4 := Lib.hid r4
      have R5 := Lib.hid r5
      have NN := Lib.hid hnn
      have G6 := Lib.hid hG6
      clear o1 o2 r4 r5 hnn hG6
      go_wp2
      go_region_law (first
        | (go_simp
           go_at_call 73
           refine (pick_any 2 R _ _ (by repeat (first | exact hr7 | exact hr6 | apply RdAt.drew | apply RdAt.alloc)) (by omega) (by omega)).mono ?_
           rintro e w7 ⟨y0, rfl, hy0, hy1, _, hr7, hg7⟩
           have hy1 := hy1 (by omega)
           have hc7 := gr_cell hg7
           have hz7 : w6.heap.size ≤ w7.heap.size := (by have h := hg7.size; (try simp at h); omega)
           have hz9 : w3.heap.size < w7.heap.size := by omega
           have hz10 : w3.heap.size < w7.heap.size + 1 := by omega
           try (have u7 : w7.cell? ⟨w3.heap.size, 1, none⟩ = some (.slice A x.2.1.length c) := (R5.out.gr (by repeat (first | exact Gr.refl _ _ | exact hg7 | refine Gr.alloc ?_ _ | refine Gr.drew ?_ | refine Gr.trans ?_ hg7)) (by omega)).cell 1)
           try (have f7 := (R5.out.gr (by repeat (first | exact Gr.refl _ _ | exact hg7 | refine Gr.alloc ?_ _ | refine Gr.drew ?_ | refine Gr.trans ?_ hg7)) (show w3.heap.size ≠ R by omega)).frozen 1)
           try (have hz8 : w6.heap.size < w7.heap.size := (by have h := hg7.size; (try simp at h); omega))
           have ht : ∀ h : y0.toNat < [Value.int .i64 (-1), Value.int .i64 2000001].length, [Value.int .i64 (-1), Value.int .i64 2000001][y0.toNat]'h = .int .i64 (nth [-1, 2000001] y0) := fun h => list_nth [-1, 2000001] hy0 hy1 h)
        | (refine step_push_ent0 entRow (by rfl) _ _ (by rfl) w2.heap.size _ _ _ (by rfl) (own_gr OI.out (by repeat (first | exact Gr.refl _ _ | exact hg7 | refine Gr.alloc ?_ _ | refine Gr.drew ?_ | refine Gr.trans ?_ hg7)) hRS) _ _ _ (by first | rfl | simp [Act.eval]) (by omega) (by first | omega | (simp; omega)) ?_
           intro v8 w8 ho8 hb8 hg8 hs8
           obtain ⟨A8, c8, rfl⟩ := own_form ho8
           have HP := Lib.hid (push_pack hg8 hb8 (by repeat (first | exact Gr.refl _ _ | exact hg7 | refine Gr.alloc ?_ _ | refine Gr.drew ?_ | refine Gr.trans ?_ hg7)) (by repeat (first | exact hr7 | exact hr6 | apply RdAt.drew | apply RdAt.alloc)) G6.out hS hRS OI.out OJ.out NN.out R4.out R5.out (by omega) (by omega) ent_ne_eff)
           have hec := HP.out.2.2.1.cell 1
           have hef := HP.out.2.2.1.frozen 1))
      all_goals
        clear hc7 ht
        generalize nth [-1, 2000001] y0 = y at *
        rw [show entCells x.2.1 ++ [.int .i64 1, .int .i64 y] = entCells (x.2.1 ++ [(1, y)]) by rw [entCells_append]; rfl] at ho8
        have HLEN := Lib.hid (show x.2.1.length + 1 = (x.2.1 ++ [(1, y)]).length by simp)
        obtain ⟨oo, r4b, r5b, hr8, hG8⟩ := HP.out
        clear hb8 hg8 hec hef HP OI OJ R4 R5 NN G6
        have q0 : w8.cell? ⟨w3.heap.size, 0, none⟩ = some (.bool x.1) := r5b.cell 0
        have q1 : w8.cell? ⟨w3.heap.size, 1, none⟩ = some (.slice A x.2.1.length c) := r5b.cell 1
        have q2 : w8.cell? ⟨w3.heap.size, 2, none⟩ = some (.slice B x.2.2.length d) := r5b.cell 2
        have p0 : w8.cell? ⟨w.heap.size, 0, none⟩ = some (.bool false) := r4b.cell 0
        have p1 : w8.cell? ⟨w.heap.size, 1, none⟩ = some (.slice none 0 0) := r4b.cell 1
        have p2 : w8.cell? ⟨w.heap.size, 2, none⟩ = some (.slice none 0 0) := r4b.cell 2
        have f0 := r4b.frozen 0
        have f1 := r4b.frozen 1
        have f2 := r4b.frozen 2
        have e0 := r5b.frozen 0
        have e1 := r5b.frozen 1
        have e2 := r5b.frozen 2
        have O1 := Lib.hid (own_rset4 ho8 r5b r4b ent_ne_eff)
        have O2 := Lib.hid (own_rset4 oo r5b r4b ent_ne_eff)
        have RD := Lib.hid (rd_set4 hr8 (g := w3.heap.size) hR (show R < w3.heap.size by omega))
        have GR := Lib.hid (gr_set4 hG8 (g := w3.heap.size) (show w.heap.size ≤ w3.heap.size by omega))
        clear ho8 oo hr8 hG8 r4b r5b
        go_wp2
        refine bodyPost_ret (v := .agg #[.bool x.1, .slice A8 (x.2.1.length + 1) c8, .slice B x.2.2.length d]) (by simp [results, Try.results85, go_sem, p0, p1, p2]) rfl ?_
        exact ⟨A8, c8, B, d, (x.1, x.2.1 ++ [(1, y)], x.2.2), by simp, by simp; omega, by simp; omega, own_len (ownsRow_weaken (O1.out _ _ _ _ _) hS) HLEN.out, ownsRow_weaken (O2.out _ _ _ _ _) hS, (RD.out _ _ _ _ _).up (by omega), GR.out _ _ _ _ _⟩

/-- A drawn effect, as the law receives it. -/
def DrawE (w : World) (e : Ending) (w' : World) : Prop :=
  ∃ A c B d, ∃ x : EffT, e = .returned (.agg #[.bool x.1, .slice A x.2.1.length c, .slice B x.2.2.length d]) ∧ x.2.1.length ≤ 3 ∧ x.2.2.length ≤ 3 ∧
    w'.ownsRow w.heap.size 49 2 (.slice A x.2.1.length c) x.2.1.length (entCells x.2.1) ∧ w'.ownsRow w.heap.size 49 2 (.slice B x.2.2.length d) x.2.2.length (entCells x.2.2) ∧ Below w.heap.size w w'
/-- A drawn store and effect, as the law receives them. -/
def DrawSE (w : World) (e : Ending) (w' : World) : Prop :=
  ∃ A2 c2, ∃ es : List Ent, ∃ A c B d, ∃ x : EffT, e = .returned (.tuple #[.slice A2 es.length c2, .agg #[.bool x.1, .slice A x.2.1.length c, .slice B x.2.2.length d]]) ∧ es.length ≤ 100 ∧ x.2.1.length ≤ 3 ∧ x.2.2.length ≤ 3 ∧
    w'.ownsRow w.heap.size 49 2 (.slice A2 es.length c2) es.length (entCells es) ∧
    w'.ownsRow w.heap.size 49 2 (.slice A x.2.1.length c) x.2.1.length (entCells x.2.1) ∧ w'.ownsRow w.heap.size 49 2 (.slice B x.2.2.length d) x.2.2.length (entCells x.2.2) ∧ Below w.heap.size w w'

set_option maxRecDepth 100000 in
set_option maxHeartbeats 4000000 in
theorem DrawEffectSum_any (A : Option Addr) (c : Nat) (bs : List Int) (w : World) (hb : BytesAt w A bs) (hn : bs.length ≤ c) (hc : c ≤ maxLen) :
    Calls Try.prog 50 #[.slice A bs.length c] w (DrawE w) := by
  have hrow0 := RowIs.alloc (w := w) #[.bool false, .slice none 0 0, .slice none 0 0] 53
  have hb0 : Below w.heap.size w (w.alloc (.cells #[.bool false, .slice none 0 0, .slice none 0 0] 53)) := (Below.refl _ _).alloc (Nat.le_refl _) _
  have hby : BytesAt (w.alloc (.cells #[.bool false, .slice none 0 0, .slice none 0 0] 53)) A bs := ⟨hb.1.below hb0, hb.2⟩
  clear hb
  go_enter Try.func50, Try.ntmps50
  go_wp2_with fail
  refine (l20Open_any _ _ _ _ hby hn hc).mono ?_
  rintro e w1 ⟨R, rfl, hr, hR, hb1⟩
  have hR' : w.heap.size < R := Nat.lt_of_lt_of_le (by simp) hR
  have hrow1 := hrow0.below hb1 hrow0.lt
  have hB1 := hb0.trans (hb1.mono hb0.size)
  have hsz1 := hB1.size
  have hltR := hr.lt
  have hlt1 : w.heap.size < w1.heap.size := by omega
  clear hby hb0 hb1 hrow0 hR
  go_wp2_with fail
  refine (l20Effect_any 4 R 0 _ hr (by omega) (by omega) (by omega)).mono ?_
  rintro e w3 ⟨A3, c3, B3, d3, x, rfl, hl1, hl2, o1, o2, hr3, hg3⟩
  have hrow3 := hrow1.gr hg3 (by omega)
  have HG := Lib.hid (Gr.below hB1 hg3 (by omega) hB1.size)
  have hlt2 := hlt1
  have hsz2 := hsz1
  clear hrow1
  have O1 := Lib.hid o1
  have O2 := Lib.hid o2
  have p0 : w3.cell? ⟨w.heap.size, 0, none⟩ = some (.bool false) := hrow3.cell 0
  have f0 := hrow3.frozen 0
  have p1 : w3.cell? ⟨w.heap.size, 1, none⟩ = some (.slice none 0 0) := hrow3.cell 1
  have f1 := hrow3.frozen 1
  have p2 : w3.cell? ⟨w.heap.size, 2, none⟩ = some (.slice none 0 0) := hrow3.cell 2
  have f2 := hrow3.frozen 2
  clear hrow3 o1 o2 hr3 hg3
  go_wp2
  refine bodyPost_ret (v := .agg #[.bool x.1, .slice A3 x.2.1.length c3, .slice B3 x.2.2.length d3]) (by simp [results, Try.results50, go_sem, p0, p1, p2]) rfl ?_
  exact ⟨A3, c3, B3, d3, x, rfl, hl1, hl2, ownsRow_weaken (own_sc (own_sc (own_sc O1.out hlt2 _) hlt2 _) hlt2 _) hsz2, ownsRow_weaken (own_sc (own_sc (own_sc O2.out hlt2 _) hlt2 _) hlt2 _) hsz2, ((HG.out.setCell (Nat.le_refl _) _).setCell (Nat.le_refl _) _).setCell (Nat.le_refl _) _⟩

set_option maxRecDepth 100000 in
set_option maxHeartbeats 4000000 in
theorem DrawApplyEffect_any (A : Option Addr) (c : Nat) (bs : List Int) (w : World) (hb : BytesAt w A bs) (hn : bs.length ≤ c) (hc : c ≤ maxLen) :
    Calls Try.prog 47 #[.slice A bs.length c] w (DrawSE w) := by
  have hrow0 := RowIs.alloc (w := w) #[.bool false, .slice none 0 0, .slice none 0 0] 53
  have hb0 : Below w.heap.size w (w.alloc (.cells #[.bool false, .slice none 0 0, .slice none 0 0] 53)) := (Below.refl _ _).alloc (Nat.le_refl _) _
  have hby : BytesAt (w.alloc (.cells #[.bool false, .slice none 0 0, .slice none 0 0] 53)) A bs := ⟨hb.1.below hb0, hb.2⟩
  clear hb
  go_enter Try.func47, Try.ntmps47
  go_wp2_with fail
  refine (l20Open_any _ _ _ _ hby hn hc).mono ?_
  rintro e w1 ⟨R, rfl, hr, hR, hb1⟩
  have hR' : w.heap.size < R := Nat.lt_of_lt_of_le (by simp) hR
  have hrow1 := hrow0.below hb1 hrow0.lt
  have hB1 := hb0.trans (hb1.mono hb0.size)
  have hsz1 := hB1.size
  have hltR := hr.lt
  have hlt1 : w.heap.size < w1.heap.size := by omega
  clear hby hb0 hb1 hrow0 hR
  go_wp2_with fail
  refine (l20Store_any 12 R 0 _ hr (by omega) (by omega) (by omega)).mono ?_
  rintro e w2 ⟨A2, c2, es, rfl, hl, _, ho, hr2, hg⟩
  have hB2 := Lib.hid (Gr.below hB1 hg (by omega) hB1.size)
  have hrow2 := hrow1.gr hg (by omega)
  have hs2 := hg.size
  clear hr hg hrow1 hB1
  go_wp2_with fail
  refine (l20Effect_any 6 R _ _ hr2 (by omega) (by omega) (by omega)).mono ?_
  rintro e w3 ⟨A3, c3, B3, d3, x, rfl, hl1, hl2, o1, o2, hr3, hg3⟩
  have hrow3 := hrow2.gr hg3 (by omega)
  have HO := Lib.hid (own_gr ho hg3 hltR)
  have HG := Lib.hid (Gr.below hB2.out hg3 (by omega) hB2.out.size)
  have hlt2 : w.heap.size < w2.heap.size := by omega
  have hsz2 : w.heap.size ≤ w2.heap.size := by omega
  clear hrow2 ho hr2
  have O1 := Lib.hid o1
  have O2 := Lib.hid o2
  have p0 : w3.cell? ⟨w.heap.size, 0, none⟩ = some (.bool false) := hrow3.cell 0
  have f0 := hrow3.frozen 0
  have p1 : w3.cell? ⟨w.heap.size, 1, none⟩ = some (.slice none 0 0) := hrow3.cell 1
  have f1 := hrow3.frozen 1
  have p2 : w3.cell? ⟨w.heap.size, 2, none⟩ = some (.slice none 0 0) := hrow3.cell 2
  have f2 := hrow3.frozen 2
  clear hrow3 o1 o2 hr3 hg3
  go_wp2
  refine bodyPost_ret (v := .tuple #[.slice A2 es.length c2, .agg #[.bool x.1, .slice A3 x.2.1.length c3, .slice B3 x.2.2.length d3]]) (by simp [results, Try.results47, go_sem, p0, p1, p2]) rfl ?_
  exact ⟨A2, c2, es, A3, c3, B3, d3, x, rfl, hl, hl1, hl2, ownsRow_weaken (own_sc (own_sc (own_sc HO.out hlt1 _) hlt1 _) hlt1 _) hsz1, ownsRow_weaken (own_sc (own_sc (own_sc O1.out hlt2 _) hlt2 _) hlt2 _) hsz2, ownsRow_weaken (own_sc (own_sc (own_sc O2.out hlt2 _) hlt2 _) hlt2 _) hsz2, ((HG.out.setCell (Nat.le_refl _) _).setCell (Nat.le_refl _) _).setCell (Nat.le_refl _) _⟩

end Go.Proofs.Ytpomiglcplbdbaa
