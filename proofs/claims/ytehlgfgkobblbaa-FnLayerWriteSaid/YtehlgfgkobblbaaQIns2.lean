/- Contract of slices.Insert of one entry. -/
import Derived.Test.YtehlgfgkobblbaaQIns
import Derived.Test.YtehlgfgkobblbaaQBase
import Derived.Deep.RegionLaw
namespace Go.Proofs.Ytehlgfgkobblbaa
open Go.RowKit

theorem heap_of_row {w : World} {g E : Nat} {vs : List Value} (h : RowIs w g E vs) : w.heap[g]? = some (.cells vs.toArray E (0, 0)) := h
theorem row_of_setRow {w : World} {g E : Nat} {vs : List Value} (h : RowIs w g E vs) (cs : List Value) : RowIs (w.setRow g cs.toArray) g E cs := by
  have := h.setRow cs.toArray
  simpa using this
theorem row_drew {w : World} {g E : Nat} {vs : List Value} (h : RowIs w g E vs) : RowIs w.drew g E vs := h
theorem grown_setRow {w w' : World} {g : Nat} (h : w.grownBy w' (some g)) (cs : Array Value) : w.grownBy (w'.setRow g cs) (some g) :=
  ⟨h.os, h.tape, h.output, by simpa using h.size, fun k hk hne => (Go.setRow_other w' g k cs (fun e => hne (by rw [e]))).trans (h.block k hk hne)⟩
theorem grown_drew {w w' : World} {r : Option Nat} (h : w.grownBy w' r) : w.grownBy w'.drew r := ⟨h.os, h.tape, h.output, h.size, h.block⟩

set_option maxRecDepth 100000 in
set_option maxHeartbeats 1600000 in
theorem Insert_end (S : Nat) (A : Option Addr) (c : Nat) (es : List Ent) (key value : Int) (vb vc : Nat) (w : World) (ho : w.ownsRow S 37 2 (.slice A es.length c) es.length (entCells es)) (hn : es.length ≤ 32) (hv : RowIs w vb 37 [.int .i64 key, .int .i64 value]) (hS : S ≤ w.heap.size) :
    Calls Try.prog 53 #[.slice A es.length c, .int .i64 (es.length : Nat), .slice (some ⟨vb, 0, none⟩) 1 vc] w (InsRes S A es.length c (entCells (es ++ [(key, value)])) w) := by
  have hcb : es.length ≤ c ∧ c ≤ 9223372036854775807 := by
    rcases ho.2 with ⟨h, h0⟩ | ⟨g, cap, cur, h, _, _, h1, h2, _⟩
    · injection h with _ _ h3; subst h3; omega
    · injection h with _ _ h3; subst h3; unfold maxLen at h2; omega
  have hform : A = none ∨ ∃ g, A = some ⟨g, 0, none⟩ := by
    rcases ho.2 with ⟨h, _⟩ | ⟨g, cap, cur, h, _⟩
    · injection h with h1; exact .inl h1
    · injection h with h1; exact .inr ⟨g, h1⟩
  have HR := Lib.hid (fun ty => append_where ty ho vb vc key value hv (by omega) hS)
  have hAE : entCells es ++ [.int .i64 key, .int .i64 value] = entCells (es ++ [(key, value)]) := by rw [entCells_append]; rfl
  have HAE := Lib.hid hAE
  clear ho hv hAE
  generalize hN : es.length = n at *
  rcases hform with rfl | ⟨g, rfl⟩
  all_goals
    obtain ⟨A', c', w', hr, ho', hg', hw'⟩ := HR.out 26
    have HRUN := Lib.hid hr
    have HO := Lib.hid ho'
    have HG := Lib.hid hg'
    have HW := Lib.hid hw'
    clear hr ho' hg' hw' HR
    go_enter Try.func53, Try.ntmps53
    go_wp2_with (at_builtin; refine Lib.wpList_append_run _ rfl _ _ _ _ rfl _ _ rfl rfl _ _ HRUN.out ?_)
    all_goals (
      go_ret
      exact ⟨A', c', rfl, by rw [← HAE.out]; exact HO.out, HG.out, HW.out⟩)

set_option maxRecDepth 100000 in
set_option maxHeartbeats 3200000 in
theorem Insert_grow (S g : Nat) (c : Nat) (es : List Ent) (i : Nat) (key value : Int) (vb vc : Nat) (w : World) (ho : w.ownsRow S 37 2 (.slice (some ⟨g, 0, none⟩) es.length c) es.length (entCells es)) (hn : es.length ≤ 32) (hi : i < es.length) (hroom : c < es.length + 1) (hv : RowIs w vb 37 [.int .i64 key, .int .i64 value]) (hS : S ≤ w.heap.size) :
    Calls Try.prog 53 #[.slice (some ⟨g, 0, none⟩) es.length c, .int .i64 (i : Nat), .slice (some ⟨vb, 0, none⟩) 1 vc] w (InsRes S (some ⟨g, 0, none⟩) es.length c (entCells (es.take i ++ (key, value) :: es.drop i)) w) := by
  obtain ⟨i0, hi0, hz, hsz, hby⟩ := info_parts info_ent
  have hcn : es.length ≤ c ∧ g < w.heap.size := by
    rcases ho.2 with ⟨h, h0⟩ | ⟨g', cap, cur, h, _, hh, h1, h2, _⟩
    · cases h
    · injection h with h0 _ h3
      injection h0 with h0
      injection h0 with h0
      subst h3
      subst h0
      exact ⟨h1, (Array.getElem?_eq_some_iff.1 hh).1⟩
  have hcell : ∀ j u, (entCells es)[j]? = some u → w.cell? ⟨g, j, none⟩ = some u := fun j u hu => by
    have h := ho.cells (g := g) rfl j u hu
    have hadd : (⟨g, 0, none⟩ : Addr).add j = ⟨g, j, none⟩ := by unfold Addr.add; split <;> simp_all
    rwa [hadd] at h
  have hpre : entCells es = entCells (es.take i) ++ entCells (es.drop i) := by rw [← entCells_append, List.take_append_drop]
  have hpl : (entCells (es.take i)).length = i * 2 := by rw [entCells_length, List.length_take]; congr 1; omega
  have hdl : (entCells (es.drop i)).length = (es.length - i) * 2 := by rw [entCells_length, List.length_drop]
  have hold : (Builtin.firstCells i0.size i (.slice (some ⟨g, 0, none⟩) i c)).run Try.prog w.drew = .ok (entCells (es.take i)).toArray w.drew :=
    run_firstCells_some w.drew i0.size i ⟨g, 0, none⟩ i c _ (by rw [hsz, hpl]) (fun j v hj => by
      have hadd : (⟨g, 0, none⟩ : Addr).add j = ⟨g, j, none⟩ := by unfold Addr.add; split <;> simp_all
      rw [hadd]
      refine hcell j v ?_
      rw [hpre, List.getElem?_append_left (List.getElem?_eq_some_iff.1 hj).1]
      exact hj)
  have hrz : ∀ ty, ∃ row : List Value, row.length = grownCap w (es.length + 1) c 37 * 2 ∧ row.take (i * 2) = entCells (es.take i) ∧
      (Builtin.append_ #[26, 3] ty #[.slice (some ⟨g, 0, none⟩) i c, .int .i64 ((es.length : Int) + 1 - (i : Int))]).run Try.prog w =
        .ok (.slice (some ⟨w.heap.size, 0, none⟩) (es.length + 1) (grownCap w (es.length + 1) c 37)) (w.drew.alloc (.cells row.toArray 37)) := fun ty => by
    have h := Lib.run_append_grow_zeros (P := Try.prog) w 26 3 ty 37 i0 _ .i64 .i64 Try.underlying26 Try.underlying3 hi0 hz (some ⟨g, 0, none⟩) i c _ hold (es.length + 1 - i) (by omega) (by rw [hsz]; omega) (by omega) (by omega) (by rw [hby]; omega)
      (growslice_fits (by omega) (by rw [hby]; omega))
    rw [show i + (es.length + 1 - i) = es.length + 1 by omega] at h
    have hge := grownCap_ge w (es.length + 1) c 37
    refine ⟨((entCells (es.take i)).toArray ++ Builtin.zeroCells (Value.agg #[.int .i64 0, .int .i64 0]).cells (es.length + 1 - i) ++ Builtin.zeroCells (Value.agg #[.int .i64 0, .int .i64 0]).cells (grownCap w (es.length + 1) c 37 - (es.length + 1))).toList, ?_, ?_, by rw [show (es.length : Int) + 1 - (i : Int) = ((es.length + 1 - i : Nat) : Int) by omega, h, Array.toArray_toList]⟩
    · have h2 : ∀ k, (Builtin.zeroCells (Value.agg #[.int .i64 0, .int .i64 0]).cells k).size = k * 2 := fun k => size_zeroCells _ _
      rw [Array.length_toList, Array.size_append, Array.size_append, h2, h2, List.size_toArray, hpl]
      omega
    · rw [Array.toList_append, Array.toList_append, List.append_assoc, ← hpl]
      exact List.take_left
  obtain ⟨row, hrl, hrt, hrun⟩ := hrz 26
  have hge := grownCap_ge w (es.length + 1) c 37
  have hle := grownCap_le_maxLen w (es.length + 1) c 37 (by unfold maxLen; omega)
  have hG63 : grownCap w (es.length + 1) c 37 ≤ 9223372036854775807 := by unfold maxLen at hle; omega
  have hvs : ∀ W, RowIs W vb 37 [.int .i64 key, .int .i64 value] → ∀ j v, [Value.int .i64 key, .int .i64 value][j]? = some v → W.cell? ((⟨vb, 0, none⟩ : Addr).add j) = some v := fun W hW j v hj => by
    have hadd : (⟨vb, 0, none⟩ : Addr).add j = ⟨vb, j, none⟩ := by unfold Addr.add; split <;> simp_all
    rw [hadd, hW.cell]; exact hj
  have hinfo : (Try.prog.info? 37).map (·.size) = some 2 := by rw [hi0]; simp [hsz]
  obtain ⟨G, hG⟩ : ∃ G, G = grownCap w (es.length + 1) c 37 := ⟨_, rfl⟩
  rw [← hG] at hrl hrun hge hle hG63
  have hvlt := hv.lt
  -- the new row, and what the two copies make of it
  have hr1 : RowIs ((w.alloc (.cells row.toArray 37)).drew) w.heap.size 37 row := by have h := RowIs.alloc (w := w) row.toArray 37; exact row_drew h
  have hv1 : RowIs ((w.alloc (.cells row.toArray 37)).drew) vb 37 [.int .i64 key, .int .i64 value] := row_drew (hv.alloc_other _)
  have hc1 : ∀ ty dc, (Builtin.copy_ #[26, 26] ty #[.slice (some ⟨w.heap.size, i * 2, none⟩) (es.length + 1 - i) dc, .slice (some ⟨vb, 0, none⟩) 1 vc]).run Try.prog ((w.alloc (.cells row.toArray 37)).drew) =
      .ok (goInt 1) (((w.alloc (.cells row.toArray 37)).drew).setRow w.heap.size (seg row (i * 2) [.int .i64 key, .int .i64 value]).toArray) := fun ty dc => by
    have h := run_copy_rowN (P := Try.prog) ((w.alloc (.cells row.toArray 37)).drew) 26 26 ty 37 w.heap.size (i * 2) (es.length + 1 - i) dc ⟨vb, 0, none⟩ 1 vc row.toArray 37 [.int .i64 key, .int .i64 value] 2 1 Try.underlying26 hinfo (heap_of_row hr1) (by simp only [Nat.min_def]; split <;> omega) rfl (hvs _ hv1) (by simp; omega) (by simp [Value.oneCell'])
    exact h
  have hr2 := row_of_setRow hr1 (seg row (i * 2) [.int .i64 key, .int .i64 value])
  have hsl : (seg row (i * 2) [.int .i64 key, .int .i64 value]).length = G * 2 := by rw [seg_len (by simp; omega), hrl]
  obtain ⟨W2, hW2⟩ : ∃ W2, W2 = ((w.alloc (.cells row.toArray 37)).drew).setRow w.heap.size (seg row (i * 2) [.int .i64 key, .int .i64 value]).toArray := ⟨_, rfl⟩
  rw [← hW2] at hc1 hr2
  have hB2 : Below w.heap.size w W2 := by rw [hW2]; exact below_setRow ((Below.refl _ _).alloc (Nat.le_refl _) _).drew (Nat.le_refl _) _
  have hc2 : ∀ ty dc sc, (Builtin.copy_ #[26, 26] ty #[.slice (some ⟨w.heap.size, (i + 1) * 2, none⟩) (es.length - i) dc, .slice (some ⟨g, i * 2, none⟩) (es.length - i) sc]).run Try.prog W2.drew =
      .ok (goInt ((es.length - i : Nat) : Int)) (W2.drew.setRow w.heap.size (seg (seg row (i * 2) [.int .i64 key, .int .i64 value]) ((i + 1) * 2) (entCells (es.drop i))).toArray) := fun ty dc sc => by
    have h := run_copy_rowN (P := Try.prog) W2.drew 26 26 ty 37 w.heap.size ((i + 1) * 2) (es.length - i) dc ⟨g, i * 2, none⟩ (es.length - i) sc (seg row (i * 2) [.int .i64 key, .int .i64 value]).toArray 37 (entCells (es.drop i)) 2 (es.length - i) Try.underlying26 hinfo (heap_of_row (row_drew hr2)) (by simp only [Nat.min_def]; split <;> omega) hdl
      (fun j v hj => by
        have hadd : (⟨g, i * 2, none⟩ : Addr).add j = ⟨g, i * 2 + j, none⟩ := by unfold Addr.add; split <;> simp_all
        rw [hadd]
        show W2.cell? _ = _
        rw [hB2.cell (p := ⟨g, i * 2 + j, none⟩) hcn.2]
        refine hcell _ v ?_
        rw [hpre, List.getElem?_append_right (by rw [hpl]; omega), hpl]
        rw [show i * 2 + j - i * 2 = j by omega]
        exact hj) (by rw [List.size_toArray, hsl, hdl]; omega) (entCells_one _)
    exact h
  have hr3 := row_of_setRow (row_drew hr2) (seg (seg row (i * 2) [.int .i64 key, .int .i64 value]) ((i + 1) * 2) (entCells (es.drop i)))
  obtain ⟨W3, hW3⟩ : ∃ W3, W3 = W2.drew.setRow w.heap.size (seg (seg row (i * 2) [.int .i64 key, .int .i64 value]) ((i + 1) * 2) (entCells (es.drop i))).toArray := ⟨_, rfl⟩
  rw [← hW3] at hc2 hr3
  have hB3 : Below w.heap.size w W3 := by rw [hW3]; exact below_setRow hB2.drew (Nat.le_refl _) _
  have hlen3 : (seg (seg row (i * 2) [.int .i64 key, .int .i64 value]) ((i + 1) * 2) (entCells (es.drop i))).length = G * 2 := by rw [seg_len (by rw [hsl, hdl]; omega), hsl]
  have hown3 := own_intro (n := es.length + 1) (c := G) (sz := 2) hr3 (Nat.le_refl _) hge hle hlen3 (ins_cells rfl hi (by omega) hrt).1
  have HOWN := Lib.hid (own_weaken hown3 hS)
  have HB3 := Lib.hid hB3
  have HRUN := Lib.hid hrun
  have HC1 := Lib.hid hc1
  have HC2 := Lib.hid hc2
  have hm0 : ((1 : Int) == 0) = false := by decide
  have hin : ((i : Int) == (es.length : Int)) = false := by rw [beq_eq_false_iff_ne]; omega
  have hgt : (es.length : Int) + 1 > (c : Int) := by omega
  have hcc : c ≤ 9223372036854775807 := by omega
  clear ho hv hcell hpre hpl hdl hold hrz hrun hvs hinfo hr1 hv1 hc1 hr2 hsl hB2 hc2 hr3 hB3 hlen3 hown3 hrl hrt hle hi0 hz hsz hby hW2 hW3 hG
  generalize hN : es.length = n at *
  have hw1 : IntKind.i64.wrap ((i : Int) + 1) = (i : Int) + 1 := by rw [IntKind.wrap_i64]; omega
  have hb1 : (0 : Int) ≤ (i : Int) + 1 := by omega
  have hin2 : i ≤ n := by omega
  have htn : ((i : Int) + 1).toNat = i + 1 := by omega
  have hb2 : ¬ (G = i + 1) := by omega
  have hb3 : (i : Int) ≤ (n : Int) + 1 := by omega
  have hb4 : ¬ (c = i) := by omega
  have hb5 : (i : Int) ≤ (n : Int) := by omega
  go_enter Try.func53, Try.ntmps53
  go_wp2_with (first | (at_builtin; refine Lib.wpList_append_run _ rfl _ _ _ _ rfl _ _ rfl rfl _ _ HRUN.out ?_) | (refine wpList_copy_run _ rfl _ _ 26 26 rfl _ _ rfl rfl (HC1.out _ _) ?_))
  go_region_law (refine step_copy_run rfl _ _ 26 26 rfl _ _ (by simp [Act.eval, Act.put]) (by simp [Act.eval, Act.put]) (HC2.out _ (G - (i + 1)) (c - i)) ?_)
  go_wp2
  go_ret
  refine ⟨some ⟨w.heap.size, 0, none⟩, G, rfl, HOWN.out, ⟨HB3.out.os, HB3.out.tape, HB3.out.output, HB3.out.size, fun k hk _ => HB3.out.block k hk⟩, .inr (fun k hk => ?_)⟩
  have : k = w.heap.size := by simpa [Value.ownBlock] using hk.symm
  omega

set_option maxRecDepth 100000 in
set_option maxHeartbeats 3200000 in
theorem Insert_room (S g : Nat) (c : Nat) (es : List Ent) (i : Nat) (key value : Int) (vb vc : Nat) (w : World) (ho : w.ownsRow S 37 2 (.slice (some ⟨g, 0, none⟩) es.length c) es.length (entCells es)) (hn : es.length ≤ 32) (hi : i < es.length) (hroom : es.length + 1 ≤ c) (hv : RowIs w vb 37 [.int .i64 key, .int .i64 value]) (hvg : vb ≠ g) :
    Calls Try.prog 53 #[.slice (some ⟨g, 0, none⟩) es.length c, .int .i64 (i : Nat), .slice (some ⟨vb, 0, none⟩) 1 vc] w (InsRes S (some ⟨g, 0, none⟩) es.length c (entCells (es.take i ++ (key, value) :: es.drop i)) w) := by
  obtain ⟨i0, hi0, hz, hsz, hby⟩ := info_parts info_ent
  rcases own_elim ho with h0 | ⟨g', cur, hA, hrow, hbg, hnc, hcm, hcl, hct⟩
  · omega
  · injection hA with hA
    injection hA with hA
    subst hA
    have hpre : entCells es = entCells (es.take i) ++ entCells (es.drop i) := by rw [← entCells_append, List.take_append_drop]
    have hpl : (entCells (es.take i)).length = i * 2 := by rw [entCells_length, List.length_take]; congr 1; omega
    have hdl : (entCells (es.drop i)).length = (es.length - i) * 2 := by rw [entCells_length, List.length_drop]
    have hrt : cur.take (i * 2) = entCells (es.take i) := by
      have h : (cur.take (es.length * 2)).take (i * 2) = cur.take (i * 2) := by rw [List.take_take]; congr 1; omega
      rw [← h, hct, hpre, ← hpl]
      exact List.take_left
    have hinfo : (Try.prog.info? 37).map (·.size) = some 2 := by rw [hi0]; simp [hsz]
    have hsof : ∀ w, (Go.sizeOf 37).run Try.prog w = .ok 2 w := fun w => by simp [Go.sizeOf, typeInfo, hi0, hsz]
    have hov : ∀ lb cb, (callFunc 63 #[.slice (some ⟨vb, 0, none⟩) 1 vc, .slice (some ⟨g, (i + 1) * 2, none⟩) lb cb]).run Try.prog w = .ok (.value (.bool false)) w := fun lb cb => by
      rw [run_callFunc_extern Try.func63 (by kernel_rfl) (by kernel_rfl) (by kernel_rfl) (e := Extern.SlicesOverlaps.overlaps #[26, 26] #[4]) (by kernel_rfl),
        Lib.run_overlaps_apart w 26 4 37 Try.underlying26 2 hsof ⟨vb, 0, none⟩ ⟨g, (i + 1) * 2, none⟩ 1 vc lb cb hvg 37 37 2 (c * 2)
          (by unfold RowIs at hv; simp [World.shape?, hv]) (by unfold RowIs at hrow; simp [World.shape?, hrow, hcl]) (by omega) (hv.frozen 0) (hv.frozen 2)]
      rfl
    have hvs : ∀ W, RowIs W vb 37 [.int .i64 key, .int .i64 value] → ∀ j v, [Value.int .i64 key, .int .i64 value][j]? = some v → W.cell? ((⟨vb, 0, none⟩ : Addr).add j) = some v := fun W hW j v hj => by
      have hadd : (⟨vb, 0, none⟩ : Addr).add j = ⟨vb, j, none⟩ := by unfold Addr.add; split <;> simp_all
      rw [hadd, hW.cell]; exact hj
    have hc1 : ∀ ty dc sc, (Builtin.copy_ #[26, 26] ty #[.slice (some ⟨g, (i + 1) * 2, none⟩) (es.length - i) dc, .slice (some ⟨g, i * 2, none⟩) (es.length + 1 - i) sc]).run Try.prog w.drew =
        .ok (goInt ((es.length - i : Nat) : Int)) (w.drew.setRow g (seg cur ((i + 1) * 2) (entCells (es.drop i))).toArray) := fun ty dc sc => by
      have h := run_copy_rowN (P := Try.prog) w.drew 26 26 ty 37 g ((i + 1) * 2) (es.length - i) dc ⟨g, i * 2, none⟩ (es.length + 1 - i) sc cur.toArray 37 (entCells (es.drop i)) 2 (es.length - i) Try.underlying26 hinfo (heap_of_row (row_drew hrow)) (by simp only [Nat.min_def]; split <;> omega) hdl
        (fun j v hj => by
          have hadd : (⟨g, i * 2, none⟩ : Addr).add j = ⟨g, i * 2 + j, none⟩ := by unfold Addr.add; split <;> simp_all
          have hjl := (List.getElem?_eq_some_iff.1 hj).1
          rw [hadd, (row_drew hrow).cell, ← List.getElem?_take_of_lt (show i * 2 + j < es.length * 2 by omega), hct, hpre, List.getElem?_append_right (by rw [hpl]; omega), hpl]
          rw [show i * 2 + j - i * 2 = j by omega]
          exact hj) (by rw [List.size_toArray, hcl, hdl]; omega) (entCells_one _)
      exact h
    have hr1 := row_of_setRow (row_drew hrow) (seg cur ((i + 1) * 2) (entCells (es.drop i)))
    have hsl : (seg cur ((i + 1) * 2) (entCells (es.drop i))).length = c * 2 := by rw [seg_len (by rw [hcl, hdl]; omega), hcl]
    have hv1 : RowIs (w.drew.setRow g (seg cur ((i + 1) * 2) (entCells (es.drop i))).toArray) vb 37 [.int .i64 key, .int .i64 value] := (row_drew hv).setRow_other hvg _
    have hg1 : w.grownBy (w.drew.setRow g (seg cur ((i + 1) * 2) (entCells (es.drop i))).toArray) (some g) := grown_setRow (grown_drew (World.grownBy.refl w _)) _
    obtain ⟨W1, hW1⟩ : ∃ W1, W1 = w.drew.setRow g (seg cur ((i + 1) * 2) (entCells (es.drop i))).toArray := ⟨_, rfl⟩
    rw [← hW1] at hc1 hr1 hv1 hg1
    have hc2 : ∀ ty dc, (Builtin.copy_ #[26, 26] ty #[.slice (some ⟨g, i * 2, none⟩) (es.length + 1 - i) dc, .slice (some ⟨vb, 0, none⟩) 1 vc]).run Try.prog W1 =
        .ok (goInt 1) (W1.setRow g (seg (seg cur ((i + 1) * 2) (entCells (es.drop i))) (i * 2) [.int .i64 key, .int .i64 value]).toArray) := fun ty dc => by
      have h := run_copy_rowN (P := Try.prog) W1 26 26 ty 37 g (i * 2) (es.length + 1 - i) dc ⟨vb, 0, none⟩ 1 vc (seg cur ((i + 1) * 2) (entCells (es.drop i))).toArray 37 [.int .i64 key, .int .i64 value] 2 1 Try.underlying26 hinfo (heap_of_row hr1) (by simp only [Nat.min_def]; split <;> omega) rfl (hvs _ hv1) (by rw [List.size_toArray, hsl]; simp; omega) (by simp [Value.oneCell'])
      exact h
    have hr2 := row_of_setRow hr1 (seg (seg cur ((i + 1) * 2) (entCells (es.drop i))) (i * 2) [.int .i64 key, .int .i64 value])
    have hg2 : w.grownBy (W1.setRow g (seg (seg cur ((i + 1) * 2) (entCells (es.drop i))) (i * 2) [.int .i64 key, .int .i64 value]).toArray) (some g) := grown_setRow hg1 _
    obtain ⟨W2, hW2⟩ : ∃ W2, W2 = W1.setRow g (seg (seg cur ((i + 1) * 2) (entCells (es.drop i))) (i * 2) [.int .i64 key, .int .i64 value]).toArray := ⟨_, rfl⟩
    rw [← hW2] at hc2 hr2 hg2
    have hlen2 : (seg (seg cur ((i + 1) * 2) (entCells (es.drop i))) (i * 2) [.int .i64 key, .int .i64 value]).length = c * 2 := by rw [seg_len (by rw [hsl]; simp; omega), hsl]
    have hown2 := own_intro (n := es.length + 1) (c := c) (sz := 2) hr2 hbg hroom hcm hlen2 (ins_cells rfl hi (by omega) hrt).2
    have HOWN := Lib.hid hown2
    have HG2 := Lib.hid hg2
    have HC1 := Lib.hid hc1
    have HC2 := Lib.hid hc2
    have HOV := Lib.hid hov
    have hm0 : ((1 : Int) == 0) = false := by decide
    have hin : ((i : Int) == (es.length : Int)) = false := by rw [beq_eq_false_iff_ne]; omega
    have hgt : ¬ ((es.length : Int) + 1 > (c : Int)) := by omega
    have hcc : c ≤ 9223372036854775807 := by unfold maxLen at hcm; omega
    clear ho hv hpre hpl hdl hrt hinfo hsof hvs hc1 hr1 hsl hv1 hg1 hc2 hr2 hg2 hlen2 hown2 hrow hcl hct hcm hi0 hz hsz hby hW1 hW2
    generalize hN : es.length = n at *
    have hw1 : IntKind.i64.wrap ((i : Int) + 1) = (i : Int) + 1 := by rw [IntKind.wrap_i64]; omega
    have hb1 : (0 : Int) ≤ (i : Int) + 1 := by omega
    have hin2 : i ≤ n := by omega
    have htn : ((i : Int) + 1).toNat = i + 1 := by omega
    have hb2 : ¬ (c = i + 1) := by omega
    have hb3 : (i : Int) ≤ (n : Int) + 1 := by omega
    have hb4 : ¬ (c = i) := by omega
    have hb5 : (i : Int) ≤ (n : Int) := by omega
    have hov := HOV.out
    go_enter Try.func53, Try.ntmps53
    go_wp2_with (simp only [hov])
    go_region_law (refine step_copy_run rfl _ _ 26 26 rfl _ _ (by simp [Act.eval, Act.put]) (by simp [Act.eval, Act.put]) (HC1.out _ (c - (i + 1)) (c - i)) ?_)
    go_wp2_with (refine wpList_copy_run _ rfl _ _ 26 26 rfl _ _ rfl rfl (HC2.out _ _) ?_)
    go_ret
    exact ⟨some ⟨g, 0, none⟩, c, rfl, HOWN.out, HG2.out, .inl rfl⟩

theorem Insert_any (S : Nat) (A : Option Addr) (c : Nat) (es : List Ent) (i : Nat) (key value : Int) (vb vc : Nat) (w : World) (ho : w.ownsRow S 37 2 (.slice A es.length c) es.length (entCells es)) (hn : es.length ≤ 32) (hi : i ≤ es.length) (hv : RowIs w vb 37 [.int .i64 key, .int .i64 value]) (hS : S ≤ w.heap.size) (hvb : ∀ k, (Value.slice A es.length c).ownBlock = some k → k ≠ vb) :
    Calls Try.prog 53 #[.slice A es.length c, .int .i64 (i : Nat), .slice (some ⟨vb, 0, none⟩) 1 vc] w (InsRes S A es.length c (entCells (es.take i ++ (key, value) :: es.drop i)) w) := by
  by_cases he : i = es.length
  · subst he
    rw [List.take_length, List.drop_length]
    exact Insert_end S A c es key value vb vc w ho hn hv hS
  · rcases own_elim ho with h0 | ⟨g, cur, rfl, _, _, _, _, _, _⟩
    · omega
    · by_cases hroom : es.length + 1 ≤ c
      · exact Insert_room S g c es i key value vb vc w ho hn (by omega) hroom hv (fun e => hvb g rfl e.symm)
      · exact Insert_grow S g c es i key value vb vc w ho hn (by omega) (by omega) hv hS

end Go.Proofs.Ytehlgfgkobblbaa
