/- Opening of lists of effects and of layers that a law receives. -/
import Derived.Test.YtmmfblkgappljaaNest
namespace Go.Proofs.Ytmmfblkgappljaa
open Go.ChangeShapes Go.WideShapes Go.ChangeAt Go.RowKit Go.Deep

section
variable {H : Type} {enc : TypeId × Value → H} {w : World} {sp : Nat → Bool} {hd : Bool}

set_option maxRecDepth 100000 in
theorem eff_of_cells {fuel : Nat} {cs : List Value} {x : DataW H × List MemPlace} (hf : DataW.trod enc Try.prog w 0 sp hd fuel 38 cs = some x) :
    ∃ z : EffA, cs = effC z ∧ EffOk w z := by
  obtain ⟨xs, n, _, _, hl, hxl, hff⟩ := DataW.trod_struct Try.underlying38 hf
  have t0 := hff 0 _ rfl
  have t1 := hff 1 _ rfl
  have t2 := hff 2 _ rfl
  have hc : Try.prog.cellsOf 38 = 3 := by kernel_rfl
  rw [hc] at hl
  have c0 : Try.prog.cellsOf 4 = 1 := by kernel_rfl
  have c1 : Try.prog.cellsOf 36 = 1 := by kernel_rfl
  match cs, hl, xs, hxl with
  | [a, b, c], _, [y0, y1, y2], _ =>
    obtain ⟨b0, hb0, _⟩ := DataW.trod_bool Try.underlying4 t0
    obtain ⟨A, ca, es, h0, h1, h2⟩ := ents_of_cells Try.underlying36 Try.underlying91 Try.underlying3 Try.underlying3 rfl rfl (by kernel_rfl) (by kernel_rfl) (by kernel_rfl) t1
    obtain ⟨B, cb, fs, g0, g1, g2⟩ := ents_of_cells Try.underlying36 Try.underlying91 Try.underlying3 Try.underlying3 rfl rfl (by kernel_rfl) (by kernel_rfl) (by kernel_rfl) t2
    have e0 : [a] = [Value.bool b0] := by rw [← hb0]; show [a] = List.take (Try.prog.cellsOf 4) [a, b, c]; rw [c0]; rfl
    have e1 : [b] = [Value.slice A es.length ca] := by rw [← h0]; show [b] = List.take (Try.prog.cellsOf 36) [b, c]; rw [c1]; rfl
    have e2 : [c] = [Value.slice B fs.length cb] := by rw [← g0]; show [c] = List.take (Try.prog.cellsOf 36) [c]; rw [c1]; rfl
    simp at e0 e1 e2
    exact ⟨((b0, es, fs), (A, ca), (B, cb)), by rw [e0, e1, e2]; rfl, h1, g1, h2, g2⟩

theorem open_effs_ {v : Value} {d : DataW H} {ps : List MemPlace} (h : DataW.Trod enc Try.prog w 0 sp hd 22 v d ps) (hv : ∃ a n c, v = .slice a n c) :
    ∃ A c zs, v = .slice A zs.length c ∧ zs.length ≤ maxLen ∧ EffsAt w A zs := by
  obtain ⟨a, n, c', rfl⟩ := hv
  obtain ⟨fuel, hf⟩ := h
  obtain ⟨A, n1, c, css, g0, g1, g2, g3, g4⟩ := rows_of_cells Try.underlying22 hf (fun cs => ∃ z : EffA, cs = effC z ∧ EffOk w z) (fun n cs x h _ => eff_of_cells h)
  obtain ⟨es, h5, h6⟩ := list_choose effC (EffOk w) css (fun y hy => g3 y hy)
  subst h5
  have hn : es.length = n1 := by simpa using g1
  subst hn
  simp [Value.cells] at g0
  exact ⟨A, c, es, by rw [g0.1, g0.2.1, g0.2.2], g2, by unfold effCells; rw [List.flatMap_def]; exact g4, h6⟩

set_option maxRecDepth 100000 in
theorem lay_of_cells {fuel : Nat} {cs : List Value} {x : DataW H × List MemPlace} (hf : DataW.trod enc Try.prog w 0 sp hd fuel 76 cs = some x) :
    ∃ z : LayA, cs = layC z ∧ LayOk w z := by
  obtain ⟨xs, n, _, _, hl, hxl, hff⟩ := DataW.trod_struct Try.underlying76 hf
  have t0 := hff 0 _ rfl
  have t1 := hff 1 _ rfl
  have hc : Try.prog.cellsOf 76 = 2 := by kernel_rfl
  rw [hc] at hl
  have c0 : Try.prog.cellsOf 3 = 1 := by kernel_rfl
  have c1 : Try.prog.cellsOf 36 = 1 := by kernel_rfl
  match cs, hl, xs, hxl with
  | [a, b], _, [y0, y1], _ =>
    obtain ⟨k0, hb0, _⟩ := DataW.trod_int Try.underlying3 t0
    obtain ⟨A, ca, es, h0, h1, h2⟩ := ents_of_cells Try.underlying36 Try.underlying91 Try.underlying3 Try.underlying3 rfl rfl (by kernel_rfl) (by kernel_rfl) (by kernel_rfl) t1
    have e0 : [a] = [Value.int .i64 k0] := by rw [← hb0]; show [a] = List.take (Try.prog.cellsOf 3) [a, b]; rw [c0]; rfl
    have e1 : [b] = [Value.slice A es.length ca] := by rw [← h0]; show [b] = List.take (Try.prog.cellsOf 36) [b]; rw [c1]; rfl
    simp at e0 e1
    exact ⟨((k0, es), (A, ca)), by rw [e0, e1]; rfl, h1, h2⟩

theorem open_lays_ {v : Value} {d : DataW H} {ps : List MemPlace} (h : DataW.Trod enc Try.prog w 0 sp hd 29 v d ps) (hv : ∃ a n c, v = .slice a n c) :
    ∃ A c zs, v = .slice A zs.length c ∧ zs.length ≤ maxLen ∧ LaysAt w A zs := by
  obtain ⟨a, n, c', rfl⟩ := hv
  obtain ⟨fuel, hf⟩ := h
  obtain ⟨A, n1, c, css, g0, g1, g2, g3, g4⟩ := rows_of_cells Try.underlying29 hf (fun cs => ∃ z : LayA, cs = layC z ∧ LayOk w z) (fun n cs x h _ => lay_of_cells h)
  obtain ⟨es, h5, h6⟩ := list_choose layC (LayOk w) css (fun y hy => g3 y hy)
  subst h5
  have hn : es.length = n1 := by simpa using g1
  subst hn
  simp [Value.cells] at g0
  exact ⟨A, c, es, by rw [g0.1, g0.2.1, g0.2.2], g2, by unfold layCells; rw [List.flatMap_def]; exact g4, h6⟩
end
end Go.Proofs.Ytmmfblkgappljaa
