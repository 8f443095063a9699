/- Opening of an effect that a law receives. -/
import Derived.Test.YtmmfblkgappljaaOpen
import Derived.Test.YtmmfblkgappljaaEff
namespace Go.Proofs.Ytmmfblkgappljaa
open Go.ChangeShapes Go.WideShapes Go.ChangeAt Go.RowKit Go.Deep

/-- An effect with the places of its two slices. -/
abbrev EffA := EffT × (Option Addr × Nat) × (Option Addr × Nat)
def EffOk (w : World) (z : EffA) : Prop := z.1.2.1.length ≤ maxLen ∧ z.1.2.2.length ≤ maxLen ∧ EntsAt w z.2.1.1 z.1.2.1 ∧ EntsAt w z.2.2.1 z.1.2.2

section
variable {H : Type} {enc : TypeId × Value → H} {w : World} {sp : Nat → Bool} {hd : Bool}
set_option maxRecDepth 100000 in
theorem open_effect_ {v : Value} {d : DataW H} {ps : List MemPlace} (h : DataW.Trod enc Try.prog w 0 sp hd 38 v d ps) (hv : ∃ cs, v = .agg cs ∧ cs.size = Try.prog.cellsOf 38) :
    ∃ z : EffA, v = .agg #[.bool z.1.1, .slice z.2.1.1 z.1.2.1.length z.2.1.2, .slice z.2.2.1 z.1.2.2.length z.2.2.2] ∧ EffOk w z := by
  obtain ⟨cs, rfl, hsz⟩ := hv
  obtain ⟨fuel, hf⟩ := h
  obtain ⟨xs, n, _, _, hl, hxl, hff⟩ := DataW.trod_struct Try.underlying38 hf
  have t0 := hff 0 _ rfl
  have t1 := hff 1 _ rfl
  have t2 := hff 2 _ rfl
  have hc : Try.prog.cellsOf 38 = 3 := by kernel_rfl
  rw [hc] at hl
  have c0 : Try.prog.cellsOf 4 = 1 := by kernel_rfl
  have c1 : Try.prog.cellsOf 36 = 1 := by kernel_rfl
  obtain ⟨l⟩ := cs
  simp only [Value.cells] at hl t0 t1 t2
  match l, hl, xs, hxl with
  | [a, b, c], _, [y0, y1, y2], _ =>
    obtain ⟨b0, hb0, _⟩ := DataW.trod_bool Try.underlying4 t0
    obtain ⟨A, ca, es, h0, h1, h2⟩ := ents_of_cells Try.underlying36 Try.underlying91 Try.underlying3 Try.underlying3 rfl rfl (by kernel_rfl) (by kernel_rfl) (by kernel_rfl) t1
    obtain ⟨B, cb, fs, g0, g1, g2⟩ := ents_of_cells Try.underlying36 Try.underlying91 Try.underlying3 Try.underlying3 rfl rfl (by kernel_rfl) (by kernel_rfl) (by kernel_rfl) t2
    have e0 : [a] = [Value.bool b0] := by rw [← hb0]; show [a] = List.take (Try.prog.cellsOf 4) [a, b, c]; rw [c0]; rfl
    have e1 : [b] = [Value.slice A es.length ca] := by rw [← h0]; show [b] = List.take (Try.prog.cellsOf 36) [b, c]; rw [c1]; rfl
    have e2 : [c] = [Value.slice B fs.length cb] := by rw [← g0]; show [c] = List.take (Try.prog.cellsOf 36) [c]; rw [c1]; rfl
    simp at e0 e1 e2
    exact ⟨((b0, es, fs), (A, ca), (B, cb)), by rw [e0, e1, e2], h1, g1, h2, g2⟩
end

end Go.Proofs.Ytmmfblkgappljaa
