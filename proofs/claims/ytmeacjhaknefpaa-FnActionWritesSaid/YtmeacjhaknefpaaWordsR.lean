/- Small words on runs of actions that the walks of the laws share. -/
import Derived.Test.YtmeacjhaknefpaaDraw3
import Derived.Test.YtmeacjhaknefpaaRun3
namespace Go.Proofs.Ytmeacjhaknefpaa
open Go.RowKit

theorem ents_row {w : World} {g E : Nat} {es : List Ent} (h : RowIs w g E (entCells es)) : EntsAt w (some ⟨g, 0, none⟩) es := by
  refine .inr ⟨g, 0, rfl, fun j u hu => ?_⟩
  rw [Nat.zero_add, h.cell]
  exact hu
theorem writesOf_shape {a : ActT} (h : actOk a.1 a.2.1 a.2.2.1 a.2.2.2 = true) : (∃ p, writesOf a = [p]) ∨ (∃ p q, p < q ∧ writesOf a = [p, q]) := by
  unfold writesOf
  rw [if_pos h]
  unfold writesF
  split
  · exact .inl ⟨_, rfl⟩
  · split
    · exact .inl ⟨_, rfl⟩
    · rename_i h1 h2
      refine .inr ⟨_, _, ?_, rfl⟩
      simp at h2
      omega
theorem runOf_writes_in {es : List Ent} {a : ActT} (h : actOk a.1 a.2.1 a.2.2.1 a.2.2.2 = true) : ∀ k (hk : k < (runOf es a).2.2.length), (runOf es a).2.2[k].1 ∈ writesOf a := by
  intro k hk
  have hm := List.getElem_mem hk
  have key : ∀ e ∈ (runOf es a).2.2, e.1 ∈ writesOf a := by
    intro e he
    unfold runOf at he
    split at he
    · simp only [runF, wrsF] at he
      split at he
      · obtain ⟨x, hx, rfl⟩ := List.mem_map.1 he
        unfold writesOf
        rw [if_pos h]
        exact hx
      · simp at he
    · simp at he
  exact key _ hm

end Go.Proofs.Ytmeacjhaknefpaa
