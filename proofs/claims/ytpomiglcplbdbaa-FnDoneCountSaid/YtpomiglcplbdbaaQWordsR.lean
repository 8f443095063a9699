/- Small words on runs of actions that the walks of the laws share. -/
import Derived.Test.YtpomiglcplbdbaaQDraw3
import Derived.Test.YtpomiglcplbdbaaQRun3
namespace Go.Proofs.Ytpomiglcplbdbaa
open Go.RowKit

theorem ents_row {w : World} {g E : Nat} {es : List Ent} (h : RowIs w g E (entCells es)) : EntsAt w (some ⟨g, 0, none⟩) es := by
  refine .inr ⟨g, 0, rfl, fun j u hu => ?_⟩
  rw [Nat.zero_add, h.cell]
  exact hu
theorem writesOf_shape {a : ActT} (h : actOk a.1 a.2.1 a.2.2.1 a.2.2.2 = true) : (∃ p, writesOf a = [p]) ∨ (∃ p q, p < q ∧ writesOf a = [p, q]) := by
  unfold writesOf
  rw [if_pos h]
  unfold writesF
  split
  · exact .inl ⟨_, rfl⟩
  · split
    · exact .inl ⟨_, rfl⟩
    · rename_i h1 h2
      refine .inr ⟨_, _, ?_, rfl⟩
      simp at h2
      omega
theorem runOf_writes_in {es : List Ent} {a : ActT} (h : actOk a.1 a.2.1 a.2.2.1 a.2.2.2 = true) : ∀ k (hk : k < (runOf es a).2.2.length), (runOf es a).2.2[k].1 ∈ writesOf a := by
  intro k hk
  have hm := List.getElem_mem hk
  have key : ∀ e ∈ (runOf es a).2.2, e.1 ∈ writesOf a := by
    intro e he
    unfold runOf at he
    split at he
    · simp only [runF, wrsF] at he
      split at he
      · obtain ⟨x, hx, rfl⟩ := List.mem_map.1 he
        unfold writesOf
        rw [if_pos h]
        exact hx
      · simp at he
    · simp at he
  exact key _ hm

theorem runF_eq {k f t m : Int} (h : actOk k f t m = true) {v u : List Int} (hr : ∀ x ∈ readsF k f t, atV v x = atV u x) : runF (k, f, t, m) v = runF (k, f, t, m) u := by
  have e1 : rdsF k f t v = rdsF k f t u := by
    unfold rdsF
    apply List.map_congr_left
    intro x hx
    rw [hr x hx]
  have e2 : doneF k f t m v = doneF k f t m u ∧ ∀ x ∈ writesF k f t, wrF k f t m v x = wrF k f t m u x := by
    obtain ⟨_, _, _, hk⟩ := actOk_elim h
    rcases hk with ⟨rfl, h0⟩ | ⟨rfl, h0⟩ | ⟨rfl, h0⟩ | ⟨rfl, h0⟩ | ⟨rfl, h0⟩ | rfl
    · simp [doneF, wrF]
    · have := hr f (by simp [readsF]); simp [doneF, wrF, this]
    · have := hr f (by simp [readsF]); simp [doneF, wrF, this]
    · by_cases e : f = t
      · subst e; have := hr f (by simp [readsF]); simp [doneF, wrF, this]
      · have h1 := hr f (by simp [readsF, e]); have h2 := hr t (by simp [readsF, e]); simp [doneF, wrF, h1, h2]
    · by_cases e : f = t
      · subst e; have := hr f (by simp [readsF]); simp [doneF, wrF, this]
      · have h1 := hr f (by simp [readsF, e]); have h2 := hr t (by simp [readsF, e]); simp [doneF, wrF, h1, h2]
    · by_cases e : f = t
      · subst e; have := hr f (by simp [readsF]); simp [doneF, wrF, this]
      · have h1 := hr f (by simp [readsF, e]); have h2 := hr t (by simp [readsF, e]); simp [doneF, wrF, h1, h2]
  simp only [runF, wrsF]
  rw [e1, e2.1, List.map_congr_left (fun x hx => by rw [e2.2 x hx])]
theorem runOf_put {es : List Ent} {a : ActT} {key u : Int} (h : actOk a.1 a.2.1 a.2.2.1 a.2.2.2 = true) (h2 : putOk es key u = true) (h3 : key ∉ readsOf a) : runOf (putRes es key u) a = runOf es a := by
  obtain ⟨h4, hk, hu⟩ := putOk_elim h2
  unfold runOf
  rw [putRes_ok h4 key u, h4, h]
  simp only [Bool.and_self, if_true]
  refine runF_eq h (fun x hx => ?_)
  have hx2 : x ∈ readsOf a := by unfold readsOf; rw [if_pos h]; exact hx
  obtain ⟨hf, ht, _⟩ := actOk_elim h
  have hxb : 0 ≤ x ∧ x ≤ 31 := readsF_bd hf ht x hx
  rw [toV_put h2, atV_set (toV_length es) hk hxb, if_neg (fun (e : x = key) => h3 (by rw [← e]; exact hx2))]

end Go.Proofs.Ytpomiglcplbdbaa
