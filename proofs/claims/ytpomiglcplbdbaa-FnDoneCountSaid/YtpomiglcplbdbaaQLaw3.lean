/- For FnRunAction: what one run leads to. -/
import Derived.Test.YtpomiglcplbdbaaQLaw2
import Derived.Test.YtpomiglcplbdbaaQApply
import Derived.Test.YtpomiglcplbdbaaQEff3
namespace Go.Proofs.Ytpomiglcplbdbaa
open Go.RowKit

theorem readsF_in {k f t : Int} (hf : 0 ≤ f ∧ f ≤ 31) (ht : 0 ≤ t ∧ t ≤ 31) : ∀ x ∈ readsF k f t, 0 ≤ x ∧ x ≤ 31 := by
  intro x hx
  unfold readsF at hx
  split at hx
  · cases hx
  · split at hx
    · rw [List.mem_singleton] at hx; subst hx; exact hf
    · rcases List.mem_cons.1 hx with rfl | hx
      · exact hf
      · rw [List.mem_singleton] at hx; subst hx; exact ht
theorem run_of {s : List Ent} {a : ActT} (h1 : entsOk 1 (-1) s = true) (h2 : actOk a.1 a.2.1 a.2.2.1 a.2.2.2 = true) : runOf s a = runF a (toV s) := by
  unfold runOf; rw [h1, h2]; rfl
theorem run_none {s : List Ent} {a : ActT} (h : (entsOk 1 (-1) s && actOk a.1 a.2.1 a.2.2.1 a.2.2.2) = false) : runOf s a = (false, [], []) := by
  unfold runOf; rw [h]; rfl
theorem run_reads {s : List Ent} {a : ActT} (h1 : entsOk 1 (-1) s = true) (h2 : actOk a.1 a.2.1 a.2.2.1 a.2.2.2 = true) : ∀ k (hk : k < (runOf s a).2.1.length), valueAtF s (runOf s a).2.1[k].1 = (runOf s a).2.1[k].2 := by
  obtain ⟨hf, ht, _, _⟩ := actOk_elim h2
  have key : ∀ e ∈ (runOf s a).2.1, valueAtF s e.1 = e.2 := by
    intro e he
    rw [run_of h1 h2] at he
    obtain ⟨x, hx, rfl⟩ := List.mem_map.1 he
    have hb := readsF_in hf ht x hx
    obtain ⟨n, rfl⟩ := Int.eq_ofNat_of_zero_le hb.1
    exact valueAtF_get h1 n (by omega)
  exact fun k hk => key _ (List.getElem_mem hk)
theorem run_readsLen {s : List Ent} {a : ActT} (h1 : entsOk 1 (-1) s = true) (h2 : actOk a.1 a.2.1 a.2.2.1 a.2.2.2 = true) : (runOf s a).2.1.length = (readsOf a).length := by
  rw [run_of h1 h2]
  unfold readsOf
  rw [if_pos h2]
  show ((readsF _ _ _).map _).length = _
  rw [List.length_map]
theorem run_apply {s : List Ent} {a : ActT} (h1 : entsOk 1 (-1) s = true) (h2 : actOk a.1 a.2.1 a.2.2.1 a.2.2.2 = true) :
    entsOk 1 (-1) (applyF s (runOf s a).2.2) = true ∧ ((a.1 = 2 ∨ a.1 = 4 ∨ (runOf s a).1 = false) → totalF (applyF s (runOf s a).2.2) = totalF s) ∧ ((runOf s a).1 = false → applyF s (runOf s a).2.2 = s) := by
  rw [run_of h1 h2]
  have hv := toV_ok h1 (by omega)
  have hw := wrsF_ok h2 hv
  have ha : applyF s (runF a (toV s)).2.2 = storeOf (setAll (toV s) (wrsF a.1 a.2.1 a.2.2.1 a.2.2.2 (toV s))) := by
    unfold applyF
    rw [show (runF a (toV s)).2.2 = wrsF a.1 a.2.1 a.2.2.1 a.2.2.2 (toV s) from rfl, h1, hw]
    rfl
  rw [ha]
  have hvk := setAll_ok hw (by omega) hv
  have hok := storeOf_ok hvk
  refine ⟨hok, fun hk => ?_, fun hk => ?_⟩
  · unfold totalF
    rw [if_pos hok, if_pos h1, sumV_toV hok, sumV_toV h1, toV_storeOf hvk]
    refine run_total h2 hv ?_
    rcases hk with hk | hk | hk
    · exact .inl (.inl hk)
    · exact .inl (.inr hk)
    · exact .inr hk
  · rw [show wrsF a.1 a.2.1 a.2.2.1 a.2.2.2 (toV s) = [] by unfold wrsF; rw [show doneF a.1 a.2.1 a.2.2.1 a.2.2.2 (toV s) = false from hk]; rfl]
    exact storeOf_toV h1

/-- What FnRunAction asks of a run. -/
def RunLaw (s : List Ent) (a : ActT) (x : EffT) : Prop :=
  (∀ k (hk : k < x.2.1.length), valueAtF s x.2.1[k].1 = x.2.1[k].2) ∧ x.2.1.length = (readsOf a).length ∧
    entsOk 1 (-1) (applyF s x.2.2) = true ∧ ((a.1 = 2 ∨ a.1 = 4 ∨ x.1 = false) → totalF (applyF s x.2.2) = totalF s) ∧ (x.1 = false → applyF s x.2.2 = s)
theorem run_law {s : List Ent} {a : ActT} (h1 : entsOk 1 (-1) s = true) (h2 : actOk a.1 a.2.1 a.2.2.1 a.2.2.2 = true) : RunLaw s a (runOf s a) :=
  ⟨run_reads h1 h2, run_readsLen h1 h2, run_apply h1 h2⟩
theorem below_ud3 {B : Nat} {w w' : World} (h : Below B w.drew w') : Below B w w' := ⟨h.os, h.tape, h.output, h.size, h.block⟩

end Go.Proofs.Ytpomiglcplbdbaa
