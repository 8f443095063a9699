/- For FnApplyEffect and FnEffectSum: plain laws. -/
import Derived.Test.YtpomiglcplbdbaaQLaw3
import Derived.Test.YtpomiglcplbdbaaQEffSum
namespace Go.Proofs.Ytpomiglcplbdbaa
open Go

theorem look_mem {least last : Int} {es : List Ent} (h : entsOk least last es = true) {x : Ent} (hx : x ∈ es) : look es x.1 = some x.2 := by
  induction es generalizing last with
  | nil => cases hx
  | cons e es ih =>
    rw [entsOk_cons] at h
    rw [look_cons]
    rcases List.mem_cons.1 hx with rfl | hx
    · rw [if_pos rfl]
    · have := ih h.2.2 hx
      have hb := look_bd h.2.2 this
      rw [if_neg (by omega), this]
theorem diffF_nodup (v u : List Int) : ∀ n, (diffF v u n).Nodup := by
  intro n
  induction n with
  | zero => simp [diffF]
  | succ n ih =>
    rw [diffF_succ]
    refine List.nodup_append.2 ⟨ih, by split <;> simp, fun a ha b hb => ?_⟩
    obtain ⟨j, hj, rfl, _⟩ := (diffF_mem _ _ _ _).1 ha
    split at hb
    · cases hb
    · rw [List.mem_singleton] at hb; omega
theorem nodup_len {l : List Int} (h : l.Nodup) : ∀ {m : List Int}, (∀ x ∈ l, x ∈ m) → l.length ≤ m.length := by
  induction l with
  | nil => intro m _; exact Nat.zero_le _
  | cons x l ih =>
    intro m hs
    rw [List.nodup_cons] at h
    have hx := hs x (by simp)
    have := ih h.2 (m := m.erase x) (fun y hy => by
      have hne : y ≠ x := fun e => h.1 (e ▸ hy)
      exact (List.mem_erase_of_ne hne).2 (hs y (by simp [hy])))
    rw [List.length_erase_of_mem hx] at this
    have := List.length_pos_of_mem hx
    rw [List.length_cons]
    omega
/-- What FnApplyEffect asks of a store and what an effect writes. -/
def ApplyLaw (s ws : List Ent) : Prop :=
  (∀ k (hk : k < ws.length), valueAtF (applyF s ws) ws[k].1 = ws[k].2) ∧ entsOk 1 (-1) (applyF s ws) = true ∧ applyF (applyF s ws) ws = applyF s ws ∧ (changedF s (applyF s ws)).length ≤ ws.length
theorem apply_law {s ws : List Ent} (hne : (applyF s ws).length ≠ 0) : ApplyLaw s ws := by
  have hb : (entsOk 1 (-1) s && entsOk 0 (-1) ws) = true := by
    cases h : (entsOk 1 (-1) s && entsOk 0 (-1) ws) with
    | true => rfl
    | false => exact absurd (by unfold applyF; rw [h]; rfl) hne
  rw [Bool.and_eq_true] at hb
  obtain ⟨h1, h2⟩ := hb
  have hv := toV_ok h1 (by omega)
  have ha : applyF s ws = storeOf (setAll (toV s) ws) := by unfold applyF; rw [h1, h2]; rfl
  have hvk := setAll_ok h2 (by omega) hv
  have hok := storeOf_ok hvk
  have hget := fun j => setAll_get h2 (Int.le_refl _) (toV s) hv.1 j
  clear hne
  unfold ApplyLaw
  rw [ha]
  refine ⟨fun k hk => ?_, hok, ?_, ?_⟩
  · have hm := look_mem h2 (List.getElem_mem hk)
    have hbd := look_bd h2 hm
    obtain ⟨n, hn⟩ := Int.eq_ofNat_of_zero_le (show 0 ≤ ws[k].1 by omega)
    rw [hn, valueAtF_get hok n (by omega), toV_storeOf hvk, hget n, ← hn, hm]
    rfl
  · have h3 : applyF (storeOf (setAll (toV s) ws)) ws = storeOf (setAll (toV (storeOf (setAll (toV s) ws))) ws) := by unfold applyF; rw [hok, h2]; rfl
    rw [h3, toV_storeOf hvk]
    congr 1
    refine list_ext32 (by rw [setAll_length]; exact hvk.1) hvk.1 (fun j _ => ?_)
    rw [setAll_get h2 (Int.le_refl _) _ hvk.1 j, hget j]
    cases look ws (j : Int) <;> rfl
  · have hd : changedF s (storeOf (setAll (toV s) ws)) = diffF (toV s) (setAll (toV s) ws) 32 := by
      unfold changedF; rw [h1, hok, toV_storeOf hvk]; rfl
    rw [hd]
    have := nodup_len (diffF_nodup (toV s) (setAll (toV s) ws) 32) (m := ws.map (·.1)) (fun x hx => by
      obtain ⟨j, hj, rfl, hne⟩ := (diffF_mem _ _ _ _).1 hx
      rw [hget j] at hne
      cases hl : look ws (j : Int) with
      | none => rw [hl] at hne; exact absurd rfl hne
      | some v =>
        unfold look at hl
        rw [Option.map_eq_some_iff] at hl
        obtain ⟨e, he, _⟩ := hl
        have h5 := List.find?_some he
        exact List.mem_map.2 ⟨e, List.mem_of_find?_eq_some he, by simpa using h5⟩)
    simpa using this

theorem effSum_or (x : EffT) : effSumF x = -1 ∨ (0 ≤ effSumF x ∧ effSumF x ≤ 1000002 ∧ effSumF (!x.1, x.2.1, x.2.2) ≠ effSumF x) := by
  rcases sumOfF_or 3 (effNums x) with h | h
  · exact .inl h
  · refine .inr ⟨h.1, h.2, ?_⟩
    have hp : 0 < (effNums x).length := by simp [effNums]
    have e : effNums (!x.1, x.2.1, x.2.2) = (effNums x).set 0 (flip1 (effNums x)[0]) := by
      obtain ⟨d, r, v⟩ := x
      cases d <;> simp [effNums, flip1]
    have := sumOfF_flip h.1 0 hp (by
      obtain ⟨d, r, v⟩ := x
      cases d <;> simp [effNums, flip1])
    unfold effSumF
    rw [e]
    exact this

end Go.Proofs.Ytpomiglcplbdbaa
