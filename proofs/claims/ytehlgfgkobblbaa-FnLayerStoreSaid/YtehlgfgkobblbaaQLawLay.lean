/- Plain laws of layers. -/
import Derived.Test.YtehlgfgkobblbaaQLayMath
import Derived.Test.YtehlgfgkobblbaaQLawMath
import Derived.Test.YtehlgfgkobblbaaQApply
import Derived.Test.YtehlgfgkobblbaaQLays4
namespace Go.Proofs.Ytehlgfgkobblbaa
open Go

theorem laysOk_take {ls : List LayT} (h : laysOk ls = true) (k : Nat) : laysOk (ls.take k) = true := by
  obtain ⟨h1, h2⟩ := laysOk_iff.1 h
  refine laysOk_iff.2 ⟨fun j hj => ?_, by rw [List.length_take]; omega⟩
  rw [List.length_take] at hj
  rw [List.getElem_take]
  exact h1 j (by omega)
theorem laysOk_self (ls : List LayT) (ws : List Ent) : laysOk (ls ++ [((ls.length : Int), ws)]) = false := by
  refine laysOk_bad (k := ls.length) (by simp) ?_
  rw [List.getElem_append_right (Nat.le_refl _)]
  unfold layOkB
  have : inB (ls.length : Int) (-1) ((ls.length : Int) - 1) = false := by
    cases h : inB (ls.length : Int) (-1) ((ls.length : Int) - 1) with
    | false => rfl
    | true => have := inB_true.1 h; omega
  simp [this]
theorem seenN_pre {s : List Ent} {ls : List LayT} (h : laysFine ls) (m : List LayT) : ∀ (f : Nat) (n : Int), n < ls.length → seenN s (ls ++ m) f n = seenN s ls f n := by
  intro f
  induction f with
  | zero => intro n _; rfl
  | succ f ih =>
    intro n hn
    rw [seenN, seenN]
    split
    · rfl
    · rename_i h0
      have hk : n.toNat < ls.length := by omega
      have hb := (layOkB_iff.1 (h n.toNat hk)).1
      rw [getD_lay hk, getD_lay (show n.toNat < (ls ++ m).length by rw [List.length_append]; omega), List.getElem_append_left hk, ih _ (by omega)]
theorem fork_law {ls : List LayT} {n : Int} (h : forkB ls n = true) (s : List Ent) :
    forkF ls n = ls ++ [(n, [])] ∧ laysOk (ls ++ [(n, [])]) = true ∧ layStoreF s (ls ++ [(n, [])]) ls.length = layStoreF s ls n := by
  unfold forkB at h
  rw [Bool.and_eq_true] at h
  obtain ⟨hl, hn⟩ := h
  obtain ⟨hf, h20⟩ := laysOk_iff.1 hl
  have hn' := hn
  unfold forkOkB at hn'
  rw [Bool.and_eq_true, inB_true, decide_eq_true_iff] at hn'
  have hok : laysOk (ls ++ [(n, [])]) = true := by
    refine laysOk_iff.2 ⟨fun j hj => ?_, by simp; omega⟩
    by_cases e : j < ls.length
    · rw [List.getElem_append_left e]; exact hf j e
    · have e2 : j = ls.length := by simp at hj; omega
      subst e2
      rw [List.getElem_append_right (Nat.le_refl _)]
      refine layOkB_iff.2 ⟨?_, ?_⟩
      · simp; omega
      · simp [entsOk]
  refine ⟨(forkF_new hl hn).1, hok, ?_⟩
  have hfine := (laysOk_iff.1 hok).1
  unfold layStoreF
  have e1 : fitB s (ls ++ [(n, [])]) (ls.length : Int) = entsOk 1 (-1) s := by
    unfold fitB
    rw [hok, inB_true.2 (show -1 ≤ (ls.length : Int) ∧ (ls.length : Int) ≤ ((ls ++ [(n, ([] : List Ent))]).length : Int) - 1 by rw [List.length_append]; simp)]
    simp
  have e2 : fitB s ls n = entsOk 1 (-1) s := by
    unfold fitB
    rw [hl, inB_true.2 (by omega)]
    simp
  rw [e1, e2, seenV_step hfine (show ls.length < (ls ++ [(n, ([] : List Ent))]).length by simp), List.getElem_append_right (Nat.le_refl _)]
  simp only [Nat.sub_self, List.getElem_cons_zero]
  have e3 : setAll (seenV s (ls ++ [(n, [])]) n) [] = seenV s ls n := by
    show seenV s (ls ++ [(n, [])]) n = seenV s ls n
    exact seenN_pre hf _ _ _ (by omega)
  rw [e3]
theorem fork_no {ls : List LayT} {n : Int} (h : forkB ls n = false) : forkF ls n = [] ∨ forkF ls n = ls := by
  unfold forkB at h
  cases hl : laysOk ls with
  | false => exact .inl (forkF_no hl).1
  | true => rw [hl, Bool.true_and] at h; exact .inr (forkF_old hl h).1

/-! ### Reading -/
theorem layRead_or (s : List Ent) (ls : List LayT) (n key : Int) : layReadF s ls n key = -1 ∨
    (0 ≤ layReadF s ls n key ∧ layReadF s ls n key ≤ 1000000 ∧ valueAtF (layStoreF s ls n) key = layReadF s ls n key ∧ layReadF s ls (-1) key = valueAtF s key ∧ laysOk ls = true ∧ entsOk 1 (-1) s = true) := by
  cases hf : fitB s ls n && inB key 0 31 with
  | false => left; unfold layReadF; rw [hf]; rfl
  | true =>
    right
    rw [Bool.and_eq_true] at hf
    obtain ⟨hf, hk⟩ := hf
    have hf' := hf
    unfold fitB at hf'
    rw [Bool.and_eq_true, Bool.and_eq_true, inB_true] at hf'
    obtain ⟨⟨hs, hl⟩, hn⟩ := hf'
    have hk' := inB_true.1 hk
    have hv := seenV_ok (laysOk_iff.1 hl).1 hs (n := n) (by omega)
    have e : layReadF s ls n key = (seenV s ls n).getD key.toNat 0 := by unfold layReadF; rw [hf, hk]; rfl
    have e2 : layStoreF s ls n = storeOf (seenV s ls n) := by unfold layStoreF; rw [hf]; rfl
    have hb := vOk_get hv key.toNat
    have ek : ((key.toNat : Nat) : Int) = key := by omega
    rw [e, e2]
    refine ⟨hb.1, hb.2, ?_, ?_, hl, hs⟩
    · have := valueAtF_get (storeOf_ok hv) key.toNat (by omega)
      rw [ek, toV_storeOf hv] at this
      exact this
    · have h1 := valueAtF_get hs key.toNat (by omega)
      rw [ek] at h1
      rw [h1]
      have hf1 : fitB s ls (-1) = true := by unfold fitB; rw [hs, hl, inB_true.2 (by omega)]; rfl
      unfold layReadF
      rw [hf1, hk, seenV_neg (by omega)]
      rfl

/-! ### Stores of layers -/
theorem layStore_law {s : List Ent} {ls : List LayT} {n : Int} (hs : entsOk 1 (-1) s = true) (hl : laysOk ls = true) (h0 : -1 ≤ n) (h1 : n < ls.length) :
    entsOk 1 (-1) (layStoreF s ls n) = true ∧ (n < 0 → layStoreF s ls n = s) ∧
    (∀ k (hk : k < ls.length), n = k → ∀ key ∈ changedF (layStoreF s ls ls[k].1) (layStoreF s ls n), key ∈ ls[k].2.map (·.1)) := by
  have hfine := (laysOk_iff.1 hl).1
  have fit : ∀ m : Int, -1 ≤ m → m < ls.length → fitB s ls m = true := fun m hm hm2 => by
    unfold fitB; rw [hs, hl, inB_true.2 (by omega)]; rfl
  have st : ∀ m : Int, -1 ≤ m → m < ls.length → layStoreF s ls m = storeOf (seenV s ls m) := fun m hm hm2 => by unfold layStoreF; rw [fit m hm hm2]; rfl
  have hv := seenV_ok hfine hs (n := n) h1
  rw [st n h0 h1]
  refine ⟨storeOf_ok hv, fun hn => ?_, fun k hk e key hkey => ?_⟩
  · rw [seenV_neg hn]; exact storeOf_toV hs
  · subst e
    have hb := (layOkB_iff.1 (hfine k hk)).1
    rw [st _ (by omega) (by omega)] at hkey
    have hv2 := seenV_ok hfine hs (n := ls[k].1) (by omega)
    unfold changedF at hkey
    rw [storeOf_ok hv2, storeOf_ok hv, toV_storeOf hv2, toV_storeOf hv] at hkey
    obtain ⟨j, hj, rfl, hne⟩ := (diffF_mem _ _ _ _).1 hkey
    rw [seenV_get hfine hk j] at hne
    cases h : look ls[k].2 (j : Int) with
    | none => rw [h] at hne; exact absurd rfl hne
    | some v =>
      unfold look at h
      rw [Option.map_eq_some_iff] at h
      obtain ⟨e, he, _⟩ := h
      have h5 := List.find?_some he
      exact List.mem_map.2 ⟨e, List.mem_of_find?_eq_some he, by simpa using h5⟩
theorem layStore_no {s : List Ent} {ls : List LayT} {n : Int} (h : (entsOk 1 (-1) s && laysOk ls && inB n (-1) ((ls.length : Int) - 1)) = false) : layStoreF s ls n = [] := by
  unfold layStoreF fitB; rw [h]; rfl

/-! ### An effect in a new layer -/
theorem putF_last {es : List Ent} {k v : Int} (h : ∀ e ∈ es, e.1 < k) : putF k v false es = es ++ [(k, v)] := by
  induction es with
  | nil => rfl
  | cons e es ih =>
    have h1 := h e (by simp)
    have h2 := ih (fun x hx => h x (by simp [hx]))
    have d1 : decide (k ≤ e.1) = false := by simp; omega
    have d2 : ¬ e.1 = k := by omega
    unfold putF
    rw [d1, if_neg d2]
    simp [h2]
theorem look_mem2 {least last : Int} {es : List Ent} (h : entsOk least last es = true) {x : Ent} (hx : x ∈ es) : look es x.1 = some x.2 := by
  induction es generalizing last with
  | nil => cases hx
  | cons e es ih =>
    rw [entsOk_cons] at h
    rw [look_cons]
    rcases List.mem_cons.1 hx with rfl | hx
    · rw [if_pos rfl]
    · have := ih h.2.2 hx
      have hb := look_bd h.2.2 this
      rw [if_neg (by omega), this]
theorem ents_bd {least last : Int} {es : List Ent} (h : entsOk least last es = true) {x : Ent} (hx : x ∈ es) : (last < x.1 ∧ x.1 ≤ 31) ∧ least ≤ x.2 ∧ x.2 ≤ 1000000 := look_bd h (look_mem2 h hx)
theorem ents_lt {least last : Int} {es : List Ent} (h : entsOk least last es = true) : ∀ (k : Nat) (hk : k < es.length), ∀ x ∈ es.take k, x.1 < es[k].1 := by
  induction es generalizing last with
  | nil => intro k hk; simp at hk
  | cons e es ih =>
    intro k hk x hx
    rw [entsOk_cons] at h
    cases k with
    | zero => cases hx
    | succ k =>
      rw [List.take_succ_cons] at hx
      rw [List.getElem_cons_succ]
      rcases List.mem_cons.1 hx with rfl | hx
      · exact (ents_bd h.2.2 (List.getElem_mem (by simpa using hk))).1.1
      · exact ih h.2.2 k (by simpa using hk) x hx
theorem one_ok {ws : List Ent} (h : entsOk 0 (-1) ws = true) : laysOk [((-1 : Int), ws)] = true := by
  refine laysOk_iff.2 ⟨fun j hj => ?_, by simp⟩
  have : j = 0 := by simpa using hj
  subst this
  exact layOkB_iff.2 ⟨by simp, h⟩
theorem layWrite_step {ws : List Ent} (h : entsOk 0 (-1) ws = true) (k : Nat) (hk : k < ws.length) :
    layWriteF [((-1 : Int), ws.take k)] 0 ws[k].1 ws[k].2 = [((-1 : Int), ws.take (k + 1))] ∧ layWriteB [((-1 : Int), ws.take k)] 0 ws[k].1 ws[k].2 = true := by
  have hb := ents_bd h (List.getElem_mem hk)
  have hw : writeOkB [((-1 : Int), ws.take k)] 0 ws[k].1 ws[k].2 = true := by
    rw [writeOk_eq, inB_true.2 (by simp), inB_true.2 (by omega), inB_true.2 (by omega)]; rfl
  obtain ⟨h1, h2⟩ := layWriteF_new (one_ok (entsOk_taken h k)) hw
  refine ⟨?_, h2⟩
  rw [h1]
  show [((-1 : Int), putF ws[k].1 ws[k].2 false (ws.take k))] = _
  rw [putF_last (ents_lt h k hk), ← List.take_succ_eq_append_getElem hk]
theorem fork_first : forkF [] (-1) = [((-1 : Int), [])] ∧ forkB [] (-1) = true := by decide
theorem one_store {s ws : List Ent} (hs : entsOk 1 (-1) s = true) (h : entsOk 0 (-1) ws = true) : layStoreF s [((-1 : Int), ws)] 0 = applyF s ws := by
  have hl := one_ok h
  have hf : fitB s [((-1 : Int), ws)] 0 = true := by unfold fitB; rw [hs, hl, inB_true.2 (by simp)]; rfl
  unfold layStoreF applyF
  rw [hf, hs, h]
  have := seenV_step (s := s) (laysOk_iff.1 hl).1 (k := 0) (by simp)
  simp only [List.getElem_cons_zero] at this
  show storeOf (seenV s [((-1 : Int), ws)] ((0 : Nat) : Int)) = storeOf (setAll (toV s) ws)
  rw [this, seenV_neg (by omega)]

/-! ### Writing -/
/-- Layer k is over layer n (or is it). -/
def overN (ls : List LayT) (n : Int) : Nat → Int → Bool
  | 0, _ => false
  | f + 1, j => if j < 0 then false else decide (j = n) || overN ls n f (ls.getD j.toNat (-1, [])).1
theorem layPut_get {ls : List LayT} {k : Nat} {key v : Int} (j : Nat) (hj : j < ls.length) : (layPut ls k key v).getD j (-1, []) = if j = k then (ls[j].1, putF key v false ls[j].2) else ls[j] := by
  rw [List.getD_eq_getElem?_getD]
  unfold layPut
  rw [List.getElem?_modify, List.getElem?_eq_getElem hj]
  by_cases e : k = j
  · subst e; simp
  · have : ¬ j = k := fun h => e h.symm
    simp [e, this]
theorem write_away {ls : List LayT} (hf : laysFine ls) {n : Nat} {key v : Int} (s : List Ent) : ∀ (f : Nat) (j : Int), j < ls.length → overN ls n f j = false → seenN s (layPut ls n key v) f j = seenN s ls f j := by
  intro f
  induction f with
  | zero => intro j _ _; rfl
  | succ f ih =>
    intro j hj ho
    rw [seenN, seenN]
    split
    · rfl
    · rename_i h0
      have hk : j.toNat < ls.length := by omega
      have hb := (layOkB_iff.1 (hf j.toNat hk)).1
      rw [overN, if_neg h0, Bool.or_eq_false_iff, decide_eq_false_iff_not, getD_lay hk] at ho
      rw [layPut_get j.toNat hk, if_neg (by omega), getD_lay hk, ih _ (by omega) ho.2]
theorem write_law {ls : List LayT} {n key v : Int} (h : layWriteB ls n key v = true) (s : List Ent) (hs : entsOk 1 (-1) s = true) :
    ∃ k : Nat, n = k ∧ k < ls.length ∧ layWriteF ls n key v = layPut ls k key v ∧ laysOk ls = true ∧ laysOk (layPut ls k key v) = true ∧ (0 ≤ key ∧ key ≤ 31) ∧ layReadF s (layPut ls k key v) n key = v ∧
      (∀ j : Nat, j < ls.length → overN ls n (j + 1) j = false → layReadF s (layPut ls k key v) j key = layReadF s ls j key) := by
  unfold layWriteB at h
  rw [Bool.and_eq_true] at h
  obtain ⟨hl, hw⟩ := h
  have hw' := hw
  rw [writeOk_eq, Bool.and_eq_true, Bool.and_eq_true, inB_true, inB_true, inB_true] at hw'
  obtain ⟨⟨hn, hk⟩, hv⟩ := hw'
  obtain ⟨k, rfl⟩ := Int.eq_ofNat_of_zero_le hn.1
  have hkl : k < ls.length := by omega
  obtain ⟨hf, h20⟩ := laysOk_iff.1 hl
  have e1 := (layWriteF_new hl hw).1
  rw [show ((k : Int)).toNat = k by omega] at e1
  have hfine : laysFine (layPut ls k key v) := by
    intro j hj
    have hj' : j < ls.length := by rwa [layPut_length] at hj
    have hg := layPut_get (ls := ls) (k := k) (key := key) (v := v) j hj'
    rw [getD_lay hj] at hg
    rw [hg]
    have hb := layOkB_iff.1 (hf j hj')
    split
    · exact layOkB_iff.2 ⟨hb.1, (putF_false key v hb.2 (by omega) hk.2 hv.1 hv.2).1⟩
    · exact hf j hj'
  have hok : laysOk (layPut ls k key v) = true := laysOk_iff.2 ⟨hfine, by rw [layPut_length]; exact h20⟩
  have rd : ∀ (m : List LayT), laysOk m = true → ∀ j : Nat, j < m.length → layReadF s m j key = (seenV s m j).getD key.toNat 0 := fun m hm j hj => by
    unfold layReadF fitB
    rw [hs, hm, inB_true.2 (show -1 ≤ (j : Int) ∧ (j : Int) ≤ (m.length : Int) - 1 by omega), inB_true.2 hk]
    rfl
  refine ⟨k, rfl, hkl, e1, hl, hok, hk, ?_, fun j hj ho => ?_⟩
  · rw [rd _ hok k (by rw [layPut_length]; exact hkl), seenV_get hfine (show k < (layPut ls k key v).length by rw [layPut_length]; exact hkl)]
    have hg := layPut_get (ls := ls) (k := k) (key := key) (v := v) k hkl
    rw [getD_lay (show k < (layPut ls k key v).length by rw [layPut_length]; exact hkl), if_pos rfl] at hg
    rw [hg]
    have hb := layOkB_iff.1 (hf k hkl)
    rw [show ((key.toNat : Nat) : Int) = key by omega, (putF_false key v hb.2 (by omega) hk.2 hv.1 hv.2).2 key, if_pos rfl]
    rfl
  · rw [rd _ hok j (by rw [layPut_length]; exact hj), rd _ hl j hj]
    congr 1
    unfold seenV
    rw [show ((j : Int) + 1).toNat = j + 1 by omega]
    exact write_away hf s _ _ (by omega) ho
theorem write_no {ls : List LayT} {n key v : Int} (h : layWriteB ls n key v = false) : layWriteF ls n key v = [] ∨ layWriteF ls n key v = ls := by
  unfold layWriteB at h
  cases hl : laysOk ls with
  | false => exact .inl (layWriteF_no hl).1
  | true => rw [hl, Bool.true_and] at h; exact .inr (layWriteF_old hl h).1

end Go.Proofs.Ytehlgfgkobblbaa
