/- Plain laws of runs: swapping twice, moving back, totals. -/
import Derived.Test.YtpomiglcplbdbaaQSerMath
namespace Go.Proofs.Ytpomiglcplbdbaa
open Go

theorem look_map (g : Int → Int) : ∀ (l : List Int) (j : Int), look (l.map fun key => (key, g key)) j = if j ∈ l then some (g j) else none := by
  intro l
  induction l with
  | nil => intro j; simp [look]
  | cons x l ih =>
    intro j
    rw [List.map_cons, look_cons]
    by_cases e : x = j
    · subst e; simp
    · rw [if_neg e, ih j]
      have e2 : ¬ j = x := fun h => e h.symm
      simp [e2]
theorem setAll_run {k f t m : Int} (h : actOk k f t m = true) {v : List Int} (hv : vOk v) (hd : doneF k f t m v = true) (j : Nat) :
    (setAll v (wrsF k f t m v)).getD j 0 = if (j : Int) ∈ writesF k f t then wrF k f t m v j else v.getD j 0 := by
  rw [setAll_get (wrsF_ok h hv) (Int.le_refl _) v hv.1 j]
  unfold wrsF
  rw [if_pos hd, look_map]
  split <;> rfl
theorem list_ext32 {a b : List Int} (ha : a.length = 32) (hb : b.length = 32) (h : ∀ j, j ≤ 31 → a.getD j 0 = b.getD j 0) : a = b := by
  apply List.ext_getElem (by omega)
  intro i h1 h2
  have := h i (by omega)
  rw [List.getD_eq_getElem?_getD, List.getD_eq_getElem?_getD, List.getElem?_eq_getElem h1, List.getElem?_eq_getElem h2] at this
  exact this
theorem run_length {k f t m : Int} {v : List Int} (hv : vOk v) : (setAll v (wrsF k f t m v)).length = 32 := by rw [setAll_length]; exact hv.1
theorem mem_pair {k f t x : Int} (h : k = 4 ∨ k = 2) : x ∈ writesF k f t ↔ x = f ∨ x = t := by
  by_cases e : f = t
  · subst e
    rcases h with rfl | rfl <;> simp [writesF]
  · rcases h with rfl | rfl <;> (simp [writesF, e]; omega)
theorem getD_at (v : List Int) (k : Int) : v.getD k.toNat 0 = atV v k := rfl

theorem swap_ok {k f t m : Int} (h : actOk k f t m = true) : actOk 4 f t 0 = true ∧ actOk 4 t f 0 = true := by
  obtain ⟨hf, ht, _, _⟩ := actOk_elim h
  constructor <;> (simp [actOk, actKindOk, inB]; omega)
theorem swap_one {f t : Int} (h : actOk 4 f t 0 = true) {v : List Int} (hv : vOk v) (j : Nat) :
    (setAll v (wrsF 4 f t 0 v)).getD j 0 = if (j : Int) = t then atV v f else if (j : Int) = f then atV v t else v.getD j 0 := by
  rw [setAll_run h hv (by simp [doneF]) j]
  by_cases e : (j : Int) = t
  · rw [if_pos ((mem_pair (.inl rfl)).2 (.inr e)), if_pos e]; simp [wrF, e]
  · rw [if_neg e]
    by_cases e2 : (j : Int) = f
    · rw [if_pos ((mem_pair (.inl rfl)).2 (.inl e2)), if_pos e2]; simp [wrF, e]
    · rw [if_neg (fun h => by rcases (mem_pair (.inl rfl)).1 h with h | h <;> omega), if_neg e2]
theorem swap_twice {f t : Int} (h : actOk 4 f t 0 = true) {v : List Int} (hv : vOk v) : serV v [(4, f, t, 0), (4, f, t, 0)] = (v, [runF (4, f, t, 0) v, runF (4, f, t, 0) (setAll v (wrsF 4 f t 0 v))]) ∧ (runF (4, f, t, 0) v).1 = true ∧ (runF (4, f, t, 0) (setAll v (wrsF 4 f t 0 v))).1 = true := by
  obtain ⟨hf, ht, _, _⟩ := actOk_elim h
  have hv1 : vOk (setAll v (wrsF 4 f t 0 v)) := setAll_ok (wrsF_ok h hv) (by omega) hv
  have key : setAll (setAll v (wrsF 4 f t 0 v)) (wrsF 4 f t 0 (setAll v (wrsF 4 f t 0 v))) = v := by
    refine list_ext32 (run_length hv1) hv.1 (fun j hj => ?_)
    rw [swap_one h hv1 j]
    have e1 : atV (setAll v (wrsF 4 f t 0 v)) f = if f = t then atV v f else atV v t := by
      have := swap_one h hv f.toNat
      rw [show ((f.toNat : Nat) : Int) = f by omega] at this
      show (setAll v (wrsF 4 f t 0 v)).getD f.toNat 0 = _
      rw [this]; simp
    have e2 : atV (setAll v (wrsF 4 f t 0 v)) t = atV v f := by
      have := swap_one h hv t.toNat
      rw [show ((t.toNat : Nat) : Int) = t by omega] at this
      show (setAll v (wrsF 4 f t 0 v)).getD t.toNat 0 = _
      rw [this]; simp
    rw [e1, e2, swap_one h hv j]
    by_cases et : (j : Int) = t
    · rw [if_pos et]
      have : v.getD j 0 = atV v t := by rw [← et]; rfl
      rw [this]
      split
      · rename_i e; rw [e]
      · rfl
    · rw [if_neg et]
      by_cases ef : (j : Int) = f
      · rw [if_pos ef]
        have : v.getD j 0 = atV v f := by rw [← ef]; rfl
        rw [this]
      · rw [if_neg ef, if_neg et, if_neg ef]
  refine ⟨?_, by simp [runF, doneF], by simp [runF, doneF]⟩
  simp only [serV, List.foldl_cons, List.foldl_nil, serS, List.nil_append]
  rw [show (runF (4, f, t, 0) v).2.2 = wrsF 4 f t 0 v from rfl, show (runF (4, f, t, 0) (setAll v (wrsF 4 f t 0 v))).2.2 = wrsF 4 f t 0 (setAll v (wrsF 4 f t 0 v)) from rfl, key]
  rfl

theorem move_one {f t m : Int} (h : actOk 2 f t m = true) {v : List Int} (hv : vOk v) (hd : doneF 2 f t m v = true) (j : Nat) :
    (setAll v (wrsF 2 f t m v)).getD j 0 = if f = t then v.getD j 0 else if (j : Int) = f then atV v f - m else if (j : Int) = t then atV v t + m else v.getD j 0 := by
  rw [setAll_run h hv hd j]
  by_cases eft : f = t
  · subst eft
    rw [if_pos rfl]
    split
    · rename_i hm
      have e : (j : Int) = f := by rcases (mem_pair (.inr rfl)).1 hm with h | h <;> exact h
      simp [wrF]
      rw [← e]; rfl
    · rfl
  · rw [if_neg eft]
    by_cases e2 : (j : Int) = f
    · rw [if_pos ((mem_pair (.inr rfl)).2 (.inl e2)), if_pos e2]; simp [wrF, eft, e2]
    · rw [if_neg e2]
      by_cases e : (j : Int) = t
      · rw [if_pos ((mem_pair (.inr rfl)).2 (.inr e)), if_pos e]; simp [wrF, eft, e2]
      · rw [if_neg (fun h => by rcases (mem_pair (.inr rfl)).1 h with h | h <;> omega), if_neg e]
theorem move_back {f t m : Int} (h : actOk 2 f t m = true) {v : List Int} (hv : vOk v) (hd : doneF 2 f t m v = true) :
    doneF 2 t f m (setAll v (wrsF 2 f t m v)) = true ∧ setAll (setAll v (wrsF 2 f t m v)) (wrsF 2 t f m (setAll v (wrsF 2 f t m v))) = v := by
  obtain ⟨hf, ht, hm, _⟩ := actOk_elim h
  have h2 : actOk 2 t f m = true := by simp [actOk, actKindOk, inB_true.2 hf, inB_true.2 ht, inB_true.2 hm]
  have hv1 : vOk (setAll v (wrsF 2 f t m v)) := setAll_ok (wrsF_ok h hv) (by omega) hv
  have bf := atV_bd hv f
  have bt := atV_bd hv t
  have e1 : atV (setAll v (wrsF 2 f t m v)) f = if f = t then atV v f else atV v f - m := by
    have := move_one h hv hd f.toNat
    rw [show ((f.toNat : Nat) : Int) = f by omega] at this
    show (setAll v (wrsF 2 f t m v)).getD f.toNat 0 = _
    rw [this]
    split
    · rfl
    · simp
  have e2 : atV (setAll v (wrsF 2 f t m v)) t = if f = t then atV v t else atV v t + m := by
    have := move_one h hv hd t.toNat
    rw [show ((t.toNat : Nat) : Int) = t by omega] at this
    show (setAll v (wrsF 2 f t m v)).getD t.toNat 0 = _
    rw [this]
    split
    · rfl
    · rename_i e
      rw [if_neg (fun h => e h.symm)]; simp
  have hd2 : doneF 2 t f m (setAll v (wrsF 2 f t m v)) = true := by
    have hd' := hd
    simp only [doneF] at hd' ⊢
    by_cases e : f = t
    · subst e
      simp at hd' e1 ⊢
      rw [e1]; exact hd'
    · have e' : ¬ t = f := fun h => e h.symm
      simp [e, e'] at hd' e1 e2 ⊢
      rw [e1, e2]
      omega
  refine ⟨hd2, list_ext32 (run_length hv1) hv.1 (fun j hj => ?_)⟩
  rw [move_one h2 hv1 hd2 j, e1, e2, move_one h hv hd j]
  by_cases e : f = t
  · subst e; simp
  · have e' : ¬ t = f := fun h => e h.symm
    rw [if_neg e', if_neg e, if_neg e, if_neg e]
    by_cases et : (j : Int) = t
    · rw [if_pos et]
      have : v.getD j 0 = atV v t := by rw [← et]; rfl
      rw [this]; omega
    · rw [if_neg et]
      by_cases ef : (j : Int) = f
      · rw [if_pos ef]
        have : v.getD j 0 = atV v f := by rw [← ef]; rfl
        rw [this]; omega
      · rw [if_neg ef, if_neg ef, if_neg et]

end Go.Proofs.Ytpomiglcplbdbaa
