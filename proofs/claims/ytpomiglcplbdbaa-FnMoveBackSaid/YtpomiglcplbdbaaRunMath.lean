/- What actions do with vectors of values, in plain words. -/
import Derived.Test.YtpomiglcplbdbaaActRW
import Derived.Test.YtpomiglcplbdbaaPutMath
namespace Go.Proofs.Ytpomiglcplbdbaa

/-- Effects: done, reads, writes. -/
abbrev EffT := Bool × List Ent × List Ent

def atV (v : List Int) (k : Int) : Int := v.getD k.toNat 0
theorem atV_bd {v : List Int} (h : vOk v) (k : Int) : 0 ≤ atV v k ∧ atV v k ≤ 1000000 := vOk_get h _
theorem atV_set {v : List Int} (hl : v.length = 32) {i j : Int} (hi : 0 ≤ i ∧ i ≤ 31) (hj : 0 ≤ j ∧ j ≤ 31) (x : Int) : atV (v.set i.toNat x) j = if j = i then x else atV v j := by
  unfold atV
  rw [List.getD_eq_getElem?_getD, List.getElem?_set]
  by_cases e : j = i
  · subst e
    rw [if_pos rfl, if_pos rfl, if_pos (by omega)]; rfl
  · rw [if_neg e, if_neg (by omega), List.getD_eq_getElem?_getD]

def wrF (k f t m : Int) (v : List Int) (key : Int) : Int :=
  if k == 1 then m else if k == 6 then max 0 (atV v f - m) else if k == 3 then atV v f else if k == 4 then (if key == t then atV v f else atV v t)
  else if k == 5 then atV v f + atV v t else if f == t then atV v f else if key == f then atV v f - m else atV v t + m
def doneF (k f t m : Int) (v : List Int) : Bool :=
  if k == 1 || k == 6 || k == 3 || k == 4 then true else if k == 5 then decide (atV v f + atV v t ≤ 1000000)
  else if f == t then decide (m ≤ atV v f) else (decide (m ≤ atV v f) && decide (atV v t + m ≤ 1000000))
def rdsF (k f t : Int) (v : List Int) : List Ent := (readsF k f t).map fun key => (key, atV v key)
def wrsF (k f t m : Int) (v : List Int) : List Ent := if doneF k f t m v then (writesF k f t).map fun key => (key, wrF k f t m v key) else []
def runF (z : ActT) (v : List Int) : EffT := (doneF z.1 z.2.1 z.2.2.1 z.2.2.2 v, rdsF z.1 z.2.1 z.2.2.1 v, wrsF z.1 z.2.1 z.2.2.1 z.2.2.2 v)
def runOf (s : List Ent) (z : ActT) : EffT := if entsOk 1 (-1) s && actOk z.1 z.2.1 z.2.2.1 z.2.2.2 then runF z (toV s) else (false, [], [])
theorem rdsF_length (k f t : Int) (v : List Int) : (rdsF k f t v).length ≤ 2 := by
  have := readsF_length k f t
  simpa [rdsF] using this
theorem wrsF_length (k f t m : Int) (v : List Int) : (wrsF k f t m v).length ≤ 2 := by
  have := writesF_length k f t
  unfold wrsF
  split
  · simpa using this
  · simp
theorem runOf_length (s : List Ent) (z : ActT) : (runOf s z).2.1.length ≤ 2 ∧ (runOf s z).2.2.length ≤ 2 := by
  unfold runOf
  split
  · exact ⟨rdsF_length _ _ _ _, wrsF_length _ _ _ _ _⟩
  · simp

theorem actKind_elim {k t m : Int} (h : actKindOk k t m = true) : (k = 1 ∧ t = 0) ∨ (k = 6 ∧ t = 0) ∨ (k = 3 ∧ m = 0) ∨ (k = 4 ∧ m = 0) ∨ (k = 5 ∧ m = 0) ∨ k = 2 := by
  simp only [actKindOk] at h
  split at h
  · rename_i e; simp at e h; omega
  · split at h
    · rename_i e; simp at e h; omega
    · simp at h; omega
theorem actOk_elim {k f t m : Int} (h : actOk k f t m = true) : (0 ≤ f ∧ f ≤ 31) ∧ (0 ≤ t ∧ t ≤ 31) ∧ (0 ≤ m ∧ m ≤ 1000000) ∧ ((k = 1 ∧ t = 0) ∨ (k = 6 ∧ t = 0) ∨ (k = 3 ∧ m = 0) ∨ (k = 4 ∧ m = 0) ∨ (k = 5 ∧ m = 0) ∨ k = 2) := by
  simp only [actOk, Bool.and_eq_true] at h
  exact ⟨inB_true.1 h.1.1.1, inB_true.1 h.1.1.2, inB_true.1 h.1.2, actKind_elim h.2⟩

/-- What is written may be written. -/
theorem wrsF_ok {k f t m : Int} (h : actOk k f t m = true) {v : List Int} (hv : vOk v) : entsOk 0 (-1) (wrsF k f t m v) = true := by
  obtain ⟨hf, ht, hm, hk⟩ := actOk_elim h
  have ha := atV_bd hv f
  have hb := atV_bd hv t
  have one : ∀ a x : Int, 0 ≤ a ∧ a ≤ 31 → 0 ≤ x ∧ x ≤ 1000000 → entsOk 0 (-1) [(a, x)] = true := fun a x h1 h2 => entsOk_cons.2 ⟨by simp; omega, by simp; omega, rfl⟩
  have two : ∀ a x b y : Int, 0 ≤ a ∧ a < b → b ≤ 31 → 0 ≤ x ∧ x ≤ 1000000 → 0 ≤ y ∧ y ≤ 1000000 → entsOk 0 (-1) [(a, x), (b, y)] = true :=
    fun a x b y h1 h2 h3 h4 => entsOk_cons.2 ⟨by simp; omega, by simp; omega, entsOk_cons.2 ⟨by simp; omega, by simp; omega, rfl⟩⟩
  unfold wrsF
  cases hd : doneF k f t m v
  · rfl
  · rw [if_pos rfl]
    rcases hk with ⟨rfl, h0⟩ | ⟨rfl, h0⟩ | ⟨rfl, h0⟩ | ⟨rfl, h0⟩ | ⟨rfl, h0⟩ | rfl
    · simp [writesF, wrF]; exact one _ _ hf hm
    · simp [writesF, wrF]; exact one _ _ hf (by omega)
    · simp [writesF, wrF]; exact one _ _ ht ha
    · by_cases e : f = t
      · subst e; simp [writesF, wrF]; exact one _ _ hf ha
      · have e1 : (f == t) = false := by simpa using e
        simp only [writesF, wrF, e1]
        rcases (show f < t ∨ t < f by omega) with hlt | hlt
        · rw [show min f t = f by omega, show max f t = t by omega]
          simp [e]; exact two _ _ _ _ (by omega) (by omega) hb ha
        · rw [show min f t = t by omega, show max f t = f by omega]
          simp [e]; exact two _ _ _ _ (by omega) (by omega) ha hb
    · simp [doneF] at hd
      simp [writesF, wrF]; exact one _ _ ht (by omega)
    · by_cases e : f = t
      · subst e; simp [writesF, wrF]; exact one _ _ hf ha
      · have e1 : (f == t) = false := by simpa using e
        simp [doneF, e] at hd
        simp only [writesF, wrF, e1]
        rcases (show f < t ∨ t < f by omega) with hlt | hlt
        · rw [show min f t = f by omega, show max f t = t by omega]
          have e2 : ¬ t = f := fun h => e h.symm
          simp [e2]; exact two _ _ _ _ (by omega) (by omega) (by omega) (by omega)
        · rw [show min f t = t by omega, show max f t = f by omega]
          have e2 : ¬ t = f := fun h => e h.symm
          simp [e2]; exact two _ _ _ _ (by omega) (by omega) (by omega) (by omega)

/-- The reference's two writes. -/
theorem putF_pair {f t x y : Int} (hne : f ≠ t) : putF t y false [(f, x)] = if t < f then [(t, y), (f, x)] else [(f, x), (t, y)] := by
  by_cases h : t < f
  · have h1 : decide (t ≤ f) = true := by simp; omega
    simp [putF, h, h1, hne]
  · have h1 : decide (t ≤ f) = false := by simp; omega
    simp [putF, h, h1, hne]
theorem putF_same {t x y : Int} : putF t y false [(t, x)] = [(t, y)] := by simp [putF]

/-- The reference's writes. -/
def spWr (k f t m a b : Int) : List Ent :=
  if k == 1 then [(f, m)] else if k == 6 then [(f, max 0 (a - m))] else if k == 3 then [(t, a)] else if k == 5 then [(t, a + b)]
  else if k == 4 then putF t a false [(f, b)] else if f == t then [(f, a)] else putF t (b + m) false [(f, a - m)]
theorem spWr_eq {k f t m : Int} (h : actOk k f t m = true) (v : List Int) : (writesF k f t).map (fun key => (key, wrF k f t m v key)) = spWr k f t m (atV v f) (atV v t) := by
  obtain ⟨hf, ht, hm, hk⟩ := actOk_elim h
  rcases hk with ⟨rfl, h0⟩ | ⟨rfl, h0⟩ | ⟨rfl, h0⟩ | ⟨rfl, h0⟩ | ⟨rfl, h0⟩ | rfl
  · simp [writesF, wrF, spWr]
  · simp [writesF, wrF, spWr]
  · simp [writesF, wrF, spWr]
  · by_cases e : f = t
    · subst e; simp [writesF, wrF, spWr, putF_same]
    · have e1 : (f == t) = false := by simpa using e
      simp only [writesF, wrF, spWr, e1]
      rw [putF_pair e]
      rcases (show f < t ∨ t < f by omega) with hlt | hlt
      · rw [show min f t = f by omega, show max f t = t by omega, if_neg (show ¬ t < f by omega)]
        simp [e]
      · rw [show min f t = t by omega, show max f t = f by omega, if_pos hlt]
        simp [e]
  · simp [writesF, wrF, spWr]
  · by_cases e : f = t
    · subst e; simp [writesF, wrF, spWr]
    · have e1 : (f == t) = false := by simpa using e
      have e2 : ¬ t = f := fun h => e h.symm
      simp only [writesF, wrF, spWr, e1]
      simp only [show ((2 : Int) == 1) = false from rfl, show ((2 : Int) == 6) = false from rfl, show ((2 : Int) == 3) = false from rfl, show ((2 : Int) == 4) = false from rfl, show ((2 : Int) == 5) = false from rfl, Bool.false_eq_true, if_false, Bool.or_false]
      rw [putF_pair e]
      rcases (show f < t ∨ t < f by omega) with hlt | hlt
      · rw [show min f t = f by omega, show max f t = t by omega, if_neg (show ¬ t < f by omega)]
        simp [e2]
      · rw [show min f t = t by omega, show max f t = f by omega, if_pos hlt]
        simp [e2]

end Go.Proofs.Ytpomiglcplbdbaa
