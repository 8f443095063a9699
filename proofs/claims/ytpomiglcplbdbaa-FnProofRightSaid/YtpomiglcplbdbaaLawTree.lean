/- Plain laws of roots and proofs, for the laws. -/
import Derived.Test.YtpomiglcplbdbaaLawMath
import Derived.Test.YtpomiglcplbdbaaTree
import Derived.Test.YtpomiglcplbdbaaProof
namespace Go.Proofs.Ytpomiglcplbdbaa

theorem rootOf_or (es : List Ent) : (entsOk 1 (-1) es = false ∧ rootOf es = -1) ∨ (entsOk 1 (-1) es = true ∧ 0 ≤ rootOf es ∧ rootOf es ≤ 1000002) := by
  unfold rootOf
  cases h : entsOk 1 (-1) es
  · left; simp
  · right
    have := rootF_bd (toV_length es)
    simp; omega
theorem proofF_ok (v : List Int) (hv : v.length = 32) (key : Nat) (hk : key < 32) : (proofF v key).length = 5 ∧ (proofF v key).all okSum = true := by
  refine ⟨by simp [proofF], ?_⟩
  rw [List.all_eq_true]
  intro x hx
  simp only [proofF, List.mem_map, List.mem_range] at hx
  obtain ⟨l, hl, rfl⟩ := hx
  have h1 := levelF_len hv l (by omega)
  have h2 := sib_lt hk hl
  have h3 : sib key l < (levelF v l).length := by omega
  rw [List.getD_eq_getElem?_getD, List.getElem?_eq_getElem h3]
  have := levelF_bd hv l (by omega) _ (List.getElem_mem h3)
  exact inB_true.2 (by simpa using this)
theorem proofOf_eq {es : List Ent} (h : entsOk 1 (-1) es = true) {key : Int} (hk : 0 ≤ key ∧ key ≤ 31) : proofOf es key = proofF (toV es) key.toNat := by
  simp [proofOf, h, inB_true.2 hk]
theorem proofOf_len {es : List Ent} (h : entsOk 1 (-1) es = true) {key : Int} (hk : 0 ≤ key ∧ key ≤ 31) : (proofOf es key).length = 5 := by
  rw [proofOf_eq h hk]; simp [proofF]
theorem proofOf_no {es : List Ent} {key : Int} (h : (proofOf es key).length = 0) : proofOf es key = [] := List.eq_nil_of_length_eq_zero h
theorem proofOf_or (es : List Ent) (key : Int) : proofOf es key = [] ∨ (entsOk 1 (-1) es = true ∧ (0 ≤ key ∧ key ≤ 31) ∧ (proofOf es key).length = 5) := by
  by_cases h : (entsOk 1 (-1) es && inB key 0 31) = true
  · right
    simp only [Bool.and_eq_true] at h
    exact ⟨h.1, inB_true.1 h.2, proofOf_len h.1 (inB_true.1 h.2)⟩
  · left; unfold proofOf; rw [if_neg h]
/-- A proof of a store leads from a key with its value to the root. -/
theorem proofRootF_of {es : List Ent} (h : entsOk 1 (-1) es = true) {key : Int} (hk : 0 ≤ key ∧ key ≤ 31) : proofRootF key (valueAtF es key) (proofOf es key) = rootOf es := by
  have hv := valueAtF_bd h hk
  have hp := proofF_ok (toV es) (toV_length es) key.toNat (by omega)
  have hc : ((key.toNat : Nat) : Int) = key := by omega
  have hg := valueAtF_get h key.toNat (by omega)
  rw [hc] at hg
  have hu := root_up (toV_length es) key.toNat (by omega)
  rw [hc, ← hg] at hu
  unfold proofRootF
  rw [proofOf_eq h hk, inB_true.2 hk, inB_true.2 hv, hp.1, hp.2, rootOf, h]
  simpa using hu
theorem proofRight_of {es : List Ent} (h : entsOk 1 (-1) es = true) {key : Int} (hk : 0 ≤ key ∧ key ≤ 31) : proofRightF (rootOf es) key (valueAtF es key) (proofOf es key) = true := by
  have hr := rootF_bd (toV_length es)
  unfold proofRightF
  rw [proofRootF_of h hk]
  simp [rootOf, h, hr.1]
theorem proofOf_put {es : List Ent} {key u : Int} (h : putOk es key u = true) : proofOf (putRes es key u) key = proofOf es key := by
  obtain ⟨h1, hk, hu⟩ := putOk_elim h
  rw [proofOf_eq (putRes_ok h1 key u) hk, proofOf_eq h1 hk, toV_put h]
  exact proof_set (toV_length es) key.toNat (by omega) u
theorem proofRoot_put {es : List Ent} {key u : Int} (h : putOk es key u = true) : proofRootF key u (proofOf es key) = rootOf (putRes es key u) := by
  obtain ⟨h1, hk, hu⟩ := putOk_elim h
  have e := proofRootF_of (putRes_ok h1 key u) hk
  rw [proofOf_put h, valueAtF_put h hk, if_pos rfl] at e
  exact e
theorem proofRootF_elim {key value : Int} {zs : List Int} (h : 0 ≤ proofRootF key value zs) : (0 ≤ key ∧ key ≤ 31) ∧ (0 ≤ value ∧ value ≤ 1000000) ∧ proofRootF key value zs ≤ 1000002 := by
  unfold proofRootF at h ⊢
  split at h
  · rename_i hc
    rw [if_pos hc]
    simp only [Bool.and_eq_true] at hc
    have hb := leafSum_bd key value
    exact ⟨inB_true.1 hc.1.1.1, inB_true.1 hc.1.1.2, (upF_bd key.toNat zs 0 hb.1 hb.2).2⟩
  · omega
theorem proofRootF_or (key value : Int) (zs : List Int) : proofRootF key value zs = -1 ∨ 0 ≤ proofRootF key value zs := by
  unfold proofRootF
  split
  · right
    have hb := leafSum_bd key value
    exact (upF_bd key.toNat zs 0 hb.1 hb.2).1
  · left; rfl
/-- Another value leads to another root. -/
theorem proofRootF_inj {key a b : Int} {zs : List Int} (h : 0 ≤ proofRootF key a zs) (hne : a ≠ b) : proofRootF key b zs ≠ proofRootF key a zs := by
  intro e
  have hb := proofRootF_elim (show 0 ≤ proofRootF key b zs by rw [e]; exact h)
  have ha := proofRootF_elim h
  have pos : ∀ x, 0 ≤ proofRootF key x zs → proofRootF key x zs = upF key.toNat (sumF 1 [key, x]) 0 zs := by
    intro x hx
    unfold proofRootF at hx ⊢
    split at hx
    · rename_i hc; rw [if_pos hc]
    · omega
  have h2 : 0 ≤ proofRootF key b zs := by rw [e]; exact h
  have e := (pos b h2).symm.trans (e.trans (pos a h))
  have b1 := leafSum_bd key a
  have b2 := leafSum_bd key b
  have := upF_inj key.toNat zs 0 b2.1 b2.2 b1.1 b1.2 e
  exact hne (leafSum_inj (by omega) (by omega) this).symm
theorem root_change {es : List Ent} {key u : Int} (h : putOk es key u = true) (hne : u ≠ valueAtF es key) : rootOf (putRes es key u) ≠ rootOf es := by
  obtain ⟨h1, hk, hu⟩ := putOk_elim h
  rw [← proofRoot_put h, ← proofRootF_of h1 hk]
  refine proofRootF_inj ?_ (fun e => hne e.symm)
  rw [proofRootF_of h1 hk, rootOf, h1]
  exact (rootF_bd (toV_length es)).1
theorem proofRightF_elim {root key value : Int} {zs : List Int} (h : proofRightF root key value zs = true) : 0 ≤ root ∧ proofRootF key value zs = root := by
  simpa [proofRightF] using h
theorem proofRightF_flip {root key value : Int} {zs : List Int} (h : proofRightF root key value zs = true) : proofRightF root key (flip1 value) zs = false := by
  obtain ⟨h1, h2⟩ := proofRightF_elim h
  have := proofRootF_inj (b := flip1 value) (by omega : 0 ≤ proofRootF key value zs) (fun e => flip1_ne value e.symm)
  simp only [proofRightF, Bool.and_eq_false_iff]
  right
  simpa using fun e => this (e.trans h2.symm)

end Go.Proofs.Ytpomiglcplbdbaa
