/- What a run of actions, one after the other, does: plain. -/
import Derived.Test.YtpomiglcplbdbaaQBase
import Derived.Test.YtpomiglcplbdbaaQActs
import Derived.Test.YtpomiglcplbdbaaQPut
namespace Go.Proofs.Ytpomiglcplbdbaa
open Go

/-! ### What a run does -/
def serS (p : List Int × List EffT) (a : ActT) : List Int × List EffT := (setAll p.1 (runF a p.1).2.2, p.2 ++ [runF a p.1])
def serV (v : List Int) (acts : List ActT) : List Int × List EffT := acts.foldl serS (v, [])
theorem serV_take (v : List Int) (acts : List ActT) (k : Nat) (hk : k < acts.length) : serV v (acts.take (k + 1)) = serS (serV v (acts.take k)) acts[k] := by
  unfold serV
  rw [List.take_succ_eq_append_getElem hk, List.foldl_append]
  rfl
theorem actsOk_at {acts : List ActT} (h : actsOk acts = true) (k : Nat) (hk : k < acts.length) : actOk acts[k].1 acts[k].2.1 acts[k].2.2.1 acts[k].2.2.2 = true := by
  unfold actsOk at h
  rw [Bool.and_eq_true, List.all_eq_true] at h
  exact h.2 acts[k] (List.getElem_mem hk)
theorem actsOk_len {acts : List ActT} (h : actsOk acts = true) : acts.length ≤ 10 := by
  unfold actsOk at h
  rw [Bool.and_eq_true, decide_eq_true_iff] at h
  exact h.1
theorem serV_ok {v : List Int} (hv : vOk v) {acts : List ActT} (h : actsOk acts = true) : ∀ k, k ≤ acts.length → vOk (serV v (acts.take k)).1 ∧ (serV v (acts.take k)).2.length = k := by
  intro k
  induction k with
  | zero => intro _; exact ⟨by simpa [serV] using hv, by simp [serV]⟩
  | succ k ih =>
    intro hk
    have hk' : k < acts.length := by omega
    obtain ⟨h1, h2⟩ := ih (by omega)
    rw [serV_take v acts k hk']
    refine ⟨setAll_ok (wrsF_ok (actsOk_at h k hk') h1) (by omega) h1, ?_⟩
    simp [serS, h2]
def serB (s : List Ent) (acts : List ActT) : Bool := entsOk 1 (-1) s && actsOk acts
def serSt (s : List Ent) (acts : List ActT) : List Ent := if serB s acts then storeOf (serV (toV s) acts).1 else []
def serEf (s : List Ent) (acts : List ActT) : List EffT := if serB s acts then (serV (toV s) acts).2 else []
theorem serEf_len (s : List Ent) (acts : List ActT) : (serEf s acts).length ≤ 10 := by
  unfold serEf
  cases h : serB s acts with
  | false => simp
  | true =>
    unfold serB at h
    rw [Bool.and_eq_true] at h
    have h1 := (serV_ok (toV_ok h.1 (by omega)) h.2 acts.length (Nat.le_refl _)).2
    rw [List.take_length] at h1
    have := actsOk_len h.2
    simp only [if_true]
    omega
theorem serSt_len (s : List Ent) (acts : List ActT) : (serSt s acts).length ≤ 32 := by
  unfold serSt
  cases h : serB s acts with
  | false => simp
  | true =>
    unfold serB at h
    rw [Bool.and_eq_true] at h
    have h1 := (serV_ok (toV_ok h.1 (by omega)) h.2 acts.length (Nat.le_refl _)).1
    rw [List.take_length] at h1
    simp only [if_true]
    exact storeOf_length h1.1
theorem serV_small (v : List Int) (acts : List ActT) : ∀ x ∈ (serV v acts).2, x.2.1.length ≤ 2 ∧ x.2.2.length ≤ 2 := by
  have key : ∀ (acts : List ActT) (p : List Int × List EffT), (∀ x ∈ p.2, x.2.1.length ≤ 2 ∧ x.2.2.length ≤ 2) → ∀ x ∈ (acts.foldl serS p).2, x.2.1.length ≤ 2 ∧ x.2.2.length ≤ 2 := by
    intro acts
    induction acts with
    | nil => intro p h; exact h
    | cons a acts ih =>
      intro p h
      refine ih _ (fun x hx => ?_)
      rcases List.mem_append.1 hx with hx | hx
      · exact h x hx
      · rw [List.mem_singleton.1 hx]
        exact ⟨rdsF_length _ _ _ _, wrsF_length _ _ _ _ _⟩
  exact key acts (v, []) (by simp)
theorem serEf_small (s : List Ent) (acts : List ActT) : ∀ x ∈ serEf s acts, x.2.1.length ≤ 2 ∧ x.2.2.length ≤ 2 := by
  unfold serEf
  split
  · exact serV_small _ _
  · simp


end Go.Proofs.Ytpomiglcplbdbaa
