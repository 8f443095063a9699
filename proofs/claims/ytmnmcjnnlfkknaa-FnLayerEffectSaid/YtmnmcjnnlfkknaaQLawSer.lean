/- Plain laws: a run of actions goes on; what is written in a new layer. -/
import Derived.Test.YtmnmcjnnlfkknaaQLawLay
import Derived.Test.YtmnmcjnnlfkknaaQSerMath
namespace Go.Proofs.Ytmnmcjnnlfkknaa
open Go

theorem ser_fold : ∀ (acts : List ActT) (p : List Int × List EffT), acts.foldl serS p = ((serV p.1 acts).1, p.2 ++ (serV p.1 acts).2) := by
  intro acts
  induction acts with
  | nil => intro p; simp [serV]
  | cons a acts ih =>
    intro p
    have e1 : serV p.1 (a :: acts) = acts.foldl serS (serS (p.1, []) a) := rfl
    rw [e1, List.foldl_cons, ih (serS p a), ih (serS (p.1, []) a)]
    simp [serS]
theorem actsOk_tk {acts : List ActT} (h : actsOk acts = true) (k : Nat) : actsOk (acts.take k) = true := by
  unfold actsOk at h ⊢
  rw [Bool.and_eq_true, decide_eq_true_iff, List.all_eq_true] at h ⊢
  exact ⟨by rw [List.length_take]; omega, fun x hx => h.2 x (List.mem_of_mem_take hx)⟩
theorem actsOk_drop {acts : List ActT} (h : actsOk acts = true) (k : Nat) : actsOk (acts.drop k) = true := by
  unfold actsOk at h ⊢
  rw [Bool.and_eq_true, decide_eq_true_iff, List.all_eq_true] at h ⊢
  exact ⟨by rw [List.length_drop]; omega, fun x hx => h.2 x (List.mem_of_mem_drop hx)⟩
theorem ser_parts {s : List Ent} {acts : List ActT} (hs : entsOk 1 (-1) s = true) (ha : actsOk acts = true) (k : Nat) :
    entsOk 1 (-1) (serSt s acts) = true ∧ serSt (serSt s (acts.take k)) (acts.drop k) = serSt s acts ∧ serEf s (acts.take k) ++ serEf (serSt s (acts.take k)) (acts.drop k) = serEf s acts := by
  have hv := toV_ok hs (by omega)
  have ht := actsOk_tk ha k
  have hd := actsOk_drop ha k
  have ok : ∀ {v : List Int} {l : List ActT}, vOk v → actsOk l = true → vOk (serV v l).1 := fun {v l} hv hl => by
    have := (serV_ok hv hl l.length (Nat.le_refl _)).1
    rwa [List.take_length] at this
  have st : ∀ {s : List Ent} {l : List ActT}, entsOk 1 (-1) s = true → actsOk l = true → serSt s l = storeOf (serV (toV s) l).1 ∧ serEf s l = (serV (toV s) l).2 := fun {s l} hs hl => by
    simp [serSt, serEf, serB, hs, hl]
  have e : serV (toV s) acts = ((serV (serV (toV s) (acts.take k)).1 (acts.drop k)).1, (serV (toV s) (acts.take k)).2 ++ (serV (serV (toV s) (acts.take k)).1 (acts.drop k)).2) := by
    have h := ser_fold (acts.drop k) (serV (toV s) (acts.take k))
    rw [← h]
    show acts.foldl serS (toV s, []) = (acts.drop k).foldl serS ((acts.take k).foldl serS (toV s, []))
    rw [← List.foldl_append, List.take_append_drop]
  have h1 := ok hv ht
  have h2 := ok h1 hd
  have hs2 := storeOf_ok h1
  have ee := toV_storeOf h1
  rw [(st hs ha).1, (st hs ha).2, (st hs ht).1, (st hs ht).2, (st hs2 hd).1, (st hs2 hd).2, ee, e]
  exact ⟨storeOf_ok h2, rfl, rfl⟩
theorem ser_no {s : List Ent} {acts : List ActT} (h : serB s acts = false) : serSt s acts = [] ∧ serEf s acts = [] := by simp [serSt, serEf, h]

theorem run_ws {s : List Ent} (hs : entsOk 1 (-1) s = true) (a : ActT) : entsOk 0 (-1) (runOf s a).2.2 = true := by
  unfold runOf
  split
  · rename_i h
    rw [Bool.and_eq_true] at h
    exact wrsF_ok h.2 (toV_ok hs (by omega))
  · rfl

theorem one_small {zs : List LayA} {ws : List Ent} (h : laysT zs = [((-1 : Int), ws)]) (hw : ws.length ≤ 2) : zs.length ≤ 1 ∧ ∀ z ∈ zs, z.1.2.length ≤ 2 := by
  refine ⟨by have := congrArg List.length h; simp at this; omega, fun z hz => ?_⟩
  have h2 : z.1 ∈ laysT zs := List.mem_map_of_mem hz
  rw [h, List.mem_singleton] at h2
  rw [h2]
  exact hw
theorem laysAt_nil (w : World) (A : Option Addr) : LaysAt w A [] := ⟨.inl rfl, by simp⟩

end Go.Proofs.Ytmnmcjnnlfkknaa
