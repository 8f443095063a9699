/- For FnDoneCount: parts of a list of effects. -/
import Derived.Test.YtpomiglcplbdbaaQDraw10
namespace Go.Proofs.Ytpomiglcplbdbaa
open Go.RowKit

theorem effCells_take (zs : List EffA) : ∀ k, (effCells (zs.take k)) = (effCells zs).take (k * 3) := by
  induction zs with
  | nil => intro k; simp [effCells]
  | cons z zs ih =>
    intro k
    cases k with
    | zero => simp [effCells]
    | succ k => rw [List.take_succ_cons, effCells_cons, effCells_cons, ih k, show (k + 1) * 3 = k * 3 + 1 + 1 + 1 from by omega, List.take_succ_cons, List.take_succ_cons, List.take_succ_cons]
theorem effCells_drop (zs : List EffA) : ∀ k, (effCells (zs.drop k)) = (effCells zs).drop (k * 3) := by
  induction zs with
  | nil => intro k; simp [effCells]
  | cons z zs ih =>
    intro k
    cases k with
    | zero => simp
    | succ k => rw [List.drop_succ_cons, effCells_cons, ih k, show (k + 1) * 3 = k * 3 + 1 + 1 + 1 from by omega, List.drop_succ_cons, List.drop_succ_cons, List.drop_succ_cons]
theorem EffsAt.takeE {w : World} {A : Option Addr} {zs : List EffA} (h : EffsAt w A zs) (k : Nat) : EffsAt w A (zs.take k) := by
  refine ⟨?_, fun z hz => h.2 z (List.mem_of_mem_take hz)⟩
  rw [effCells_take]
  rcases h.1 with h1 | ⟨b, o, hA, hc⟩
  · exact .inl (by rw [h1]; simp)
  · refine .inr ⟨b, o, hA, fun j u hu => hc j u ?_⟩
    rw [List.getElem?_take] at hu
    split at hu
    · exact hu
    · cases hu
theorem EffsAt.dropE {w : World} {g : Nat} {zs : List EffA} (h : EffsAt w (some ⟨g, 0, none⟩) zs) (k : Nat) : EffsAt w (some ⟨g, k * 3, none⟩) (zs.drop k) := by
  refine ⟨?_, fun z hz => h.2 z (List.mem_of_mem_drop hz)⟩
  rw [effCells_drop]
  rcases h.1 with h1 | ⟨b, o', hA, hc⟩
  · exact .inl (by rw [h1]; simp)
  · injection hA with hA
    injection hA with h2 h3
    subst h2 h3
    refine .inr ⟨g, k * 3, rfl, fun j u hu => ?_⟩
    rw [List.getElem?_drop] at hu
    have := hc _ u hu
    rwa [show 0 + (k * 3 + j) = k * 3 + j from by omega] at this
theorem effsAt_none {w : World} {zs : List EffA} (h : EffsAt w none zs) : zs = [] := by
  rcases h.1 with h1 | ⟨b, o, hA, _⟩
  · have := congrArg List.length h1
    rw [effCells_length] at this
    have h2 : zs.length * 3 = 0 := by simpa using this
    exact List.eq_nil_of_length_eq_zero (by omega)
  · cases hA
theorem effsAt_nil (w : World) (A : Option Addr) : EffsAt w A [] := ⟨.inl (by simp [effCells]), by simp⟩
theorem cnt_parts (zs : List EffA) (k : Nat) : cntF (effsT (zs.take k)) + cntF (effsT (zs.drop k)) = cntF (effsT zs) := by
  have h : effsT zs = effsT (zs.take k) ++ effsT (zs.drop k) := by
    unfold effsT
    rw [← List.map_append, List.take_append_drop]
  rw [h]
  unfold cntF
  rw [List.countP_append]
  omega

theorem DoneCount_at (A : Option Addr) (c n : Nat) (zs : List EffA) (w : World) (hz : EffsAt w A zs) (hl : n = zs.length) (hn : zs.length ≤ 4294967296) :
    Calls Try.prog 46 #[.slice A n c] w fun e w' => e = .returned (.int .i64 (cntF (effsT zs))) ∧ Below w.heap.size w w' := by
  subst hl
  exact DoneCount_any A c zs w hz hn

end Go.Proofs.Ytpomiglcplbdbaa
