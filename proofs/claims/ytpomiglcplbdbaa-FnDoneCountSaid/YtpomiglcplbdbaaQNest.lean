/- Lists of effects and of layers: what their cells read as, and what a call that made them holds. -/
import Derived.Test.YtpomiglcplbdbaaQOpenE
import Derived.Test.YtpomiglcplbdbaaQKeep2
namespace Go.Proofs.Ytpomiglcplbdbaa
open Go.ChangeShapes Go.WideShapes Go.ChangeAt Go.RowKit Go.Deep

/-! ### Effects -/
def effC (z : EffA) : List Value := [.bool z.1.1, .slice z.2.1.1 z.1.2.1.length z.2.1.2, .slice z.2.2.1 z.1.2.2.length z.2.2.2]
def effCells (zs : List EffA) : List Value := zs.flatMap effC
theorem effCells_nil : effCells [] = [] := rfl
theorem effCells_cons (z : EffA) (zs : List EffA) : effCells (z :: zs) = .bool z.1.1 :: .slice z.2.1.1 z.1.2.1.length z.2.1.2 :: .slice z.2.2.1 z.1.2.2.length z.2.2.2 :: effCells zs := rfl
theorem effCells_append (a b : List EffA) : effCells (a ++ b) = effCells a ++ effCells b := by simp [effCells]
theorem effCells_length (zs : List EffA) : (effCells zs).length = zs.length * 3 := by
  induction zs with
  | nil => rfl
  | cons z zs ih => simp only [effCells_cons, List.length_cons, ih]; omega
theorem effCells_at (zs : List EffA) : ∀ (k : Nat) (h : k < zs.length), (effCells zs)[k * 3]? = some (.bool zs[k].1.1) ∧ (effCells zs)[k * 3 + 1]? = some (.slice zs[k].2.1.1 zs[k].1.2.1.length zs[k].2.1.2) ∧ (effCells zs)[k * 3 + 2]? = some (.slice zs[k].2.2.1 zs[k].1.2.2.length zs[k].2.2.2) := by
  induction zs with
  | nil => intro k h; simp at h
  | cons z zs ih =>
    intro k h
    rw [effCells_cons]
    cases k with
    | zero => simp
    | succ k =>
      have := ih k (by simpa using h)
      rw [show (k + 1) * 3 = k * 3 + 1 + 1 + 1 from by omega]
      simpa using this
/-- Effects from address A on. -/
def EffsAt (w : World) (A : Option Addr) (zs : List EffA) : Prop := CellsAt w A (effCells zs) ∧ ∀ z ∈ zs, EffOk w z
theorem EffOk.below {w w' : World} {z : EffA} (h : EffOk w z) (hb : Below w.heap.size w w') : EffOk w' z := ⟨h.1, h.2.1, h.2.2.1.below hb, h.2.2.2.below hb⟩
theorem EffsAt.below {w w' : World} {A : Option Addr} {zs : List EffA} (h : EffsAt w A zs) (hb : Below w.heap.size w w') : EffsAt w' A zs := ⟨h.1.below hb, fun z hz => (h.2 z hz).below hb⟩
theorem EffsAt.at_ {w : World} {A : Option Addr} {zs : List EffA} (h : EffsAt w A zs) {k : Nat} (hk : k < zs.length) :
    ∃ b o, A = some ⟨b, o, none⟩ ∧ b < w.heap.size ∧ ∀ j (hj : j < zs.length), w.cell? ⟨b, o + j * 3, none⟩ = some (.bool zs[j].1.1) ∧ w.cell? ⟨b, o + j * 3 + 1, none⟩ = some (.slice zs[j].2.1.1 zs[j].1.2.1.length zs[j].2.1.2) ∧ w.cell? ⟨b, o + j * 3 + 2, none⟩ = some (.slice zs[j].2.2.1 zs[j].1.2.2.length zs[j].2.2.2) := by
  obtain ⟨b, o, hA, hb, hc⟩ := CellsAt.pos h.1 (k := k) (by rw [effCells_length]; omega)
  refine ⟨b, o, hA, hb, fun j hj => ?_⟩
  obtain ⟨h1, h2, h3⟩ := effCells_at zs j hj
  exact ⟨hc _ _ h1, hc _ _ h2, hc _ _ h3⟩

/-! ### Layers -/
abbrev LayT := Int × List Ent
/-- A layer with the place of its slice. -/
abbrev LayA := LayT × (Option Addr × Nat)
def LayOk (w : World) (z : LayA) : Prop := z.1.2.length ≤ maxLen ∧ EntsAt w z.2.1 z.1.2
def layC (z : LayA) : List Value := [.int .i64 z.1.1, .slice z.2.1 z.1.2.length z.2.2]
def layCells (zs : List LayA) : List Value := zs.flatMap layC
theorem layCells_nil : layCells [] = [] := rfl
theorem layCells_cons (z : LayA) (zs : List LayA) : layCells (z :: zs) = .int .i64 z.1.1 :: .slice z.2.1 z.1.2.length z.2.2 :: layCells zs := rfl
theorem layCells_append (a b : List LayA) : layCells (a ++ b) = layCells a ++ layCells b := by simp [layCells]
theorem layCells_length (zs : List LayA) : (layCells zs).length = zs.length * 2 := by
  induction zs with
  | nil => rfl
  | cons z zs ih => simp only [layCells_cons, List.length_cons, ih]; omega
theorem layCells_at (zs : List LayA) : ∀ (k : Nat) (h : k < zs.length), (layCells zs)[k * 2]? = some (.int .i64 zs[k].1.1) ∧ (layCells zs)[k * 2 + 1]? = some (.slice zs[k].2.1 zs[k].1.2.length zs[k].2.2) := by
  induction zs with
  | nil => intro k h; simp at h
  | cons z zs ih =>
    intro k h
    rw [layCells_cons]
    cases k with
    | zero => simp
    | succ k =>
      have := ih k (by simpa using h)
      rw [show (k + 1) * 2 = k * 2 + 1 + 1 from by omega]
      simpa using this
theorem layCells_one (zs : List LayA) : ∀ u ∈ layCells zs, u.oneCell' = true := by
  intro u hu
  obtain ⟨z, _, hz⟩ := List.mem_flatMap.1 hu
  simp [layC] at hz
  rcases hz with rfl | rfl <;> simp [Value.oneCell']
/-- Layers from address A on. -/
def LaysAt (w : World) (A : Option Addr) (zs : List LayA) : Prop := CellsAt w A (layCells zs) ∧ ∀ z ∈ zs, LayOk w z
theorem LayOk.below {w w' : World} {z : LayA} (h : LayOk w z) (hb : Below w.heap.size w w') : LayOk w' z := ⟨h.1, h.2.below hb⟩
theorem LaysAt.below {w w' : World} {A : Option Addr} {zs : List LayA} (h : LaysAt w A zs) (hb : Below w.heap.size w w') : LaysAt w' A zs := ⟨h.1.below hb, fun z hz => (h.2 z hz).below hb⟩
theorem LaysAt.at_ {w : World} {A : Option Addr} {zs : List LayA} (h : LaysAt w A zs) {k : Nat} (hk : k < zs.length) :
    ∃ b o, A = some ⟨b, o, none⟩ ∧ b < w.heap.size ∧ ∀ j (hj : j < zs.length), w.cell? ⟨b, o + j * 2, none⟩ = some (.int .i64 zs[j].1.1) ∧ w.cell? ⟨b, o + j * 2 + 1, none⟩ = some (.slice zs[j].2.1 zs[j].1.2.length zs[j].2.2) := by
  obtain ⟨b, o, hA, hb, hc⟩ := CellsAt.pos h.1 (k := k) (by rw [layCells_length]; omega)
  refine ⟨b, o, hA, hb, fun j hj => ?_⟩
  obtain ⟨h1, h2⟩ := layCells_at zs j hj
  exact ⟨hc _ _ h1, hc _ _ h2⟩

/-! ### Rows held together, as a list -/
def HeldL (w : World) (base : Nat) (l : List Row) : Prop := (∀ r ∈ l, rowOwn w base r) ∧ l.Pairwise fun a b => ∀ k, rowBlock a = some k → rowBlock b ≠ some k
section
variable {w w' : World} {base base' : Nat} {l m : List Row}
theorem HeldL.nil (w : World) (base : Nat) : HeldL w base [] := ⟨fun _ h => (by cases h), List.Pairwise.nil⟩
theorem HeldL.below (h : HeldL w base l) (hb : Below w.heap.size w w') : HeldL w' base l := ⟨fun r hr => own_below (h.1 r hr) hb, h.2⟩
theorem HeldL.weaken (h : HeldL w base l) (hb : base' ≤ base) : HeldL w base' l := ⟨fun r hr => own_weaken (h.1 r hr) hb, h.2⟩
theorem HeldL.lt (h : HeldL w base l) {r : Row} (hr : r ∈ l) {k : Nat} (hk : rowBlock r = some k) : base ≤ k ∧ k < w.heap.size := (h.1 r hr).lt k hk
theorem HeldL.one {r : Row} (h : rowOwn w base r) : HeldL w base [r] := ⟨fun x hx => by rw [List.mem_singleton.1 hx]; exact h, List.pairwise_singleton _ _⟩
theorem HeldL.left (h : HeldL w base (l ++ m)) : HeldL w base l := ⟨fun r hr => h.1 r (List.mem_append_left _ hr), (List.pairwise_append.1 h.2).1⟩
theorem HeldL.right (h : HeldL w base (l ++ m)) : HeldL w base m := ⟨fun r hr => h.1 r (List.mem_append_right _ hr), (List.pairwise_append.1 h.2).2.1⟩
/-- Rows made later. -/
theorem HeldL.append {S : Nat} (h : HeldL w base l) (h2 : HeldL w S m) (hl : ∀ r ∈ l, ∀ k, rowBlock r = some k → k < S) (hS : base ≤ S) : HeldL w base (l ++ m) := by
  refine ⟨fun r hr => ?_, List.pairwise_append.2 ⟨h.2, h2.2, fun a ha b hb k hk hk2 => ?_⟩⟩
  · rcases List.mem_append.1 hr with hr | hr
    · exact h.1 r hr
    · exact own_weaken (h2.1 r hr) hS
  · have h3 := hl a ha k hk
    have h4 := (h2.lt hb hk2).1
    omega
/-- Other blocks are written. -/
theorem HeldL.only {lo hi : Nat} (h : HeldL w base l) (ho : Only lo hi w w') (hl : ∀ r ∈ l, ∀ k, rowBlock r = some k → k < lo) : HeldL w' base l :=
  ⟨fun r hr => own_only_lo (h.1 r hr) ho (hl r hr), h.2⟩
theorem HeldL.only_hi {lo hi : Nat} (h : HeldL w base l) (ho : Only lo hi w w') (hb : hi ≤ base) : HeldL w' base l := ⟨fun r hr => own_only_hi (h.1 r hr) ho hb, h.2⟩
/-- One of the rows is written. -/
theorem HeldL.set {r r' : Row} (h : HeldL w base (l ++ r :: m)) (hg : w.grownBy w' (rowBlock r)) (ho : rowOwn w' base r') (hb : rowBlock r' = rowBlock r) : HeldL w' base (l ++ r' :: m) := by
  have hp := List.pairwise_append.1 h.2
  have hp2 := List.pairwise_cons.1 hp.2.1
  have key : ∀ x ∈ l ++ m, rowBlock x = none ∨ rowBlock x ≠ rowBlock r := by
    intro x hx
    cases hk : rowBlock x with
    | none => exact .inl rfl
    | some k =>
      right
      intro e
      rcases List.mem_append.1 hx with hx | hx
      · exact hp.2.2 x hx r (by simp) k hk e.symm
      · exact hp2.1 x hx k e.symm hk
  refine ⟨fun x hx => ?_, List.pairwise_append.2 ⟨hp.1, List.pairwise_cons.2 ⟨fun b hb2 k hk => ?_, hp2.2⟩, fun a ha b hb2 k hk => ?_⟩⟩
  · rcases List.mem_append.1 hx with hx | hx
    · exact World.ownsRow.kept (h.1 x (List.mem_append_left _ hx)) hg (key x (List.mem_append_left _ hx))
    · rcases List.mem_cons.1 hx with rfl | hx
      · exact ho
      · exact World.ownsRow.kept (h.1 x (List.mem_append_right _ (List.mem_cons_of_mem _ hx))) hg (key x (List.mem_append_right _ hx))
  · rw [hb] at hk
    exact hp2.1 b hb2 k hk
  · rcases List.mem_cons.1 hb2 with rfl | hb2
    · rw [hb]
      exact hp.2.2 a ha r (by simp) k hk
    · exact hp.2.2 a ha b (List.mem_cons_of_mem _ hb2) k hk
end

end Go.Proofs.Ytpomiglcplbdbaa
