/- Lists of effects that a call made: what it holds. -/
import Derived.Test.YtpomiglcplbdbaaQEffs
namespace Go.Proofs.Ytpomiglcplbdbaa
open Go.ChangeShapes Go.WideShapes Go.ChangeAt Go.RowKit Go.Deep

theorem own_neT {w : World} {base base' E E' sz sz' n n' : Nat} {v v' : Value} {xs xs' : List Value} (h : w.ownsRow base E sz v n xs) (h' : w.ownsRow base' E' sz' v' n' xs') (hne : E ≠ E') : ∀ k, v.ownBlock = some k → v'.ownBlock ≠ some k := by
  intro k hk hk'
  rcases h.2 with ⟨rfl, _⟩ | ⟨g, cap, cur, rfl, _, hh, _⟩
  · simp [Value.ownBlock] at hk
  · rcases h'.2 with ⟨rfl, _⟩ | ⟨g1, cap1, cur1, rfl, _, hh1, _⟩
    · simp [Value.ownBlock] at hk'
    · simp [Value.ownBlock] at hk hk'
      subst hk
      subst hk'
      rw [hh] at hh1
      injection hh1 with hh1
      injection hh1 with _ e2 _
      exact hne e2
theorem effTy_ne : (53 : Nat) ≠ 49 := by decide

def eRow1 (z : EffA) : Row := (49, 2, (z.2.1.1, z.1.2.1.length, z.2.1.2), entCells z.1.2.1)
def eRow2 (z : EffA) : Row := (49, 2, (z.2.2.1, z.1.2.2.length, z.2.2.2), entCells z.1.2.2)
def eRows (zs : List EffA) : List Row := zs.flatMap fun z => [eRow1 z, eRow2 z]
theorem eRows_cons (z : EffA) (zs : List EffA) : eRows (z :: zs) = eRow1 z :: eRow2 z :: eRows zs := rfl
theorem eRows_append (a b : List EffA) : eRows (a ++ b) = eRows a ++ eRows b := by simp [eRows]
theorem eRows_mem {zs : List EffA} {r : Row} (h : r ∈ eRows zs) : ∃ z ∈ zs, r = eRow1 z ∨ r = eRow2 z := by
  obtain ⟨z, hz, hr⟩ := List.mem_flatMap.1 h
  simp at hr
  exact ⟨z, hz, hr⟩
theorem eRow1_mem {zs : List EffA} {z : EffA} (h : z ∈ zs) : eRow1 z ∈ eRows zs := List.mem_flatMap.2 ⟨z, h, by simp⟩
theorem eRow2_mem {zs : List EffA} {z : EffA} (h : z ∈ zs) : eRow2 z ∈ eRows zs := List.mem_flatMap.2 ⟨z, h, by simp⟩
theorem eRow_ty {zs : List EffA} {r : Row} (h : r ∈ eRows zs) : r.1 = 49 := by
  obtain ⟨z, _, rfl | rfl⟩ := eRows_mem h <;> rfl
def eOut (A : Option Addr) (c : Nat) (zs : List EffA) : Row := (53, 3, (A, zs.length, c), effCells zs)
def EffsOwn (w : World) (base : Nat) (A : Option Addr) (c : Nat) (zs : List EffA) : Prop := HeldL w base (eOut A c zs :: eRows zs)
def EffsLt (A : Option Addr) (c : Nat) (zs : List EffA) (S : Nat) : Prop := ∀ r ∈ eOut A c zs :: eRows zs, ∀ k, rowBlock r = some k → k < S
section
variable {w w' : World} {base base' : Nat} {A : Option Addr} {c : Nat} {zs : List EffA}
theorem EffsOwn.outer (h : EffsOwn w base A c zs) : w.ownsRow base 53 3 (.slice A zs.length c) zs.length (effCells zs) := h.1 (eOut A c zs) (by simp)
theorem EffsOwn.inner (h : EffsOwn w base A c zs) : HeldL w base (eRows zs) := HeldL.right (l := [_]) h
theorem EffsOwn.row1 (h : EffsOwn w base A c zs) {z : EffA} (hz : z ∈ zs) : w.ownsRow base 49 2 (.slice z.2.1.1 z.1.2.1.length z.2.1.2) z.1.2.1.length (entCells z.1.2.1) := h.1 (eRow1 z) (List.mem_cons_of_mem _ (eRow1_mem hz))
theorem EffsOwn.row2 (h : EffsOwn w base A c zs) {z : EffA} (hz : z ∈ zs) : w.ownsRow base 49 2 (.slice z.2.2.1 z.1.2.2.length z.2.2.2) z.1.2.2.length (entCells z.1.2.2) := h.1 (eRow2 z) (List.mem_cons_of_mem _ (eRow2_mem hz))
theorem own_lenM {E sz n d : Nat} {B : Option Addr} {xs : List Value} (h : w.ownsRow base E sz (.slice B n d) n xs) : n ≤ maxLen := by
  rcases own_elim h with rfl | ⟨g, cur, _, _, _, h1, h2, _⟩
  · exact Nat.zero_le _
  · omega
theorem EffsOwn.at_ (h : EffsOwn w base A c zs) : EffsAt w A zs :=
  ⟨cells_of_own h.outer, fun _ hz => ⟨own_lenM (h.row1 hz), own_lenM (h.row2 hz), ents_of_own (h.row1 hz), ents_of_own (h.row2 hz)⟩⟩
theorem EffsOwn.below (h : EffsOwn w base A c zs) (hb : Below w.heap.size w w') : EffsOwn w' base A c zs := HeldL.below h hb
theorem EffsOwn.weaken (h : EffsOwn w base A c zs) (hb : base' ≤ base) : EffsOwn w base' A c zs := HeldL.weaken h hb
theorem EffsOwn.effsLt (h : EffsOwn w base A c zs) : EffsLt A c zs w.heap.size := fun _ hr _ hk => (HeldL.lt h hr hk).2
theorem EffsOwn.only_lt {lo hi T : Nat} (h : EffsOwn w base A c zs) (ho : Only lo hi w w') (hl : EffsLt A c zs T) (hT : T ≤ lo) : EffsOwn w' base A c zs :=
  HeldL.only h ho (fun r hr k hk => Nat.lt_of_lt_of_le (hl r hr k hk) hT)
theorem EffsOwn.only_hi {lo hi : Nat} (h : EffsOwn w base A c zs) (ho : Only lo hi w w') (hb : hi ≤ base) : EffsOwn w' base A c zs := HeldL.only_hi h ho hb
theorem EffsOwn.alloc (h : EffsOwn w base A c zs) (o : Obj) : EffsOwn (w.alloc o) base A c zs := h.below ((Below.refl _ _).alloc (Nat.le_refl _) o)
end
theorem rowTy_own {w : World} {base : Nat} {r : Row} (h : rowOwn w base r) : w.ownsRow base r.1 r.2.1 (.slice r.2.2.1.1 r.2.2.1.2.1 r.2.2.1.2.2) r.2.2.1.2.1 r.2.2.2 := h
theorem EffsOwn.mk {w : World} {base : Nat} {A : Option Addr} {c n : Nat} {zs : List EffA} (hn : n = zs.length) (h : w.ownsRow base 53 3 (.slice A n c) n (effCells zs)) (hi : HeldL w base (eRows zs)) : EffsOwn w base A c zs := by
  subst hn
  refine ⟨fun r hr => ?_, List.pairwise_cons.2 ⟨fun r hr k hk => ?_, hi.2⟩⟩
  · rcases List.mem_cons.1 hr with rfl | hr
    · exact h
    · exact hi.1 r hr
  · have h2 := rowTy_own (hi.1 r hr)
    rw [eRow_ty hr] at h2
    exact own_neT h h2 effTy_ne k hk
theorem eInner_kept {w w' : World} {base base' n c : Nat} {A : Option Addr} {xs : List Value} {zs : List EffA} (hi : HeldL w base (eRows zs)) (ho : w.ownsRow base' 53 3 (.slice A n c) n xs) (hg : w.grownBy w' (Value.slice A n c).ownBlock) : HeldL w' base (eRows zs) := by
  refine ⟨fun r hr => ?_, hi.2⟩
  exact own_kept_type (rowTy_own (hi.1 r hr)) ho (by rw [eRow_ty hr]; exact fun e => effTy_ne e.symm) hg

/-- The two rows of a new effect. -/
theorem heldL_two {w : World} {S : Nat} {x : EffT} {A B : Option Addr} {c d : Nat} (h : Held w S (effR 49 (A, x.2.1.length, c) (B, x.2.2.length, d) (entCells x.2.1) (entCells x.2.2)) 2) :
    HeldL w S [eRow1 (x, (A, c), (B, d)), eRow2 (x, (A, c), (B, d))] := by
  refine ⟨fun r hr => ?_, List.pairwise_cons.2 ⟨fun r hr k hk => ?_, List.pairwise_singleton _ _⟩⟩
  · simp at hr
    rcases hr with rfl | rfl
    · exact held_fst h
    · exact held_snd h
  · rw [List.mem_singleton.1 hr]
    exact h.2 0 1 (by omega) (by omega) (by omega) k hk

theorem EffsOwn.push {w2 w3 : World} {base S : Nat} {A : Option Addr} {c : Nat} {ds : List EffA} {v3 : Value} {x : EffT} {A2 B2 : Option Addr} {c2 d2 : Nat} (h2 : EffsOwn w2 base A c ds) (o2 : Held w2 S (effR 49 (A2, x.2.1.length, c2) (B2, x.2.2.length, d2) (entCells x.2.1) (entCells x.2.2)) 2) (hlt : EffsLt A c ds S) (hS : base ≤ S)
    (ho3 : w3.ownsRow base 53 3 v3 (ds.length + 1) (effCells ds ++ [.bool x.1, .slice A2 x.2.1.length c2, .slice B2 x.2.2.length d2])) (hg : w2.grownBy w3 (Value.slice A ds.length c).ownBlock) :
    ∃ A3 c3, v3 = .slice A3 (ds ++ [((x, (A2, c2), (B2, d2)) : EffA)]).length c3 ∧ EffsOwn w3 base A3 c3 (ds ++ [((x, (A2, c2), (B2, d2)) : EffA)]) := by
  obtain ⟨A3, c3, rfl⟩ := own_form ho3
  have hin : HeldL w2 base (eRows (ds ++ [((x, (A2, c2), (B2, d2)) : EffA)])) := by
    rw [eRows_append]
    exact h2.inner.append (S := S) (heldL_two o2) (fun r hr => hlt r (List.mem_cons_of_mem _ hr)) hS
  refine ⟨A3, c3, by simp, EffsOwn.mk (n := ds.length + 1) (by simp) ?_ (eInner_kept hin h2.outer hg)⟩
  rw [effCells_append]
  exact ho3
theorem effsOwn_nil (w : World) (base : Nat) : EffsOwn w base none 0 [] := EffsOwn.mk (n := 0) rfl (World.ownsRow_nil _ _ _ _) (HeldL.nil _ _)
theorem info_EffectO : (Try.prog.info? 53).map (fun i => (i.zero, i.size, i.bytes)) = some (some (.agg #[.bool false, .slice none 0 0, .slice none 0 0]), 3, 56) := by kernel_rfl
theorem effRow_ty : RowType Try.prog 59 53 3 56 :=
  rowType_mk Try.underlying59 info_EffectO rfl (by decide) (by decide)

/-! ### Marks -/
def mkEnts (k : Int) (n : Nat) : List Ent := (List.range n).map fun (i : Nat) => (k + (i * 2 : Nat), k + (i * 2 + 1 : Nat))
theorem mkEnts_length (k : Int) (n : Nat) : (mkEnts k n).length = n := by simp [mkEnts]
theorem marks_mkEnts (k : Int) (n : Nat) : marks k (n * 2) = entCells (mkEnts k n) := by
  apply List.ext_getElem?
  intro i
  by_cases h : i < n * 2
  · rw [marks_at k _ i h]
    have h1 := entCells_at (mkEnts k n) (i / 2) (by rw [mkEnts_length]; omega)
    rcases Nat.mod_two_eq_zero_or_one i with e | e
    · have h2 := h1.1
      rw [show i / 2 * 2 = i by omega] at h2
      rw [h2]
      simp [mkEnts]; omega
    · have h2 := h1.2
      rw [show i / 2 * 2 + 1 = i by omega] at h2
      rw [h2]
      simp [mkEnts]; omega
  · rw [List.getElem?_eq_none (by rw [marks_length]; omega), List.getElem?_eq_none (by rw [entCells_length, mkEnts_length]; omega)]
def third (k : Int) : Bool := k % 3 == 0
def markE (k : Int) (z : EffA) : EffA := ((third k, mkEnts (k + 1) z.1.2.1.length, mkEnts (k + 1 + (z.1.2.1.length * 2 : Nat)) z.1.2.2.length), z.2)
def stepE (k : Int) (z : EffA) : Int := k + 1 + (z.1.2.1.length * 2 : Nat) + (z.1.2.2.length * 2 : Nat)
def markEs : Int → List EffA → List EffA
  | _, [] => []
  | k, z :: zs => markE k z :: markEs (stepE k z) zs
def endEs : Int → List EffA → Int
  | k, [] => k
  | k, z :: zs => endEs (stepE k z) zs
def totE (xs : List EffT) : Nat := (xs.map fun x => x.2.1.length + x.2.2.length).sum
theorem totE_cons (x : EffT) (xs : List EffT) : totE (x :: xs) = x.2.1.length + x.2.2.length + totE xs := by simp [totE]
theorem totE_small {xs : List EffT} (h : ∀ x ∈ xs, x.2.1.length ≤ 2 ∧ x.2.2.length ≤ 2) : totE xs ≤ 4 * xs.length := by
  induction xs with
  | nil => simp [totE]
  | cons x xs ih =>
    rw [totE_cons, List.length_cons]
    have h1 := h x (by simp)
    have h2 := ih (fun y hy => h y (by simp [hy]))
    omega
theorem effs_sm {zs : List EffA} {xs : List EffT} (h : effsT zs = xs) (h1 : xs.length ≤ 10) (h2 : ∀ x ∈ xs, x.2.1.length ≤ 2 ∧ x.2.2.length ≤ 2) : zs.length ≤ 10 ∧ (∀ z ∈ zs, z.1.2.1.length ≤ 16777216 ∧ z.1.2.2.length ≤ 16777216) ∧ totE (effsT zs) ≤ 40 := by
  subst h
  have h3 := totE_small h2
  refine ⟨by simpa using h1, fun z hz => ?_, by omega⟩
  have := h2 z.1 (List.mem_map_of_mem (f := (·.1)) hz)
  omega
theorem markEs_append : ∀ (a b : List EffA) (k : Int), markEs k (a ++ b) = markEs k a ++ markEs (endEs k a) b := by
  intro a
  induction a with
  | nil => intro b k; rfl
  | cons z a ih => intro b k; simp only [List.cons_append, markEs, endEs, ih]
theorem endEs_append : ∀ (a b : List EffA) (k : Int), endEs k (a ++ b) = endEs (endEs k a) b := by
  intro a
  induction a with
  | nil => intro b k; rfl
  | cons z a ih => intro b k; simp only [List.cons_append, endEs, ih]
theorem markEs_length : ∀ (a : List EffA) (k : Int), (markEs k a).length = a.length := by
  intro a
  induction a with
  | nil => intro k; rfl
  | cons z a ih => intro k; simp only [markEs, List.length_cons, ih]
theorem endEs_eq : ∀ (a : List EffA) (k : Int), endEs k a = k + a.length + (totE (effsT a) * 2 : Nat) := by
  intro a
  induction a with
  | nil => intro k; simp [endEs, totE]
  | cons z a ih =>
    intro k
    have e : totE (effsT (z :: a)) = z.1.2.1.length + z.1.2.2.length + totE (effsT a) := totE_cons _ _
    rw [endEs, ih, stepE, e, List.length_cons]
    omega
theorem endEs_bd {a b : List EffA} {k : Int} (_h0 : 0 ≤ k) : k ≤ endEs k a ∧ endEs k a ≤ endEs k (a ++ b) := by
  rw [endEs_append]
  have h1 := endEs_eq a k
  have h2 := endEs_eq b (endEs k a)
  exact ⟨by rw [h1]; omega, by rw [h2]; omega⟩

end Go.Proofs.Ytpomiglcplbdbaa
