/- For FnRunSerial: runs of parts of a list of actions. -/
import Derived.Test.YtmnmcjnnlfkknaaQSameL
import Derived.Test.YtmnmcjnnlfkknaaQSer2
import Derived.Test.YtmnmcjnnlfkknaaQWordsA
import Derived.Test.YtmnmcjnnlfkknaaQLawSer
namespace Go.Proofs.Ytmnmcjnnlfkknaa
open Go.RowKit

theorem effCells_one (zs : List EffA) : ∀ u ∈ effCells zs, u.oneCell' = true := by
  intro u hu
  obtain ⟨z, _, hz⟩ := List.mem_flatMap.1 hu
  simp [effC] at hz
  rcases hz with rfl | rfl | rfl <;> rfl
theorem actCells_drop (zs : List ActT) : ∀ k, (actCells (zs.drop k)) = (actCells zs).drop (k * 4) := by
  induction zs with
  | nil => intro k; simp [actCells]
  | cons z zs ih =>
    intro k
    cases k with
    | zero => simp
    | succ k =>
      rw [List.drop_succ_cons, ih k, show actCells (z :: zs) = .int .i64 z.1 :: .int .i64 z.2.1 :: .int .i64 z.2.2.1 :: .int .i64 z.2.2.2 :: actCells zs from rfl, show (k + 1) * 4 = k * 4 + 1 + 1 + 1 + 1 from by omega, List.drop_succ_cons, List.drop_succ_cons, List.drop_succ_cons, List.drop_succ_cons]
theorem acts_dropN {w : World} {zs : List ActT} (h : ActsAt w none zs) (k : Nat) : ActsAt w none (zs.drop k) := by
  rcases h with h1 | ⟨b, o, hA, _⟩
  · exact .inl (by rw [actCells_drop, h1]; simp)
  · cases hA
theorem acts_dropS {w : World} {g : Nat} {zs : List ActT} (h : ActsAt w (some ⟨g, 0, none⟩) zs) (k : Nat) : ActsAt w (some ⟨g, k * 4, none⟩) (zs.drop k) := by
  rcases h with h1 | ⟨b, o', hA, hc⟩
  · exact .inl (by rw [actCells_drop, h1]; simp)
  · injection hA with hA
    injection hA with h2 h3
    subst h2 h3
    refine .inr ⟨g, k * 4, rfl, fun j u hu => ?_⟩
    rw [actCells_drop, List.getElem?_drop] at hu
    have := hc _ u hu
    rwa [show 0 + (k * 4 + j) = k * 4 + j from by omega] at this
theorem acts_drop0 {w : World} {A : Option Addr} {zs : List ActT} {k : Nat} (h : zs.length ≤ k) : ActsAt w A (zs.drop k) := .inl (by rw [List.drop_of_length_le h]; rfl)
theorem own_head2 {w : World} {base E sz n c : Nat} {A : Option Addr} {xs : List Value} (h : w.ownsRow base E sz (.slice A n c) n xs) : A = none ∨ ∃ g, A = some ⟨g, 0, none⟩ := by
  rcases h.2 with ⟨h, _⟩ | ⟨g, cap, cur, h, _⟩
  · injection h with h1; exact .inl h1
  · injection h with h1; exact .inr ⟨g, h1⟩
theorem effs_join {w w2 : World} {base d n : Nat} {A B C : Option Addr} {xs ys : List EffA} (ho : w2.ownsRow base 57 3 (.slice A n d) n (effCells xs ++ effCells ys)) (h1 : EffsAt w B xs) (h2 : EffsAt w C ys) (hb : Below w.heap.size w w2) : EffsAt w2 A (xs ++ ys) := by
  refine ⟨by rw [effCells_append]; exact cells_of_own ho, fun z hz => ?_⟩
  rcases List.mem_append.1 hz with hz | hz
  · exact (h1.2 z hz).below hb
  · exact (h2.2 z hz).below hb
theorem effsT_app (a b : List EffA) : effsT (a ++ b) = effsT a ++ effsT b := by simp [effsT]
theorem RunSerial_at (A : Option Addr) (c : Nat) (es : List Ent) (B : Option Addr) (d n : Nat) (acts : List ActT) (w : World) (hs : EntsAt w A es) (hn : es.length ≤ 4294967296) (ha : ActsAt w B acts) (hl : n = acts.length) (hm : acts.length ≤ 4294967296) :
    Calls Try.prog 38 #[.slice A es.length c, .slice B n d] w (SerRes2 (serSt es acts) (serEf es acts) w) := by
  subst hl
  exact RunSerial_any A c es B d acts w hs hn ha hm
theorem sameEffects_at (A B : Option Addr) (c d n : Nat) (xs ys : List EffA) (w : World) (hx : EffsAt w A xs) (hy : EffsAt w B ys) (he : effsT xs = effsT ys) (hl0 : n = xs.length) (hn : xs.length ≤ 4294967296)
    (hl : ∀ z ∈ xs, z.1.2.1.length ≤ 4294967296 ∧ z.1.2.2.length ≤ 4294967296) :
    Calls Try.prog 40 #[.slice A n c, .slice B ys.length d] w fun e w' => e = .returned (.bool true) ∧ Below w.heap.size w w' := by
  subst hl0
  exact sameEffects_same A B c d xs ys w hx hy he hn hl

end Go.Proofs.Ytmnmcjnnlfkknaa
