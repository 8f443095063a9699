/- Contracts of an action's keys: reads, writes, ActionReads, ActionWrites in both packages. -/
import Derived.Test.YtpomiglcplbdbaaAct
import Derived.Test.YtpomiglcplbdbaaKeep
namespace Go.Proofs.Ytpomiglcplbdbaa
open Go.RowKit

def readsF (k f t : Int) : List Int := if k == 1 then [] else if k == 3 || k == 6 || f == t then [f] else [f, t]
def writesF (k f t : Int) : List Int := if k == 1 || k == 6 then [f] else if k == 3 || k == 5 || f == t then [t] else [min f t, max f t]
theorem readsF_length (k f t : Int) : (readsF k f t).length ≤ 2 := by
  unfold readsF; split
  · simp
  · split <;> simp
theorem writesF_length (k f t : Int) : (writesF k f t).length ≤ 2 := by
  unfold writesF; split
  · simp
  · split <;> simp

theorem own_lit {w : World} (base E sz n : Nat) (cs : Array Value) (hb : base ≤ w.heap.size) (hl : cs.size = n * sz) (hn : n ≤ maxLen) :
    (w.alloc (.cells cs E)).ownsRow base E sz (.slice (some ⟨w.heap.size, 0, none⟩) n n) n cs.toList :=
  own_of_row (RowIs.alloc cs E) hb (by simpa using hl) hn

theorem ownRes_one {w w1 : World} (E : Nat) (zs : List Int) (a : Int) (g : Nat) (hz : zs = [a]) (hb : Below w.heap.size w w1) (hg : w1.heap.size = g) :
    OwnRes E 1 (zs.map (Value.int .i64)) zs.length w (.returned (.slice (some ⟨g, 0, none⟩) 1 1)) (w1.alloc (.cells #[.int .i64 a] E)) := by
  subst hz hg
  exact ownRes_of (own_lit _ _ 1 1 #[.int .i64 a] hb.size rfl (by unfold maxLen; omega)) (hb.alloc hb.size _)
theorem ownRes_two {w w1 : World} (E : Nat) (zs : List Int) (a b : Int) (g : Nat) (hz : zs = [a, b]) (hb : Below w.heap.size w w1) (hg : w1.heap.size = g) :
    OwnRes E 1 (zs.map (Value.int .i64)) zs.length w (.returned (.slice (some ⟨g, 0, none⟩) 2 2)) (w1.alloc (.cells #[.int .i64 a, .int .i64 b] E)) := by
  subst hz hg
  exact ownRes_of (own_lit _ _ 1 2 #[.int .i64 a, .int .i64 b] hb.size rfl (by unfold maxLen; omega)) (hb.alloc hb.size _)
theorem ownRes_nil {w w1 : World} (E : Nat) (zs : List Int) (hz : zs = []) (hb : Below w.heap.size w w1) :
    OwnRes E 1 (zs.map (Value.int .i64)) zs.length w (.returned (.slice none 0 0)) w1 := by
  subst hz
  exact ownRes_of (World.ownsRow_nil _ _ _ _) hb
theorem ownRes_empty {w w1 : World} (E : Nat) (zs : List Int) (g : Nat) (hz : zs = []) (hb : Below w.heap.size w w1) (hg : w1.heap.size = g) :
    OwnRes E 1 (zs.map (Value.int .i64)) zs.length w (.returned (.slice (some ⟨g, 0, none⟩) 0 0)) (w1.alloc (.cells #[] E)) := by
  subst hz hg
  exact ownRes_of (own_empty _ _ _ _ hb.size) (hb.alloc hb.size _)

set_option maxRecDepth 100000 in
set_option maxHeartbeats 1000000 in
theorem reads_any (k f t m : Int) (w : World) :
    Calls Try.prog 77 #[.agg #[.int .i64 k, .int .i64 f, .int .i64 t, .int .i64 m]] w (OwnRes 3 1 ((readsF k f t).map (.int .i64)) (readsF k f t).length w) := by
  cases h1 : (k == 1) <;> cases h3 : (k == 3) <;> cases h6 : (k == 6) <;> cases hft : (f == t)
  all_goals
    have HF := Lib.hid (show readsF k f t = (if k == 1 then [] else if k == 3 || k == 6 || f == t then [f] else [f, t]) from rfl)
    rw [h1, h3, h6, hft] at HF
    go_enter Try.func77, Try.ntmps77
    go_wp2
    go_ret
    first
      | (refine ownRes_nil _ _ ?_ ?_; (exact HF.out); (go_grown))
      | (refine ownRes_one _ _ _ _ ?_ ?_ ?_; (first | exact HF.out | (rw [HF.out]; simp; omega)); (go_grown); try simp)
      | (refine ownRes_two _ _ _ _ _ ?_ ?_ ?_; (first | exact HF.out | (rw [HF.out]; simp; omega)); (go_grown); try simp)

set_option maxRecDepth 100000 in
set_option maxHeartbeats 2000000 in
theorem writes_any (k f t m : Int) (w : World) :
    Calls Try.prog 103 #[.agg #[.int .i64 k, .int .i64 f, .int .i64 t, .int .i64 m]] w (OwnRes 3 1 ((writesF k f t).map (.int .i64)) (writesF k f t).length w) := by
  cases h1 : (k == 1) <;> cases h3 : (k == 3) <;> cases h5 : (k == 5) <;> cases h6 : (k == 6) <;> cases hft : (f == t)
  all_goals
    have HF := Lib.hid (show writesF k f t = (if k == 1 || k == 6 then [f] else if k == 3 || k == 5 || f == t then [t] else [min f t, max f t]) from rfl)
    rw [h1, h3, h5, h6, hft] at HF
    go_enter Try.func103, Try.ntmps103
    go_wp2
    all_goals go_ret
    all_goals first
      | (refine ownRes_one _ _ _ _ ?_ ?_ ?_; (first | exact HF.out | (rw [HF.out]; simp; omega)); (go_grown); try simp)
      | (refine ownRes_two _ _ _ _ _ ?_ ?_ ?_; (first | exact HF.out | (rw [HF.out]; simp; omega)); (go_grown); try simp)

/-- The keys that a valid action reads; none for others. -/
def readsOf (z : ActT) : List Int := if actOk z.1 z.2.1 z.2.2.1 z.2.2.2 then readsF z.1 z.2.1 z.2.2.1 else []
def writesOf (z : ActT) : List Int := if actOk z.1 z.2.1 z.2.2.1 z.2.2.2 then writesF z.1 z.2.1 z.2.2.1 else []
theorem readsOf_length (z : ActT) : (readsOf z).length ≤ 2 := by
  unfold readsOf; split
  · exact readsF_length _ _ _
  · simp
theorem writesOf_length (z : ActT) : (writesOf z).length ≤ 2 := by
  unfold writesOf; split
  · exact writesF_length _ _ _
  · simp

theorem ownRes_later {w w1 w2 : World} {E sz n : Nat} {cells : List Value} {e : Ending} (hb : Below w.heap.size w w1) (h : OwnRes E sz cells n w1 e w2) : OwnRes E sz cells n w e w2 := by
  obtain ⟨A, c, he, ho, hb2⟩ := h
  refine ⟨A, c, he, ?_, hb.trans (hb2.mono hb.size)⟩
  refine ⟨ho.1, ?_⟩
  rcases ho.2 with h2 | ⟨g, cap, cur, h1, h2, h3⟩
  · exact .inl h2
  · exact .inr ⟨g, cap, cur, h1, Nat.le_trans hb.size h2, h3⟩

set_option maxRecDepth 100000 in
set_option maxHeartbeats 1000000 in
theorem ActionReads_any (z : ActT) (w : World) :
    Calls Try.prog 33 #[.agg #[.int .i64 z.1, .int .i64 z.2.1, .int .i64 z.2.2.1, .int .i64 z.2.2.2]] w (OwnRes 3 1 ((readsOf z).map (.int .i64)) (readsOf z).length w) := by
  have HF := Lib.hid (show readsOf z = (if actOk z.1 z.2.1 z.2.2.1 z.2.2.2 then readsF z.1 z.2.1 z.2.2.1 else []) from rfl)
  have hb0 : Below w.heap.size w (w.alloc (.cells #[.int .i64 z.1, .int .i64 z.2.1, .int .i64 z.2.2.1, .int .i64 z.2.2.2] 44)) := (Below.refl _ _).alloc (Nat.le_refl _) _
  go_enter Try.func33, Try.ntmps33
  go_wp2_with fail
  refine (ActionValid_any _ _ _ _ _).mono ?_
  rintro e w1 ⟨rfl, hb1⟩
  have hc1 := bcell hb1
  have hB1 := hb0.trans (hb1.mono hb0.size)
  have hz1 : w.heap.size < w1.heap.size := by have := hb1.size; simp at this; omega
  cases h1 : actOk z.1 z.2.1 z.2.2.1 z.2.2.2
  · rw [h1] at HF
    go_wp2
    go_ret
    exact ownRes_nil _ _ HF.out hB1
  · rw [h1] at HF
    go_wp2_with fail
    refine (reads_any _ _ _ _ _).mono ?_
    rintro e w2 hres
    obtain ⟨A, c, rfl, ho, hb2⟩ := ownRes_later hB1 hres
    go_wp2
    go_ret
    rw [HF.out]
    exact ⟨A, c, rfl, ho, hb2⟩


set_option maxRecDepth 100000 in
set_option maxHeartbeats 2000000 in
theorem specActionReads_any (z : ActT) (w : World) :
    Calls Try.prog 34 #[.agg #[.int .i64 z.1, .int .i64 z.2.1, .int .i64 z.2.2.1, .int .i64 z.2.2.2]] w (OwnRes 3 1 ((readsOf z).map (.int .i64)) (readsOf z).length w) := by
  have HF := Lib.hid (show readsOf z = (if actOk z.1 z.2.1 z.2.2.1 z.2.2.2 then (if z.1 == 1 then [] else if z.1 == 3 || z.1 == 6 || z.2.1 == z.2.2.1 then [z.2.1] else [z.2.1, z.2.2.1]) else []) from rfl)
  have hb0 : Below w.heap.size w (w.alloc (.cells #[.int .i64 z.1, .int .i64 z.2.1, .int .i64 z.2.2.1, .int .i64 z.2.2.2] 44)) := (Below.refl _ _).alloc (Nat.le_refl _) _
  go_enter Try.func34, Try.ntmps34
  go_wp2_with fail
  refine (specActionValid_any _ _ _ _ _).mono ?_
  rintro e w1 ⟨rfl, hb1⟩
  have hc1 := bcell hb1
  have hB1 := hb0.trans (hb1.mono hb0.size)
  have hz1 : w.heap.size < w1.heap.size := by have := hb1.size; simp at this; omega
  cases h0 : actOk z.1 z.2.1 z.2.2.1 z.2.2.2
  · rw [h0] at HF
    go_wp2
    go_ret
    exact ownRes_empty _ _ _ HF.out hB1 rfl
  · cases h1 : (z.1 == 1) <;> cases h3 : (z.1 == 3) <;> cases h6 : (z.1 == 6) <;> cases hft : (z.2.1 == z.2.2.1)
    all_goals
      rw [h0, h1, h3, h6, hft] at HF
      go_wp2
      go_ret
      first
        | (refine ownRes_empty _ _ _ ?_ hB1 ?_; (exact HF.out); try rfl)
        | (refine ownRes_one _ _ _ _ ?_ hB1 ?_; (exact HF.out); try rfl)
        | (refine ownRes_two _ _ _ _ _ ?_ hB1 ?_; (exact HF.out); try rfl)


end Go.Proofs.Ytpomiglcplbdbaa
