/- What FnSumMore draws: a sum and a number. -/
import Derived.Test.YtjopbffjemhgdaaQDraw
import Derived.Test.YtjopbffjemhgdaaQDraw4
import Derived.Test.YtjopbffjemhgdaaQInv
import Derived.IntWalk
namespace Go.Proofs.Ytjopbffjemhgdaa
open Go.RowKit
attribute [local go_sem ↓] Go.wp_at_zero Go.wp_at_succ

def PtrR (R : Nat) (v : Value) : Prop := v = .pointer (some ⟨R, 0, none⟩)
def IntIn (lo hi : Int) (v : Value) : Prop := ∃ x : Int, v = .int .i64 x ∧ lo ≤ x ∧ x ≤ hi
def LstIn (R n : Nat) (lo hi : Int) (v : Value) (w : World) : Prop := ∃ (g : Nat) (l : List Int), v = .slice (some ⟨g, 0, none⟩) n n ∧ l.length = n ∧ R < g ∧ RowIs w g 3 (l.map (Value.int .i64)) ∧ ∀ x ∈ l, lo ≤ x ∧ x ≤ hi
def AtIn (R : Nat) (lo hi : Int) (v : Value) (w : World) : Prop := ∃ (g k : Nat) (x : Int), v = .pointer (some ⟨g, k, none⟩) ∧ R < g ∧ g < w.heap.size ∧ w.cell? ⟨g, k, none⟩ = some (.int .i64 x) ∧ lo ≤ x ∧ x ≤ hi
theorem LstIn.gr {R n : Nat} {lo hi : Int} {v : Value} {w w' : World} (hg : Gr R w w') (h : LstIn R n lo hi v w) : LstIn R n lo hi v w' := by
  obtain ⟨g, l, h1, h2, h3, h4, h5⟩ := h
  exact ⟨g, l, h1, h2, h3, h4.gr hg (by omega), h5⟩
theorem AtIn.gr {R : Nat} {lo hi : Int} {v : Value} {w w' : World} (hg : Gr R w w') (h : AtIn R lo hi v w) : AtIn R lo hi v w' := by
  obtain ⟨g, k, x, h1, h2, h3, h4, h5⟩ := h
  exact ⟨g, k, x, h1, h2, Nat.lt_of_lt_of_le h3 hg.size, (gr_cell hg g k h2 h3).trans h4, h5⟩
theorem LstIn.at_ {R n : Nat} {lo hi : Int} {v : Value} {w : World} (h : LstIn R n lo hi v w) (x : Int) (h0 : 0 ≤ x) (h1 : x < n) : ∃ g, v = .slice (some ⟨g, 0, none⟩) n n ∧ AtIn R lo hi (.pointer (some ⟨g, x.toNat, none⟩)) w := by
  obtain ⟨g, l, e1, e2, e3, e4, e5⟩ := h
  have hx : x < l.length := by omega
  refine ⟨g, e1, g, x.toNat, nth l x, rfl, e3, e4.lt, cells_nth e4 h0 hx, ?_⟩
  have := nth_bd (l := l) (lo := lo) (hi := hi) e5 h0 hx
  exact this
theorem LstIn.new {R : Nat} {lo hi : Int} {w : World} (l : List Int) (hR : R < w.heap.size) (h : ∀ x ∈ l, lo ≤ x ∧ x ≤ hi) : LstIn R l.length lo hi (.slice (some ⟨w.heap.size, 0, none⟩) l.length l.length) (w.alloc (.cells (l.map (Value.int .i64)).toArray 3)) := by
  refine ⟨w.heap.size, l, rfl, rfl, hR, ?_, h⟩
  have := RowIs.alloc (w := w) (l.map (Value.int .i64)).toArray 3
  simpa using this
theorem noDst {ops : Array Oper} (d : Tmp) (h : ops.toList.all (fun o => o.dst != some d) = true) : ∀ i, dstOf ops i ≠ some d := by
  intro i hi
  unfold dstOf at hi
  cases ho : ops[i]? with
  | none => rw [ho] at hi; cases hi
  | some o =>
    rw [ho] at hi
    have hm : o ∈ ops.toList := List.mem_of_getElem? (by rw [← ho, Array.getElem?_toList])
    have := List.all_eq_true.1 h o hm
    simp at this
    exact this hi
def FSum (R : Nat) (j : Nat) (v : Value) (w : World) : Prop :=
  match j with
  | 0 => PtrR R v
  | 1 => IntIn (0) 255 v
  | 2 => IntIn (0) 994500 v
  | 3 => LstIn R 4 (-1) 1000003 v w
  | 4 => LstIn R 6 (0) 3 v w
  | 5 => PtrR R v
  | 6 => IntIn (0) 5 v
  | 7 => AtIn R (0) 3 v w
  | 8 => IntIn (0) 3 v
  | 9 => AtIn R (-1) 1000003 v w
  | 10 => IntIn (-1) 1000003 v
  | 11 => PtrR R v
  | 12 => IntIn (0) 255 v
  | 13 => LstIn R 4 (-1) 2000001 v w
  | 14 => LstIn R 6 (0) 3 v w
  | 15 => PtrR R v
  | 16 => IntIn (0) 5 v
  | 17 => AtIn R (0) 3 v w
  | 18 => IntIn (0) 3 v
  | 19 => AtIn R (-1) 2000001 v w
  | 20 => IntIn (-1) 2000001 v
  | 21 => IntIn (-1) 1000003 v
  | 22 => IntIn (-1) 2000001 v
  | _ => True
theorem FSum_mono (R j : Nat) (v : Value) (w w' : World) (hg : Gr R w w') (h : FSum R j v w) : FSum R j v w' := by
  unfold FSum at h ⊢
  split at h <;> first | exact h | exact LstIn.gr hg h | exact AtIn.gr hg h
def GSum (R : Nat) (w0 : World) (m : Nat) (w : World) : Prop := (∃ k, RdAt w R k ∧ k + m ≤ 100) ∧ Gr R w0 w
theorem GSum.less {R m : Nat} {w0 w : World} (h : GSum R w0 (m + 1) w) : GSum R w0 m w := by
  obtain ⟨⟨k, h1, h2⟩, h3⟩ := h
  exact ⟨⟨k, h1, by omega⟩, h3⟩
theorem act28 (t : Nat → Value) : actT 28 [] t = { tmps := #[t 0, t 1, t 2, t 3, t 4, t 5, t 6, t 7, t 8, t 9, t 10, t 11, t 12, t 13, t 14, t 15, t 16, t 17, t 18, t 19, t 20, t 21, t 22, t 23, t 24, t 25, t 26, t 27], defers := [] } := rfl

/-- A drawn sum and a number. -/
def DrawSN (w : World) (e : Ending) (w' : World) : Prop :=
  ∃ m n : Int, e = .returned (.tuple #[.int .i64 m, .int .i64 n]) ∧ -1 ≤ m ∧ m ≤ 1000003 ∧ -1 ≤ n ∧ n ≤ 2000001 ∧ Below w.heap.size w w'

set_option maxRecDepth 100000 in
set_option maxHeartbeats 8000000 in
theorem DrawSumMore_any (A : Option Addr) (c : Nat) (bs : List Int) (w : World) (hb : BytesAt w A bs) (hn : bs.length ≤ c) (hc : c ≤ maxLen) :
    Calls Try.prog 4 #[.slice A bs.length c] w (DrawSN w) := by
  go_enter Try.func4, Try.ntmps4
  go_wp2_with fail
  refine (l20Open_any _ _ _ _ hb hn hc).mono ?_
  rintro e w1 ⟨R, rfl, hr, hR, hb1⟩
  have hlt1 := hr.lt
  have HB1 := Lib.hid hb1
  clear hb hb1
  go_wp2
  obtain ⟨arr, harr⟩ : ∃ arr : Array Value, arr = #[.slice A bs.length c, undef, .int .i64 0, .int .i64 0, .pointer (some ⟨R, 0, none⟩), .slice A bs.length c, .pointer (some ⟨R, 0, none⟩)] := ⟨_, rfl⟩

  refine wp_region_inv 28 [] (fun i => arr.getD i undef) (FSum R) (GSum R w1) (Gr R) (by subst harr; rfl) (by kernel_rfl) (by kernel_rfl) ⟨⟨0, hr.drew, by decide⟩, (Gr.refl _ _).drew⟩ (fun j v w w' => FSum_mono R j v w w') ⟨?s0, ?s1, ?s2, ?s3, ?s4, ?s5, ?s6, ?s7, ?s8, ?s9, ?s10, ?s11, ?s12, ?s13, ?s14, ?s15, ?s16, ?s17, ?s18, ?s19, ?s20, ?s21, ?s22, trivial⟩ ?hend
  case s0 =>
    intro m t w hG ht0 hdep K hK
    rw [act28] at hK ⊢
    simp only [Act.put, List.setIfInBounds_toArray, List.set_cons_zero, List.set_cons_succ] at hK
    have e4 : t 4 = .pointer (some ⟨R, 0, none⟩) := by rw [ht0 4 (noDst 4 (by kernel_rfl)), harr]; rfl
    simp only [e4] at hK ⊢
    go_simp
    exact hK _ _ rfl hG.less (Gr.refl _ _)
  case s1 =>
    intro m t w hG ht0 hdep K hK
    rw [act28] at hK ⊢
    simp only [Act.put, List.setIfInBounds_toArray, List.set_cons_zero, List.set_cons_succ] at hK
    obtain ⟨v0, f0, e0⟩ := hdep ⟨0, .data⟩ (by simp) rfl
    have e0 := e0 7 rfl
    have f0 : v0 = .pointer (some ⟨R, 0, none⟩) := f0
    rw [f0] at e0
    simp only [e0] at hK ⊢
    obtain ⟨⟨k, hr, hk⟩, hg⟩ := hG
    go_simp
    go_at_call 11
    refine (pick_any 256 R k _ hr (by omega) (by omega)).mono ?_
    rintro e w2 ⟨x, rfl, hx0, hx1, _, hr2, hg2⟩
    have hx1 := hx1 (by omega)
    go_simp
    exact hK _ _ ⟨x, rfl, hx0, by omega⟩ ⟨⟨k + 1, hr2, by omega⟩, hg.trans hg2⟩ hg2
  case s2 =>
    intro m t w hG ht0 hdep K hK
    rw [act28] at hK ⊢
    simp only [Act.put, List.setIfInBounds_toArray, List.set_cons_zero, List.set_cons_succ] at hK
    obtain ⟨v1, f1, e1⟩ := hdep ⟨1, .data⟩ (by simp) rfl
    have e1 := e1 8 rfl
    obtain ⟨x, rfl, hx0, hx1⟩ := f1
    simp only [e1] at hK ⊢
    have hw : IntKind.i64.wrap (x * 3900) = x * 3900 := IntWalk.i64_in _ (by omega)
    go_simp
    exact hK _ _ ⟨x * 3900, by simp, by omega, by omega⟩ hG.less (Gr.refl _ _)
  case s3 =>
    intro m t w hG ht0 hdep K hK
    rw [act28] at hK ⊢
    simp only [Act.put, List.setIfInBounds_toArray, List.set_cons_zero, List.set_cons_succ] at hK
    obtain ⟨v2, f2, e2⟩ := hdep ⟨2, .data⟩ (by simp) rfl
    have e2 := e2 9 rfl
    obtain ⟨x, rfl, hx0, hx1⟩ := f2
    simp only [e2] at hK ⊢
    obtain ⟨⟨k, hr, hk⟩, hg⟩ := hG
    have hlt := hr.lt
    have hg2 := (Gr.refl R w).alloc (.cells #[.int .i64 x, .int .i64 1000002, .int .i64 1000003, .int .i64 (-1)] 3)
    have hF : LstIn R 4 (-1) 1000003 (.slice (some ⟨w.heap.size, 0, none⟩) 4 4) (w.alloc (.cells #[.int .i64 x, .int .i64 1000002, .int .i64 1000003, .int .i64 (-1)] 3)) := LstIn.new [x, 1000002, 1000003, (-1)] hlt (by simp; try omega)
    go_simp
    exact hK _ _ hF ⟨⟨k, hr.alloc_ _, by omega⟩, hg.trans hg2⟩ hg2
  case s4 =>
    intro m t w hG ht0 hdep K hK
    rw [act28] at hK ⊢
    simp only [Act.put, List.setIfInBounds_toArray, List.set_cons_zero, List.set_cons_succ] at hK
    obtain ⟨⟨k, hr, hk⟩, hg⟩ := hG
    have hlt := hr.lt
    have hg2 := (Gr.refl R w).alloc (.cells #[.int .i64 0, .int .i64 0, .int .i64 0, .int .i64 1, .int .i64 2, .int .i64 3] 3)
    have hF : LstIn R 6 (0) 3 (.slice (some ⟨w.heap.size, 0, none⟩) 6 6) (w.alloc (.cells #[.int .i64 0, .int .i64 0, .int .i64 0, .int .i64 1, .int .i64 2, .int .i64 3] 3)) := LstIn.new [0, 0, 0, 1, 2, 3] hlt (by simp; try omega)
    go_simp
    exact hK _ _ hF ⟨⟨k, hr.alloc_ _, by omega⟩, hg.trans hg2⟩ hg2
  case s5 =>
    intro m t w hG ht0 hdep K hK
    rw [act28] at hK ⊢
    simp only [Act.put, List.setIfInBounds_toArray, List.set_cons_zero, List.set_cons_succ] at hK
    have e4 : t 4 = .pointer (some ⟨R, 0, none⟩) := by rw [ht0 4 (noDst 4 (by kernel_rfl)), harr]; rfl
    simp only [e4] at hK ⊢
    go_simp
    exact hK _ _ rfl hG.less (Gr.refl _ _)
  case s6 =>
    intro m t w hG ht0 hdep K hK
    rw [act28] at hK ⊢
    simp only [Act.put, List.setIfInBounds_toArray, List.set_cons_zero, List.set_cons_succ] at hK
    obtain ⟨v5, f5, e5⟩ := hdep ⟨5, .data⟩ (by simp) rfl
    have e5 := e5 12 rfl
    have f5 : v5 = .pointer (some ⟨R, 0, none⟩) := f5
    rw [f5] at e5
    simp only [e5] at hK ⊢
    obtain ⟨⟨k, hr, hk⟩, hg⟩ := hG
    go_simp
    go_at_call 11
    refine (pick_any 6 R k _ hr (by omega) (by omega)).mono ?_
    rintro e w2 ⟨x, rfl, hx0, hx1, _, hr2, hg2⟩
    have hx1 := hx1 (by omega)
    go_simp
    exact hK _ _ ⟨x, rfl, hx0, by omega⟩ ⟨⟨k + 1, hr2, by omega⟩, hg.trans hg2⟩ hg2
  case s7 =>
    intro m t w hG ht0 hdep K hK
    rw [act28] at hK ⊢
    simp only [Act.put, List.setIfInBounds_toArray, List.set_cons_zero, List.set_cons_succ] at hK
    obtain ⟨v4, f4, e4⟩ := hdep ⟨4, .data⟩ (by simp) rfl
    have e4 := e4 11 rfl
    obtain ⟨v6, f6, e6⟩ := hdep ⟨6, .data⟩ (by simp) rfl
    have e6 := e6 13 rfl
    obtain ⟨x, rfl, hx0, hx1⟩ := f6
    obtain ⟨g, rfl, hF⟩ := LstIn.at_ f4 x hx0 (by omega)
    simp only [e4, e6] at hK ⊢
    have hx2 : x < 6 := by omega
    go_simp
    exact hK _ _ hF hG.less (Gr.refl _ _)
  case s8 =>
    intro m t w hG ht0 hdep K hK
    rw [act28] at hK ⊢
    simp only [Act.put, List.setIfInBounds_toArray, List.set_cons_zero, List.set_cons_succ] at hK
    obtain ⟨v7, f7, e7⟩ := hdep ⟨7, .data⟩ (by simp) rfl
    have e7 := e7 14 rfl
    obtain ⟨g, q, x, rfl, hgR, hgl, hcell, hx0, hx1⟩ := f7
    simp only [e7] at hK ⊢
    go_simp
    exact hK _ _ ⟨x, rfl, hx0, hx1⟩ hG.less (Gr.refl _ _)
  case s9 =>
    intro m t w hG ht0 hdep K hK
    rw [act28] at hK ⊢
    simp only [Act.put, List.setIfInBounds_toArray, List.set_cons_zero, List.set_cons_succ] at hK
    obtain ⟨v3, f3, e3⟩ := hdep ⟨3, .data⟩ (by simp) rfl
    have e3 := e3 10 rfl
    obtain ⟨v8, f8, e8⟩ := hdep ⟨8, .data⟩ (by simp) rfl
    have e8 := e8 15 rfl
    obtain ⟨x, rfl, hx0, hx1⟩ := f8
    obtain ⟨g, rfl, hF⟩ := LstIn.at_ f3 x hx0 (by omega)
    simp only [e3, e8] at hK ⊢
    have hx2 : x < 4 := by omega
    go_simp
    exact hK _ _ hF hG.less (Gr.refl _ _)
  case s10 =>
    intro m t w hG ht0 hdep K hK
    rw [act28] at hK ⊢
    simp only [Act.put, List.setIfInBounds_toArray, List.set_cons_zero, List.set_cons_succ] at hK
    obtain ⟨v9, f9, e9⟩ := hdep ⟨9, .data⟩ (by simp) rfl
    have e9 := e9 16 rfl
    obtain ⟨g, q, x, rfl, hgR, hgl, hcell, hx0, hx1⟩ := f9
    simp only [e9] at hK ⊢
    go_simp
    exact hK _ _ ⟨x, rfl, hx0, hx1⟩ hG.less (Gr.refl _ _)
  case s11 =>
    intro m t w hG ht0 hdep K hK
    rw [act28] at hK ⊢
    simp only [Act.put, List.setIfInBounds_toArray, List.set_cons_zero, List.set_cons_succ] at hK
    have e4 : t 4 = .pointer (some ⟨R, 0, none⟩) := by rw [ht0 4 (noDst 4 (by kernel_rfl)), harr]; rfl
    simp only [e4] at hK ⊢
    go_simp
    exact hK _ _ rfl hG.less (Gr.refl _ _)
  case s12 =>
    intro m t w hG ht0 hdep K hK
    rw [act28] at hK ⊢
    simp only [Act.put, List.setIfInBounds_toArray, List.set_cons_zero, List.set_cons_succ] at hK
    obtain ⟨v11, f11, e11⟩ := hdep ⟨11, .data⟩ (by simp) rfl
    have e11 := e11 18 rfl
    have f11 : v11 = .pointer (some ⟨R, 0, none⟩) := f11
    rw [f11] at e11
    simp only [e11] at hK ⊢
    obtain ⟨⟨k, hr, hk⟩, hg⟩ := hG
    go_simp
    go_at_call 11
    refine (pick_any 256 R k _ hr (by omega) (by omega)).mono ?_
    rintro e w2 ⟨x, rfl, hx0, hx1, _, hr2, hg2⟩
    have hx1 := hx1 (by omega)
    go_simp
    exact hK _ _ ⟨x, rfl, hx0, by omega⟩ ⟨⟨k + 1, hr2, by omega⟩, hg.trans hg2⟩ hg2
  case s13 =>
    intro m t w hG ht0 hdep K hK
    rw [act28] at hK ⊢
    simp only [Act.put, List.setIfInBounds_toArray, List.set_cons_zero, List.set_cons_succ] at hK
    obtain ⟨v12, f12, e12⟩ := hdep ⟨12, .data⟩ (by simp) rfl
    have e12 := e12 19 rfl
    obtain ⟨x, rfl, hx0, hx1⟩ := f12
    simp only [e12] at hK ⊢
    obtain ⟨⟨k, hr, hk⟩, hg⟩ := hG
    have hlt := hr.lt
    have hg2 := (Gr.refl R w).alloc (.cells #[.int .i64 x, .int .i64 2000000, .int .i64 2000001, .int .i64 (-1)] 3)
    have hF : LstIn R 4 (-1) 2000001 (.slice (some ⟨w.heap.size, 0, none⟩) 4 4) (w.alloc (.cells #[.int .i64 x, .int .i64 2000000, .int .i64 2000001, .int .i64 (-1)] 3)) := LstIn.new [x, 2000000, 2000001, (-1)] hlt (by simp; try omega)
    go_simp
    exact hK _ _ hF ⟨⟨k, hr.alloc_ _, by omega⟩, hg.trans hg2⟩ hg2
  case s14 =>
    intro m t w hG ht0 hdep K hK
    rw [act28] at hK ⊢
    simp only [Act.put, List.setIfInBounds_toArray, List.set_cons_zero, List.set_cons_succ] at hK
    obtain ⟨⟨k, hr, hk⟩, hg⟩ := hG
    have hlt := hr.lt
    have hg2 := (Gr.refl R w).alloc (.cells #[.int .i64 0, .int .i64 0, .int .i64 0, .int .i64 1, .int .i64 2, .int .i64 3] 3)
    have hF : LstIn R 6 (0) 3 (.slice (some ⟨w.heap.size, 0, none⟩) 6 6) (w.alloc (.cells #[.int .i64 0, .int .i64 0, .int .i64 0, .int .i64 1, .int .i64 2, .int .i64 3] 3)) := LstIn.new [0, 0, 0, 1, 2, 3] hlt (by simp; try omega)
    go_simp
    exact hK _ _ hF ⟨⟨k, hr.alloc_ _, by omega⟩, hg.trans hg2⟩ hg2
  case s15 =>
    intro m t w hG ht0 hdep K hK
    rw [act28] at hK ⊢
    simp only [Act.put, List.setIfInBounds_toArray, List.set_cons_zero, List.set_cons_succ] at hK
    have e4 : t 4 = .pointer (some ⟨R, 0, none⟩) := by rw [ht0 4 (noDst 4 (by kernel_rfl)), harr]; rfl
    simp only [e4] at hK ⊢
    go_simp
    exact hK _ _ rfl hG.less (Gr.refl _ _)
  case s16 =>
    intro m t w hG ht0 hdep K hK
    rw [act28] at hK ⊢
    simp only [Act.put, List.setIfInBounds_toArray, List.set_cons_zero, List.set_cons_succ] at hK
    obtain ⟨v15, f15, e15⟩ := hdep ⟨15, .data⟩ (by simp) rfl
    have e15 := e15 22 rfl
    have f15 : v15 = .pointer (some ⟨R, 0, none⟩) := f15
    rw [f15] at e15
    simp only [e15] at hK ⊢
    obtain ⟨⟨k, hr, hk⟩, hg⟩ := hG
    go_simp
    go_at_call 11
    refine (pick_any 6 R k _ hr (by omega) (by omega)).mono ?_
    rintro e w2 ⟨x, rfl, hx0, hx1, _, hr2, hg2⟩
    have hx1 := hx1 (by omega)
    go_simp
    exact hK _ _ ⟨x, rfl, hx0, by omega⟩ ⟨⟨k + 1, hr2, by omega⟩, hg.trans hg2⟩ hg2
  case s17 =>
    intro m t w hG ht0 hdep K hK
    rw [act28] at hK ⊢
    simp only [Act.put, List.setIfInBounds_toArray, List.set_cons_zero, List.set_cons_succ] at hK
    obtain ⟨v14, f14, e14⟩ := hdep ⟨14, .data⟩ (by simp) rfl
    have e14 := e14 21 rfl
    obtain ⟨v16, f16, e16⟩ := hdep ⟨16, .data⟩ (by simp) rfl
    have e16 := e16 23 rfl
    obtain ⟨x, rfl, hx0, hx1⟩ := f16
    obtain ⟨g, rfl, hF⟩ := LstIn.at_ f14 x hx0 (by omega)
    simp only [e14, e16] at hK ⊢
    have hx2 : x < 6 := by omega
    go_simp
    exact hK _ _ hF hG.less (Gr.refl _ _)
  case s18 =>
    intro m t w hG ht0 hdep K hK
    rw [act28] at hK ⊢
    simp only [Act.put, List.setIfInBounds_toArray, List.set_cons_zero, List.set_cons_succ] at hK
    obtain ⟨v17, f17, e17⟩ := hdep ⟨17, .data⟩ (by simp) rfl
    have e17 := e17 24 rfl
    obtain ⟨g, q, x, rfl, hgR, hgl, hcell, hx0, hx1⟩ := f17
    simp only [e17] at hK ⊢
    go_simp
    exact hK _ _ ⟨x, rfl, hx0, hx1⟩ hG.less (Gr.refl _ _)
  case s19 =>
    intro m t w hG ht0 hdep K hK
    rw [act28] at hK ⊢
    simp only [Act.put, List.setIfInBounds_toArray, List.set_cons_zero, List.set_cons_succ] at hK
    obtain ⟨v13, f13, e13⟩ := hdep ⟨13, .data⟩ (by simp) rfl
    have e13 := e13 20 rfl
    obtain ⟨v18, f18, e18⟩ := hdep ⟨18, .data⟩ (by simp) rfl
    have e18 := e18 25 rfl
    obtain ⟨x, rfl, hx0, hx1⟩ := f18
    obtain ⟨g, rfl, hF⟩ := LstIn.at_ f13 x hx0 (by omega)
    simp only [e13, e18] at hK ⊢
    have hx2 : x < 4 := by omega
    go_simp
    exact hK _ _ hF hG.less (Gr.refl _ _)
  case s20 =>
    intro m t w hG ht0 hdep K hK
    rw [act28] at hK ⊢
    simp only [Act.put, List.setIfInBounds_toArray, List.set_cons_zero, List.set_cons_succ] at hK
    obtain ⟨v19, f19, e19⟩ := hdep ⟨19, .data⟩ (by simp) rfl
    have e19 := e19 26 rfl
    obtain ⟨g, q, x, rfl, hgR, hgl, hcell, hx0, hx1⟩ := f19
    simp only [e19] at hK ⊢
    go_simp
    exact hK _ _ ⟨x, rfl, hx0, hx1⟩ hG.less (Gr.refl _ _)
  case s21 =>
    intro m t w hG ht0 hdep K hK
    rw [act28] at hK ⊢
    simp only [Act.put, List.setIfInBounds_toArray, List.set_cons_zero, List.set_cons_succ] at hK
    obtain ⟨v10, f10, e10⟩ := hdep ⟨10, .data⟩ (by simp) rfl
    have e10 := e10 17 rfl
    obtain ⟨x, rfl, hx0, hx1⟩ := f10
    simp only [e10] at hK ⊢
    go_simp
    exact hK _ _ ⟨x, rfl, hx0, hx1⟩ hG.less (Gr.refl _ _)
  case s22 =>
    intro m t w hG ht0 hdep K hK
    rw [act28] at hK ⊢
    simp only [Act.put, List.setIfInBounds_toArray, List.set_cons_zero, List.set_cons_succ] at hK
    obtain ⟨v20, f20, e20⟩ := hdep ⟨20, .data⟩ (by simp) rfl
    have e20 := e20 27 rfl
    obtain ⟨x, rfl, hx0, hx1⟩ := f20
    simp only [e20] at hK ⊢
    go_simp
    exact hK _ _ ⟨x, rfl, hx0, hx1⟩ hG.less (Gr.refl _ _)
  case hend =>
    intro m t w2 hG ht0 hv
    obtain ⟨v2, ⟨x2, rfl, hx20, hx21⟩, e2⟩ := hv 21 (by decide)
    obtain ⟨v3, ⟨x3, rfl, hx30, hx31⟩, e3⟩ := hv 22 (by decide)
    have e2 := e2 2 rfl
    have e3 := e3 3 rfl
    rw [act28]
    simp only [e2, e3]
    have HB := Lib.hid (Gr.below HB1.out hG.2 hR HB1.out.size)
    clear hG hv ht0
    go_wp2
    go_ret2
    exact ⟨x2, x3, rfl, hx20, hx21, hx30, hx31, HB.out⟩

end Go.Proofs.Ytjopbffjemhgdaa
