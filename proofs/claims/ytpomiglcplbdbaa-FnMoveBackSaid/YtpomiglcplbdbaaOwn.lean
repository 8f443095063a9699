/- Laws for slices that a call makes itself: one element appended, a whole slice appended. -/
import Derived.Test.YtpomiglcplbdbaaMem
import Derived.Laws.Tables
import Derived.Laws.AppendOwnNone
namespace Go.Proofs.Ytpomiglcplbdbaa
open Go.RowKit

/-- What the laws ask of an element type: T is the slice's type, E the element's, of sz cells and so many bytes. -/
def RowType (P : Program) (T E sz bytes : Nat) : Prop :=
  P.underlying T = some (.slice E) ∧ ∃ i z, P.info? E = some i ∧ i.zero = some z ∧ i.size = sz ∧ i.bytes = bytes ∧ z.cells.size = sz ∧ 0 < sz ∧ bytes ≤ 4096

theorem rowType_mk {P : Program} {T E sz bytes : Nat} {z : Value} (ht : P.underlying T = some (.slice E)) (hi : (P.info? E).map (fun i => (i.zero, i.size, i.bytes)) = some (some z, sz, bytes)) (hz : z.cells.size = sz) (h0 : 0 < sz) (hb : bytes ≤ 4096) : RowType P T E sz bytes := by
  obtain ⟨i, hi, hz0, hz1, hz2⟩ := info_parts hi
  exact ⟨ht, i, z, hi, hz0, hz1, hz2, hz, h0, hb⟩

theorem own_form {w : World} {base E sz n : Nat} {v : Value} {xs : List Value} (h : w.ownsRow base E sz v n xs) : ∃ A c, v = .slice A n c := by
  rcases h.2 with ⟨rfl, rfl⟩ | ⟨g, cap, cur, rfl, _⟩
  · exact ⟨none, 0, rfl⟩
  · exact ⟨_, _, rfl⟩

theorem ownRes_of {w w' : World} {E sz n : Nat} {v : Value} {xs : List Value} (h : w'.ownsRow w.heap.size E sz v n xs) (hb : Below w.heap.size w w') : OwnRes E sz xs n w (.returned v) w' := by
  obtain ⟨A, c, rfl⟩ := own_form h
  exact ⟨A, c, rfl, h, hb⟩

theorem new_cells {w : World} (cs : Array Value) (E : Nat) : ∀ j u, cs.toList[j]? = some u → (w.alloc (.cells cs E)).cell? ((⟨w.heap.size, 0, none⟩ : Addr).add j) = some u := by
  intro j u hu
  have hadd : (⟨w.heap.size, 0, none⟩ : Addr).add j = ⟨w.heap.size, j, none⟩ := by unfold Addr.add; split <;> simp_all
  rw [hadd, (RowIs.alloc (w := w) cs E).cell]
  exact hu

theorem below_own {B : Nat} {a w w' : World} {v : Value} {base e sz n : Nat} {xs : List Value} (h : Below B a w) (ho : w.ownsRow base e sz v n xs) (hg : w.grownBy w' v.ownBlock) (hB : B ≤ w.heap.size) (hb : B ≤ base) : Below B a w' :=
  h.grown hg hB (fun k hk => by have := (ho.lt k hk).1; omega)

/-- An empty literal. -/
theorem own_empty (w : World) (base E sz : Nat) (hb : base ≤ w.heap.size) : (w.alloc (.cells #[] E)).ownsRow base E sz (.slice (some ⟨w.heap.size, 0, none⟩) 0 0) 0 [] :=
  World.ownsRow_made w #[] 0 hb (by unfold maxLen; omega) (by simp)

section
variable {P : Program} {ops : Array Oper} {rest : List Oper} {o : Oper} {a : Act} {Q : Exit → Act → World → Prop} {W : World}

/-- 'out = append(out, x)': the new element lies in a block that was made for it just now. -/
theorem wpList_push {T E sz bytes : Nat} (hT : RowType P T E sz bytes) (hgd : o.guard = none) (s x : Operand) (ho : o.op = .call { callee := .builtin .append, args := #[s, x], argTypes := #[T, T] })
    (base : Nat) (v : Value) (n : Nat) (xs : List Value) (hs : a.eval s = v) (hown : W.ownsRow base E sz v n xs) (E' : Nat) (cs : Array Value) (hx : a.eval x = .slice (some ⟨W.heap.size, 0, none⟩) 1 1) (hcs : cs.size = sz) (h1 : cs.all (·.oneCell') = true)
    (hn : n < 4294967296) (hbase : base ≤ W.heap.size)
    (h : ∀ v' w', w'.ownsRow base E sz v' (n + 1) (xs ++ cs.toList) → Below base W w' → W.grownBy w' v.ownBlock → W.heap.size < w'.heap.size → wpList P ops Q rest (a.put o.dst v') w') :
    wpList P ops Q (o :: rest) a (W.alloc (.cells cs E')) := by
  obtain ⟨ht, i, z, hi, hz, hsz, hby, hzs, h0, hb⟩ := hT
  have hlt : bytes * (n + 1) ≤ 4096 * 4294967296 := Nat.mul_le_mul hb (by omega)
  refine wpList_append_own _ hgd s x T ho base E i z sz bytes ht hi hz hsz hby hzs h0 v n xs hs (hown.alloc _) ⟨W.heap.size, 0, none⟩ 1 1 cs.toList hx (by simp [hcs]) (new_cells cs E')
    (fun u hu => (Array.all_eq_true_iff_forall_mem.1 h1) u (by simpa using hu)) (by unfold maxLen; omega) (by rw [Nat.mul_comm]; omega) (by simp; omega) (fun v' w' g1 g2 _ => ?_)
  have hB : Below base W w' := below_own ((Below.refl _ _).alloc hbase _) (hown.alloc _) g2 (by simp; omega) (Nat.le_refl _)
  have hG : W.grownBy w' v.ownBlock := ⟨g2.os, g2.tape, g2.output, Nat.le_trans (by simp) g2.size, fun k hk hne => (g2.block k (by simp; omega) hne).trans (Below.heap_alloc W _ k hk)⟩
  exact h v' w' g1 hB hG (by have := g2.size; simp at this; omega)

theorem wpList_push_int {T E bytes : Nat} (hT : RowType P T E 1 bytes) (hgd : o.guard = none) (s x : Operand) (ho : o.op = .call { callee := .builtin .append, args := #[s, x], argTypes := #[T, T] })
    (base : Nat) (v : Value) (n : Nat) (xs : List Value) (hs : a.eval s = v) (hown : W.ownsRow base E 1 v n xs) (E' : Nat) (k : Int) (hx : a.eval x = .slice (some ⟨W.heap.size, 0, none⟩) 1 1)
    (hn : n < 4294967296) (hbase : base ≤ W.heap.size)
    (h : ∀ v' w', w'.ownsRow base E 1 v' (n + 1) (xs ++ [.int .i64 k]) → Below base W w' → W.grownBy w' v.ownBlock → W.heap.size < w'.heap.size → wpList P ops Q rest (a.put o.dst v') w') :
    wpList P ops Q (o :: rest) a (W.alloc (.cells #[.int .i64 k] E')) :=
  wpList_push hT hgd s x ho base v n xs hs hown E' #[.int .i64 k] hx rfl (by simp [Value.oneCell']) hn hbase h

theorem wpList_push_ent {T E bytes : Nat} (hT : RowType P T E 2 bytes) (hgd : o.guard = none) (s x : Operand) (ho : o.op = .call { callee := .builtin .append, args := #[s, x], argTypes := #[T, T] })
    (base : Nat) (v : Value) (n : Nat) (xs : List Value) (hs : a.eval s = v) (hown : W.ownsRow base E 2 v n xs) (E' : Nat) (k u : Int) (hx : a.eval x = .slice (some ⟨W.heap.size, 0, none⟩) 1 1)
    (hn : n < 4294967296) (hbase : base ≤ W.heap.size)
    (h : ∀ v' w', w'.ownsRow base E 2 v' (n + 1) (xs ++ [.int .i64 k, .int .i64 u]) → Below base W w' → W.grownBy w' v.ownBlock → W.heap.size < w'.heap.size → wpList P ops Q rest (a.put o.dst v') w') :
    wpList P ops Q (o :: rest) a (W.alloc (.cells #[.int .i64 k, .int .i64 u] E')) :=
  wpList_push hT hgd s x ho base v n xs hs hown E' #[.int .i64 k, .int .i64 u] hx rfl (by simp [Value.oneCell']) hn hbase h

theorem wpList_push_act {T E bytes : Nat} (hT : RowType P T E 4 bytes) (hgd : o.guard = none) (s x : Operand) (ho : o.op = .call { callee := .builtin .append, args := #[s, x], argTypes := #[T, T] })
    (base : Nat) (v : Value) (n : Nat) (xs : List Value) (hs : a.eval s = v) (hown : W.ownsRow base E 4 v n xs) (E' : Nat) (k f t m : Int) (hx : a.eval x = .slice (some ⟨W.heap.size, 0, none⟩) 1 1)
    (hn : n < 4294967296) (hbase : base ≤ W.heap.size)
    (h : ∀ v' w', w'.ownsRow base E 4 v' (n + 1) (xs ++ [.int .i64 k, .int .i64 f, .int .i64 t, .int .i64 m]) → Below base W w' → W.grownBy w' v.ownBlock → W.heap.size < w'.heap.size → wpList P ops Q rest (a.put o.dst v') w') :
    wpList P ops Q (o :: rest) a (W.alloc (.cells #[.int .i64 k, .int .i64 f, .int .i64 t, .int .i64 m] E')) :=
  wpList_push hT hgd s x ho base v n xs hs hown E' #[.int .i64 k, .int .i64 f, .int .i64 t, .int .i64 m] hx rfl (by simp [Value.oneCell']) hn hbase h

theorem wpList_push_slice {T E bytes : Nat} (hT : RowType P T E 1 bytes) (hgd : o.guard = none) (s x : Operand) (ho : o.op = .call { callee := .builtin .append, args := #[s, x], argTypes := #[T, T] })
    (base : Nat) (v : Value) (n : Nat) (xs : List Value) (hs : a.eval s = v) (hown : W.ownsRow base E 1 v n xs) (E' : Nat) (A : Option Addr) (l c : Nat) (hx : a.eval x = .slice (some ⟨W.heap.size, 0, none⟩) 1 1)
    (hn : n < 4294967296) (hbase : base ≤ W.heap.size)
    (h : ∀ v' w', w'.ownsRow base E 1 v' (n + 1) (xs ++ [.slice A l c]) → Below base W w' → W.grownBy w' v.ownBlock → W.heap.size < w'.heap.size → wpList P ops Q rest (a.put o.dst v') w') :
    wpList P ops Q (o :: rest) a (W.alloc (.cells #[.slice A l c] E')) :=
  wpList_push hT hgd s x ho base v n xs hs hown E' #[.slice A l c] hx rfl (by simp [Value.oneCell']) hn hbase h

theorem wpList_push_eff {T E bytes : Nat} (hT : RowType P T E 3 bytes) (hgd : o.guard = none) (s x : Operand) (ho : o.op = .call { callee := .builtin .append, args := #[s, x], argTypes := #[T, T] })
    (base : Nat) (v : Value) (n : Nat) (xs : List Value) (hs : a.eval s = v) (hown : W.ownsRow base E 3 v n xs) (E' : Nat) (d : Bool) (A : Option Addr) (l c : Nat) (A' : Option Addr) (l' c' : Nat) (hx : a.eval x = .slice (some ⟨W.heap.size, 0, none⟩) 1 1)
    (hn : n < 4294967296) (hbase : base ≤ W.heap.size)
    (h : ∀ v' w', w'.ownsRow base E 3 v' (n + 1) (xs ++ [.bool d, .slice A l c, .slice A' l' c']) → Below base W w' → W.grownBy w' v.ownBlock → W.heap.size < w'.heap.size → wpList P ops Q rest (a.put o.dst v') w') :
    wpList P ops Q (o :: rest) a (W.alloc (.cells #[.bool d, .slice A l c, .slice A' l' c'] E')) :=
  wpList_push hT hgd s x ho base v n xs hs hown E' #[.bool d, .slice A l c, .slice A' l' c'] hx rfl (by simp [Value.oneCell']) hn hbase h

theorem wpList_push_lay {T E bytes : Nat} (hT : RowType P T E 2 bytes) (hgd : o.guard = none) (s x : Operand) (ho : o.op = .call { callee := .builtin .append, args := #[s, x], argTypes := #[T, T] })
    (base : Nat) (v : Value) (n : Nat) (xs : List Value) (hs : a.eval s = v) (hown : W.ownsRow base E 2 v n xs) (E' : Nat) (k : Int) (A : Option Addr) (l c : Nat) (hx : a.eval x = .slice (some ⟨W.heap.size, 0, none⟩) 1 1)
    (hn : n < 4294967296) (hbase : base ≤ W.heap.size)
    (h : ∀ v' w', w'.ownsRow base E 2 v' (n + 1) (xs ++ [.int .i64 k, .slice A l c]) → Below base W w' → W.grownBy w' v.ownBlock → W.heap.size < w'.heap.size → wpList P ops Q rest (a.put o.dst v') w') :
    wpList P ops Q (o :: rest) a (W.alloc (.cells #[.int .i64 k, .slice A l c] E')) :=
  wpList_push hT hgd s x ho base v n xs hs hown E' #[.int .i64 k, .slice A l c] hx rfl (by simp [Value.oneCell']) hn hbase h

/-- The same at a step of a region that draws its order. -/
theorem step_push_int {K : Act → World → Prop} {E0 : Prop} {T E bytes : Nat} (hT : RowType P T E 1 bytes) (hgd : o.guard = none) (s x : Operand) (ho : o.op = .call { callee := .builtin .append, args := #[s, x], argTypes := #[T, T] })
    (base : Nat) (v : Value) (n : Nat) (xs : List Value) (hs : a.eval s = v) (hown : W.ownsRow base E 1 v n xs) (E' : Nat) (k : Int) (hx : a.eval x = .slice (some ⟨W.heap.size, 0, none⟩) 1 1)
    (hn : n < 4294967296) (hbase : base ≤ W.heap.size)
    (h : ∀ v' w', w'.ownsRow base E 1 v' (n + 1) (xs ++ [.int .i64 k]) → Below base W w' → W.grownBy w' v.ownBlock → W.heap.size < w'.heap.size → K (a.put o.dst v') w') :
    if Region.wanted o (yielded ops a.tmps) = true then Oper.wp P o a ((W.alloc (.cells #[.int .i64 k] E')).drew) K Q else E0 := by
  have hw : Region.wanted o (yielded ops a.tmps) = true := by simp [Region.wanted, hgd]
  rw [if_pos hw]
  obtain ⟨ht, i, z, hi, hz, hsz, hby, hzs, h0, hb⟩ := hT
  have hlt : bytes * (n + 1) ≤ 4096 * 4294967296 := Nat.mul_le_mul hb (by omega)
  refine wp_append_own _ s x T ho base E i z 1 bytes ht hi hz hsz hby hzs h0 v n xs hs (hown.alloc (.cells #[.int .i64 k] E')) ⟨W.heap.size, 0, none⟩ 1 1 [.int .i64 k] hx rfl (new_cells #[.int .i64 k] E')
    (by simp [Value.oneCell']) (by unfold maxLen; omega) (by rw [Nat.mul_comm]; omega) (by show base ≤ (W.alloc _).heap.size; simp; omega) (fun v' w' g1 g2 _ => ?_)
  have g2' : (W.alloc (.cells #[.int .i64 k] E')).grownBy w' v.ownBlock := ⟨g2.os, g2.tape, g2.output, g2.size, g2.block⟩
  have hB : Below base W w' := below_own ((Below.refl _ _).alloc hbase _) (hown.alloc _) g2' (by simp; omega) (Nat.le_refl _)
  have hG : W.grownBy w' v.ownBlock := ⟨g2'.os, g2'.tape, g2'.output, Nat.le_trans (by simp) g2'.size, fun k hk hne => (g2'.block k (by simp; omega) hne).trans (Below.heap_alloc W _ k hk)⟩
  exact h v' w' g1 hB hG (by have := g2'.size; simp at this; omega)

theorem run_append_no_source {T E sz bytes : Nat} (hT : RowType P T E sz bytes) (base : Nat) (ty : Nat) (v : Value) (n : Nat) (xs : List Value) (hown : W.ownsRow base E sz v n xs) (c : Nat) :
    (Builtin.append_ #[T, T] ty #[v, .slice none 0 c]).run P W = .ok v W := by
  obtain ⟨ht, i, z, hi, _⟩ := hT
  rcases hown.2 with ⟨rfl, rfl⟩ | ⟨g, cap, cur, rfl, _, _, hnc, _⟩
  · simp [Builtin.append_, run_underlying ht, sizeOf, typeInfo, hi, Builtin.lenOf, Builtin.firstCells]
  · simp [Builtin.append_, run_underlying ht, sizeOf, typeInfo, hi, Builtin.lenOf, Builtin.firstCells, hnc, storeCells]

/-- 'out = append(out, xs...)', xs whatever reads as news: nil, empty or not. -/
theorem wpList_append_at {T E sz bytes : Nat} (hT : RowType P T E sz bytes) (hgd : o.guard = none) (s x : Operand) (ho : o.op = .call { callee := .builtin .append, args := #[s, x], argTypes := #[T, T] })
    (base : Nat) (v : Value) (n : Nat) (xs : List Value) (hs : a.eval s = v) (hown : W.ownsRow base E sz v n xs) (A : Option Addr) (m c : Nat) (news : List Value) (hx : a.eval x = .slice A m c) (hr : CellsAt W A news) (hl : news.length = m * sz)
    (h1 : ∀ u ∈ news, u.oneCell' = true) (hn : n + m < 4294967296) (hbase : base ≤ W.heap.size)
    (h : ∀ v' w', w'.ownsRow base E sz v' (n + m) (xs ++ news) → Below base W w' → W.grownBy w' v.ownBlock → wpList P ops Q rest (a.put o.dst v') w') :
    wpList P ops Q (o :: rest) a W := by
  have hT' := hT
  obtain ⟨ht, i, z, hi, hz, hsz, hby, hzs, h0, hb⟩ := hT
  cases A with
  | none =>
    have hnil : news = [] := by
      rcases hr with h2 | ⟨b, off, h2, _⟩
      · exact h2
      · cases h2
    subst hnil
    have hm : m = 0 := by
      rcases Nat.eq_zero_or_pos m with h2 | h2
      · exact h2
      · have := Nat.mul_pos h2 h0; simp at hl; omega
    subst hm
    refine wpList_plain hgd fun K hK => ?_
    have hrun := run_append_no_source (W := W) hT' base o.type v n xs hown c
    unfold Oper.wp
    simp [execOp, ho, resolve, invoke, builtin, hs, hx, hrun, Result.andThen]
    exact hK _ _ (h v W (by simpa using hown) (Below.refl _ _) (World.grownBy.refl W _))
  | some ad =>
    have hlt : bytes * (n + m) ≤ 4096 * 4294967296 := Nat.mul_le_mul hb (by omega)
    refine wpList_append_own _ hgd s x T ho base E i z sz bytes ht hi hz hsz hby hzs h0 v n xs hs hown ad m c news hx hl ?_ h1 (by unfold maxLen; omega) (by rw [Nat.mul_comm]; omega) hbase
      (fun v' w' g1 g2 _ => h v' w' g1 (below_own (Below.refl _ _) hown g2 hbase (Nat.le_refl _)) g2)
    intro j u hu
    rcases hr with h2 | ⟨b, off, h2, hc⟩
    · subst h2; simp at hu
    · injection h2 with h2
      subst h2
      have hadd : (⟨b, off, none⟩ : Addr).add j = ⟨b, off + j, none⟩ := by unfold Addr.add; split <;> simp_all
      rw [hadd]
      exact hc j u hu

end
end Go.Proofs.Ytpomiglcplbdbaa
