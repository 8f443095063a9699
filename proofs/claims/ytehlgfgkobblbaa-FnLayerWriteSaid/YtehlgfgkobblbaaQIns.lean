/- slices.Insert of one entry. -/
import Derived.Test.YtehlgfgkobblbaaQPut2
import Derived.Test.YtehlgfgkobblbaaQBase
import Derived.Lib.AppendZerosOnto
import Derived.Lib.Walk
import Derived.Lib.SliceRun
import Derived.Lib.Overlaps
import Derived.Laws.Externs
import Derived.Laws.CopyRow
import Derived.Deep.RegionHeld3
namespace Go.Proofs.Ytehlgfgkobblbaa
open Go.RowKit

section
variable {P : Program} (w : World)
/-- 'copy(dst, src)' of elements of several cells, onto a row. -/
theorem run_copy_rowN (dT sT ty elem : TypeId) (g o dLen dCap : Nat) (a : Addr) (sLen sCap : Nat) (cur : Array Value) (t : TypeId) (cs : List Value) (sz k : Nat)
    (hu : P.underlying dT = some (.slice elem)) (hs : (P.info? elem).map (·.size) = some sz)
    (hg : w.heap[g]? = some (.cells cur t (0, 0))) (hk : Nat.min sLen dLen = k) (hn : cs.length = k * sz)
    (hsrc : ∀ j v, cs[j]? = some v → w.cell? (a.add j) = some v) (hfit : o + cs.length ≤ cur.size) (h1 : ∀ v ∈ cs, v.oneCell' = true) :
    (Builtin.copy_ #[dT, sT] ty #[.slice (some ⟨g, o, none⟩) dLen dCap, .slice (some a) sLen sCap]).run P w =
      .ok (goInt k) (w.setRow g (cur.toList.take o ++ cs ++ cur.toList.drop (o + cs.length)).toArray) := by
  have hl := run_loadCells_list (P := P) w a cs hsrc
  have hst := run_storeCells_at P g o t cs 0 cur w hg (by simpa using hfit) h1
  cases hq : P.info? elem with
  | none => simp [hq] at hs
  | some i =>
    have hi : i.size = sz := by simpa [hq] using hs
    simp [Builtin.copy_, run_underlying hu, Builtin.lenOf, Builtin.firstCells, sizeOf, typeInfo, hq, hi, hk, ← hn, hl, hst]
end

theorem wp_copy_run {P : Program} (w : World) {o : Oper} {a : Act} {K : Act → World → Prop} {Q : Exit → Act → World → Prop} (d s : Operand) (t t' : TypeId)
    (ho : o.op = .call { callee := .builtin .copy, args := #[d, s], argTypes := #[t, t'] }) (v u : Value) (hd : a.eval d = v) (hs : a.eval s = u) {v' : Value} {w' : World}
    (hr : (Builtin.copy_ #[t, t'] o.type #[v, u]).run P w = .ok v' w') (h : K (a.put o.dst v') w') : o.wp P a w K Q := by
  unfold Oper.wp execOp
  simp only [ho, resolve, invoke, builtin, Sem.run_bind, Sem.run_pure, Result.andThen_ok, List.map_toArray, List.map_cons, List.map_nil, hd, hs, hr]
  exact h
theorem wpList_copy_run {P : Program} (w : World) {ops : Array Oper} {rest : List Oper} {o : Oper} {a : Act} {Q : Exit → Act → World → Prop} (hgd : o.guard = none) (d s : Operand) (t t' : TypeId)
    (ho : o.op = .call { callee := .builtin .copy, args := #[d, s], argTypes := #[t, t'] }) (v u : Value) (hd : a.eval d = v) (hs : a.eval s = u) {v' : Value} {w' : World}
    (hr : (Builtin.copy_ #[t, t'] o.type #[v, u]).run P w = .ok v' w') (h : wpList P ops Q rest (a.put o.dst v') w') : wpList P ops Q (o :: rest) a w :=
  wpList_plain hgd fun _ hK => wp_copy_run w d s t t' ho v u hd hs hr (hK _ _ h)
theorem step_copy_run {P : Program} {ops : Array Oper} {o : Oper} {a : Act} {w : World} {K : Act → World → Prop} {Q : Exit → Act → World → Prop} {E : Prop}
    (hg : o.guard = none) (d x : Operand) (dT sT : TypeId) (hop : o.op = Op.call { callee := Callee.builtin Builtin.copy, args := #[d, x], argTypes := #[dT, sT] })
    (v u : Value) (hd : a.eval d = v) (hx : a.eval x = u) {v' : Value} {w' : World} (hr : (Builtin.copy_ #[dT, sT] o.type #[v, u]).run P w = .ok v' w') (hK : K (a.put o.dst v') w') :
    if Region.wanted o (yielded ops a.tmps) = true then Oper.wp P o a w K Q else E := by
  have hw : Region.wanted o (yielded ops a.tmps) = true := by simp [Region.wanted, hg]
  rw [if_pos hw]
  exact wp_copy_run w d x dT sT hop v u hd hx hr hK

/-- What an insertion leaves behind: the row again, in its block or in a new one. -/
def InsRes (S : Nat) (A : Option Addr) (n c : Nat) (cells : List Value) (w : World) (e : Ending) (w' : World) : Prop :=
  ∃ A' c', e = .returned (.slice A' (n + 1) c') ∧ w'.ownsRow S 37 2 (.slice A' (n + 1) c') (n + 1) cells ∧ w.grownBy w' (Value.slice A n c).ownBlock ∧
    ((Value.slice A' (n + 1) c').ownBlock = (Value.slice A n c).ownBlock ∨ ∀ k, (Value.slice A' (n + 1) c').ownBlock = some k → w.heap.size ≤ k)

/-- An append of one entry: in the row's block or in a new one. -/
theorem append_where {w : World} {S : Nat} {A : Option Addr} {n c : Nat} {xs : List Value} (ty : TypeId) (hown : w.ownsRow S 37 2 (.slice A n c) n xs) (vb : Nat) (vc : Nat) (k u : Int) (hv : RowIs w vb 37 [.int .i64 k, .int .i64 u]) (hn : n < 1000000) (hS : S ≤ w.heap.size) :
    ∃ A' c' w', (Builtin.append_ #[26, 26] ty #[.slice A n c, .slice (some ⟨vb, 0, none⟩) 1 vc]).run Try.prog w = .ok (.slice A' (n + 1) c') w' ∧ w'.ownsRow S 37 2 (.slice A' (n + 1) c') (n + 1) (xs ++ [.int .i64 k, .int .i64 u]) ∧ w.grownBy w' (Value.slice A n c).ownBlock ∧
      ((Value.slice A' (n + 1) c').ownBlock = (Value.slice A n c).ownBlock ∨ ∀ b, (Value.slice A' (n + 1) c').ownBlock = some b → w.heap.size ≤ b) := by
  obtain ⟨i, hi, hz, hsz, hby⟩ := info_parts info_ent
  have hnews : ∀ j v, [Value.int .i64 k, .int .i64 u][j]? = some v → w.cell? ((⟨vb, 0, none⟩ : Addr).add j) = some v := fun j v hj => by
    have hadd : (⟨vb, 0, none⟩ : Addr).add j = ⟨vb, j, none⟩ := by unfold Addr.add; split <;> simp_all
    rw [hadd, hv.cell]; exact hj
  have h1 : ∀ v ∈ [Value.int .i64 k, .int .i64 u], v.oneCell' = true := by simp [Value.oneCell']
  rcases hown.2 with ⟨hv0, hn0⟩ | ⟨g, cap, cur, hv0, hbg, hg, hnc, hcm, hcs, htake⟩
  · injection hv0 with hA hn1 hc
    subst hA
    subst hn0
    subst hc
    have hown0 : w.ownsRow w.heap.size 37 2 (.slice none 0 0) 0 xs := ⟨hown.1, .inl ⟨rfl, rfl⟩⟩
    obtain ⟨v', w', hr, ho, hgr, _⟩ := run_append_own (P := Try.prog) w w.heap.size 26 ty 37 i (.agg #[.int .i64 0, .int .i64 0]) 2 16 Try.underlying26 hi hz hsz hby rfl (by decide) _ 0 xs hown0 ⟨vb, 0, none⟩ 1 vc [.int .i64 k, .int .i64 u] rfl hnews h1 (by unfold maxLen; omega) (by omega) (Nat.le_refl _)
    obtain ⟨A', c', rfl⟩ := own_form ho
    exact ⟨A', c', w', hr, own_weaken ho hS, hgr, .inr (fun b hb => (ho.lt b hb).1)⟩
  · injection hv0 with hA hn1 hc
    subst hA
    subst hc
    obtain ⟨v', w', hr, ho, hgr, _⟩ := run_append_own (P := Try.prog) w S 26 ty 37 i (.agg #[.int .i64 0, .int .i64 0]) 2 16 Try.underlying26 hi hz hsz hby rfl (by decide) _ n xs hown ⟨vb, 0, none⟩ 1 vc [.int .i64 k, .int .i64 u] rfl hnews h1 (by unfold maxLen; omega) (by omega) hS
    obtain ⟨A', c', rfl⟩ := own_form ho
    refine ⟨A', c', w', hr, ho, hgr, ?_⟩
    by_cases hroom : n + 1 ≤ c
    · have h2 := run_append_room (P := Try.prog) w 26 ty 37 i Try.underlying26 hi g n c cur hg ⟨vb, 0, none⟩ 1 vc [.int .i64 k, .int .i64 u] (by rw [hsz]; rfl) hnews h1 hroom (by rw [hsz, hcs]; simp; omega)
      rw [hr] at h2
      injection h2 with h3 _
      injection h3 with h4 _ _
      left
      rw [h4]; rfl
    · have holds : ∀ j u, xs[j]? = some u → w.cell? ((⟨g, 0, none⟩ : Addr).add j) = some u := hown.cells (g := g) rfl
      have h2 := run_append_grow (P := Try.prog) w 26 ty 37 i _ Try.underlying26 hi hz ⟨g, 0, none⟩ n c xs (by rw [hsz]; exact hown.1) holds ⟨vb, 0, none⟩ 1 vc [.int .i64 k, .int .i64 u] (by rw [hsz]; rfl) hnews (by omega) (by omega) (growslice_fits (by omega) (by rw [hby]; omega))
      rw [hr] at h2
      injection h2 with h3 _
      injection h3 with h4 _ _
      right
      intro b hb
      rw [h4] at hb
      have : b = w.heap.size := by simpa [Value.ownBlock] using hb.symm
      omega

/-! ### The cells -/
def seg (l : List Value) (o : Nat) (cs : List Value) : List Value := l.take o ++ cs ++ l.drop (o + cs.length)
theorem seg_len {l cs : List Value} {o : Nat} (h : o + cs.length ≤ l.length) : (seg l o cs).length = l.length := by unfold seg; simp; omega
theorem seg_get {l cs : List Value} {o : Nat} (h : o + cs.length ≤ l.length) (j : Nat) : (seg l o cs)[j]? = if j < o then l[j]? else if j < o + cs.length then cs[j - o]? else l[j]? := by
  unfold seg
  by_cases h1 : j < o
  · rw [if_pos h1, List.append_assoc, List.getElem?_append_left (by simp; omega), List.getElem?_take_of_lt h1]
  · rw [if_neg h1]
    by_cases h2 : j < o + cs.length
    · rw [if_pos h2, List.getElem?_append_left (by simp; omega), List.getElem?_append_right (by simp; omega)]
      congr 1
      simp
      omega
    · rw [if_neg h2, List.getElem?_append_right (by simp; omega), List.getElem?_drop]
      congr 1
      simp
      omega
/-- An entry set between: in either order. -/
theorem ins_cells {row : List Value} {es : List Ent} {i n : Nat} {key value : Int} (hn : es.length = n) (hi : i < n) (hl : (n + 1) * 2 ≤ row.length) (ht : row.take (i * 2) = entCells (es.take i)) :
    (seg (seg row (i * 2) [.int .i64 key, .int .i64 value]) ((i + 1) * 2) (entCells (es.drop i))).take ((n + 1) * 2) = entCells (es.take i ++ (key, value) :: es.drop i) ∧
    (seg (seg row ((i + 1) * 2) (entCells (es.drop i))) (i * 2) [.int .i64 key, .int .i64 value]).take ((n + 1) * 2) = entCells (es.take i ++ (key, value) :: es.drop i) := by
  have hd : (entCells (es.drop i)).length = (n - i) * 2 := by rw [entCells_length, List.length_drop, hn]
  have hp : (entCells (es.take i)).length = i * 2 := by rw [entCells_length, List.length_take, hn]; congr 1; omega
  have e : entCells (es.take i ++ (key, value) :: es.drop i) = entCells (es.take i) ++ ([.int .i64 key, .int .i64 value] ++ entCells (es.drop i)) := by rw [entCells_append]; rfl
  have hlow : ∀ j, j < i * 2 → row[j]? = (entCells (es.take i))[j]? := fun j hj => by rw [← ht, List.getElem?_take_of_lt hj]
  have h1 : i * 2 + [Value.int .i64 key, .int .i64 value].length ≤ row.length := by simp; omega
  have h2 : (i + 1) * 2 + (entCells (es.drop i)).length ≤ row.length := by rw [hd]; omega
  rw [e]
  constructor
  all_goals
    apply List.ext_getElem?
    intro j
    by_cases hj : j < (n + 1) * 2
    · rw [List.getElem?_take_of_lt hj]
      first
        | rw [seg_get (by rw [seg_len h1]; exact h2), seg_get h1]
        | rw [seg_get (by rw [seg_len h2]; exact h1), seg_get h2]
      rw [hd]
      simp only [List.length_cons, List.length_nil]
      by_cases a1 : j < i * 2
      · rw [List.getElem?_append_left (by omega), ← hlow j a1]
        simp [a1]
        try omega
      · rw [List.getElem?_append_right (by omega), hp]
        by_cases a2 : j < i * 2 + 2
        · rw [List.getElem?_append_left (by simp; omega)]
          simp [a1, a2]
          try omega
        · rw [List.getElem?_append_right (by simp; omega)]
          have a3 : ¬ j < (i + 1) * 2 := by omega
          have a4 : j < (i + 1) * 2 + (n - i) * 2 := by omega
          simp [a1, a2, a3, a4]
          try (congr 1; omega)
    · rw [List.getElem?_eq_none (by simp; omega), List.getElem?_eq_none (by rw [List.length_append, List.length_append, hp, hd]; simp; omega)]

end Go.Proofs.Ytehlgfgkobblbaa
