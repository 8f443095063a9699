/- Copies of lists of layers, one more layer: l4Copy, cloneLayers, ForkLayer of both packages. -/
import Derived.Test.YtehlgfgkobblbaaQLayFn
import Derived.Deep.RegionHeld3
namespace Go.Proofs.Ytehlgfgkobblbaa
open Go.ChangeShapes Go.WideShapes Go.ChangeAt Go.RowKit Go.Deep

theorem own_ne_type {w : World} {base base' E E' sz sz' n n' : Nat} {v v' : Value} {xs xs' : List Value} (h : w.ownsRow base E sz v n xs) (h' : w.ownsRow base' E' sz' v' n' xs') (hne : E ≠ E') : ∀ k, v.ownBlock = some k → v'.ownBlock ≠ some k := by
  intro k hk hk'
  rcases h.2 with ⟨rfl, _⟩ | ⟨g, cap, cur, rfl, _, hh, _⟩
  · simp [Value.ownBlock] at hk
  · rcases h'.2 with ⟨rfl, _⟩ | ⟨g1, cap1, cur1, rfl, _, hh1, _⟩
    · simp [Value.ownBlock] at hk'
    · simp [Value.ownBlock] at hk hk'
      subst hk
      subst hk'
      rw [hh] at hh1
      injection hh1 with hh1
      injection hh1 with _ e2 _
      exact hne e2

theorem own_drw {w : World} {base E sz n : Nat} {v : Value} {xs : List Value} (h : w.ownsRow base E sz v n xs) : w.drew.ownsRow base E sz v n xs := h

theorem layTy_ne : (28 : Nat) ≠ 37 := by decide

theorem LaysOwn.inner {w : World} {base : Nat} {A : Option Addr} {c : Nat} {zs : List LayA} (h : LaysOwn w base A c zs) : HeldL w base (layRows zs) := HeldL.right (l := [_]) h
/-- The outer row is of another element type than the rows in it. -/
theorem LaysOwn.mk {w : World} {base : Nat} {A : Option Addr} {c n : Nat} {zs : List LayA} (hn : n = zs.length) (h : w.ownsRow base 28 2 (.slice A n c) n (layCells zs)) (hi : HeldL w base (layRows zs)) : LaysOwn w base A c zs := by
  subst hn
  refine ⟨fun r hr => ?_, List.pairwise_cons.2 ⟨fun r hr k hk => ?_, hi.2⟩⟩
  · rcases List.mem_cons.1 hr with rfl | hr
    · exact h
    · exact hi.1 r hr
  · obtain ⟨z, hz, rfl⟩ := List.mem_map.1 hr
    exact own_ne_type h (hi.1 (layRow z) (List.mem_map_of_mem hz)) layTy_ne k hk
/-- The outer row is written or grows: the rows in it stay. -/
theorem inner_kept {w w' : World} {base base' n c : Nat} {A : Option Addr} {xs : List Value} {zs : List LayA} (hi : HeldL w base (layRows zs)) (ho : w.ownsRow base' 28 2 (.slice A n c) n xs) (hg : w.grownBy w' (Value.slice A n c).ownBlock) : HeldL w' base (layRows zs) := by
  refine ⟨fun r hr => ?_, hi.2⟩
  obtain ⟨z, hz, rfl⟩ := List.mem_map.1 hr
  exact own_kept_type (hi.1 (layRow z) (List.mem_map_of_mem hz)) ho (fun e => layTy_ne e.symm) hg

theorem LaysOwn.push {w2 w3 : World} {base S : Nat} {A : Option Addr} {c : Nat} {ds : List LayA} {v3 : Value} {z : LayT} {A2 : Option Addr} {c2 : Nat} (h2 : LaysOwn w2 base A c ds) (o2 : w2.ownsRow S 37 2 (.slice A2 z.2.length c2) z.2.length (entCells z.2)) (hlt : LaysLt A c ds S) (hS : base ≤ S)
    (ho3 : w3.ownsRow base 28 2 v3 (ds.length + 1) (layCells ds ++ [.int .i64 z.1, .slice A2 z.2.length c2])) (hg : w2.grownBy w3 (Value.slice A ds.length c).ownBlock) :
    ∃ A3 c3, v3 = .slice A3 (ds ++ [((z, (A2, c2)) : LayA)]).length c3 ∧ LaysOwn w3 base A3 c3 (ds ++ [((z, (A2, c2)) : LayA)]) := by
  obtain ⟨A3, c3, rfl⟩ := own_form ho3
  have hin : HeldL w2 base (layRows (ds ++ [((z, (A2, c2)) : LayA)])) := by
    rw [layRows_append]
    exact h2.inner.append (S := S) (HeldL.one (r := layRow (z, (A2, c2))) o2) (fun r hr => hlt r (List.mem_cons_of_mem _ hr)) hS
  refine ⟨A3, c3, by simp, LaysOwn.mk (n := ds.length + 1) (by simp) ?_ (inner_kept hin h2.outer hg)⟩
  rw [layCells_append]
  exact ho3

theorem info_Layer3 : (Try.prog.info? 28).map (fun i => (i.zero, i.size, i.bytes)) = some (some (.agg #[.int .i64 0, .slice none 0 0]), 2, 32) := by kernel_rfl
theorem layRow_ty : RowType Try.prog 23 28 2 32 :=
  rowType_mk Try.underlying23 info_Layer3 rfl (by decide) (by decide)

section
variable {P : Program} {ops : Array Oper} {o : Oper} {a : Act} {Q : Exit → Act → World → Prop} {W : World} {K : Act → World → Prop} {E0 : Prop}
/-- One element appended, at a step of a region that draws its order. -/
theorem step_push {T E sz bytes : Nat} (hT : RowType P T E sz bytes) (hgd : o.guard = none) (s x : Operand) (ho : o.op = .call { callee := .builtin .append, args := #[s, x], argTypes := #[T, T] })
    (base : Nat) (v : Value) (n : Nat) (xs : List Value) (hs : a.eval s = v) (hown : W.ownsRow base E sz v n xs) (E' : Nat) (cs : Array Value) (hx : a.eval x = .slice (some ⟨W.heap.size, 0, none⟩) 1 1) (hcs : cs.size = sz) (h1 : cs.all (·.oneCell') = true)
    (hn : n < 4294967296) (hbase : base ≤ W.heap.size)
    (h : ∀ v' w', w'.ownsRow base E sz v' (n + 1) (xs ++ cs.toList) → Below base W w' → W.grownBy w' v.ownBlock → W.heap.size < w'.heap.size → K (a.put o.dst v') w') :
    if Region.wanted o (yielded ops a.tmps) = true then Oper.wp P o a ((W.alloc (.cells cs E')).drew) K Q else E0 := by
  have hw : Region.wanted o (yielded ops a.tmps) = true := by simp [Region.wanted, hgd]
  rw [if_pos hw]
  obtain ⟨ht, i, z, hi, hz, hsz, hby, hzs, h0, hb⟩ := hT
  have hlt : bytes * (n + 1) ≤ 4096 * 4294967296 := Nat.mul_le_mul hb (by omega)
  refine wp_append_own _ s x T ho base E i z sz bytes ht hi hz hsz hby hzs h0 v n xs hs (hown.alloc (.cells cs E')) ⟨W.heap.size, 0, none⟩ 1 1 cs.toList hx (by simp [hcs]) (new_cells cs E')
    (fun u hu => (Array.all_eq_true_iff_forall_mem.1 h1) u (by simpa using hu)) (by unfold maxLen; omega) (by rw [Nat.mul_comm]; omega) (by show base ≤ (W.alloc _).heap.size; simp; omega) (fun v' w' g1 g2 _ => ?_)
  have g2' : (W.alloc (.cells cs E')).grownBy w' v.ownBlock := ⟨g2.os, g2.tape, g2.output, g2.size, g2.block⟩
  have hB : Below base W w' := below_own ((Below.refl _ _).alloc hbase _) (hown.alloc _) g2' (by simp; omega) (Nat.le_refl _)
  have hG : W.grownBy w' v.ownBlock := ⟨g2'.os, g2'.tape, g2'.output, Nat.le_trans (by simp) g2'.size, fun k hk hne => (g2'.block k (by simp; omega) hne).trans (Below.heap_alloc W _ k hk)⟩
  exact h v' w' g1 hB hG (by have := g2'.size; simp at this; omega)
theorem step_push0 {T E sz bytes : Nat} (hT : RowType P T E sz bytes) (hgd : o.guard = none) (s x : Operand) (ho : o.op = .call { callee := .builtin .append, args := #[s, x], argTypes := #[T, T] })
    (base : Nat) (v : Value) (n : Nat) (xs : List Value) (hs : a.eval s = v) (hown : W.ownsRow base E sz v n xs) (E' : Nat) (cs : Array Value) (hx : a.eval x = .slice (some ⟨W.heap.size, 0, none⟩) 1 1) (hcs : cs.size = sz) (h1 : cs.all (·.oneCell') = true)
    (hn : n < 4294967296) (hbase : base ≤ W.heap.size)
    (h : ∀ v' w', w'.ownsRow base E sz v' (n + 1) (xs ++ cs.toList) → Below base W w' → W.grownBy w' v.ownBlock → W.heap.size < w'.heap.size → K (a.put o.dst v') w') :
    if Region.wanted o (yielded ops a.tmps) = true then Oper.wp P o a (W.alloc (.cells cs E')) K Q else E0 := by
  have hw : Region.wanted o (yielded ops a.tmps) = true := by simp [Region.wanted, hgd]
  rw [if_pos hw]
  obtain ⟨ht, i, z, hi, hz, hsz, hby, hzs, h0, hb⟩ := hT
  have hlt : bytes * (n + 1) ≤ 4096 * 4294967296 := Nat.mul_le_mul hb (by omega)
  refine wp_append_own _ s x T ho base E i z sz bytes ht hi hz hsz hby hzs h0 v n xs hs (hown.alloc (.cells cs E')) ⟨W.heap.size, 0, none⟩ 1 1 cs.toList hx (by simp [hcs]) (new_cells cs E')
    (fun u hu => (Array.all_eq_true_iff_forall_mem.1 h1) u (by simpa using hu)) (by unfold maxLen; omega) (by rw [Nat.mul_comm]; omega) (by show base ≤ (W.alloc _).heap.size; simp; omega) (fun v' w' g1 g2 _ => ?_)
  have hB : Below base W w' := below_own ((Below.refl _ _).alloc hbase _) (hown.alloc _) g2 (by simp; omega) (Nat.le_refl _)
  have hG : W.grownBy w' v.ownBlock := ⟨g2.os, g2.tape, g2.output, Nat.le_trans (by simp) g2.size, fun k hk hne => (g2.block k (by simp; omega) hne).trans (Below.heap_alloc W _ k hk)⟩
  exact h v' w' g1 hB hG (by have := g2.size; simp at this; omega)
/-- A whole slice appended, at a step of a region that draws its order. -/
theorem step_append_at {T E sz bytes : Nat} (hT : RowType P T E sz bytes) (hgd : o.guard = none) (s x : Operand) (ho : o.op = .call { callee := .builtin .append, args := #[s, x], argTypes := #[T, T] })
    (base : Nat) (v : Value) (n : Nat) (xs : List Value) (hs : a.eval s = v) (hown : W.ownsRow base E sz v n xs) (A : Option Addr) (m c : Nat) (news : List Value) (hx : a.eval x = .slice A m c) (hr : CellsAt W A news) (hl : news.length = m * sz)
    (h1 : ∀ u ∈ news, u.oneCell' = true) (hn : n + m < 4294967296) (hbase : base ≤ W.heap.size)
    (h : ∀ v' w', w'.ownsRow base E sz v' (n + m) (xs ++ news) → Below base W w' → W.grownBy w' v.ownBlock → K (a.put o.dst v') w') :
    if Region.wanted o (yielded ops a.tmps) = true then Oper.wp P o a W K Q else E0 := by
  have hw : Region.wanted o (yielded ops a.tmps) = true := by simp [Region.wanted, hgd]
  rw [if_pos hw]
  have hT' := hT
  obtain ⟨ht, i, z, hi, hz, hsz, hby, hzs, h0, hb⟩ := hT
  cases A with
  | none =>
    have hnil : news = [] := by
      rcases hr with h2 | ⟨b, off, h2, _⟩
      · exact h2
      · cases h2
    subst hnil
    have hm : m = 0 := by
      rcases Nat.eq_zero_or_pos m with h2 | h2
      · exact h2
      · have := Nat.mul_pos h2 h0; simp at hl; omega
    subst hm
    have hrun := run_append_no_source (W := W) hT' base o.type v n xs hown c
    unfold Oper.wp
    simp [execOp, ho, resolve, invoke, builtin, hs, hx, hrun, Result.andThen]
    exact h v W (by simpa using hown) (Below.refl _ _) (World.grownBy.refl W _)
  | some ad =>
    have hlt : bytes * (n + m) ≤ 4096 * 4294967296 := Nat.mul_le_mul hb (by omega)
    refine wp_append_own _ s x T ho base E i z sz bytes ht hi hz hsz hby hzs h0 v n xs hs hown ad m c news hx hl ?_ h1 (by unfold maxLen; omega) (by rw [Nat.mul_comm]; omega) hbase
      (fun v' w' g1 g2 _ => h v' w' g1 (below_own (Below.refl _ _) hown g2 hbase (Nat.le_refl _)) g2)
    intro j u hu
    rcases hr with h2 | ⟨b, off, h2, hc⟩
    · subst h2; simp at hu
    · injection h2 with h2
      subst h2
      have hadd : (⟨b, off, none⟩ : Addr).add j = ⟨b, off + j, none⟩ := by unfold Addr.add; split <;> simp_all
      rw [hadd]
      exact hc j u hu
/-- A copy by append onto an empty literal, at a step of a region that draws its order. -/
theorem step_clone {T E sz bytes : Nat} (hT : RowType P T E sz bytes) (hgd : o.guard = none) (s x : Operand) (ho : o.op = .call { callee := .builtin .append, args := #[s, x], argTypes := #[T, T] })
    (base : Nat) (v : Value) (hs : a.eval s = v) (hown : W.ownsRow base E sz v 0 []) (A : Option Addr) (m c : Nat) (news : List Value) (hx : a.eval x = .slice A m c) (hr : CellsAt W A news) (hl : news.length = m * sz)
    (h1 : ∀ u ∈ news, u.oneCell' = true) (hn : m < 4294967296) (hbase : base ≤ W.heap.size)
    (h : ∀ A2 c2 w', w'.ownsRow base E sz (.slice A2 m c2) m news → Below base W w' → K (a.put o.dst (.slice A2 m c2)) w') :
    if Region.wanted o (yielded ops a.tmps) = true then Oper.wp P o a W K Q else E0 := by
  refine step_append_at hT hgd s x ho base v 0 [] hs hown A m c news hx hr hl h1 (by omega) hbase (fun v' w' g1 g2 _ => ?_)
  rw [Nat.zero_add, List.nil_append] at g1
  obtain ⟨A2, c2, rfl⟩ := own_form g1
  exact h A2 c2 w' g1 g2
end

theorem laysOwn_nil (w : World) (base : Nat) : LaysOwn w base none 0 [] := LaysOwn.mk (n := 0) rfl (World.ownsRow_nil _ _ _ _) (HeldL.nil _ _)
theorem laysT_take (zs ds : List LayA) (k : Nat) (hk : k < zs.length) (h : laysT ds = (laysT zs).take k) (p : Option Addr × Nat) : laysT (ds ++ [((zs[k].1, p) : LayA)]) = (laysT zs).take (k + 1) := by
  rw [List.take_succ_eq_append_getElem (by simpa using hk), ← h]; simp [laysT]
theorem laysT_len_take {zs ds : List LayA} {k : Nat} (hk : k ≤ zs.length) (h : laysT ds = (laysT zs).take k) : ds.length = k := by
  have h := congrArg List.length h
  simp at h
  omega

set_option maxRecDepth 100000 in
set_option maxHeartbeats 3200000 in
theorem cloneLayers_any (A : Option Addr) (c : Nat) (zs : List LayA) (w : World) (hz : LaysAt w A zs) (hn : zs.length < 4294967296) (hl : ∀ z ∈ zs, z.1.2.length < 4294967296) :
    Calls Try.prog 39 #[.slice A zs.length c] w (NewLays (laysT zs) w) := by
  have HZ := Lib.hid hz
  have HL := Lib.hid hl
  clear hz hl
  go_enter Try.func39, Try.ntmps39
  go_wp2
  go_loopw [3, 8] (fun out i wr => ∃ (k : Nat) (ds : List LayA), k ≤ zs.length ∧ i = .int .i64 k ∧ laysT ds = (laysT zs).take k ∧ (∃ A' c', out = .slice A' ds.length c' ∧ LaysOwn wr w.heap.size A' c' ds) ∧ Below w.heap.size w wr) (fun _ i _ => zs.length - (intOf i).toNat)
  case atStart => exact ⟨0, [], Nat.zero_le _, rfl, rfl, ⟨none, 0, rfl, laysOwn_nil _ _⟩, Below.refl _ _⟩
  case round =>
    obtain ⟨k, ds, hk, rfl, hds, ⟨A5, c5, rfl, hown⟩, hbel⟩ := hrel
    have hdl := laysT_len_take hk hds
    by_cases hlt : k < zs.length
    · obtain ⟨b, o, rfl, hb, hc⟩ := (HZ.out.below hbel).at_ hlt
      obtain ⟨c0, c1⟩ := hc k hlt
      clear hc
      have hok := (HZ.out.2 zs[k] (List.getElem_mem hlt)).below hbel
      have hll := HL.out zs[k] (List.getElem_mem hlt)
      have hsz := hbel.size
      have HTK := Lib.hid (laysT_take zs ds k hlt hds)
      have hk0 : (0 : Int) ≤ (k : Int) := by omega
      have hk1 : (k : Int) < (zs.length : Int) := by omega
      have hdn : ds.length < 4294967296 := by omega
      have HDL := Lib.hid hdl
      have HOWN := Lib.hid hown
      have HBEL := Lib.hid hbel
      have HLT := Lib.hid (hown.laysLt)
      clear hds hdl hown hbel
      generalize zs[k] = z at *
      have hbx : Below wr.heap.size wr (wr.alloc (.cells #[.int .i64 z.1.1, .slice z.2.1 z.1.2.length z.2.2] 28)) := (Below.refl _ _).alloc (Nat.le_refl _) _
      have hrb := RowIs.alloc (w := wr) #[.int .i64 z.1.1, .slice z.2.1 z.1.2.length z.2.2] 28
      have hz1 : (wr.alloc (.cells #[.int .i64 z.1.1, .slice z.2.1 z.1.2.length z.2.2] 28)).heap.size = wr.heap.size + 1 := by simp
      have HBX := Lib.hid hbx
      have KP := Lib.hid (show ∀ W', Below (wr.alloc (.cells #[.int .i64 z.1.1, .slice z.2.1 z.1.2.length z.2.2] 28)).heap.size (wr.alloc (.cells #[.int .i64 z.1.1, .slice z.2.1 z.1.2.length z.2.2] 28)) W' → W'.cell? ⟨wr.heap.size, 0, none⟩ = some (.int .i64 z.1.1) ∧ W'.cell? ⟨wr.heap.size, 1, none⟩ = some (.slice z.2.1 z.1.2.length z.2.2) from
        fun W' h => ⟨(hrb.below h hrb.lt).cell 0, (hrb.below h hrb.lt).cell 1⟩)
      have HQ := Lib.hid (hok.2.below hbx)
      have OUT := Lib.hid (show ∀ W', Below (wr.alloc (.cells #[.int .i64 z.1.1, .slice z.2.1 z.1.2.length z.2.2] 28)).heap.size (wr.alloc (.cells #[.int .i64 z.1.1, .slice z.2.1 z.1.2.length z.2.2] 28)) W' → LaysOwn W' w.heap.size A5 c5 ds from
        fun W' h => (HOWN.out.alloc _).below h)
      have HSZ := Lib.hid (show ∀ W', Below (wr.alloc (.cells #[.int .i64 z.1.1, .slice z.2.1 z.1.2.length z.2.2] 28)).heap.size (wr.alloc (.cells #[.int .i64 z.1.1, .slice z.2.1 z.1.2.length z.2.2] 28)) W' → w.heap.size ≤ W'.heap.size from
        fun W' h => by have := h.size; omega)
      obtain ⟨q0, q1⟩ := KP.out _ (Below.refl _ _)
      have KP3 := Lib.hid (show ∀ W' W'', Below (wr.alloc (.cells #[.int .i64 z.1.1, .slice z.2.1 z.1.2.length z.2.2] 28)).heap.size (wr.alloc (.cells #[.int .i64 z.1.1, .slice z.2.1 z.1.2.length z.2.2] 28)) W' → W'.grownBy W'' (Value.slice A5 ds.length c5).ownBlock → W''.cell? ⟨wr.heap.size, 0, none⟩ = some (.int .i64 z.1.1) ∧ W''.cell? ⟨wr.heap.size, 1, none⟩ = some (.slice z.2.1 z.1.2.length z.2.2) from
        fun W' W'' h hg => by
          have hr := (hrb.below h hrb.lt).kept hg (fun e => by
            have := HLT.out (outRow A5 c5 ds) (by simp) wr.heap.size e
            omega)
          exact ⟨hr.cell 0, hr.cell 1⟩)
      have HB1X := Lib.hid (HBEL.out.trans (hbx.mono hsz))
      clear hbx hrb hok
      go_wp2
      go_region_held3 (fun w' => w'.cell? ⟨wr.heap.size, 0, none⟩ = some (.int .i64 z.1.1) ∧ w'.cell? ⟨wr.heap.size, 1, none⟩ = some (.slice z.2.1 z.1.2.length z.2.2)) (first | go_keep | exact KP3.out _ _ (below_ud2 hb2) hg3 | exact KP.out _ (below_ud2 hb2))
        (first
          | (go_at_call 59; refine (cloneEntries_any _ _ z.1.2 _ (EntsAt.dr HQ.out) hll).mono ?_; rintro e w2 ⟨A2, c2, rfl, o2, hb2⟩)
          | (refine step_push layRow_ty (by rfl) _ _ (by rfl) w.heap.size _ _ _ (by rfl) (OUT.out _ (below_ud2 hb2)).outer _ _ (by rfl) rfl (by simp [Value.oneCell']) hdn (HSZ.out _ (below_ud2 hb2)) ?_; intro v3 w3 ho3 hb3 hg3 hs3)
          | (refine step_push0 layRow_ty (by rfl) _ _ (by rfl) w.heap.size _ _ _ (by rfl) (OUT.out _ (below_ud2 hb2)).outer _ _ (by rfl) rfl (by simp [Value.oneCell']) hdn (HSZ.out _ (below_ud2 hb2)) ?_; intro v3 w3 ho3 hb3 hg3 hs3))
      have hb2' := below_ud2 hb2
      have h2 := OUT.out _ hb2'
      obtain ⟨A3, c3, rfl, hown3⟩ := h2.push (S := wr.heap.size) (z := z.1) (own_weaken o2 (by show wr.heap.size ≤ (wr.alloc _).heap.size; omega)) HLT.out hsz ho3 hg3
      have HB3 := Lib.hid ((HB1X.out.trans (hb2'.mono HB1X.out.size)).trans hb3)
      have HOWN3 := Lib.hid hown3
      clear q0 q1 h2 ho3 hb3 hg3 o2 hb2 hb2' hown3 c0 c1
      go_wp2
      go_roundw
      case rel => exact ⟨k + 1, _, by omega, by go_num, HTK.out (A2, c2), ⟨A3, c3, rfl, HOWN3.out⟩, HB3.out⟩
      case measure => simp [intOf]; omega
    · obtain rfl : k = zs.length := by omega
      go_wp2
      go_ret
      exact ⟨A5, c5, ds, rfl, by rw [hds, List.take_of_length_le (by simp)], hown, hbel⟩

set_option maxRecDepth 100000 in
set_option maxHeartbeats 3200000 in
theorem l4Copy_any (A : Option Addr) (c : Nat) (zs : List LayA) (w : World) (hz : LaysAt w A zs) (hn : zs.length < 4294967296) (hl : ∀ z ∈ zs, z.1.2.length < 4294967296) :
    Calls Try.prog 40 #[.slice A zs.length c] w (NewLays (laysT zs) w) := by
  have HZ := Lib.hid hz
  have HL := Lib.hid hl
  have HST := Lib.hid (show LaysOwn (w.alloc (.cells #[] 28)) w.heap.size (some ⟨w.heap.size, 0, none⟩) 0 [] from LaysOwn.mk (n := 0) rfl (own_empty w w.heap.size 28 2 (Nat.le_refl _)) (HeldL.nil _ _))
  clear hz hl
  go_enter Try.func40, Try.ntmps40
  go_wp2
  go_loopw [3, 4] (fun out i wr => ∃ (k : Nat) (ds : List LayA), k ≤ zs.length ∧ i = .int .i64 k ∧ laysT ds = (laysT zs).take k ∧ (∃ A' c', out = .slice A' ds.length c' ∧ LaysOwn wr w.heap.size A' c' ds) ∧ Below w.heap.size w wr) (fun _ i _ => zs.length - (intOf i).toNat)
  case atStart => exact ⟨0, [], Nat.zero_le _, rfl, rfl, ⟨_, _, rfl, HST.out⟩, (Below.refl _ _).alloc (Nat.le_refl _) _⟩
  case round =>
    obtain ⟨k, ds, hk, rfl, hds, ⟨A5, c5, rfl, hown⟩, hbel⟩ := hrel
    have hdl := laysT_len_take hk hds
    by_cases hlt : k < zs.length
    · obtain ⟨b, o, hA, hb, hc⟩ := HZ.out.at_ hlt
      have hok := (HZ.out.2 zs[k] (List.getElem_mem hlt)).below hbel
      have hll := HL.out zs[k] (List.getElem_mem hlt)
      have hsz := hbel.size
      have HTK := Lib.hid (laysT_take zs ds k hlt hds)
      have hk0 : (0 : Int) ≤ (k : Int) := by omega
      have hk1 : (k : Int) < (zs.length : Int) := by omega
      have hdn : ds.length < 4294967296 := by omega
      have HDL := Lib.hid hdl
      have HOWN := Lib.hid hown
      have HBEL := Lib.hid hbel
      have HLT := Lib.hid (hown.laysLt)
      have HC := Lib.hid (hc k hlt)
      subst hA
      clear hds hdl hown hbel hc
      generalize zs[k] = z at *
      have KP := Lib.hid (show ∀ W', Below w.heap.size w W' → W'.cell? ⟨b, o + k * 2, none⟩ = some (.int .i64 z.1.1) ∧ W'.cell? ⟨b, o + k * 2 + 1, none⟩ = some (.slice z.2.1 z.1.2.length z.2.2) from
        fun W' h => ⟨(h.cell hb).trans HC.out.1, (h.cell hb).trans HC.out.2⟩)
      have HBA := Lib.hid (show Below wr.heap.size wr (wr.alloc (.cells #[] 37)).drew from ((Below.refl _ _).alloc (Nat.le_refl _) _).drew)
      have HBB := Lib.hid (show Below wr.heap.size wr (wr.drew.alloc (.cells #[] 37)) from (Below.refl _ _).drew.alloc (Nat.le_refl _) _)
      have HQA := Lib.hid (hok.2.below HBA.out)
      have HQB := Lib.hid (hok.2.below HBB.out)
      have OUT := Lib.hid (show ∀ W', Below wr.heap.size wr W' → LaysOwn W' w.heap.size A5 c5 ds from fun W' h => HOWN.out.below h)
      have HSZ := Lib.hid (show ∀ W', Below wr.heap.size wr W' → w.heap.size ≤ W'.heap.size from fun W' h => by have := h.size; omega)
      obtain ⟨q0, q1⟩ := KP.out _ HBEL.out
      have hbr : b < wr.heap.size := by omega
      clear hok
      go_wp2
      go_region_held3 (fun w' => w'.cell? ⟨b, o + k * 2, none⟩ = some (.int .i64 z.1.1) ∧ w'.cell? ⟨b, o + k * 2 + 1, none⟩ = some (.slice z.2.1 z.1.2.length z.2.2)) (first | go_keep | exact KP.out _ ((HBEL.out.trans (hb2.mono hsz)).trans hb3) | exact KP.out _ (HBEL.out.trans (hb2.mono hsz)) | exact KP.out _ (HBEL.out.trans (HBA.out.mono hsz)) | exact KP.out _ (HBEL.out.trans (HBB.out.mono hsz)))
        (first
          | (refine step_clone entRow (by rfl) _ _ (by rfl) wr.heap.size _ (by rfl) (own_drw (own_empty wr wr.heap.size 37 2 (Nat.le_refl _))) _ _ _ _ (by rfl) HQA.out (entCells_length _) (entCells_one _) hll HBA.out.size ?_; intro A2 c2 w2 o2 hb2'; have hb2 := HBA.out.trans hb2')
          | (refine step_clone entRow (by rfl) _ _ (by rfl) wr.heap.size _ (by rfl) (own_empty wr.drew wr.heap.size 37 2 (Nat.le_refl _)) _ _ _ _ (by rfl) HQB.out (entCells_length _) (entCells_one _) hll HBB.out.size ?_; intro A2 c2 w2 o2 hb2'; have hb2 := HBB.out.trans hb2')
          | (refine step_push layRow_ty (by rfl) _ _ (by rfl) w.heap.size _ _ _ (by rfl) (OUT.out _ hb2).outer _ _ (by rfl) rfl (by simp [Value.oneCell']) hdn (HSZ.out _ hb2) ?_; intro v3 w3 ho3 hb3 hg3 hs3)
          | (refine step_push0 layRow_ty (by rfl) _ _ (by rfl) w.heap.size _ _ _ (by rfl) (OUT.out _ hb2).outer _ _ (by rfl) rfl (by simp [Value.oneCell']) hdn (HSZ.out _ hb2) ?_; intro v3 w3 ho3 hb3 hg3 hs3))
      all_goals
        have h2 := OUT.out _ hb2
        obtain ⟨A3, c3, rfl, hown3⟩ := h2.push (S := wr.heap.size) (z := z.1) o2 HLT.out hsz ho3 hg3
        have HB3 := Lib.hid ((HBEL.out.trans (hb2.mono hsz)).trans hb3)
        have HOWN3 := Lib.hid hown3
        clear q0 q1 h2 ho3 hb3 hg3 o2 hb2 hb2' hown3
        go_wp2
        go_roundw
        case rel => exact ⟨k + 1, _, by omega, by go_num, HTK.out (A2, c2), ⟨A3, c3, rfl, HOWN3.out⟩, HB3.out⟩
        case measure => simp [intOf]; omega
    · obtain rfl : k = zs.length := by omega
      go_wp2
      go_ret
      exact ⟨A5, c5, ds, rfl, by rw [hds, List.take_of_length_le (by simp)], hown, hbel⟩

theorem NewLays.form {xs : List LayT} {w : World} {e : Ending} {w' : World} (h : NewLays xs w e w') : NewLays xs w e w' := h
theorem forkF_no {ls : List LayT} {n : Int} (h : laysOk ls = false) : forkF ls n = [] ∧ forkB ls n = false := by simp [forkF, forkB, h]
theorem forkF_old {ls : List LayT} {n : Int} (h : laysOk ls = true) (h2 : forkOkB ls n = false) : forkF ls n = ls ∧ forkB ls n = false := by simp [forkF, forkB, h, h2]
theorem forkF_new {ls : List LayT} {n : Int} (h : laysOk ls = true) (h2 : forkOkB ls n = true) : forkF ls n = ls ++ [(n, [])] ∧ forkB ls n = true := by simp [forkF, forkB, h, h2]
theorem forkF_bd (ls : List LayT) (n : Int) : (forkF ls n).length + totL (forkF ls n) ≤ ls.length + totL ls + 1 := by
  unfold forkF
  split
  · split
    · rw [List.length_append, totL_append]; simp [totL]; omega
    · omega
  · simp [totL]
theorem forkOk_eq (ls : List LayT) (n : Int) : forkOkB ls n = (inB n (-1) ((ls.length : Int) - 1) && !((ls.length : Int) == 20)) := by
  unfold forkOkB
  congr 1
  by_cases h : ls.length = 20
  · simp [h]
  · have : ((ls.length : Int) == 20) = false := by rw [beq_eq_false_iff_ne]; omega
    rw [this]; simp [h]

set_option maxRecDepth 100000 in
set_option maxHeartbeats 3200000 in
theorem ForkLayer_any (A : Option Addr) (c : Nat) (zs : List LayA) (n : Int) (w : World) (hz : LaysAt w A zs) (hn : zs.length < 4294967296) (hl : ∀ z ∈ zs, z.1.2.length < 4294967296) :
    Calls Try.prog 13 #[.slice A zs.length c, .int .i64 n] w (NewLays2 (forkF (laysT zs) n) (forkB (laysT zs) n) w) := by
  have HZ := Lib.hid hz
  have HL := Lib.hid hl
  have HL' := Lib.hid (show ∀ z ∈ zs, z.1.2.length ≤ 4294967296 from fun z h => Nat.le_of_lt (hl z h))
  have HN := Lib.hid (laysT_len zs)
  clear hz hl
  cases h1 : laysOk (laysT zs)
  case false =>
    have H := Lib.hid (forkF_no (n := n) h1)
    go_enter Try.func13, Try.ntmps13
    go_wp2_with fail
    refine (LayersValid_any _ _ _ _ HZ.out (by omega) HL'.out).mono ?_
    rintro e w1 ⟨rfl, hb1⟩
    rw [h1]
    go_wp2
    go_ret2
    exact ⟨none, 0, [], by rw [H.out.2]; rfl, by rw [H.out.1]; rfl, laysOwn_nil _ _, hb1⟩
  case true =>
    have hlen : zs.length ≤ 20 := by have := (laysOk_iff.1 h1).2; rw [HN.out] at this; exact this
    have HE := Lib.hid (forkOk_eq (laysT zs) n)
    rw [HN.out] at HE
    cases h2 : inB n (-1) ((zs.length : Int) - 1) <;> cases h3 : ((zs.length : Int) == 20)
    case true.false =>
      have H := Lib.hid (forkF_new h1 (by rw [HE.out, h2, h3]; rfl))
      go_enter Try.func13, Try.ntmps13
      go_wp2_with fail
      refine (LayersValid_any _ _ _ _ HZ.out (by omega) HL'.out).mono ?_
      rintro e w1 ⟨rfl, hb1⟩
      rw [h1]
      go_wp2_with fail
      refine (cloneLayers_any _ _ _ _ (HZ.out.below hb1) hn HL.out).mono ?_
      rintro e w2 ⟨A2, c2, ds, rfl, hds, hown, hb2⟩
      have hdn : ds.length < 4294967296 := by have := congrArg List.length hds; simp at this; omega
      have hsz2 := hb2.size
      go_wp2_with (first | (go_at_call 32; refine (in_any _ _ _ _).mono ?_; rintro e w' ⟨rfl, rfl⟩) | (at_builtin; refine wpList_push_lay layRow_ty rfl _ _ rfl w1.heap.size _ _ _ rfl hown.outer _ n none 0 0 rfl hdn hsz2 ?_; intro v3 w3 ho3 hb3 hg3 hs3))
      obtain ⟨A3, c3, rfl, hown3⟩ := hown.push (S := w2.heap.size) (z := (n, [])) (A2 := none) (c2 := 0) (World.ownsRow_nil _ _ _ _) hown.laysLt hsz2 ho3 hg3
      have HB3 := Lib.hid (hb1.trans ((hb2.trans hb3).mono hb1.size))
      have HO3 := Lib.hid (hown3.weaken hb1.size)
      clear hown hown3 ho3 hg3 hb3 hb2
      go_wp2
      go_ret2
      exact ⟨A3, c3, _, by rw [H.out.2]; rfl, by rw [H.out.1, ← hds]; simp [laysT], HO3.out, HB3.out⟩
    all_goals
      have H := Lib.hid (forkF_old (n := n) h1 (by rw [HE.out, h2, h3]; rfl))
      go_enter Try.func13, Try.ntmps13
      go_wp2_with fail
      refine (LayersValid_any _ _ _ _ HZ.out (by omega) HL'.out).mono ?_
      rintro e w1 ⟨rfl, hb1⟩
      rw [h1]
      go_wp2_with fail
      refine (cloneLayers_any _ _ _ _ (HZ.out.below hb1) hn HL.out).mono ?_
      rintro e w2 ⟨A2, c2, ds, rfl, hds, hown, hb2⟩
      go_wp2_with (go_at_call 32; refine (in_any _ _ _ _).mono ?_; rintro e w' ⟨rfl, rfl⟩)
      go_ret2
      exact ⟨A2, c2, ds, by rw [H.out.2]; rfl, by rw [H.out.1, hds], hown.weaken hb1.size, hb1.trans (hb2.mono hb1.size)⟩

set_option maxRecDepth 100000 in
set_option maxHeartbeats 3200000 in
theorem specForkLayer_any (A : Option Addr) (c : Nat) (zs : List LayA) (n : Int) (w : World) (hz : LaysAt w A zs) (hn : zs.length < 4294967296) (hl : ∀ z ∈ zs, z.1.2.length < 4294967296) :
    Calls Try.prog 14 #[.slice A zs.length c, .int .i64 n] w (NewLays2 (forkF (laysT zs) n) (forkB (laysT zs) n) w) := by
  have HZ := Lib.hid hz
  have HL := Lib.hid hl
  have HL' := Lib.hid (show ∀ z ∈ zs, z.1.2.length ≤ 4294967296 from fun z h => Nat.le_of_lt (hl z h))
  have HN := Lib.hid (laysT_len zs)
  clear hz hl
  cases h1 : laysOk (laysT zs)
  case false =>
    have H := Lib.hid (forkF_no (n := n) h1)
    go_enter Try.func14, Try.ntmps14
    go_wp2_with fail
    refine (specLayersValid_any _ _ _ _ HZ.out (by omega) HL'.out).mono ?_
    rintro e w1 ⟨rfl, hd1⟩
    have hb1 := hd1.below w.heap.size
    rw [h1]
    go_wp2
    go_ret2
    exact ⟨_, _, [], by rw [H.out.2]; rfl, by rw [H.out.1]; rfl, LaysOwn.mk (n := 0) rfl (own_empty w1 w.heap.size 28 2 hb1.size) (HeldL.nil _ _), hb1.alloc hb1.size _⟩
  case true =>
    have hlen : zs.length ≤ 20 := by have := (laysOk_iff.1 h1).2; rw [HN.out] at this; exact this
    have HE := Lib.hid (forkOk_eq (laysT zs) n)
    rw [HN.out] at HE
    cases h2 : inB n (-1) ((zs.length : Int) - 1) <;> cases h3 : ((zs.length : Int) == 20)
    case true.false =>
      have H := Lib.hid (forkF_new h1 (by rw [HE.out, h2, h3]; rfl))
      go_enter Try.func14, Try.ntmps14
      go_wp2_with fail
      refine (specLayersValid_any _ _ _ _ HZ.out (by omega) HL'.out).mono ?_
      rintro e w1 ⟨rfl, hd1⟩
      have hb1 := hd1.below w.heap.size
      rw [h1]
      go_wp2_with fail
      refine (l4Copy_any _ _ _ _ (HZ.out.below hb1) hn HL.out).mono ?_
      rintro e w2 ⟨A2, c2, ds, rfl, hds, hown, hb2⟩
      have hdn : ds.length < 4294967296 := by have := congrArg List.length hds; simp at this; omega
      have hsz2 := hb2.size
      go_wp2_with (first | (go_at_call 34; refine (l1In_any _ _ _ _).mono ?_; rintro e w' ⟨rfl, rfl⟩) | (at_builtin; refine wpList_push_lay layRow_ty rfl _ _ rfl w1.heap.size _ _ _ rfl hown.outer _ n none 0 0 rfl hdn hsz2 ?_; intro v3 w3 ho3 hb3 hg3 hs3))
      obtain ⟨A3, c3, rfl, hown3⟩ := hown.push (S := w2.heap.size) (z := (n, [])) (A2 := none) (c2 := 0) (World.ownsRow_nil _ _ _ _) hown.laysLt hsz2 ho3 hg3
      have HB3 := Lib.hid (hb1.trans ((hb2.trans hb3).mono hb1.size))
      have HO3 := Lib.hid (hown3.weaken hb1.size)
      clear hown hown3 ho3 hg3 hb3 hb2
      go_wp2
      go_ret2
      exact ⟨A3, c3, _, by rw [H.out.2]; rfl, by rw [H.out.1, ← hds]; simp [laysT], HO3.out, HB3.out⟩
    all_goals
      have H := Lib.hid (forkF_old (n := n) h1 (by rw [HE.out, h2, h3]; rfl))
      go_enter Try.func14, Try.ntmps14
      go_wp2_with fail
      refine (specLayersValid_any _ _ _ _ HZ.out (by omega) HL'.out).mono ?_
      rintro e w1 ⟨rfl, hd1⟩
      have hb1 := hd1.below w.heap.size
      rw [h1]
      go_wp2_with fail
      refine (l4Copy_any _ _ _ _ (HZ.out.below hb1) hn HL.out).mono ?_
      rintro e w2 ⟨A2, c2, ds, rfl, hds, hown, hb2⟩
      go_wp2_with (go_at_call 34; refine (l1In_any _ _ _ _).mono ?_; rintro e w' ⟨rfl, rfl⟩)
      go_ret2
      exact ⟨A2, c2, ds, by rw [H.out.2]; rfl, by rw [H.out.1, hds], hown.weaken hb1.size, hb1.trans (hb2.mono hb1.size)⟩

end Go.Proofs.Ytehlgfgkobblbaa
