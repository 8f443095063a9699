/- Contract of the program's EffectSum, with slices.Grow and slices.Concat at entries. -/
import Derived.Test.YtpomiglcplbdbaaQEffSum
import Derived.Lib.AppendZerosOnto
import Derived.Lib.Walk
import Derived.Lib.SliceRun
namespace Go.Proofs.Ytpomiglcplbdbaa
open Go.RowKit

section
variable {P : Program} {ops : Array Oper} {rest : List Oper} {o : Oper} {a : Act} {Q : Exit → Act → World → Prop} {W : World}
/-- 'out = append(out, x, y)': the new elements lie in a block that was made for them just now. -/
theorem wpList_push_two {T E bytes : Nat} (hT : RowType P T E 1 bytes) (hgd : o.guard = none) (s x : Operand) (ho : o.op = .call { callee := .builtin .append, args := #[s, x], argTypes := #[T, T] })
    (base : Nat) (v : Value) (n : Nat) (xs : List Value) (hs : a.eval s = v) (hown : W.ownsRow base E 1 v n xs) (E' : Nat) (k u : Int) (g : Nat) (hx : a.eval x = .slice (some ⟨g, 0, none⟩) 2 2) (hg : W.heap.size = g)
    (hn : n < 4294967296) (hbase : base ≤ W.heap.size)
    (h : ∀ v' w', w'.ownsRow base E 1 v' (n + 2) (xs ++ [.int .i64 k, .int .i64 u]) → Below base W w' → W.grownBy w' v.ownBlock → W.heap.size < w'.heap.size → wpList P ops Q rest (a.put o.dst v') w') :
    wpList P ops Q (o :: rest) a (W.alloc (.cells #[.int .i64 k, .int .i64 u] E')) := by
  subst hg
  obtain ⟨ht, i, z, hi, hz, hsz, hby, hzs, h0, hb⟩ := hT
  have hlt : bytes * (n + 2) ≤ 4096 * 4294967297 := Nat.mul_le_mul hb (by omega)
  refine wpList_append_own _ hgd s x T ho base E i z 1 bytes ht hi hz hsz hby hzs h0 v n xs hs (hown.alloc _) ⟨W.heap.size, 0, none⟩ 2 2 [.int .i64 k, .int .i64 u] hx rfl (new_cells #[.int .i64 k, .int .i64 u] E')
    (by simp [Value.oneCell']) (by unfold maxLen; omega) (by rw [Nat.mul_comm]; omega) (by simp; omega) (fun v' w' g1 g2 _ => ?_)
  have hB : Below base W w' := below_own ((Below.refl _ _).alloc hbase _) (hown.alloc _) g2 (by simp; omega) (Nat.le_refl _)
  have hG : W.grownBy w' v.ownBlock := ⟨g2.os, g2.tape, g2.output, Nat.le_trans (by simp) g2.size, fun k hk hne => (g2.block k (by simp; omega) hne).trans (Below.heap_alloc W _ k hk)⟩
  exact h v' w' g1 hB hG (by have := g2.size; simp at this; omega)
end

set_option maxRecDepth 100000 in
set_option maxHeartbeats 1600000 in
theorem Grow_nil (z : Int) (hz0 : 0 ≤ z) (hz1 : z ≤ 67108864) (w : World) :
    Calls Try.prog 107 #[.slice none 0 0, .int .i64 z] w fun e w' => ∃ A c, e = .returned (.slice A 0 c) ∧ w'.ownsRow w.heap.size 49 2 (.slice A 0 c) 0 [] ∧ Below w.heap.size w w' := by
  obtain ⟨n, rfl⟩ : ∃ n : Nat, z = (n : Int) := ⟨z.toNat, by omega⟩
  rcases Nat.eq_zero_or_pos n with rfl | hn
  · go_enter Try.func107, Try.ntmps107
    go_wp2
    go_ret
    exact ⟨none, 0, rfl, World.ownsRow_nil _ _ _ _, Below.refl _ _⟩
  · obtain ⟨i0, hi, hz, hs, hby⟩ := info_parts info_ent
    have h1 : ¬ ((n : Int) < 0) := by omega
    have h4 : (n : Int) > 0 := by omega
    have hrz : ∀ ty, (Builtin.append_ #[29, 3] ty #[.slice none 0 0, .int .i64 (n : Int)]).run Try.prog w =
        .ok (.slice (some ⟨w.heap.size, 0, none⟩) n (grownCap w n 0 49)) (w.drew.alloc (.cells ((([] : List Value).toArray ++ Builtin.zeroCells (Value.agg #[.int .i64 0, .int .i64 0]).cells n) ++ Builtin.zeroCells (Value.agg #[.int .i64 0, .int .i64 0]).cells (grownCap w n 0 49 - n)) 49)) := fun ty => by
      have h := Lib.run_append_grow_zeros (P := Try.prog) w 29 3 ty 49 i0 (.agg #[.int .i64 0, .int .i64 0]) .i64 .i64 Try.underlying29 Try.underlying3 hi hz none 0 0 [] (run_firstCells_none w.drew i0.size 0 0 0) n hn (by rw [hs]; omega) (by omega) (by omega) (by rw [hby]; omega)
        (growslice_fits (by omega) (by rw [hby]; omega))
      simpa only [Nat.zero_add] using h
    have hge : n ≤ grownCap w n 0 49 := grownCap_ge w _ _ _
    have hle := grownCap_le_maxLen w n 0 49 (by unfold maxLen; omega)
    have hle2 : grownCap w n 0 49 ≤ 9223372036854775807 := by unfold maxLen at hle; omega
    have HLE := Lib.hid hle
    clear hle
    generalize grownCap w n 0 49 = G at *
    have hrow : RowIs (w.drew.alloc (.cells ((([] : List Value).toArray ++ Builtin.zeroCells (Value.agg #[.int .i64 0, .int .i64 0]).cells n) ++ Builtin.zeroCells (Value.agg #[.int .i64 0, .int .i64 0]).cells (G - n)) 49)) w.heap.size 49 ((([] : List Value).toArray ++ Builtin.zeroCells (Value.agg #[.int .i64 0, .int .i64 0]).cells n) ++ Builtin.zeroCells (Value.agg #[.int .i64 0, .int .i64 0]).cells (G - n)).toList := RowIs.alloc (w := w.drew) _ _
    have hown : World.ownsRow (w.drew.alloc (.cells ((([] : List Value).toArray ++ Builtin.zeroCells (Value.agg #[.int .i64 0, .int .i64 0]).cells n) ++ Builtin.zeroCells (Value.agg #[.int .i64 0, .int .i64 0]).cells (G - n)) 49)) w.heap.size 49 2 (.slice (some ⟨w.heap.size, 0, none⟩) 0 G) 0 [] :=
      own_intro hrow (Nat.le_refl _) (Nat.zero_le _) HLE.out (by
        have h2 : ∀ k, (Builtin.zeroCells (Value.agg #[.int .i64 0, .int .i64 0]).cells k).size = k * 2 := fun k => size_zeroCells _ _
        rw [Array.length_toList, Array.size_append, Array.size_append, h2, h2]
        simp
        omega) (by simp)
    have HOWN := Lib.hid hown
    have HB := Lib.hid (show Below w.heap.size w (w.drew.alloc (.cells ((([] : List Value).toArray ++ Builtin.zeroCells (Value.agg #[.int .i64 0, .int .i64 0]).cells n) ++ Builtin.zeroCells (Value.agg #[.int .i64 0, .int .i64 0]).cells (G - n)) 49)) from (Below.refl _ _).drew.alloc (Nat.le_refl _) _)
    clear hown hrow
    generalize (w.drew.alloc (.cells ((([] : List Value).toArray ++ Builtin.zeroCells (Value.agg #[.int .i64 0, .int .i64 0]).cells n) ++ Builtin.zeroCells (Value.agg #[.int .i64 0, .int .i64 0]).cells (G - n)) 49)) = W at *
    go_enter Try.func107, Try.ntmps107
    go_wp2_with (at_builtin; refine Lib.wpList_append_run _ rfl _ _ _ _ rfl _ _ rfl rfl _ _ (hrz _) ?_)
    go_ret
    exact ⟨_, _, rfl, HOWN.out, HB.out⟩

set_option maxRecDepth 100000 in
set_option maxHeartbeats 1600000 in
theorem Concat_two (g : Nat) (A B : Option Addr) (c d : Nat) (xs ys : List Ent) (w : World) (q0 : w.cell? ⟨g, 0, none⟩ = some (.slice A xs.length c)) (q1 : w.cell? ⟨g, 1, none⟩ = some (.slice B ys.length d)) (hg : g < w.heap.size) (hx : EntsAt w A xs) (hy : EntsAt w B ys) (hn : xs.length ≤ 16777216) (hm : ys.length ≤ 16777216) :
    Calls Try.prog 88 #[.slice (some ⟨g, 0, none⟩) 2 2] w (OwnRes 49 2 (entCells (xs ++ ys)) (xs.length + ys.length) w) := by
  have hp1 : ¬ ((xs.length : Int) < 0) := by omega
  have hp2 : ¬ ((xs.length : Int) + (ys.length : Int) < 0) := by omega
  have HX := Lib.hid hx
  have HY := Lib.hid hy
  have HQ := Lib.hid (show ∀ W', Below w.heap.size w W' → W'.cell? ⟨g, 0, none⟩ = some (.slice A xs.length c) ∧ W'.cell? ⟨g, 1, none⟩ = some (.slice B ys.length d) from fun W' h => ⟨(h.cell hg).trans q0, (h.cell hg).trans q1⟩)
  clear hx hy
  go_enter Try.func88, Try.ntmps88
  go_wp2
  refine wp_loop_rounds 3 ?_
  rw [rounds_succ]
  go_wp2
  rw [rounds_succ]
  go_wp2
  rw [rounds_succ]
  go_wp2_with fail
  refine (Grow_nil _ (by omega) (by omega) _).mono ?_
  rintro e w1 ⟨A1, c1, rfl, ho1, hb1⟩
  obtain ⟨q0, q1⟩ := HQ.out w1 hb1
  have HX1 := Lib.hid (HX.out.below hb1)
  have hs1 := hb1.size
  have HB1 := Lib.hid hb1
  have HY1 := Lib.hid (HY.out.below hb1)
  clear hb1
  go_wp2
  refine wp_loop_rounds 3 ?_
  rw [rounds_succ]
  go_wp2_with (at_builtin; refine wpList_append_at entRow rfl _ _ rfl w.heap.size _ 0 [] rfl ho1 A xs.length c (entCells xs) rfl HX1.out (entCells_length xs) (entCells_one xs) (by omega) hs1 ?_)
  intro v2 w2 ho2 hb2 hg2
  try rw [Nat.zero_add] at ho2
  try rw [List.nil_append] at ho2
  have HB2 := Lib.hid (HB1.out.trans hb2)
  obtain ⟨q0, q1⟩ := HQ.out w2 HB2.out
  have HY2 := Lib.hid (HY.out.below HB2.out)
  have hs2 := HB2.out.size
  clear ho1 hb2 hg2
  go_wp2
  rw [rounds_succ]
  go_wp2_with (at_builtin; refine wpList_append_at entRow rfl _ _ rfl w.heap.size _ xs.length (entCells xs) rfl ho2 B ys.length d (entCells ys) rfl HY2.out (entCells_length ys) (entCells_one ys) (by omega) hs2 ?_)
  intro v3 w3 ho3 hb3 hg3
  rw [← entCells_append] at ho3
  have HB3 := Lib.hid (HB2.out.trans hb3)
  clear ho2 hb3 hg3
  go_wp2
  rw [rounds_succ]
  go_wp2
  go_ret
  exact ownRes_of ho3 HB3.out

set_option maxRecDepth 100000 in
set_option maxHeartbeats 4000000 in
theorem EffectSum_any (x : EffT) (A B : Option Addr) (a b : Nat) (w : World) (hx : EntsAt w A x.2.1) (hy : EntsAt w B x.2.2) (hn : x.2.1.length ≤ 16777216) (hm : x.2.2.length ≤ 16777216) :
    Calls Try.prog 51 #[.agg #[.bool x.1, .slice A x.2.1.length a, .slice B x.2.2.length b]] w fun e w' => e = .returned (.int .i64 (effSumF x)) ∧ Below w.heap.size w w' := by
  obtain ⟨dn, rs, ws⟩ := x
  simp only at hx hy hn hm ⊢
  have HX := Lib.hid hx
  have HY := Lib.hid hy
  clear hx hy
  obtain ⟨d, hd⟩ : ∃ d : Bool, d = dn := ⟨_, rfl⟩
  have HSUM := Lib.hid (show sumOfF 3 (nums d rs.length (flatE ((rs ++ ws).take (rs ++ ws).length))) = effSumF (dn, rs, ws) by rw [List.take_length, flatE_append, hd]; rfl)
  obtain ⟨W0, hW0⟩ : ∃ W0 : Int → World, W0 = fun z => ((w.alloc (.cells #[.bool dn, .slice A rs.length a, .slice B ws.length b] 53)).alloc (.cells #[.int .i64 z, .int .i64 (rs.length : Int)] 3)).alloc (.cells #[.slice A rs.length a, .slice B ws.length b] 29) := ⟨_, rfl⟩
  have hone : (w.alloc (.cells #[.bool dn, .slice A rs.length a, .slice B ws.length b] 53)).heap.size = w.heap.size + 1 := by simp
  have htwo : ∀ z : Int, ((w.alloc (.cells #[.bool dn, .slice A rs.length a, .slice B ws.length b] 53)).alloc (.cells #[.int .i64 z, .int .i64 (rs.length : Int)] 3)).heap.size = w.heap.size + 1 + 1 := fun z => by simp
  have hb0 : Below w.heap.size w (w.alloc (.cells #[.bool dn, .slice A rs.length a, .slice B ws.length b] 53)) := (Below.refl _ _).alloc (Nat.le_refl _) _
  have HBB := Lib.hid (show ∀ z : Int, Below w.heap.size w (((w.alloc (.cells #[.bool dn, .slice A rs.length a, .slice B ws.length b] 53)).alloc (.cells #[.int .i64 z, .int .i64 (rs.length : Int)] 3)).alloc (.cells #[.slice A rs.length a, .slice B ws.length b] 29)) from
    fun z => (hb0.alloc hb0.size _).alloc (by rw [htwo]; omega) _)
  have HROW := Lib.hid (show ∀ z : Int, RowIs (((w.alloc (.cells #[.bool dn, .slice A rs.length a, .slice B ws.length b] 53)).alloc (.cells #[.int .i64 z, .int .i64 (rs.length : Int)] 3)).alloc (.cells #[.slice A rs.length a, .slice B ws.length b] 29)) (w.heap.size + 1) 3 [.int .i64 z, .int .i64 (rs.length : Int)] from fun z => by
    have h := RowIs.alloc (w := w.alloc (.cells #[.bool dn, .slice A rs.length a, .slice B ws.length b] 53)) #[.int .i64 z, .int .i64 (rs.length : Int)] 3
    rw [hone] at h
    exact h.alloc_other _)
  have HARG := Lib.hid (show ∀ z : Int, RowIs (((w.alloc (.cells #[.bool dn, .slice A rs.length a, .slice B ws.length b] 53)).alloc (.cells #[.int .i64 z, .int .i64 (rs.length : Int)] 3)).alloc (.cells #[.slice A rs.length a, .slice B ws.length b] 29)) (w.heap.size + 1 + 1) 29 [.slice A rs.length a, .slice B ws.length b] from fun z => by
    have h := RowIs.alloc (w := (w.alloc (.cells #[.bool dn, .slice A rs.length a, .slice B ws.length b] 53)).alloc (.cells #[.int .i64 z, .int .i64 (rs.length : Int)] 3)) #[.slice A rs.length a, .slice B ws.length b] 29
    rwa [htwo] at h)
  have HST := Lib.hid (show ∀ (W : World) (z : Int), z = (if d then 1 else 0) → RowIs W (w.heap.size + 1) 3 [.int .i64 z, .int .i64 (rs.length : Int)] → W.ownsRow (w.heap.size + 1) 3 1 (.slice (some ⟨w.heap.size + 1, 0, none⟩) (2 + 2 * 0) 2) (2 + 2 * 0) ((nums d rs.length (flatE ((rs ++ ws).take 0))).map (.int .i64)) from
    fun W z hz h => by subst hz; exact own_of_row h (Nat.le_refl _) rfl (by unfold maxLen; omega))
  have HTY := Lib.hid (show (3 : Nat) ≠ 49 by decide)
  clear hb0 hone htwo hW0 W0
  cases dn
  all_goals
    go_enter Try.func51, Try.ntmps51
    go_wp2_with fail
    have hbb := HBB.out (if d then 1 else 0)
    have harg := HARG.out (if d then 1 else 0)
    have hrow := HROW.out (if d then 1 else 0)
    rw [hd] at hbb harg hrow
    simp only [Bool.false_eq_true, if_false, if_true] at hbb harg hrow
    refine (Concat_two (w.heap.size + 1 + 1) A B a b rs ws _ (harg.cell 0) (harg.cell 1) harg.lt (HX.out.below hbb) (HY.out.below hbb) hn hm).mono ?_
    rintro e w1 ⟨A1, c1, rfl, ho1, hb1⟩
    have hrow1 := hrow.below hb1 hrow.lt
    have hB1 := hbb.trans (hb1.mono hbb.size)
    have HOWN := Lib.hid (HST.out _ _ (by rw [hd]; rfl) hrow1)
    have HB1 := Lib.hid hB1
    have HS1 := Lib.hid hrow1.lt
    have HCC := Lib.hid (show w1.ownsRow (w.heap.size + 1) 49 2 (.slice A1 (rs ++ ws).length c1) (rs ++ ws).length (entCells (rs ++ ws)) by
      have := own_weaken (base' := w.heap.size + 1) ho1 (by have := harg.lt; omega)
      rwa [← List.length_append] at this)
    have hLL : rs.length + ws.length = (rs ++ ws).length := by simp
    have hLb : (rs ++ ws).length ≤ 33554432 := by omega
    rw [hLL]
    clear hbb harg hrow ho1 hb1 hrow1 hB1 hLL
    generalize hL : rs ++ ws = L at *
    go_wp2
    go_loopw [3, 21] (fun out i wr => ∃ k : Nat, k ≤ L.length ∧ i = .int .i64 k ∧ (∃ A c, out = .slice A (2 + 2 * k) c ∧ wr.ownsRow (w.heap.size + 1) 3 1 (.slice A (2 + 2 * k) c) (2 + 2 * k) ((nums d rs.length (flatE (L.take k))).map (.int .i64))) ∧ wr.ownsRow (w.heap.size + 1) 49 2 (.slice A1 L.length c1) L.length (entCells L) ∧ w.heap.size + 1 ≤ wr.heap.size ∧ Below w.heap.size w wr) (fun _ i _ => L.length - (intOf i).toNat)
    case atStart => exact ⟨0, Nat.zero_le _, rfl, ⟨_, _, rfl, HOWN.out⟩, HCC.out, by have := HS1.out; omega, HB1.out⟩
    case round =>
      obtain ⟨k, hk, rfl, ⟨A5, c5, rfl, ho⟩, hcc, hsz, hB⟩ := hrel
      by_cases hlt : k < L.length
      · obtain ⟨bb, o, hA, hbl, hc⟩ := (ents_of_own hcc).at_ hlt
        obtain ⟨hcell, hcell2⟩ := hc k hlt
        have HFT := Lib.hid (flatE_take L k hlt)
        have hk0 : (0 : Int) ≤ (k : Int) := by omega
        have hk1 : (k : Int) < (L.length : Int) := by omega
        subst hA
        have HO := Lib.hid (ho.alloc (.cells #[.int .i64 L[k].1, .int .i64 L[k].2] 49))
        have HCC2 := Lib.hid (hcc.alloc (.cells #[.int .i64 L[k].1, .int .i64 L[k].2] 49))
        have HB2 := Lib.hid (hB.alloc hB.size (.cells #[.int .i64 L[k].1, .int .i64 L[k].2] 49))
        have hsz2 : w.heap.size + 1 ≤ (wr.alloc (.cells #[.int .i64 L[k].1, .int .i64 L[k].2] 49)).heap.size := by simp; omega
        have hkn : 2 + 2 * k < 4294967296 := by omega
        clear hc ho hcc
        generalize L[k].1 = key at *
        generalize L[k].2 = value at *
        go_wp2_with (at_builtin; refine wpList_push_two intRow rfl _ _ rfl (w.heap.size + 1) _ _ _ rfl HO.out _ _ _ _ rfl (by simp) hkn hsz2 ?_; intro v3 w3 ho3 hb3 hg3 hs3)
        obtain ⟨A3, c3, rfl⟩ := own_form ho3
        have ho4 : w3.ownsRow (w.heap.size + 1) 3 1 (.slice A3 (2 + 2 * (k + 1)) c3) (2 + 2 * (k + 1)) ((nums d rs.length (flatE (L.take (k + 1)))).map (.int .i64)) := by
          rw [show 2 + 2 * (k + 1) = 2 + 2 * k + 2 from by omega, HFT.out]
          simpa [nums] using ho3
        have hcc4 := own_kept_type HCC2.out HO.out (fun e => HTY.out e.symm) hg3
        have hB4 := HB2.out.trans (hb3.mono (Nat.le_succ _))
        have hs4 : w.heap.size + 1 ≤ w3.heap.size := by omega
        clear ho3 hb3 hg3 hcell hcell2
        go_wp2
        go_roundw
        case rel => exact ⟨k + 1, by omega, by go_num, ⟨A3, c3, by rw [show 2 + 2 * (k + 1) = 2 + 2 * k + 2 from by omega], ho4⟩, hcc4, hs4, hB4⟩
        case measure => simp [intOf]; omega
      · obtain rfl : k = L.length := by omega
        go_wp2_with fail
        have hll : 2 + 2 * L.length = (nums d rs.length (flatE (L.take L.length))).length := by
          rw [List.take_length, nums_length, flatE_length]; omega
        have hI := ints_of_own ho
        have hsml : (nums d rs.length (flatE (L.take L.length))).length ≤ 4294967296 := by rw [← hll]; omega
        rw [hll]
        generalize nums d rs.length (flatE (L.take L.length)) = M at *
        refine (SumOf_any 3 A5 c5 M _ hI hsml).mono ?_
        rintro e w' ⟨rfl, rfl⟩
        rw [HSUM.out]
        go_wp2
        go_ret
        exact ⟨rfl, hB⟩

end Go.Proofs.Ytpomiglcplbdbaa
