/- What the laws draw: values, keys, stores, numbers. -/
import Derived.Test.YtpomiglcplbdbaaQRd
import Derived.Test.YtpomiglcplbdbaaQPut2
import Derived.Test.YtpomiglcplbdbaaQLawMath
namespace Go.Proofs.Ytpomiglcplbdbaa
open Go.RowKit

theorem gr_cell {R : Nat} {w w' : World} (h : Gr R w w') : ∀ b o, R < b → b < w.heap.size → w'.cell? ⟨b, o, none⟩ = w.cell? ⟨b, o, none⟩ :=
  fun b o hR hb => World.cell?_of_block (w := w) (World.grownBy.block h b hb (fun e => by injection e; omega))

theorem own_mk {w : World} (base E sz n : Nat) (cs : Array Value) (hb : base ≤ w.heap.size) (hl : cs.size = n * sz) (hn : n ≤ maxLen) :
    (w.alloc (.cells cs E)).ownsRow base E sz (.slice (some ⟨w.heap.size, 0, none⟩) n n) n cs.toList :=
  own_of_row (RowIs.alloc cs E) hb (by simpa using hl) hn

section
variable {P : Program} {ops : Array Oper} {rest : List Oper} {o : Oper} {a : Act} {Q : Exit → Act → World → Prop} {W : World}
/-- As wpList_push_ent, the new block's number a letter. -/
theorem wpList_push_ent_at {T E bytes : Nat} (hT : RowType P T E 2 bytes) (hgd : o.guard = none) (s x : Operand) (ho : o.op = .call { callee := .builtin .append, args := #[s, x], argTypes := #[T, T] })
    (base : Nat) (v : Value) (n : Nat) (xs : List Value) (hs : a.eval s = v) (hown : W.ownsRow base E 2 v n xs) (E' : Nat) (k u : Int) (g : Nat) (hg : W.heap.size = g) (hx : a.eval x = .slice (some ⟨g, 0, none⟩) 1 1)
    (hn : n < 4294967296) (hbase : base ≤ W.heap.size)
    (h : ∀ v' w', w'.ownsRow base E 2 v' (n + 1) (xs ++ [.int .i64 k, .int .i64 u]) → Below base W w' → W.grownBy w' v.ownBlock → W.heap.size < w'.heap.size → wpList P ops Q rest (a.put o.dst v') w') :
    wpList P ops Q (o :: rest) a (W.alloc (.cells #[.int .i64 k, .int .i64 u] E')) := by
  subst hg
  exact wpList_push_ent hT hgd s x ho base v n xs hs hown E' k u hx hn hbase h
theorem wpList_push_int_at {T E bytes : Nat} (hT : RowType P T E 1 bytes) (hgd : o.guard = none) (s x : Operand) (ho : o.op = .call { callee := .builtin .append, args := #[s, x], argTypes := #[T, T] })
    (base : Nat) (v : Value) (n : Nat) (xs : List Value) (hs : a.eval s = v) (hown : W.ownsRow base E 1 v n xs) (E' : Nat) (k : Int) (g : Nat) (hg : W.heap.size = g) (hx : a.eval x = .slice (some ⟨g, 0, none⟩) 1 1)
    (hn : n < 4294967296) (hbase : base ≤ W.heap.size)
    (h : ∀ v' w', w'.ownsRow base E 1 v' (n + 1) (xs ++ [.int .i64 k]) → Below base W w' → W.grownBy w' v.ownBlock → W.heap.size < w'.heap.size → wpList P ops Q rest (a.put o.dst v') w') :
    wpList P ops Q (o :: rest) a (W.alloc (.cells #[.int .i64 k] E')) := by
  subst hg
  exact wpList_push_int hT hgd s x ho base v n xs hs hown E' k hx hn hbase h
end

/-- A number out of a list's numbers. -/
def nth (l : List Int) (z : Int) : Int := l.getD z.toNat 0
theorem nth_bd {l : List Int} {lo hi : Int} (h : ∀ x ∈ l, lo ≤ x ∧ x ≤ hi) {z : Int} (h0 : 0 ≤ z) (h1 : z < l.length) : lo ≤ nth l z ∧ nth l z ≤ hi := by
  unfold nth
  rw [List.getD_eq_getElem?_getD, List.getElem?_eq_getElem (by omega)]
  exact h _ (List.getElem_mem _)
theorem cells_nth {w : World} {g E : Nat} {l : List Int} (h : RowIs w g E (l.map (Value.int .i64))) {z : Int} (h0 : 0 ≤ z) (h1 : z < l.length) : w.cell? ⟨g, z.toNat, none⟩ = some (.int .i64 (nth l z)) := by
  rw [h.cell, List.getElem?_map, List.getElem?_eq_getElem (by omega)]
  unfold nth
  rw [List.getD_eq_getElem?_getD, List.getElem?_eq_getElem (by omega)]
  rfl

set_option maxRecDepth 100000 in
set_option maxHeartbeats 800000 in
theorem l20Value_any (R m : Nat) (w : World) (h : RdAt w R m) (hm : m ≤ 1000000000) :
    Calls Try.prog 94 #[.pointer (some ⟨R, 0, none⟩)] w (IntRes 0 1000000 R (m + 3) w) := by
  have H := Lib.hid h
  clear h
  go_enter Try.func94, Try.ntmps94
  go_wp2_with fail
  refine (pick_any 12 R m _ H.out (by omega) (by omega)).mono ?_
  rintro e w1 ⟨x, rfl, hx0, hx1, _, hr, hg⟩
  have hx1 := hx1 (by omega)
  go_wp2_with fail
  refine (pick_any 256 R (m + 1) _ hr (by omega) (by omega)).mono ?_
  rintro e w2 ⟨y, rfl, hy0, hy1, _, hr2, hg2⟩
  have hy1 := hy1 (by omega)
  have hlt := hr2.lt
  have hrow0 := RowIs.alloc (w := w2) #[.int .i64 x, .int .i64 y, .int .i64 1000000, .int .i64 999999, .int .i64 0] 3
  have hrow1 := RowIs.alloc (w := w2.alloc (.cells #[.int .i64 x, .int .i64 y, .int .i64 1000000, .int .i64 999999, .int .i64 0] 3)) #[.int .i64 0, .int .i64 0, .int .i64 1, .int .i64 1, .int .i64 2, .int .i64 3, .int .i64 4] 3
  have hrow0 := hrow0.alloc_other (.cells #[.int .i64 0, .int .i64 0, .int .i64 1, .int .i64 1, .int .i64 2, .int .i64 3, .int .i64 4] 3)
  have hr3 : RdAt ((w2.alloc (.cells #[.int .i64 x, .int .i64 y, .int .i64 1000000, .int .i64 999999, .int .i64 0] 3)).alloc (.cells #[.int .i64 0, .int .i64 0, .int .i64 1, .int .i64 1, .int .i64 2, .int .i64 3, .int .i64 4] 3)) R (m + 2) :=
    (hr2.below ((Below.refl _ _).alloc (Nat.le_refl _) _)).below ((Below.refl _ _).alloc (Nat.le_refl _) _)
  have hG2 := Lib.hid (hg.trans hg2)
  go_wp2_with fail
  refine (pick_any 7 R (m + 2) _ hr3 (by omega) (by omega)).mono ?_
  rintro e w3 ⟨z, rfl, hz0, hz1, _, hr4, hg4⟩
  have hz1 := hz1 (by omega)
  have hrow0 := hrow0.gr hg4 (by omega)
  have hrow1 := hrow1.gr hg4 (by simp; omega)
  have q1 : w3.cell? ⟨w2.heap.size + 1, z.toNat, none⟩ = some (.int .i64 (nth [0, 0, 1, 1, 2, 3, 4] z)) := by
    have := cells_nth (l := [0, 0, 1, 1, 2, 3, 4]) (w := w3) (g := w2.heap.size + 1) (E := 3) (by simpa using hrow1) hz0 (by simpa using hz1)
    exact this
  have hb1 := nth_bd (l := [0, 0, 1, 1, 2, 3, 4]) (lo := 0) (hi := 4) (by decide) hz0 (by simpa using hz1)
  generalize nth [0, 0, 1, 1, 2, 3, 4] z = q at *
  have q0 : w3.cell? ⟨w2.heap.size, q.toNat, none⟩ = some (.int .i64 (nth [x, y, 1000000, 999999, 0] q)) :=
    cells_nth (l := [x, y, 1000000, 999999, 0]) hrow0 (by omega) (by simp; omega)
  have hb0 := nth_bd (l := [x, y, 1000000, 999999, 0]) (lo := 0) (hi := 1000000) (by simp; omega) (z := q) (by omega) (by simp; omega)
  generalize nth [x, y, 1000000, 999999, 0] q = v at *
  have HG := Lib.hid (((hG2.out.alloc _).alloc _).trans hg4)
  clear hrow0 hrow1 hg4 hg hg2
  go_wp2
  go_ret
  exact ⟨v, rfl, by omega, by omega, hr4, HG.out⟩

/-- A drawn store. -/
def StoreRes (n : Int) (R m : Nat) (w : World) (e : Ending) (w' : World) : Prop :=
  ∃ A c, ∃ es : List Ent, e = .returned (.slice A es.length c) ∧ es.length ≤ 100 ∧ (n = 0 → entsOk 1 (-1) es = true) ∧ w'.ownsRow w.heap.size 49 2 (.slice A es.length c) es.length (entCells es) ∧ RdAt w' R m ∧ Gr R w w'

set_option maxRecDepth 100000 in
set_option maxHeartbeats 4000000 in
theorem l20Store_any (n : Int) (R m : Nat) (w : World) (h : RdAt w R m) (hm : m ≤ 1000000) (hn0 : 0 ≤ n) (hn : n ≤ 1000) :
    Calls Try.prog 65 #[.pointer (some ⟨R, 0, none⟩), .int .i64 n] w (StoreRes n R (m + 100) w) := by
  have hR := h.lt
  have hO := own_empty w w.heap.size 49 2 (Nat.le_refl _)
  have hr0 : RdAt (w.alloc (.cells #[] 49)) R m := h.below ((Below.refl _ _).alloc (Nat.le_refl _) _)
  have hg0 : Gr R w (w.alloc (.cells #[] 49)) := (Gr.refl _ _).alloc _
  clear h
  go_enter Try.func65, Try.ntmps65
  go_wp2_with fail
  refine (pick_any 7 R m _ hr0 (by omega) (by omega)).mono ?_
  rintro e w1 ⟨x, rfl, hx0, hx1, _, hr, hg⟩
  have hx1 := hx1 (by omega)
  have hO1 := own_gr hO hg hR
  have hG1 := hg0.trans hg
  obtain ⟨k0, rfl⟩ : ∃ k0 : Nat, x = (k0 : Int) := ⟨x.toNat, by omega⟩
  clear hO hr0 hg0 hg
  go_wp2
  go_loopw [5, 6] (fun out i wr => ∃ k : Nat, ∃ es : List Ent, k ≤ 6 ∧ i = .int .i64 k ∧ entsOk 1 (-1) es = true ∧ wr.ownsRow w.heap.size 49 2 out es.length (entCells es) ∧ RdAt wr R (m + 90 - 10 * k) ∧ Gr R w wr) (fun _ i _ => (intOf i).toNat)
  case atStart => exact ⟨k0, [], by omega, rfl, rfl, hO1, hr.up (by omega), hG1⟩
  case round =>
    clear hO1 hr hG1
    obtain ⟨k, es, hk, rfl, hok, hown, hr, hG⟩ := hrel
    have hel := entsOk_length hok (by omega)
    have hsz := hG.size
    by_cases hlt : 0 < k
    · obtain ⟨j, rfl⟩ : ∃ j, k = j + 1 := ⟨k - 1, by omega⟩
      obtain ⟨A, c, rfl⟩ := own_form hown
      go_wp2_with fail
      refine (l20Key_any R _ _ hr (by omega)).mono ?_
      rintro e w2 ⟨key, rfl, hk0, hk1, hr2, hg2⟩
      have hown2 := own_gr hown hg2 hR
      go_wp2_with fail
      refine (l20Value_any R _ _ hr2 (by omega)).mono ?_
      rintro e w3 ⟨value, rfl, hv0, hv1, hr3, hg3⟩
      have hown3 := own_gr hown2 hg3 hR
      have hG3 := (hG.trans hg2).trans hg3
      have HOK := Lib.hid (putRes_ok hok key value)
      clear hown hown2 hr hr2 hG hg2 hg3
      go_wp2_with fail
      refine (specPutValue_any _ _ es key value _ (ents_of_own hown3) (by omega)).mono ?_
      rintro e w4 ⟨A4, c4, rfl, ho4, hb4⟩
      have hr4 := hr3.below hb4
      have hG4 := hG3.trans (Gr.of_below hb4)
      have ho5 := ownsRow_weaken ho4 hG3.size
      generalize putRes es key value = fs at *
      generalize putOk es key value = okb at *
      clear hown3 hr3 hG3 hb4 ho4
      go_wp2
      go_roundw
      case rel => exact ⟨j, fs, by omega, by go_num, HOK.out, ho5, hr4.up (by omega), hG4⟩
      case measure => simp [intOf]
    · obtain rfl : k = 0 := by omega
      obtain ⟨A, c, rfl⟩ := own_form hown
      rw [show ((0 : Nat) : Int) = 0 from rfl]
      have HOK := Lib.hid hok
      clear hok
      go_wp2_with fail
      refine (odd_any n R _ _ hr (by omega) (by omega) hn0).mono ?_
      rintro e w2 ⟨b, rfl, hbn, hr2, hg2⟩
      have hown2 := own_gr hown hg2 hR
      have hG2 := hG.trans hg2
      have HBN := Lib.hid hbn
      clear hown hr hG hg2 hbn hsz
      cases b
      · go_wp2
        go_ret
        exact ⟨_, _, es, rfl, by omega, fun _ => HOK.out, hown2, hr2.up (by omega), hG2⟩
      · have hn1 : ¬ n = 0 := fun e => by have := HBN.out (by omega); cases this
        go_wp2_with fail
        refine (pick_any 4 R _ _ hr2 (by omega) (by omega)).mono ?_
        rintro e w3 ⟨z, rfl, hz0, hz1, _, hr3, hg3⟩
        have hz1 := hz1 (by omega)
        have hown3 := own_gr hown2 hg3 hR
        have hG3 := hG2.trans hg3
        have hsz := hG3.size
        clear hown2 hr2 hG2 hg3
        rcases (show z = 0 ∨ z = 1 ∨ z = 2 ∨ z = 3 by omega) with rfl | rfl | rfl | rfl
        · go_wp2_with (at_builtin; refine wpList_push_ent entRow rfl _ _ rfl w.heap.size _ _ _ rfl hown3 _ _ _ rfl (by omega) hsz ?_)
          intro v4 w4 ho4 hb4 _ hs4
          obtain ⟨A4, c4, rfl⟩ := own_form ho4
          go_wp2
          go_ret
          refine ⟨A4, c4, es ++ [(32, 1)], by simp, by simp; omega, fun h => absurd h hn1, ?_, (hr3.belowB hb4 hR).up (by omega), hG3.upTo hb4 (Nat.le_refl _)⟩
          rw [entCells_append, List.length_append]
          exact ho4
        · have ho0 := own_mk (w := w3) w.heap.size 49 2 1 #[.int .i64 31, .int .i64 1] hsz rfl (by unfold maxLen; omega)
          go_wp2_with (at_builtin; refine wpList_push_ent_at entRow rfl _ _ rfl w.heap.size _ _ _ rfl ho0 _ _ _ (w3.heap.size + 1) (by simp) rfl (by omega) (by simp; omega) ?_)
          intro v4 w4 ho4 hb4 _ hs4
          obtain ⟨A4, c4, rfl⟩ := own_form ho4
          have hb5 : Below w.heap.size w3 w4 := ((Below.refl _ _).alloc hsz _).trans hb4
          go_wp2
          go_ret
          exact ⟨A4, c4, [(31, 1), (0, 1)], by simp, by simp, fun h => absurd h hn1, ho4, (hr3.belowB hb5 hR).up (by omega), hG3.upTo hb5 (Nat.le_refl _)⟩
        · have ho0 := own_empty w3 w.heap.size 49 2 hsz
          have hr4 : RdAt ((w3.alloc (.cells #[] 49)).alloc (.cells #[.int .i64 0, .int .i64 (-1), .int .i64 1000001] 3)) R (m + 90 - 10 * 0 + 1 + 1) :=
            (hr3.below ((Below.refl _ _).alloc (Nat.le_refl _) _)).below ((Below.refl _ _).alloc (Nat.le_refl _) _)
          have hrow := RowIs.alloc (w := w3.alloc (.cells #[] 49)) #[.int .i64 0, .int .i64 (-1), .int .i64 1000001] 3
          have ho1 := ho0.alloc (.cells #[.int .i64 0, .int .i64 (-1), .int .i64 1000001] 3)
          have hG4 := Lib.hid ((hG3.alloc (.cells #[] 49)).alloc (.cells #[.int .i64 0, .int .i64 (-1), .int .i64 1000001] 3))
          have hlt3 := hr3.lt
          go_wp2_with fail
          refine (pick_any 3 R _ _ hr4 (by omega) (by omega)).mono ?_
          rintro e w4 ⟨y, rfl, hy0, hy1, _, hr5, hg5⟩
          have hy1 := hy1 (by omega)
          have hrow4 := hrow.gr hg5 (by simp; omega)
          have ho2 := own_gr ho1 hg5 hR
          have hG5 := hG4.out.trans hg5
          have hsz5 := hG5.size
          have q1 : w4.cell? ⟨w3.heap.size + 1, y.toNat, none⟩ = some (.int .i64 (nth [0, -1, 1000001] y)) := by
            have := cells_nth (l := [0, -1, 1000001]) (w := w4) (g := w3.heap.size + 1) (E := 3) (by simpa using hrow4) hy0 (by simpa using hy1)
            exact this
          generalize nth [0, -1, 1000001] y = q at *
          clear hrow hrow4 ho0 ho1 hown3 hr3 hr4 hg5 hG3
          go_wp2_with (at_builtin; refine wpList_push_ent entRow rfl _ _ rfl w.heap.size _ _ _ rfl ho2 _ _ _ rfl (by omega) hsz5 ?_)
          intro v6 w6 ho6 hb6 _ hs6
          obtain ⟨A6, c6, rfl⟩ := own_form ho6
          go_wp2
          go_ret
          exact ⟨A6, c6, [(1, q)], by simp, by simp, fun h => absurd h hn1, ho6, (hr5.belowB hb6 hR).up (by omega), hG5.upTo hb6 (Nat.le_refl _)⟩
        · have ho0 := own_mk (w := w3) w.heap.size 49 2 1 #[.int .i64 (-1), .int .i64 5] hsz rfl (by unfold maxLen; omega)
          have hr4 : CellsAt (w3.alloc (.cells #[.int .i64 (-1), .int .i64 5] 49)) A (entCells es) := (cells_of_own hown3).below ((Below.refl _ _).alloc (Nat.le_refl _) _)
          go_wp2_with (at_builtin; refine wpList_append_at entRow rfl _ _ rfl w.heap.size _ _ _ rfl ho0 A es.length c (entCells es) rfl hr4 (entCells_length _) (entCells_one _) (by omega) (by simp; omega) ?_)
          intro v4 w4 ho4 hb4 _
          obtain ⟨A4, c4, rfl⟩ := own_form ho4
          have hb5 : Below w.heap.size w3 w4 := ((Below.refl _ _).alloc hsz _).trans hb4
          go_wp2
          go_ret
          refine ⟨A4, c4, (-1, 5) :: es, by simp; omega, by simp; omega, fun h => absurd h hn1, ?_, (hr3.belowB hb5 hR).up (by omega), hG3.upTo hb5 (Nat.le_refl _)⟩
          rw [List.length_cons, Nat.add_comm]
          exact ho4

/-- A drawn slice of entries, as the law receives it. -/
def DrawEnts (w : World) (e : Ending) (w' : World) : Prop :=
  ∃ A c, ∃ es : List Ent, e = .returned (.slice A es.length c) ∧ es.length ≤ 100 ∧ w'.ownsRow w.heap.size 49 2 (.slice A es.length c) es.length (entCells es) ∧ Below w.heap.size w w'



set_option maxRecDepth 100000 in
set_option maxHeartbeats 800000 in
theorem DrawRootOf_any (A : Option Addr) (c : Nat) (bs : List Int) (w : World) (hb : BytesAt w A bs) (hn : bs.length ≤ c) (hc : c ≤ maxLen) :
    Calls Try.prog 19 #[.slice A bs.length c] w (DrawEnts w) := by
  go_enter Try.func19, Try.ntmps19
  go_wp2_with fail
  refine (l20Open_any _ _ _ _ hb hn hc).mono ?_
  rintro e w1 ⟨R, rfl, hr, hR, hb1⟩
  go_wp2_with fail
  refine (l20Store_any 9 R 0 _ hr (by omega) (by omega) (by omega)).mono ?_
  rintro e w2 ⟨A2, c2, es, rfl, hl, _, ho, _, hg⟩
  go_wp2
  go_ret
  exact ⟨A2, c2, es, rfl, hl, ownsRow_weaken ho hb1.size, Gr.below hb1 hg hR hb1.size⟩

/-- Two drawn slices of entries. -/
def DrawEnts2 (w : World) (e : Ending) (w' : World) : Prop :=
  ∃ A c, ∃ es : List Ent, ∃ B d, ∃ fs : List Ent, e = .returned (.tuple #[.slice A es.length c, .slice B fs.length d]) ∧ es.length ≤ 100 ∧ fs.length ≤ 1000 ∧ w'.ownsRow w.heap.size 49 2 (.slice A es.length c) es.length (entCells es) ∧ w'.ownsRow w.heap.size 49 2 (.slice B fs.length d) fs.length (entCells fs) ∧ Below w.heap.size w w'


/-- A drawn tag and numbers. -/
def DrawInts (w : World) (e : Ending) (w' : World) : Prop :=
  ∃ tag : Int, ∃ A c, ∃ zs : List Int, e = .returned (.tuple #[.int .i64 tag, .slice A zs.length c]) ∧ -1 ≤ tag ∧ tag ≤ 10 ∧ zs.length ≤ 100 ∧ (∀ z ∈ zs, -1 ≤ z ∧ z ≤ 2000001) ∧ w'.ownsRow w.heap.size 3 1 (.slice A zs.length c) zs.length (zs.map (.int .i64)) ∧ Below w.heap.size w w'


end Go.Proofs.Ytpomiglcplbdbaa
