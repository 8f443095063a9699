/- What the laws draw: values, keys, stores, numbers. -/
import Derived.Test.YtjopbffjemhgdaaQRd
import Derived.Test.YtjopbffjemhgdaaQPut2
import Derived.Test.YtjopbffjemhgdaaQLawMath
namespace Go.Proofs.Ytjopbffjemhgdaa
open Go.RowKit

theorem gr_cell {R : Nat} {w w' : World} (h : Gr R w w') : ∀ b o, R < b → b < w.heap.size → w'.cell? ⟨b, o, none⟩ = w.cell? ⟨b, o, none⟩ :=
  fun b o hR hb => World.cell?_of_block (w := w) (World.grownBy.block h b hb (fun e => by injection e; omega))

theorem own_mk {w : World} (base E sz n : Nat) (cs : Array Value) (hb : base ≤ w.heap.size) (hl : cs.size = n * sz) (hn : n ≤ maxLen) :
    (w.alloc (.cells cs E)).ownsRow base E sz (.slice (some ⟨w.heap.size, 0, none⟩) n n) n cs.toList :=
  own_of_row (RowIs.alloc cs E) hb (by simpa using hl) hn

section
variable {P : Program} {ops : Array Oper} {rest : List Oper} {o : Oper} {a : Act} {Q : Exit → Act → World → Prop} {W : World}
/-- As wpList_push_ent, the new block's number a letter. -/
theorem wpList_push_ent_at {T E bytes : Nat} (hT : RowType P T E 2 bytes) (hgd : o.guard = none) (s x : Operand) (ho : o.op = .call { callee := .builtin .append, args := #[s, x], argTypes := #[T, T] })
    (base : Nat) (v : Value) (n : Nat) (xs : List Value) (hs : a.eval s = v) (hown : W.ownsRow base E 2 v n xs) (E' : Nat) (k u : Int) (g : Nat) (hg : W.heap.size = g) (hx : a.eval x = .slice (some ⟨g, 0, none⟩) 1 1)
    (hn : n < 4294967296) (hbase : base ≤ W.heap.size)
    (h : ∀ v' w', w'.ownsRow base E 2 v' (n + 1) (xs ++ [.int .i64 k, .int .i64 u]) → Below base W w' → W.grownBy w' v.ownBlock → W.heap.size < w'.heap.size → wpList P ops Q rest (a.put o.dst v') w') :
    wpList P ops Q (o :: rest) a (W.alloc (.cells #[.int .i64 k, .int .i64 u] E')) := by
  subst hg
  exact wpList_push_ent hT hgd s x ho base v n xs hs hown E' k u hx hn hbase h
theorem wpList_push_int_at {T E bytes : Nat} (hT : RowType P T E 1 bytes) (hgd : o.guard = none) (s x : Operand) (ho : o.op = .call { callee := .builtin .append, args := #[s, x], argTypes := #[T, T] })
    (base : Nat) (v : Value) (n : Nat) (xs : List Value) (hs : a.eval s = v) (hown : W.ownsRow base E 1 v n xs) (E' : Nat) (k : Int) (g : Nat) (hg : W.heap.size = g) (hx : a.eval x = .slice (some ⟨g, 0, none⟩) 1 1)
    (hn : n < 4294967296) (hbase : base ≤ W.heap.size)
    (h : ∀ v' w', w'.ownsRow base E 1 v' (n + 1) (xs ++ [.int .i64 k]) → Below base W w' → W.grownBy w' v.ownBlock → W.heap.size < w'.heap.size → wpList P ops Q rest (a.put o.dst v') w') :
    wpList P ops Q (o :: rest) a (W.alloc (.cells #[.int .i64 k] E')) := by
  subst hg
  exact wpList_push_int hT hgd s x ho base v n xs hs hown E' k hx hn hbase h
end

/-- A number out of a list's numbers. -/
def nth (l : List Int) (z : Int) : Int := l.getD z.toNat 0
theorem nth_bd {l : List Int} {lo hi : Int} (h : ∀ x ∈ l, lo ≤ x ∧ x ≤ hi) {z : Int} (h0 : 0 ≤ z) (h1 : z < l.length) : lo ≤ nth l z ∧ nth l z ≤ hi := by
  unfold nth
  rw [List.getD_eq_getElem?_getD, List.getElem?_eq_getElem (by omega)]
  exact h _ (List.getElem_mem _)
theorem cells_nth {w : World} {g E : Nat} {l : List Int} (h : RowIs w g E (l.map (Value.int .i64))) {z : Int} (h0 : 0 ≤ z) (h1 : z < l.length) : w.cell? ⟨g, z.toNat, none⟩ = some (.int .i64 (nth l z)) := by
  rw [h.cell, List.getElem?_map, List.getElem?_eq_getElem (by omega)]
  unfold nth
  rw [List.getD_eq_getElem?_getD, List.getElem?_eq_getElem (by omega)]
  rfl










/-- A drawn tag and numbers. -/
def DrawInts (w : World) (e : Ending) (w' : World) : Prop :=
  ∃ tag : Int, ∃ A c, ∃ zs : List Int, e = .returned (.tuple #[.int .i64 tag, .slice A zs.length c]) ∧ -1 ≤ tag ∧ tag ≤ 10 ∧ zs.length ≤ 100 ∧ (∀ z ∈ zs, -1 ≤ z ∧ z ≤ 2000001) ∧ w'.ownsRow w.heap.size 3 1 (.slice A zs.length c) zs.length (zs.map (.int .i64)) ∧ Below w.heap.size w w'

theorem ints_snoc (zs : List Int) (x : Int) : (zs ++ [x]).map (Value.int .i64) = zs.map (Value.int .i64) ++ [.int .i64 x] := by simp

set_option maxRecDepth 100000 in
set_option maxHeartbeats 2000000 in
theorem DrawSumOf_any (A : Option Addr) (c : Nat) (bs : List Int) (w : World) (hb : BytesAt w A bs) (hn : bs.length ≤ c) (hc : c ≤ maxLen) :
    Calls Try.prog 7 #[.slice A bs.length c] w (DrawInts w) := by
  go_enter Try.func7, Try.ntmps7
  go_wp2_with fail
  refine (l20Open_any _ _ _ _ hb hn hc).mono ?_
  rintro e w1 ⟨R, rfl, hr, hR, hb1⟩
  have hltR := hr.lt
  have hs1 := hb1.size
  have hr1 : RdAt (w1.alloc (.cells #[] 3)) R 0 := hr.below ((Below.refl _ _).alloc (Nat.le_refl _) _)
  have hO := own_empty w1 w1.heap.size 3 1 (Nat.le_refl _)
  have hB1 := hb1.alloc hs1 (.cells #[] 3)
  clear hr hb
  go_wp2_with fail
  refine (pick_any 7 R 0 _ hr1 (by omega) (by omega)).mono ?_
  rintro e w2 ⟨x, rfl, hx0, hx1, _, hr2, hg2⟩
  have hx1 := hx1 (by omega)
  have hO2 := own_gr hO hg2 hltR
  have hB2 := Gr.below hB1 hg2 hR hB1.size
  have hz2 : w1.heap.size ≤ w2.heap.size := Nat.le_trans (by simp) hg2.size
  obtain ⟨k0, rfl⟩ : ∃ k0 : Nat, x = (k0 : Int) := ⟨x.toNat, by omega⟩
  clear hO hr1 hB1 hg2 hb1
  go_wp2
  go_loopw [5, 6] (fun out i wr => ∃ k : Nat, ∃ zs : List Int, k ≤ 6 ∧ i = .int .i64 k ∧ zs.length ≤ 6 - k ∧ (∀ z ∈ zs, -1 ≤ z ∧ z ≤ 2000001) ∧ wr.ownsRow w1.heap.size 3 1 out zs.length (zs.map (.int .i64)) ∧ RdAt wr R (100 - 10 * k) ∧ w1.heap.size ≤ wr.heap.size ∧ Below w.heap.size w wr) (fun _ i _ => (intOf i).toNat)
  case atStart => exact ⟨k0, [], by omega, rfl, by simp, by simp, hO2, hr2.up (by omega), hz2, hB2⟩
  case round =>
    clear hO2 hr2 hB2 hz2
    obtain ⟨k, zs, hk, rfl, hlen, hall, hown, hr, hz, hB⟩ := hrel
    have HA := Lib.hid hall
    clear hall
    by_cases hlt : 0 < k
    · obtain ⟨j, rfl⟩ : ∃ j, k = j + 1 := ⟨k - 1, by omega⟩
      obtain ⟨A3, c3, rfl⟩ := own_form hown
      go_wp2_with fail
      refine (pick_any 256 R _ _ hr (by omega) (by omega)).mono ?_
      rintro e w3 ⟨a, rfl, ha0, ha1, _, hr3, hg3⟩
      have ha1 := ha1 (by omega)
      have ho3 := own_gr hown hg3 hltR
      have hB3 := Gr.below hB hg3 hR hB.size
      have hz3 := Nat.le_trans hz hg3.size
      go_wp2_with fail
      refine (pick_any 256 R _ _ hr3 (by omega) (by omega)).mono ?_
      rintro e w4 ⟨b, rfl, hb0, hb1, _, hr4, hg4⟩
      have hb1 := hb1 (by omega)
      have ho4 := own_gr ho3 hg4 hltR
      have hB4 := Gr.below hB3 hg4 hR hB3.size
      have hz4 := Nat.le_trans hz3 hg4.size
      have hr5 : RdAt (w4.alloc (.cells #[.int .i64 a, .int .i64 (b * 7800), .int .i64 2000000] 3)) R (100 - 10 * (j + 1) + 1 + 1) := hr4.below ((Below.refl _ _).alloc (Nat.le_refl _) _)
      have ho5 := ho4.alloc (.cells #[.int .i64 a, .int .i64 (b * 7800), .int .i64 2000000] 3)
      have hB5 := hB4.alloc hB4.size (.cells #[.int .i64 a, .int .i64 (b * 7800), .int .i64 2000000] 3)
      have hrow := RowIs.alloc (w := w4) #[.int .i64 a, .int .i64 (b * 7800), .int .i64 2000000] 3
      have hltR4 := hr4.lt
      clear hown ho3 ho4 hr hr3 hr4 hB hB3 hg3 hg4 hB4
      go_wp2_with fail
      refine (pick_any 3 R _ _ hr5 (by omega) (by omega)).mono ?_
      rintro e w6 ⟨y, rfl, hy0, hy1, _, hr6, hg6⟩
      have hy1 := hy1 (by omega)
      have hrow6 := hrow.gr hg6 (by omega)
      have ho6 := own_gr ho5 hg6 hltR
      have hB6 := Gr.below hB5 hg6 hR hB5.size
      have hz6 : w1.heap.size ≤ w6.heap.size := Nat.le_trans (Nat.le_trans hz4 (by simp)) hg6.size
      have q1 : w6.cell? ⟨w4.heap.size, y.toNat, none⟩ = some (.int .i64 (nth [a, b * 7800, 2000000] y)) :=
        cells_nth (l := [a, b * 7800, 2000000]) hrow6 hy0 (by simpa using hy1)
      have hq := nth_bd (l := [a, b * 7800, 2000000]) (lo := -1) (hi := 2000001) (by simp; omega) hy0 (by simpa using hy1)
      generalize nth [a, b * 7800, 2000000] y = q at *
      clear hrow hrow6 ho5 hr5 hB5 hg6
      have HQ := Lib.hid (show ∀ z ∈ zs ++ [q], -1 ≤ z ∧ z ≤ 2000001 from fun z hz => by
        rcases List.mem_append.1 hz with h | h
        · exact HA.out z h
        · simp at h; subst h; exact hq)
      go_wp2_with (at_builtin; refine wpList_push_int intRow rfl _ _ rfl w1.heap.size _ _ _ rfl ho6 _ _ rfl (by omega) hz6 ?_)
      intro v7 w7 ho7 hb7 _ hs7
      have hr7 := hr6.belowB hb7 hltR
      have hB7 := hB6.trans (hb7.mono hs1)
      have hz7 := Nat.le_trans hz6 hb7.size
      rw [← ints_snoc] at ho7
      go_wp2
      go_roundw
      case rel => exact ⟨j, zs ++ [q], by omega, by go_num, by simp; omega, HQ.out, by rw [List.length_append]; exact ho7, hr7.up (by omega), hz7, hB7⟩
      case measure => simp [intOf]
    · obtain rfl : k = 0 := by omega
      obtain ⟨A3, c3, rfl⟩ := own_form hown
      rw [show ((0 : Nat) : Int) = 0 from rfl]
      go_wp2_with fail
      refine (odd_any 6 R _ _ hr (by omega) (by omega) (by omega)).mono ?_
      rintro e w3 ⟨b, rfl, _, hr3, hg3⟩
      have ho3 := own_gr hown hg3 hltR
      have hB3 := Gr.below hB hg3 hR hB.size
      have hz3 := Nat.le_trans hz hg3.size
      clear hown hr hB hg3
      cases b
      · go_wp2_with fail
        refine (pick_any 11 R _ _ hr3 (by omega) (by omega)).mono ?_
        rintro e w4 ⟨t, rfl, ht0, ht1, _, hr4, hg4⟩
        have ht1 := ht1 (by omega)
        have ho4 := own_gr ho3 hg4 hltR
        have hB4 := Gr.below hB3 hg4 hR hB3.size
        go_wp2_with fail
        refine (pick_any 9 R _ _ hr4 (by omega) (by omega)).mono ?_
        rintro e w5 ⟨u, rfl, hu0, hu1, _, hr5, hg5⟩
        have hu1 := hu1 (by omega)
        have ho5 := own_gr ho4 hg5 hltR
        have hB5 := Gr.below hB4 hg5 hR hB4.size
        go_wp2
        go_ret2
        exact ⟨_, A3, c3, zs, rfl, by omega, by omega, by omega, HA.out, ownsRow_weaken ho5 hs1, hB5⟩
      · have hr4 : RdAt (w3.alloc (.cells #[.int .i64 (-1), .int .i64 2000001] 3)) R (100 - 10 * 0 + 1) := hr3.below ((Below.refl _ _).alloc (Nat.le_refl _) _)
        have ho4 := ho3.alloc (.cells #[.int .i64 (-1), .int .i64 2000001] 3)
        have hB4 := hB3.alloc hB3.size (.cells #[.int .i64 (-1), .int .i64 2000001] 3)
        have hrow := RowIs.alloc (w := w3) #[.int .i64 (-1), .int .i64 2000001] 3
        have hltR3 := hr3.lt
        clear ho3 hr3 hB3
        go_wp2_with fail
        refine (pick_any 2 R _ _ hr4 (by omega) (by omega)).mono ?_
        rintro e w5 ⟨y, rfl, hy0, hy1, _, hr5, hg5⟩
        have hy1 := hy1 (by omega)
        have hrow5 := hrow.gr hg5 (by omega)
        have ho5 := own_gr ho4 hg5 hltR
        have hB5 := Gr.below hB4 hg5 hR hB4.size
        have hz5 : w1.heap.size ≤ w5.heap.size := Nat.le_trans (Nat.le_trans hz3 (by simp)) hg5.size
        have q1 : w5.cell? ⟨w3.heap.size, y.toNat, none⟩ = some (.int .i64 (nth [-1, 2000001] y)) :=
          cells_nth (l := [-1, 2000001]) hrow5 hy0 (by simpa using hy1)
        have hq := nth_bd (l := [-1, 2000001]) (lo := -1) (hi := 2000001) (by decide) hy0 (by simpa using hy1)
        generalize nth [-1, 2000001] y = q at *
        clear hrow hrow5 ho4 hr4 hB4 hg5
        have HQ := Lib.hid (show ∀ z ∈ zs ++ [q], -1 ≤ z ∧ z ≤ 2000001 from fun z hz => by
          rcases List.mem_append.1 hz with h | h
          · exact HA.out z h
          · simp at h; subst h; exact hq)
        go_wp2_with (at_builtin; refine wpList_push_int intRow rfl _ _ rfl w1.heap.size _ _ _ rfl ho5 _ _ rfl (by omega) hz5 ?_)
        intro v7 w7 ho7 hb7 _ hs7
        have hr7 := hr5.belowB hb7 hltR
        have hB7 := hB5.trans (hb7.mono hs1)
        rw [← ints_snoc] at ho7
        obtain ⟨A7, c7, rfl⟩ := own_form ho7
        go_wp2_with fail
        refine (pick_any 11 R _ _ hr7 (by omega) (by omega)).mono ?_
        rintro e w8 ⟨t, rfl, ht0, ht1, _, hr8, hg8⟩
        have ht1 := ht1 (by omega)
        have ho8 := own_gr ho7 hg8 hltR
        have hB8 := Gr.below hB7 hg8 hR hB7.size
        go_wp2_with fail
        refine (pick_any 9 R _ _ hr8 (by omega) (by omega)).mono ?_
        rintro e w9 ⟨u, rfl, hu0, hu1, _, hr9, hg9⟩
        have hu1 := hu1 (by omega)
        have ho9 := own_gr ho8 hg9 hltR
        have hB9 := Gr.below hB8 hg9 hR hB8.size
        go_wp2
        go_ret2
        refine ⟨_, A7, c7, zs ++ [q], by rw [List.length_append]; rfl, by omega, by omega, by simp; omega, HQ.out, ?_, hB9⟩
        rw [List.length_append]
        exact ownsRow_weaken ho9 hs1

end Go.Proofs.Ytjopbffjemhgdaa
