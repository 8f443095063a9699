/- Contracts of EffectSum in both packages, of slices.Concat at entries. -/
import Derived.Test.YtpomiglcplbdbaaQPut2
import Derived.Test.YtpomiglcplbdbaaQBase
import Derived.Test.YtpomiglcplbdbaaQLeaf
import Derived.Deep.RegionHeld3
namespace Go.Proofs.Ytpomiglcplbdbaa
open Go.RowKit

def flatE (es : List Ent) : List Int := es.flatMap fun e => [e.1, e.2]
theorem flatE_append (a b : List Ent) : flatE (a ++ b) = flatE a ++ flatE b := by simp [flatE]
theorem flatE_length (es : List Ent) : (flatE es).length = es.length * 2 := by
  induction es with
  | nil => rfl
  | cons e es ih =>
    have h : flatE (e :: es) = [e.1, e.2] ++ flatE es := rfl
    rw [h, List.length_append, ih, List.length_cons]
    simp
    omega
theorem flatE_take (es : List Ent) (k : Nat) (hk : k < es.length) : flatE (es.take (k + 1)) = flatE (es.take k) ++ [es[k].1, es[k].2] := by
  rw [List.take_succ_eq_append_getElem hk, flatE_append]; rfl
/-- The numbers of an effect. -/
def effNums (x : EffT) : List Int := (if x.1 then 1 else 0) :: (x.2.1.length : Int) :: (flatE x.2.1 ++ flatE x.2.2)
def effSumF (x : EffT) : Int := sumOfF 3 (effNums x)
def nums (d : Bool) (n : Nat) (fs : List Int) : List Int := (if d then 1 else 0) :: (n : Int) :: fs
theorem nums_length (d : Bool) (n : Nat) (fs : List Int) : (nums d n fs).length = fs.length + 2 := rfl

theorem below_und {B : Nat} {w w' : World} (h : Below B w.drew w') : Below B w w' := ⟨h.os, h.tape, h.output, h.size, h.block⟩
theorem own_dr {w : World} {base E sz n : Nat} {v : Value} {xs : List Value} (h : w.ownsRow base E sz v n xs) : w.drew.ownsRow base E sz v n xs := h
/-- Two numbers appended, at a step of a region that draws its order. -/
theorem step_push_two {P : Program} {ops : Array Oper} {o : Oper} {a : Act} {Q : Exit → Act → World → Prop} {W : World} {K : Act → World → Prop} {E0 : Prop} {T E bytes : Nat} (hT : RowType P T E 1 bytes) (hgd : o.guard = none) (s x : Operand) (ho : o.op = .call { callee := .builtin .append, args := #[s, x], argTypes := #[T, T] })
    (base : Nat) (v : Value) (n : Nat) (xs : List Value) (hs : a.eval s = v) (hown : W.ownsRow base E 1 v n xs) (E' : Nat) (k u : Int) (hx : a.eval x = .slice (some ⟨W.heap.size, 0, none⟩) 2 2)
    (hn : n < 4294967296) (hbase : base ≤ W.heap.size)
    (h : ∀ v' w', w'.ownsRow base E 1 v' (n + 2) (xs ++ [.int .i64 k, .int .i64 u]) → Below base W w' → W.heap.size < w'.heap.size → K (a.put o.dst v') w') :
    if Region.wanted o (yielded ops a.tmps) = true then Oper.wp P o a ((W.alloc (.cells #[.int .i64 k, .int .i64 u] E')).drew) K Q else E0 := by
  have hw : Region.wanted o (yielded ops a.tmps) = true := by simp [Region.wanted, hgd]
  rw [if_pos hw]
  obtain ⟨ht, i, z, hi, hz, hsz, hby, hzs, h0, hb⟩ := hT
  have hlt : bytes * (n + 2) ≤ 4096 * 4294967297 := Nat.mul_le_mul hb (by omega)
  refine wp_append_own _ s x T ho base E i z 1 bytes ht hi hz hsz hby hzs h0 v n xs hs (hown.alloc (.cells #[.int .i64 k, .int .i64 u] E')) ⟨W.heap.size, 0, none⟩ 2 2 [.int .i64 k, .int .i64 u] hx rfl (new_cells #[.int .i64 k, .int .i64 u] E')
    (by simp [Value.oneCell']) (by unfold maxLen; omega) (by rw [Nat.mul_comm]; omega) (by show base ≤ (W.alloc _).heap.size; simp; omega) (fun v' w' g1 g2 _ => ?_)
  have g2' : (W.alloc (.cells #[.int .i64 k, .int .i64 u] E')).grownBy w' v.ownBlock := ⟨g2.os, g2.tape, g2.output, g2.size, g2.block⟩
  have hB : Below base W w' := below_own ((Below.refl _ _).alloc hbase _) (hown.alloc _) g2' (by simp; omega) (Nat.le_refl _)
  exact h v' w' g1 hB (by have := g2'.size; simp at this; omega)

/-- Two numbers appended, at a step of a region that draws its order. -/
theorem step_push_two0 {P : Program} {ops : Array Oper} {o : Oper} {a : Act} {Q : Exit → Act → World → Prop} {W : World} {K : Act → World → Prop} {E0 : Prop} {T E bytes : Nat} (hT : RowType P T E 1 bytes) (hgd : o.guard = none) (s x : Operand) (ho : o.op = .call { callee := .builtin .append, args := #[s, x], argTypes := #[T, T] })
    (base : Nat) (v : Value) (n : Nat) (xs : List Value) (hs : a.eval s = v) (hown : W.ownsRow base E 1 v n xs) (E' : Nat) (k u : Int) (hx : a.eval x = .slice (some ⟨W.heap.size, 0, none⟩) 2 2)
    (hn : n < 4294967296) (hbase : base ≤ W.heap.size)
    (h : ∀ v' w', w'.ownsRow base E 1 v' (n + 2) (xs ++ [.int .i64 k, .int .i64 u]) → Below base W w' → W.heap.size < w'.heap.size → K (a.put o.dst v') w') :
    if Region.wanted o (yielded ops a.tmps) = true then Oper.wp P o a (W.alloc (.cells #[.int .i64 k, .int .i64 u] E')) K Q else E0 := by
  have hw : Region.wanted o (yielded ops a.tmps) = true := by simp [Region.wanted, hgd]
  rw [if_pos hw]
  obtain ⟨ht, i, z, hi, hz, hsz, hby, hzs, h0, hb⟩ := hT
  have hlt : bytes * (n + 2) ≤ 4096 * 4294967297 := Nat.mul_le_mul hb (by omega)
  refine wp_append_own _ s x T ho base E i z 1 bytes ht hi hz hsz hby hzs h0 v n xs hs (hown.alloc (.cells #[.int .i64 k, .int .i64 u] E')) ⟨W.heap.size, 0, none⟩ 2 2 [.int .i64 k, .int .i64 u] hx rfl (new_cells #[.int .i64 k, .int .i64 u] E')
    (by simp [Value.oneCell']) (by unfold maxLen; omega) (by rw [Nat.mul_comm]; omega) (by show base ≤ (W.alloc _).heap.size; simp; omega) (fun v' w' g1 g2 _ => ?_)
  have g2' : (W.alloc (.cells #[.int .i64 k, .int .i64 u] E')).grownBy w' v.ownBlock := ⟨g2.os, g2.tape, g2.output, g2.size, g2.block⟩
  have hB : Below base W w' := below_own ((Below.refl _ _).alloc hbase _) (hown.alloc _) g2' (by simp; omega) (Nat.le_refl _)
  exact h v' w' g1 hB (by have := g2'.size; simp at this; omega)

set_option maxRecDepth 100000 in
set_option maxHeartbeats 4000000 in
theorem specEffectSum_any (x : EffT) (A B : Option Addr) (a b : Nat) (w : World) (hx : EntsAt w A x.2.1) (hy : EntsAt w B x.2.2) (hn : x.2.1.length ≤ 16777216) (hm : x.2.2.length ≤ 16777216) :
    Calls Try.prog 52 #[.agg #[.bool x.1, .slice A x.2.1.length a, .slice B x.2.2.length b]] w fun e w' => e = .returned (.int .i64 (effSumF x)) ∧ Below w.heap.size w w' := by
  obtain ⟨dn, rs, ws⟩ := x
  simp only at hx hy hn hm ⊢
  have hb0 : Below w.heap.size w (w.alloc (.cells #[.bool dn, .slice A rs.length a, .slice B ws.length b] 53)) := (Below.refl _ _).alloc (Nat.le_refl _) _
  have hrow := RowIs.alloc (w := w) #[.bool dn, .slice A rs.length a, .slice B ws.length b] 53
  have HX := Lib.hid hx
  have HY := Lib.hid hy
  clear hx hy
  obtain ⟨d, hd⟩ : ∃ d : Bool, d = dn := ⟨_, rfl⟩
  have HSUM := Lib.hid (show sumOfF 3 (nums d rs.length (flatE (rs.take rs.length) ++ flatE (ws.take ws.length))) = effSumF (dn, rs, ws) by rw [List.take_length, List.take_length, hd]; rfl)
  have hone : (w.alloc (.cells #[.bool dn, .slice A rs.length a, .slice B ws.length b] 53)).heap.size = w.heap.size + 1 := by simp
  have HW := Lib.hid (show ∀ z : Int, RowIs ((w.alloc (.cells #[.bool dn, .slice A rs.length a, .slice B ws.length b] 53)).alloc (.cells #[.int .i64 z, .int .i64 (rs.length : Int)] 3)) (w.heap.size + 1) 3 [.int .i64 z, .int .i64 (rs.length : Int)] from fun z => by
    have h := RowIs.alloc (w := w.alloc (.cells #[.bool dn, .slice A rs.length a, .slice B ws.length b] 53)) #[.int .i64 z, .int .i64 (rs.length : Int)] 3
    rwa [hone] at h)
  have HROW := Lib.hid (show ∀ z : Int, RowIs ((w.alloc (.cells #[.bool dn, .slice A rs.length a, .slice B ws.length b] 53)).alloc (.cells #[.int .i64 z, .int .i64 (rs.length : Int)] 3)) w.heap.size 53 [.bool dn, .slice A rs.length a, .slice B ws.length b] from fun z => RowIs.below hrow ((Below.refl _ _).alloc (Nat.le_refl _) _) hrow.lt)
  have HBB := Lib.hid (show ∀ z : Int, Below w.heap.size w ((w.alloc (.cells #[.bool dn, .slice A rs.length a, .slice B ws.length b] 53)).alloc (.cells #[.int .i64 z, .int .i64 (rs.length : Int)] 3)) from fun z => hb0.alloc hb0.size _)
  have HST := Lib.hid (show ∀ (W : World) (z : Int), z = (if d then 1 else 0) → RowIs W (w.heap.size + 1) 3 [.int .i64 z, .int .i64 (rs.length : Int)] → W.ownsRow (w.heap.size + 1) 3 1 (.slice (some ⟨w.heap.size + 1, 0, none⟩) (2 + 2 * 0) 2) (2 + 2 * 0) ((nums d rs.length (flatE (rs.take 0))).map (.int .i64)) from
    fun W z hz h => by subst hz; exact own_of_row h (Nat.le_refl _) rfl (by unfold maxLen; omega))
  clear hrow hb0 hone
  cases dn
  all_goals
    go_enter Try.func52, Try.ntmps52
    go_wp2
    go_loopw [3, 4] (fun out i wr => ∃ k : Nat, k ≤ rs.length ∧ i = .int .i64 k ∧ (∃ A c, out = .slice A (2 + 2 * k) c ∧ wr.ownsRow (w.heap.size + 1) 3 1 (.slice A (2 + 2 * k) c) (2 + 2 * k) ((nums d rs.length (flatE (rs.take k))).map (.int .i64))) ∧ RowIs wr w.heap.size 53 [.bool _, .slice A rs.length a, .slice B ws.length b] ∧ Below w.heap.size w wr) (fun _ i _ => rs.length - (intOf i).toNat)
    case atStart => exact ⟨0, Nat.zero_le _, rfl, ⟨_, _, rfl, HST.out _ _ (by rw [hd]; rfl) (HW.out _)⟩, HROW.out _, HBB.out _⟩
    case round =>
      obtain ⟨k, hk, rfl, ⟨A5, c5, rfl, ho⟩, hr, hB⟩ := hrel
      have hsz : w.heap.size + 1 ≤ wr.heap.size := hr.lt
      have q1 : wr.cell? ⟨w.heap.size, 1, none⟩ = some (.slice A rs.length a) := hr.cell 1
      have q2 : wr.cell? ⟨w.heap.size, 2, none⟩ = some (.slice B ws.length b) := hr.cell 2
      by_cases hlt : k < rs.length
      · skip
        obtain ⟨bb, o, hA, hbl, hc⟩ := HX.out.at_ hlt
        have KP := Lib.hid (show ∀ W', Below (w.heap.size + 1) wr W' → W'.cell? ⟨w.heap.size, 1, none⟩ = some (.slice A rs.length a) ∧ W'.cell? ⟨bb, o + k * 2, none⟩ = some (.int .i64 rs[k].1) ∧ W'.cell? ⟨bb, o + k * 2 + 1, none⟩ = some (.int .i64 rs[k].2) from
          fun W' h => ⟨(hr.below h (Nat.lt_succ_self _)).cell 1, ((hB.trans (h.mono (Nat.le_succ _))).cell hbl).trans (hc k hlt).1, ((hB.trans (h.mono (Nat.le_succ _))).cell hbl).trans (hc k hlt).2⟩)
        obtain ⟨q1, hcell, hcell2⟩ := KP.out wr (Below.refl _ _)
        have HFT := Lib.hid (flatE_take rs k hlt)
        have hk0 : (0 : Int) ≤ (k : Int) := by omega
        have hk1 : (k : Int) < (rs.length : Int) := by omega
        have HRR := Lib.hid hr
        subst hA
        clear hc hr
        generalize rs[k].1 = key at *
        generalize rs[k].2 = value at *
        go_wp2
        go_region_held3 (fun w' => w'.cell? ⟨w.heap.size, 1, none⟩ = some (.slice (some ⟨bb, o, none⟩) rs.length a) ∧ w'.cell? ⟨bb, o + k * 2, none⟩ = some (.int .i64 key) ∧ w'.cell? ⟨bb, o + k * 2 + 1, none⟩ = some (.int .i64 value)) (first | go_keep | exact KP.out _ hb3)
          (first
            | (refine step_push_two intRow (by rfl) _ _ (by rfl) (w.heap.size + 1) _ _ _ (by rfl) ho _ _ _ (by rfl) (by omega) hsz ?_; intro v3 w3 ho3 hb3' hs3; have hb3 := hb3')
            | (refine step_push_two0 intRow (by rfl) _ _ (by rfl) (w.heap.size + 1) _ _ _ (by rfl) (own_dr ho) _ _ _ (by rfl) (by omega) hsz ?_; intro v3 w3 ho3 hb3' hs3; have hb3 := below_und hb3'))
        obtain ⟨A3, c3, rfl⟩ := own_form ho3
        have ho4 : w3.ownsRow (w.heap.size + 1) 3 1 (.slice A3 (2 + 2 * (k + 1)) c3) (2 + 2 * (k + 1)) ((nums d rs.length (flatE (rs.take (k + 1)))).map (.int .i64)) := by
          rw [show 2 + 2 * (k + 1) = 2 + 2 * k + 2 from by omega, HFT.out]
          simpa [nums] using ho3
        have hr4 := HRR.out.below hb3 (Nat.lt_succ_self _)
        have hB4 := hB.trans (hb3.mono (Nat.le_succ _))
        clear ho3 ho q1 hcell hcell2
        go_wp2
        go_roundw
        case rel => exact ⟨k + 1, by omega, by go_num, ⟨A3, c3, by rw [show 2 + 2 * (k + 1) = 2 + 2 * k + 2 from by omega], ho4⟩, hr4, hB4⟩
        case measure => simp [intOf]; omega
      · obtain rfl : k = rs.length := by omega
        clear hk
        go_wp2
        go_loopw [3, 5] (fun out i wr => ∃ k : Nat, k ≤ ws.length ∧ i = .int .i64 k ∧ (∃ A c, out = .slice A (2 + 2 * rs.length + 2 * k) c ∧ wr.ownsRow (w.heap.size + 1) 3 1 (.slice A (2 + 2 * rs.length + 2 * k) c) (2 + 2 * rs.length + 2 * k) ((nums d rs.length (flatE (rs.take rs.length) ++ flatE (ws.take k))).map (.int .i64))) ∧ RowIs wr w.heap.size 53 [.bool _, .slice A rs.length a, .slice B ws.length b] ∧ Below w.heap.size w wr) (fun _ i _ => ws.length - (intOf i).toNat)
        case atStart => exact ⟨0, Nat.zero_le _, rfl, ⟨A5, c5, rfl, by rw [List.take_zero, show flatE ([] : List Ent) = [] from rfl, List.append_nil]; exact ho⟩, hr, hB⟩
        case round =>
          clear ho hr hB hsz q1 q2
          obtain ⟨k, hk, rfl, ⟨A5, c5, rfl, ho⟩, hr, hB⟩ := hrel
          have hsz : w.heap.size + 1 ≤ wr.heap.size := hr.lt
          have q1 : wr.cell? ⟨w.heap.size, 1, none⟩ = some (.slice A rs.length a) := hr.cell 1
          have q2 : wr.cell? ⟨w.heap.size, 2, none⟩ = some (.slice B ws.length b) := hr.cell 2
          by_cases hlt : k < ws.length
          · skip
            obtain ⟨bb, o, hA, hbl, hc⟩ := HY.out.at_ hlt
            have KP := Lib.hid (show ∀ W', Below (w.heap.size + 1) wr W' → W'.cell? ⟨w.heap.size, 2, none⟩ = some (.slice B ws.length b) ∧ W'.cell? ⟨bb, o + k * 2, none⟩ = some (.int .i64 ws[k].1) ∧ W'.cell? ⟨bb, o + k * 2 + 1, none⟩ = some (.int .i64 ws[k].2) from
              fun W' h => ⟨(hr.below h (Nat.lt_succ_self _)).cell 2, ((hB.trans (h.mono (Nat.le_succ _))).cell hbl).trans (hc k hlt).1, ((hB.trans (h.mono (Nat.le_succ _))).cell hbl).trans (hc k hlt).2⟩)
            obtain ⟨q1, hcell, hcell2⟩ := KP.out wr (Below.refl _ _)
            have HFT := Lib.hid (flatE_take ws k hlt)
            have hk0 : (0 : Int) ≤ (k : Int) := by omega
            have hk1 : (k : Int) < (ws.length : Int) := by omega
            have HRR := Lib.hid hr
            subst hA
            clear hc hr
            generalize ws[k].1 = key at *
            generalize ws[k].2 = value at *
            go_wp2
            go_region_held3 (fun w' => w'.cell? ⟨w.heap.size, 2, none⟩ = some (.slice (some ⟨bb, o, none⟩) ws.length b) ∧ w'.cell? ⟨bb, o + k * 2, none⟩ = some (.int .i64 key) ∧ w'.cell? ⟨bb, o + k * 2 + 1, none⟩ = some (.int .i64 value)) (first | go_keep | exact KP.out _ hb3)
              (first
                | (refine step_push_two intRow (by rfl) _ _ (by rfl) (w.heap.size + 1) _ _ _ (by rfl) ho _ _ _ (by rfl) (by omega) hsz ?_; intro v3 w3 ho3 hb3' hs3; have hb3 := hb3')
                | (refine step_push_two0 intRow (by rfl) _ _ (by rfl) (w.heap.size + 1) _ _ _ (by rfl) (own_dr ho) _ _ _ (by rfl) (by omega) hsz ?_; intro v3 w3 ho3 hb3' hs3; have hb3 := below_und hb3'))
            obtain ⟨A3, c3, rfl⟩ := own_form ho3
            have ho4 : w3.ownsRow (w.heap.size + 1) 3 1 (.slice A3 (2 + 2 * rs.length + 2 * (k + 1)) c3) (2 + 2 * rs.length + 2 * (k + 1)) ((nums d rs.length (flatE (rs.take rs.length) ++ flatE (ws.take (k + 1)))).map (.int .i64)) := by
              rw [show 2 + 2 * rs.length + 2 * (k + 1) = 2 + 2 * rs.length + 2 * k + 2 from by omega, HFT.out]
              simpa [nums] using ho3
            have hr4 := HRR.out.below hb3 (Nat.lt_succ_self _)
            have hB4 := hB.trans (hb3.mono (Nat.le_succ _))
            clear ho3 ho q1 hcell hcell2
            go_wp2
            go_roundw
            case rel => exact ⟨k + 1, by omega, by go_num, ⟨A3, c3, by rw [show 2 + 2 * rs.length + 2 * (k + 1) = 2 + 2 * rs.length + 2 * k + 2 from by omega], ho4⟩, hr4, hB4⟩
            case measure => simp [intOf]; omega
          · obtain rfl : k = ws.length := by omega
            go_wp2_with fail
            have hll : 2 + 2 * rs.length + 2 * ws.length = (nums d rs.length (flatE (rs.take rs.length) ++ flatE (ws.take ws.length))).length := by
              rw [List.take_length, List.take_length, nums_length, List.length_append, flatE_length, flatE_length]; omega
            have hI := ints_of_own ho
            have hsml : (nums d rs.length (flatE (rs.take rs.length) ++ flatE (ws.take ws.length))).length ≤ 4294967296 := by rw [← hll]; omega
            rw [hll]
            generalize nums d rs.length (flatE (rs.take rs.length) ++ flatE (ws.take ws.length)) = L at *
            refine (specSumOf_any 3 A5 c5 L _ hI hsml).mono ?_
            rintro e w' ⟨rfl, rfl⟩
            rw [HSUM.out]
            go_wp2
            go_ret
            exact ⟨rfl, hB⟩

end Go.Proofs.Ytpomiglcplbdbaa
