/- Contracts of the program's actions: run, RunAction. -/
import Derived.Test.YtpomiglcplbdbaaQRun
namespace Go.Proofs.Ytpomiglcplbdbaa
open Go.RowKit

/-- All that is older stands, but for one block. -/
def Turn (R : Nat) (w w' : World) : Prop := w.grownBy w' (some R)
theorem Turn.refl (R : Nat) (w : World) : Turn R w w := World.grownBy.refl w _
theorem Turn.trans {R : Nat} {a b c : World} (h : Turn R a b) (k : Turn R b c) : Turn R a c :=
  ⟨k.os.trans h.os, k.tape.trans h.tape, k.output.trans h.output, Nat.le_trans h.size k.size, fun i hi hne => (k.block i (Nat.lt_of_lt_of_le hi h.size) hne).trans (h.block i hi hne)⟩
theorem Turn.of_below {R : Nat} {a b : World} (h : Below a.heap.size a b) : Turn R a b := ⟨h.os, h.tape, h.output, h.size, fun k hk _ => h.block k hk⟩
theorem Turn.upTo {R B : Nat} {a b c : World} (h : Turn R a b) (hb : Below B b c) (hB : a.heap.size ≤ B) : Turn R a c :=
  ⟨hb.os.trans h.os, hb.tape.trans h.tape, hb.output.trans h.output, Nat.le_trans h.size hb.size, fun k hk hne => (hb.block k (by omega)).trans (h.block k hk hne)⟩
theorem Turn.set {R : Nat} {a b : World} (h : Turn R a b) (j : Nat) (u : Value) : Turn R a (b.setCell ⟨R, j, none⟩ u) :=
  ⟨h.os, h.tape, h.output, by simpa [World.setCell] using h.size, fun k hk hne => (Below.heap_setCell b ⟨R, j, none⟩ u k (fun e => hne (by rw [e]))).trans (h.block k hk hne)⟩
theorem Turn.below {R B : Nat} {a b c : World} (hb : Below B a b) (h : Turn R b c) (hR : B ≤ R) (hB : B ≤ b.heap.size) : Below B a c :=
  hb.grown h hB (fun k hk => by injection hk with hk; omega)
theorem RowIs.turn {w w' : World} {g E R : Nat} {vs : List Value} (h : RowIs w g E vs) (hg : Turn R w w') (hne : g ≠ R) : RowIs w' g E vs :=
  (hg.block g h.lt (fun e => hne (by injection e))).trans h
theorem own_turn {w w' : World} {base E sz n R : Nat} {v : Value} {xs : List Value} (h : w.ownsRow base E sz v n xs) (hg : Turn R w w') (hR : R < base) : w'.ownsRow base E sz v n xs := by
  refine h.kept hg ?_
  cases hv : v.ownBlock with
  | none => exact .inl rfl
  | some k =>
    right
    intro he
    injection he with he
    have h1 := (h.lt k hv).1
    omega
theorem own_setCell {w : World} {base E sz n : Nat} {v : Value} {xs : List Value} (h : w.ownsRow base E sz v n xs) {p : Addr} (hp : p.block < base) (u : Value) : (w.setCell p u).ownsRow base E sz v n xs :=
  own_turn h ((Turn.refl p.block w).trans ⟨rfl, rfl, rfl, by simp [World.setCell], fun k _ hne => Below.heap_setCell w p u k (fun e => hne (by rw [e]))⟩) hp
theorem own_drew1 {w : World} {base E sz n : Nat} {v : Value} {xs : List Value} (h : w.ownsRow base E sz v n xs) : w.drew.ownsRow base E sz v n xs := h
theorem below_undrew1 {B : Nat} {w w' : World} (h : Below B w.drew w') : Below B w w' := ⟨h.os, h.tape, h.output, h.size, h.block⟩

section
variable {P : Program} {ops : Array Oper} {rest : List Oper} {o : Oper} {a : Act} {Q : Exit → Act → World → Prop} {W : World}
/-- An entry pushed, at a step of a region that draws its order. -/
theorem step_push_ent0 {K : Act → World → Prop} {E0 : Prop} {T E bytes : Nat} (hT : RowType P T E 2 bytes) (hgd : o.guard = none) (s x : Operand) (ho : o.op = .call { callee := .builtin .append, args := #[s, x], argTypes := #[T, T] })
    (base : Nat) (v : Value) (n : Nat) (xs : List Value) (hs : a.eval s = v) (hown : W.ownsRow base E 2 v n xs) (E' : Nat) (k u : Int) (hx : a.eval x = .slice (some ⟨W.heap.size, 0, none⟩) 1 1)
    (hn : n < 4294967296) (hbase : base ≤ W.heap.size)
    (h : ∀ v' w', w'.ownsRow base E 2 v' (n + 1) (xs ++ [.int .i64 k, .int .i64 u]) → Below base W w' → W.grownBy w' v.ownBlock → W.heap.size < w'.heap.size → K (a.put o.dst v') w') :
    if Region.wanted o (yielded ops a.tmps) = true then Oper.wp P o a (W.alloc (.cells #[.int .i64 k, .int .i64 u] E')) K Q else E0 := by
  have hw : Region.wanted o (yielded ops a.tmps) = true := by simp [Region.wanted, hgd]
  rw [if_pos hw]
  obtain ⟨ht, i, z, hi, hz, hsz, hby, hzs, h0, hb⟩ := hT
  have hlt : bytes * (n + 1) ≤ 4096 * 4294967296 := Nat.mul_le_mul hb (by omega)
  refine wp_append_own _ s x T ho base E i z 2 bytes ht hi hz hsz hby hzs h0 v n xs hs (hown.alloc (.cells #[.int .i64 k, .int .i64 u] E')) ⟨W.heap.size, 0, none⟩ 1 1 [.int .i64 k, .int .i64 u] hx rfl (new_cells #[.int .i64 k, .int .i64 u] E')
    (by simp [Value.oneCell']) (by unfold maxLen; omega) (by rw [Nat.mul_comm]; omega) (by show base ≤ (W.alloc _).heap.size; simp; omega) (fun v' w' g1 g2 _ => ?_)
  have hB : Below base W w' := below_own ((Below.refl _ _).alloc hbase _) (hown.alloc _) g2 (by simp; omega) (Nat.le_refl _)
  have hG : W.grownBy w' v.ownBlock := ⟨g2.os, g2.tape, g2.output, Nat.le_trans (by simp) g2.size, fun k hk hne => (g2.block k (by simp; omega) hne).trans (Below.heap_alloc W _ k hk)⟩
  exact h v' w' g1 hB hG (by have := g2.size; simp at this; omega)
end

theorem run_start (w : World) (A V E : Array Value) (ta tv te : Nat) :
    RowIs ((((w.alloc (.cells A ta)).alloc (.cells V tv)).alloc (.cells E te)).alloc (.cells E te)) w.heap.size ta A.toList ∧
    RowIs ((((w.alloc (.cells A ta)).alloc (.cells V tv)).alloc (.cells E te)).alloc (.cells E te)) (w.heap.size + 1) tv V.toList ∧
    RowIs ((((w.alloc (.cells A ta)).alloc (.cells V tv)).alloc (.cells E te)).alloc (.cells E te)) (w.heap.size + 1 + 1) te E.toList ∧
    RowIs ((((w.alloc (.cells A ta)).alloc (.cells V tv)).alloc (.cells E te)).alloc (.cells E te)) (w.heap.size + 1 + 1 + 1) te E.toList ∧
    ((((w.alloc (.cells A ta)).alloc (.cells V tv)).alloc (.cells E te)).alloc (.cells E te)).heap.size = w.heap.size + 1 + 1 + 1 + 1 ∧
    Below w.heap.size w ((((w.alloc (.cells A ta)).alloc (.cells V tv)).alloc (.cells E te)).alloc (.cells E te)) := by
  have e1 : (w.alloc (.cells A ta)).heap.size = w.heap.size + 1 := by simp
  have e2 : ((w.alloc (.cells A ta)).alloc (.cells V tv)).heap.size = w.heap.size + 1 + 1 := by simp
  have e3 : (((w.alloc (.cells A ta)).alloc (.cells V tv)).alloc (.cells E te)).heap.size = w.heap.size + 1 + 1 + 1 := by simp
  have b1 := (Below.refl w.heap.size w).alloc (Nat.le_refl _) (.cells A ta)
  have b2 := b1.alloc b1.size (.cells V tv)
  have b3 := b2.alloc b2.size (.cells E te)
  have b4 := b3.alloc b3.size (.cells E te)
  refine ⟨(((RowIs.alloc A ta).alloc_other _).alloc_other _).alloc_other _, ?_, ?_, ?_, by simp, b4⟩
  · have h := ((RowIs.alloc (w := w.alloc (.cells A ta)) V tv).alloc_other (.cells E te)).alloc_other (.cells E te)
    rwa [e1] at h
  · have h := (RowIs.alloc (w := (w.alloc (.cells A ta)).alloc (.cells V tv)) E te).alloc_other (.cells E te)
    rwa [e2] at h
  · have h := RowIs.alloc (w := ((w.alloc (.cells A ta)).alloc (.cells V tv)).alloc (.cells E te)) E te
    rwa [e3] at h

def ResM4 (k f t m : Int) (v : List Int) (w : World) (e : Ending) (w' : World) : Prop :=
  ∃ b n D, e = .returned (.tuple #[.map (some b), .bool (doneF k f t m v)]) ∧ OwnM w' b n D ∧
    (∀ key ∈ writesF k f t, D.atKey (.int .i64 key) (.lit (.int .i64 0)) = .lit (.int .i64 (wrF k f t m v key))) ∧ w.heap.size ≤ b ∧ Below w.heap.size w w'
theorem result_any4 (k f t m : Int) (v : List Int) (hv : vOk v) (hok : actOk k f t m = true) (w : World) :
    Calls Try.prog 102 #[.agg #[.int .i64 k, .int .i64 f, .int .i64 t, .int .i64 m], .agg (arrV v)] w (ResM4 k f t m v w) := result_any (k, f, t, m) v hv hok w
theorem atKey_eq {D : DataW Unit} {key q c : Int} (h : D.atKey (.int .i64 key) (.lit (.int .i64 0)) = .lit (.int .i64 q)) (h2 : D.atKey (.int .i64 key) (.lit (.int .i64 0)) = .lit (.int .i64 c)) : c = q := by
  rw [h] at h2
  injection h2 with h2
  injection h2 with _ h2
  exact h2.symm
theorem writesF_bd {k f t : Int} (hf : 0 ≤ f ∧ f ≤ 31) (ht : 0 ≤ t ∧ t ≤ 31) : ∀ x ∈ writesF k f t, 0 ≤ x ∧ x ≤ 31 := by
  intro x hx
  unfold writesF at hx
  split at hx
  · simp at hx; omega
  · split at hx
    · simp at hx; omega
    · simp at hx; omega

theorem ownM_below {w w' : World} {b n B : Nat} {D : DataW Unit} (h : OwnM w b n D) (hb : Below B w w') (hlt : b < B) : OwnM w' b n D := by
  obtain ⟨es, clock, h1, h2⟩ := h
  exact ⟨es, clock, (hb.block b hlt).trans h1, h2⟩

theorem rds_snoc (k f t : Int) (v : List Int) {rs : List Int} (hrs : readsF k f t = rs) (j : Nat) (hj : j < rs.length) : entCells ((rdsF k f t v).take (j + 1)) = entCells ((rdsF k f t v).take j) ++ [.int .i64 rs[j], .int .i64 (atV v rs[j])] := by
  subst hrs
  have hl : j < (rdsF k f t v).length := by simpa [rdsF] using hj
  rw [List.take_succ_eq_append_getElem hl, entCells_append]
  congr 1
  simp [rdsF, entCells]
theorem wrs_snoc (k f t m : Int) (v : List Int) {ws : List Int} (hws : writesF k f t = ws) (hd : doneF k f t m v = true) (j : Nat) (hj : j < ws.length) : entCells ((wrsF k f t m v).take (j + 1)) = entCells ((wrsF k f t m v).take j) ++ [.int .i64 ws[j], .int .i64 (wrF k f t m v ws[j])] := by
  subst hws
  have hl : j < (wrsF k f t m v).length := by simpa [wrsF, hd] using hj
  rw [List.take_succ_eq_append_getElem hl, entCells_append]
  congr 1
  simp [wrsF, hd, entCells]
theorem readsF_bd {k f t : Int} (hf : 0 ≤ f ∧ f ≤ 31) (ht : 0 ≤ t ∧ t ≤ 31) : ∀ x ∈ readsF k f t, 0 ≤ x ∧ x ≤ 31 := by
  intro x hx
  unfold readsF at hx
  split at hx
  · simp at hx
  · split at hx <;> simp at hx <;> omega

set_option maxRecDepth 100000 in
set_option maxHeartbeats 8000000 in
theorem run_any (z : ActT) (v : List Int) (hv : vOk v) (hok : actOk z.1 z.2.1 z.2.2.1 z.2.2.2 = true) (w : World) :
    Calls Try.prog 78 #[.agg #[.int .i64 z.1, .int .i64 z.2.1, .int .i64 z.2.2.1, .int .i64 z.2.2.2], .agg (arrV v)] w (EffRes 49 (runF z v) w) := by
  obtain ⟨k, f, t, m⟩ := z
  simp only at hok ⊢
  obtain ⟨hf, ht, hm, hk⟩ := actOk_elim hok
  have HOK := Lib.hid hok
  have HV := Lib.hid hv
  have hRB := Lib.hid (readsF_bd (k := k) hf ht)
  clear hok hv hk
  obtain ⟨h0, h1, h2, h3, h4, h5⟩ := run_start w #[.int .i64 k, .int .i64 f, .int .i64 t, .int .i64 m] (arrV v) #[.bool false, .slice none 0 0, .slice none 0 0] 44 85 53
  rw [arrV_list] at h1
  have H0 := Lib.hid h0
  have H1 := Lib.hid h1
  have H2 := Lib.hid h2
  have H3 := Lib.hid h3
  have HZ := Lib.hid h4
  have HB := Lib.hid h5
  clear h0 h1 h2 h3 h4 h5
  go_enter Try.func78, Try.ntmps78
  go_wp2_with fail
  refine (reads_any k f t m _).mono ?_
  rintro e w1 ⟨A_r, c_r, rfl, oR, hb1⟩
  have hb1' := hb1
  rw [HZ.out] at oR hb1'
  have r0 := H0.out.below hb1 H0.out.lt
  have r1 := H1.out.below hb1 H1.out.lt
  have r2 := H2.out.below hb1 H2.out.lt
  have r3 := H3.out.below hb1 H3.out.lt
  have hs1 := hb1.size
  rw [HZ.out] at hs1
  have hB1 := HB.out.trans (hb1.mono HB.out.size)
  have hrl := readsF_length k f t
  have R0 := Lib.hid r0
  have R1 := Lib.hid r1
  have R2 := Lib.hid r2
  have R3 := Lib.hid r3
  have HB1 := Lib.hid hB1
  have OR := Lib.hid oR
  clear r0 r1 r2 r3 hb1 hb1' H0 H1 H2 H3 HZ HB hB1 oR
  generalize hrs : readsF k f t = rs at OR hRB hrl ⊢
  have HSN := Lib.hid (rds_snoc k f t v hrs)
  have HRL := Lib.hid (show (rdsF k f t v).length = rs.length by rw [← hrs]; simp [rdsF])
  clear hrs
  have hwr1 : Turn (w.heap.size + 1 + 1 + 1) w1 w1 := Turn.refl _ _
  go_wp2
  go_loopw [15] (fun i wr => ∃ j : Nat, j ≤ rs.length ∧ i = .int .i64 j ∧ (∃ A c, RowIs wr (w.heap.size + 1 + 1 + 1) 53 [.bool false, .slice A j c, .slice none 0 0] ∧ wr.ownsRow w1.heap.size 49 2 (.slice A j c) j (entCells ((rdsF k f t v).take j))) ∧ Turn (w.heap.size + 1 + 1 + 1) w1 wr) (fun i _ => rs.length - (intOf i).toNat)
  case atStart => exact ⟨0, Nat.zero_le _, rfl, ⟨none, 0, R3.out, World.ownsRow_nil _ _ _ _⟩, hwr1⟩
  case round =>
    clear hwr1
    obtain ⟨j, hj, rfl, ⟨A, c, r3, ho⟩, hT⟩ := hrel
    have hTs := hT.size
    by_cases hlt : j < rs.length
    · have oR := own_turn OR.out hT (by omega)
      obtain ⟨b, o, hA, hb, hc⟩ := (ints_of_own oR).at_ hlt
      have hcell := hc j hlt
      have hkb := hRB.out rs[j] (List.getElem_mem hlt)
      have hkb2 : rs[j] < 32 := by omega
      have hvc : wr.cell? ⟨w.heap.size + 1, rs[j].toNat, none⟩ = some (.int .i64 (atV v rs[j])) := by
        rw [(R1.out.turn hT (by omega)).cell, List.getElem?_map, List.getElem?_eq_getElem (by rw [HV.out.1]; omega)]
        unfold atV
        rw [List.getD_eq_getElem?_getD, List.getElem?_eq_getElem (by rw [HV.out.1]; omega)]
        rfl
      have hec : wr.cell? ⟨w.heap.size + 1 + 1 + 1, 1, none⟩ = some (.slice A j c) := r3.cell 1
      have hef := r3.frozen 1
      have HSJ := Lib.hid (HSN.out j hlt)
      have R3J := Lib.hid r3
      have hE4 : w.heap.size + 1 + 1 + 1 < w1.heap.size := by omega
      have hE5 : w.heap.size + 1 + 1 + 1 < wr.heap.size := by omega
      have hE6 : w.heap.size + 1 < wr.heap.size := by omega
      subst hA
      clear hc r3
      generalize rs[j] = key at *
      generalize atV v key = q at *
      go_wp2
      go_region_law ((refine step_push_ent0 entRow (by rfl) _ _ (by rfl) w1.heap.size _ _ _ (by rfl) (own_drew1 ho) _ _ _ (by rfl) (by omega) hTs ?_; intro v2 w2 ho2 hb2 _ hs2; obtain ⟨A2, c2, rfl⟩ := own_form ho2; have hec2 := (hb2.cell (p := ⟨w.heap.size + 1 + 1 + 1, 1, none⟩) hE4).trans hec; have hef2 := (hb2.frozen (p := ⟨w.heap.size + 1 + 1 + 1, 1, none⟩) hE4).trans hef))
      all_goals
        have hT2 := (hT.upTo (below_undrew1 hb2) (Nat.le_refl _)).set 1 (.slice A2 (j + 1) c2)
        have r32 := (R3J.out.below (below_undrew1 hb2) hE4).set 1 (.slice A2 (j + 1) c2)
        have ho3 := own_setCell (p := ⟨w.heap.size + 1 + 1 + 1, 1, none⟩) ho2 hE4 (.slice A2 (j + 1) c2)
        rw [← HSJ.out] at ho3
        clear ho2 hec2 hef2 ho hec hef hcell hvc
        go_wp2
        go_roundw
        case rel => exact ⟨j + 1, by omega, by go_num, ⟨A2, c2, by simpa using r32, ho3⟩, hT2⟩
        case measure => simp [intOf]; omega
    · obtain rfl : j = rs.length := by omega
      have hok4 : actOk k f t m = true := HOK.out
      rw [List.take_of_length_le (by rw [HRL.out]; exact Nat.le_refl _)] at ho
      have q0 : wr.cell? ⟨w.heap.size, 0, none⟩ = some (.int .i64 k) := (R0.out.turn hT (by omega)).cell 0
      have q1 : wr.cell? ⟨w.heap.size, 1, none⟩ = some (.int .i64 f) := (R0.out.turn hT (by omega)).cell 1
      have q2 : wr.cell? ⟨w.heap.size, 2, none⟩ = some (.int .i64 t) := (R0.out.turn hT (by omega)).cell 2
      have q3 : wr.cell? ⟨w.heap.size, 3, none⟩ = some (.int .i64 m) := (R0.out.turn hT (by omega)).cell 3
      have hg := (R1.out.turn hT (by omega)).heap
      go_wp2_with (refine wpList_load_row rfl 85 _ rfl (w.heap.size + 1) rfl 85 _ (0, 0) _ hg Try.underlying85 rfl (by rw [size_values, arrV_size, HV.out.1]) ?_)
      refine (result_any4 k f t m v HV.out hok4 _).mono ?_
      rintro e w3 ⟨bM, nM, D, rfl, hM, hD, hbM, hb3⟩
      have r03 := (R0.out.turn hT (by omega)).below hb3 (by omega)
      have r23 := (R2.out.turn hT (by omega)).below hb3 (by omega)
      have r33 := r3.below hb3 (by omega)
      have hs3 := hb3.size
      have ho3 := own_below ho hb3
      have hB3 := (Turn.below HB1.out hT (by omega) HB1.out.size).trans (hb3.mono (by omega))
      have e0 : w3.cell? ⟨w.heap.size + 1 + 1 + 1, 0, none⟩ = some (.bool false) := r33.cell 0
      have e1 : w3.cell? ⟨w.heap.size + 1 + 1 + 1, 1, none⟩ = some (.slice A rs.length c) := r33.cell 1
      have e2 : w3.cell? ⟨w.heap.size + 1 + 1 + 1, 2, none⟩ = some (.slice none 0 0) := r33.cell 2
      have z0 : w3.cell? ⟨w.heap.size + 1 + 1, 0, none⟩ = some (.bool false) := r23.cell 0
      have z1 : w3.cell? ⟨w.heap.size + 1 + 1, 1, none⟩ = some (.slice none 0 0) := r23.cell 1
      have z2 : w3.cell? ⟨w.heap.size + 1 + 1, 2, none⟩ = some (.slice none 0 0) := r23.cell 2
      have fe := r33.frozen
      have fe0 := fe 0
      have fz0 := r23.frozen 0
      have fz1 := r23.frozen 1
      have fz2 := r23.frozen 2
      have hne : ¬ w.heap.size + 1 + 1 = w.heap.size + 1 + 1 + 1 := by omega
      have hne' : ¬ w.heap.size + 1 + 1 + 1 = w.heap.size + 1 + 1 := by omega
      have HO3 := Lib.hid ho3
      have HB3 := Lib.hid hB3
      have HM := Lib.hid hM
      have HD := Lib.hid hD
      have R03 := Lib.hid r03
      have R23 := Lib.hid r23
      have R33 := Lib.hid r33
      clear fe hg q0 q1 q2 q3 r3 ho r03 r23 r33 ho3 hB3 hM hD hb3
      cases hd : doneF k f t m v
      · have HF := Lib.hid hd
        clear hd
        go_wp2
        refine bodyPost_ret (v := .agg #[.bool false, .slice A rs.length c, .slice none 0 0]) (by simp [results, Try.results78, go_sem, z0, z1, z2]) rfl ?_
        have o1 := own_setCell (own_setCell (own_setCell (own_setCell HO3.out (p := ⟨w.heap.size + 1 + 1 + 1, 0, none⟩) (show w.heap.size + 1 + 1 + 1 < _ by omega) (.bool false)) (p := ⟨w.heap.size + 1 + 1, 0, none⟩) (show w.heap.size + 1 + 1 < _ by omega) (.bool false)) (p := ⟨w.heap.size + 1 + 1, 1, none⟩) (show w.heap.size + 1 + 1 < _ by omega) (.slice A rs.length c)) (p := ⟨w.heap.size + 1 + 1, 2, none⟩) (show w.heap.size + 1 + 1 < _ by omega) (.slice none 0 0)
        have b1 := (((HB3.out.setCell (p := ⟨w.heap.size + 1 + 1 + 1, 0, none⟩) (show w.heap.size ≤ w.heap.size + 1 + 1 + 1 by omega) (.bool false)).setCell (p := ⟨w.heap.size + 1 + 1, 0, none⟩) (show w.heap.size ≤ w.heap.size + 1 + 1 by omega) (.bool false)).setCell (p := ⟨w.heap.size + 1 + 1, 1, none⟩) (show w.heap.size ≤ w.heap.size + 1 + 1 by omega) (.slice A rs.length c)).setCell (p := ⟨w.heap.size + 1 + 1, 2, none⟩) (show w.heap.size ≤ w.heap.size + 1 + 1 by omega) (.slice none 0 0)
        have hrun : runF (k, f, t, m) v = (false, rdsF k f t v, []) := by simp [runF, wrsF, HF.out]
        rw [hrun]
        refine ⟨A, c, none, 0, by rw [HRL.out]; rfl, ?_, b1⟩
        rw [HRL.out]
        exact held_two (own_weaken o1 (by omega)) (World.ownsRow_nil _ (w3.heap.size + 1) _ _) (fun kk hk => by have := own_lt HO3.out kk hk; omega) (by omega)
      · have HF := Lib.hid hd
        clear hd
        have q0 : w3.cell? ⟨w.heap.size, 0, none⟩ = some (.int .i64 k) := R03.out.cell 0
        have q1 : w3.cell? ⟨w.heap.size, 1, none⟩ = some (.int .i64 f) := R03.out.cell 1
        have q2 : w3.cell? ⟨w.heap.size, 2, none⟩ = some (.int .i64 t) := R03.out.cell 2
        have q3 : w3.cell? ⟨w.heap.size, 3, none⟩ = some (.int .i64 m) := R03.out.cell 3
        go_wp2_with fail
        refine (writes_any k f t m _).mono ?_
        rintro e w5 ⟨A_w, c_w, rfl, oW, hb5⟩
        have hz5 : (w3.setCell ⟨w.heap.size + 1 + 1 + 1, 0, none⟩ (.bool true)).heap.size = w3.heap.size := by simp [World.setCell]
        have hs5 := hb5.size
        rw [hz5] at hs5
        have hT3 : Turn (w.heap.size + 1 + 1 + 1) w3 (w3.setCell ⟨w.heap.size + 1 + 1 + 1, 0, none⟩ (.bool true)) := (Turn.refl _ _).set 0 _
        have hT5 : Turn (w.heap.size + 1 + 1 + 1) w3 w5 := hT3.upTo hb5 (by rw [hz5]; exact Nat.le_refl _)
        have r35 := (R33.out.set 0 (.bool true)).below hb5 (by rw [hz5]; omega)
        have r25 := R23.out.turn hT5 (by omega)
        have ho5 := own_turn HO3.out hT5 (by omega)
        have hB5 := Turn.below HB3.out hT5 (by omega) HB3.out.size
        have hM5 : OwnM w5 bM nM D := HM.out.kept hT5 (fun e => by injection e; omega)
        have HM5 := Lib.hid hM5
        have hwl := writesF_length k f t
        have hWB := writesF_bd (k := k) hf ht
        generalize hws : writesF k f t = ws at oW HD hwl hWB ⊢
        have HSN2 := Lib.hid (wrs_snoc k f t m v hws HF.out)
        have HWL := Lib.hid (show (wrsF k f t m v).length = ws.length by rw [← hws]; simp [wrsF, HF.out])
        have HWB := Lib.hid hWB
        have OW := Lib.hid oW
        have O5 := Lib.hid ho5
        have R25 := Lib.hid r25
        have R35 := Lib.hid (show RowIs w5 (w.heap.size + 1 + 1 + 1) 53 [.bool true, .slice A rs.length c, .slice none 0 0] by simpa using r35)
        have HB5 := Lib.hid hB5
        have hw15 : w1.heap.size ≤ w5.heap.size := by omega
        have hw13 : w.heap.size + 1 + 1 + 1 + 1 ≤ (w3.setCell ⟨w.heap.size + 1 + 1 + 1, 0, none⟩ (.bool true)).heap.size := by rw [hz5]; omega
        have hbM2 : w.heap.size + 1 + 1 + 1 + 1 ≤ bM := by omega
        clear e0 e1 e2 z0 z1 z2 fe0 fz0 fz1 fz2 q0 q1 q2 q3 hT3 hT5 r35 r25 ho5 hB5 hM5 hws hWB oW hb5
        have hT55 : Turn (w.heap.size + 1 + 1 + 1) w5 w5 := Turn.refl _ _
        go_wp2
        go_loopw [42] (fun i wr => ∃ j : Nat, j ≤ ws.length ∧ i = .int .i64 j ∧ (∃ A2 c2, RowIs wr (w.heap.size + 1 + 1 + 1) 53 [.bool true, .slice A rs.length c, .slice A2 j c2] ∧ wr.ownsRow w5.heap.size 49 2 (.slice A2 j c2) j (entCells ((wrsF k f t m v).take j))) ∧ Turn (w.heap.size + 1 + 1 + 1) w5 wr) (fun i _ => ws.length - (intOf i).toNat)
        case atStart => exact ⟨0, Nat.zero_le _, rfl, ⟨none, 0, R35.out, World.ownsRow_nil _ _ _ _⟩, hT55⟩
        case round =>
          clear hT55 hT hTs
          obtain ⟨j, hj, rfl, ⟨A2, c2, r3, ho⟩, hT⟩ := hrel
          have hTs := hT.size
          by_cases hlt : j < ws.length
          · have oW := own_turn OW.out hT (by omega)
            obtain ⟨b, o, hA, hb, hc⟩ := (ints_of_own oW).at_ hlt
            have hcell := hc j hlt
            have hkb := HWB.out ws[j] (List.getElem_mem hlt)
            have HDJ := Lib.hid (HD.out ws[j] (List.getElem_mem hlt))
            have HSJ := Lib.hid (HSN2.out j hlt)
            have hec : wr.cell? ⟨w.heap.size + 1 + 1 + 1, 2, none⟩ = some (.slice A2 j c2) := r3.cell 2
            have hef := r3.frozen 2
            have R3J := Lib.hid r3
            have hE4 : w.heap.size + 1 + 1 + 1 < w5.heap.size := by omega
            have hMr : OwnM wr bM nM D := HM5.out.kept hT (fun e => by injection e; omega)
            have hkey := Go.Maps.keyOf_int_mk (P := Try.prog) Try.underlying3 (wfI_of (x := ws[j]) (by omega))
            subst hA
            clear hc r3
            generalize wrF k f t m v ws[j] = q at *
            generalize ws[j] = key at *
            go_wp2_with (first
              | (at_lookup; refine wpList_lookup_own_int _ rfl _ _ 105 rfl 3 3 .i64 int_keys Try.underlying105 Try.underlying3 (zero_int _) bM nM D rfl hMr _ _ rfl hkey ?_; intro cc hat hwc; obtain rfl := atKey_eq HDJ.out hat)
              | (at_builtin; refine wpList_push_ent entRow rfl _ _ rfl w5.heap.size _ _ _ rfl ho _ _ _ rfl (by omega) hTs ?_))
            intro v2 w2 ho2 hb2 _ hs2
            obtain ⟨A4, c4, rfl⟩ := own_form ho2
            have hec2 := (hb2.cell (p := ⟨w.heap.size + 1 + 1 + 1, 2, none⟩) hE4).trans hec
            have hef2 := (hb2.frozen (p := ⟨w.heap.size + 1 + 1 + 1, 2, none⟩) hE4).trans hef
            have hT2 := (hT.upTo hb2 (Nat.le_refl _)).set 2 (.slice A4 (j + 1) c4)
            have r32 := (R3J.out.below hb2 hE4).set 2 (.slice A4 (j + 1) c4)
            have ho3 := own_setCell (p := ⟨w.heap.size + 1 + 1 + 1, 2, none⟩) ho2 hE4 (.slice A4 (j + 1) c4)
            rw [← HSJ.out] at ho3
            clear ho2 ho hec hef hcell
            go_wp2
            go_roundw
            case rel => exact ⟨j + 1, by omega, by go_num, ⟨A4, c4, by simpa using r32, ho3⟩, hT2⟩
            case measure => simp [intOf]; omega
          · obtain rfl : j = ws.length := by omega
            rw [List.take_of_length_le (by rw [HWL.out]; exact Nat.le_refl _)] at ho
            have hO := own_turn O5.out hT (by omega)
            have hB := Turn.below HB5.out hT (by omega) HB5.out.size
            have e0 : wr.cell? ⟨w.heap.size + 1 + 1 + 1, 0, none⟩ = some (.bool true) := r3.cell 0
            have e1 : wr.cell? ⟨w.heap.size + 1 + 1 + 1, 1, none⟩ = some (.slice A rs.length c) := r3.cell 1
            have e2 : wr.cell? ⟨w.heap.size + 1 + 1 + 1, 2, none⟩ = some (.slice A2 ws.length c2) := r3.cell 2
            have r2 := R25.out.turn hT (by omega)
            have z0 : wr.cell? ⟨w.heap.size + 1 + 1, 0, none⟩ = some (.bool false) := r2.cell 0
            have z1 : wr.cell? ⟨w.heap.size + 1 + 1, 1, none⟩ = some (.slice none 0 0) := r2.cell 1
            have z2 : wr.cell? ⟨w.heap.size + 1 + 1, 2, none⟩ = some (.slice none 0 0) := r2.cell 2
            have fz0 := r2.frozen 0
            have fz1 := r2.frozen 1
            have fz2 := r2.frozen 2
            have HO := Lib.hid hO
            have HBB := Lib.hid hB
            have HH := Lib.hid ho
            clear r3 r2 hO hB ho
            go_wp2
            refine bodyPost_ret (v := .agg #[.bool true, .slice A rs.length c, .slice A2 ws.length c2]) (by simp [results, Try.results78, go_sem, z0, z1, z2]) rfl ?_
            have fin : ∀ {base : Nat} {v : Value} {n : Nat} {xs : List Value} (h : wr.ownsRow base 49 2 v n xs) (hb : w.heap.size + 1 + 1 < base), (((wr.setCell ⟨w.heap.size + 1 + 1, 0, none⟩ (.bool true)).setCell ⟨w.heap.size + 1 + 1, 1, none⟩ (.slice A rs.length c)).setCell ⟨w.heap.size + 1 + 1, 2, none⟩ (.slice A2 ws.length c2)).ownsRow base 49 2 v n xs :=
              fun h hb => own_setCell (own_setCell (own_setCell h (p := ⟨w.heap.size + 1 + 1, 0, none⟩) hb _) (p := ⟨w.heap.size + 1 + 1, 1, none⟩) hb _) (p := ⟨w.heap.size + 1 + 1, 2, none⟩) hb _
            have b1 := ((HBB.out.setCell (p := ⟨w.heap.size + 1 + 1, 0, none⟩) (show w.heap.size ≤ w.heap.size + 1 + 1 by omega) (.bool true)).setCell (p := ⟨w.heap.size + 1 + 1, 1, none⟩) (show w.heap.size ≤ w.heap.size + 1 + 1 by omega) (.slice A rs.length c)).setCell (p := ⟨w.heap.size + 1 + 1, 2, none⟩) (show w.heap.size ≤ w.heap.size + 1 + 1 by omega) (.slice A2 ws.length c2)
            have hrun : runF (k, f, t, m) v = (true, rdsF k f t v, wrsF k f t m v) := by simp [runF, HF.out]
            rw [hrun]
            refine ⟨A, c, A2, c2, by rw [HRL.out, HWL.out], ?_, b1⟩
            rw [HRL.out, HWL.out]
            exact held_two (own_weaken (fin HO.out (by omega)) (by omega)) (fin HH.out (by omega)) (fun kk hk => by have := own_lt O5.out kk hk; omega) (by omega)

end Go.Proofs.Ytpomiglcplbdbaa
