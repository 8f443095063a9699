/- A value written in a layer: LayerWrite of the reference. -/
import Derived.Test.YtehlgfgkobblbaaQLays3
import Derived.Test.YtehlgfgkobblbaaQL4Put
namespace Go.Proofs.Ytehlgfgkobblbaa
open Go.ChangeShapes Go.WideShapes Go.ChangeAt Go.RowKit Go.Deep

theorem layWriteF_no {ls : List LayT} {n k v : Int} (h : laysOk ls = false) : layWriteF ls n k v = [] ∧ layWriteB ls n k v = false := by simp [layWriteF, layWriteB, h]
theorem layWriteF_old {ls : List LayT} {n k v : Int} (h : laysOk ls = true) (h2 : writeOkB ls n k v = false) : layWriteF ls n k v = ls ∧ layWriteB ls n k v = false := by simp [layWriteF, layWriteB, h, h2]
theorem layWriteF_new {ls : List LayT} {n k v : Int} (h : laysOk ls = true) (h2 : writeOkB ls n k v = true) : layWriteF ls n k v = layPut ls n.toNat k v ∧ layWriteB ls n k v = true := by simp [layWriteF, layWriteB, h, h2]
theorem writeOk_eq (ls : List LayT) (n k v : Int) : writeOkB ls n k v = (inB n 0 ((ls.length : Int) - 1) && inB k 0 31 && inB v 0 1000000) := rfl

theorem laysT_split (zs : List LayA) (k : Nat) (h : k < zs.length) : laysT zs = laysT (zs.take k) ++ zs[k].1 :: laysT (zs.drop (k + 1)) :=
  calc laysT zs = laysT (zs.take k ++ zs[k] :: zs.drop (k + 1)) := by rw [← List.drop_eq_getElem_cons h, List.take_append_drop]
    _ = _ := by simp only [laysT, List.map_append, List.map_cons]
theorem totL_modify (ls : List LayT) (k : Nat) (key value : Int) : totL (layPut ls k key value) ≤ totL ls + 1 := by
  unfold layPut
  induction ls generalizing k with
  | nil => simp [totL]
  | cons x ls ih =>
    cases k with
    | zero =>
      rw [List.modify_zero_cons, totL_cons, totL_cons]
      have := putF_length key value false x.2
      show (putF key value false x.2).length + totL ls ≤ x.2.length + totL ls + 1
      omega
    | succ k =>
      rw [List.modify_succ_cons, totL_cons, totL_cons]
      have := ih k
      omega
theorem layPut_length (ls : List LayT) (k : Nat) (key value : Int) : (layPut ls k key value).length = ls.length := by simp [layPut]
theorem layWriteF_bd (ls : List LayT) (n k v : Int) : (layWriteF ls n k v).length + totL (layWriteF ls n k v) ≤ ls.length + totL ls + 1 := by
  unfold layWriteF
  split
  · split
    · rw [layPut_length]; have := totL_modify ls n.toNat k v; omega
    · omega
  · simp [totL]

/-- One of the layers with other writes. -/
theorem layPut_split (a : List LayT) (x : LayT) (b : List LayT) (key value : Int) : layPut (a ++ x :: b) a.length key value = a ++ (x.1, putF key value false x.2) :: b := by
  unfold layPut
  induction a with
  | nil => rfl
  | cons y a ih => simp only [List.cons_append, List.length_cons, List.modify_succ_cons, ih]

theorem layCells_set1 (a : List LayA) (z : LayA) (b : List LayA) (es : List Ent) (A2 : Option Addr) (c2 : Nat) (j : Nat) (hj : j = a.length * 2 + 1) : (layCells (a ++ z :: b)).set j (.slice A2 es.length c2) = layCells (a ++ ((z.1.1, es), (A2, c2)) :: b) := by
  subst hj
  rw [layCells_append, layCells_append, layCells_cons, layCells_cons]
  have h := layCells_length a
  rw [← h]
  generalize layCells a = l
  induction l with
  | nil => rfl
  | cons x l _ => simp

/-- The writes of one layer are replaced by a row made later. -/
theorem LaysOwn.setWrites {w : World} {base S : Nat} {g c : Nat} {a : List LayA} {z : LayA} {b : List LayA} {es : List Ent} {A2 : Option Addr} {c2 : Nat} (h : LaysOwn w base (some ⟨g, 0, none⟩) c (a ++ z :: b)) (o2 : w.ownsRow S 37 2 (.slice A2 es.length c2) es.length (entCells es)) (hlt : LaysLt (some ⟨g, 0, none⟩) c (a ++ z :: b) S) (hS : base ≤ S) :
    LaysOwn (w.setCell ⟨g, a.length * 2 + 1, none⟩ (.slice A2 es.length c2)) base (some ⟨g, 0, none⟩) c (a ++ ((z.1.1, es), (A2, c2)) :: b) := by
  have hset := own_set_cell h.outer (j := a.length * 2 + 1) rfl (by simp; omega) (.slice A2 es.length c2)
  rw [layCells_set1 _ _ _ _ _ _ _ rfl] at hset
  have hin : HeldL w base (layRows (a ++ ((z.1.1, es), (A2, c2)) :: b)) := by
    have h1 := h.inner
    have e1 : layRows (a ++ z :: b) = layRows a ++ (layRow z :: layRows b) := by simp [layRows]
    have e2 : layRows (a ++ ((z.1.1, es), (A2, c2)) :: b) = layRows a ++ (layRow ((z.1.1, es), (A2, c2)) :: layRows b) := by simp [layRows]
    rw [e1] at h1
    rw [e2]
    have hp := List.pairwise_append.1 h1.2
    have hp2 := List.pairwise_cons.1 hp.2.1
    have hnew : ∀ k, rowBlock (layRow ((z.1.1, es), (A2, c2))) = some k → S ≤ k := fun k hk => (o2.lt k hk).1
    have hold : ∀ r ∈ layRows a ++ layRows b, ∀ k, rowBlock r = some k → k < S := fun r hr k hk => hlt r (by
      rw [e1]
      rcases List.mem_append.1 hr with hr | hr
      · exact List.mem_cons_of_mem _ (List.mem_append_left _ hr)
      · exact List.mem_cons_of_mem _ (List.mem_append_right _ (List.mem_cons_of_mem _ hr))) k hk
    refine ⟨fun r hr => ?_, List.pairwise_append.2 ⟨hp.1, List.pairwise_cons.2 ⟨fun r hr k hk hk2 => ?_, hp2.2⟩, fun r hr r2 hr2 k hk hk2 => ?_⟩⟩
    · rcases List.mem_append.1 hr with hr | hr
      · exact h1.1 r (List.mem_append_left _ hr)
      · rcases List.mem_cons.1 hr with rfl | hr
        · exact own_weaken o2 hS
        · exact h1.1 r (List.mem_append_right _ (List.mem_cons_of_mem _ hr))
    · have h3 := hnew k hk
      have h4 := hold r (List.mem_append_right _ hr) k hk2
      omega
    · rcases List.mem_cons.1 hr2 with rfl | hr2
      · have h3 := hnew k hk2
        have h4 := hold r (List.mem_append_left _ hr) k hk
        omega
      · exact hp.2.2 r hr r2 (List.mem_cons_of_mem _ hr2) k hk hk2
  have hout := h.outer
  have e3 : (a ++ ((z.1.1, es), (A2, c2)) :: b).length = (a ++ z :: b).length := by simp
  refine LaysOwn.mk (n := (a ++ z :: b).length) e3.symm hset.1 (inner_kept hin hout hset.2)

set_option maxRecDepth 100000 in
set_option maxHeartbeats 3200000 in
theorem specLayerWrite_any (A : Option Addr) (c : Nat) (zs : List LayA) (n key value : Int) (w : World) (hz : LaysAt w A zs) (hn : zs.length < 4294967296) (hl : ∀ z ∈ zs, z.1.2.length < 4294967296) :
    Calls Try.prog 29 #[.slice A zs.length c, .int .i64 n, .int .i64 key, .int .i64 value] w (NewLays2 (layWriteF (laysT zs) n key value) (layWriteB (laysT zs) n key value) w) := by
  have HZ := Lib.hid hz
  have HL := Lib.hid hl
  have HL' := Lib.hid (show ∀ z ∈ zs, z.1.2.length ≤ 4294967296 from fun z h => Nat.le_of_lt (hl z h))
  have HN := Lib.hid (laysT_len zs)
  clear hz hl
  cases h1 : laysOk (laysT zs)
  case false =>
    have H := Lib.hid (layWriteF_no (n := n) (k := key) (v := value) h1)
    go_enter Try.func29, Try.ntmps29
    go_wp2_with fail
    refine (specLayersValid_any _ _ _ _ HZ.out (by omega) HL'.out).mono ?_
    rintro e w1 ⟨rfl, hd1⟩
    have hb1 := hd1.below w.heap.size
    rw [h1]
    go_wp2
    go_ret2
    exact ⟨_, _, [], by rw [H.out.2]; rfl, by rw [H.out.1]; rfl, LaysOwn.mk (n := 0) rfl (own_empty w1 w.heap.size 28 2 hb1.size) (HeldL.nil _ _), hb1.alloc hb1.size _⟩
  case true =>
    have hlen : zs.length ≤ 20 := by have := (laysOk_iff.1 h1).2; rw [HN.out] at this; exact this
    have HFINE := Lib.hid (laysOk_iff.1 h1).1
    have HE := Lib.hid (writeOk_eq (laysT zs) n key value)
    rw [HN.out] at HE
    cases h2 : inB n 0 ((zs.length : Int) - 1) <;> cases h3 : inB key 0 31 <;> cases h4 : inB value 0 1000000
    case true.true.true =>
      have H := Lib.hid (layWriteF_new h1 (by rw [HE.out, h2, h3, h4]; rfl))
      have b2 := inB_true.1 h2
      obtain ⟨k, rfl⟩ : ∃ k : Nat, n = (k : Int) := ⟨n.toNat, by omega⟩
      have hlt : k < zs.length := by omega
      obtain ⟨b, o, rfl, hb, hc⟩ := HZ.out.at_ hlt
      have HC := Lib.hid (hc k hlt)
      have hok := HZ.out.2 zs[k] (List.getElem_mem hlt)
      have HQ := Lib.hid hok.2
      have hll : zs[k].1.2.length ≤ 32 := by
        have h := layOkB_iff.1 (HFINE.out k (by simpa using hlt))
        rw [laysT_at zs k hlt] at h
        exact entsOk_length h.2 (by omega)
      have HSP := Lib.hid (laysT_split zs k hlt)
      have hk0 : (0 : Int) ≤ (k : Int) := by omega
      have hk1 : (k : Int) < (zs.length : Int) := by omega
      have htk : (zs.take k).length = k := by rw [List.length_take]; omega
      have HTK := Lib.hid htk
      have hel : entsOk 0 (-1) zs[k].1.2 = true := by
        have h := layOkB_iff.1 (HFINE.out k (by simpa using hlt))
        rw [laysT_at zs k hlt] at h
        exact h.2
      clear hc hok htk hel
      generalize zs[k] = z at *
      generalize zs.take k = pre at *
      generalize zs.drop (k + 1) = post at *
      go_enter Try.func29, Try.ntmps29
      go_wp2_with fail
      refine (specLayersValid_any _ _ _ _ HZ.out (by omega) HL'.out).mono ?_
      rintro e w1 ⟨rfl, hd1⟩
      have hb1 := hd1.below w.heap.size
      rw [h1]
      go_wp2_with fail
      refine (l4Copy_any _ _ _ _ (HZ.out.below hb1) hn HL.out).mono ?_
      rintro e w2 ⟨A2, c2, ds, rfl, hds, hown, hb2⟩
      have HB2 := Lib.hid (hb1.trans (hb2.mono hb1.size))
      have hq1 : w2.cell? ⟨b, o + k * 2 + 1, none⟩ = some (.slice z.2.1 z.1.2.length z.2.2) := (HB2.out.cell hb).trans HC.out.2
      have HO2 := Lib.hid (hown.weaken hb1.size)
      have HDL := Lib.hid (show ds.length = zs.length by have := congrArg List.length hds; simpa using this)
      have HDS := Lib.hid hds
      clear hown hb2 hds
      go_wp2_with (go_at_call 34; refine (l1In_any _ _ _ _).mono ?_; rintro e w' ⟨rfl, rfl⟩)
      refine (l4Put_any _ _ z.1.2 key value _ (HQ.out.below HB2.out) (by omega)).mono ?_
      rintro e w3 ⟨A3, c3, rfl, ho3, hb3⟩
      have hown3 := HO2.out.below hb3
      have hlt3 := HO2.out.laysLt
      have HB3 := Lib.hid (HB2.out.trans (hb3.mono HB2.out.size))
      have hkd : k < ds.length := by have := HDL.out; omega
      have hdz0 := laysT_split ds k hkd
      have hdsp0 : ds = ds.take k ++ ds[k] :: ds.drop (k + 1) := by rw [← List.drop_eq_getElem_cons hkd, List.take_append_drop]
      obtain ⟨y, hy⟩ : ∃ y, y = ds[k] := ⟨_, rfl⟩
      rw [← hy] at hdz0 hdsp0
      have hdtk : (ds.take k).length = k := by rw [List.length_take]; omega
      have HFIN := Lib.hid (show laysT (ds.take k ++ ((y.1.1, putF key value false z.1.2), (A3, c3)) :: ds.drop (k + 1)) = layPut (laysT zs) k key value by
        have e1 := HDS.out
        rw [hdz0] at e1
        have e2 := HSP.out
        rw [e2] at e1
        have h := List.append_inj e1 (by rw [laysT_len, laysT_len, hdtk, HTK.out])
        injection h.2 with h3 h4
        have hpl : (laysT pre).length = k := by rw [laysT_len, HTK.out]
        rw [e2]
        have h5 := layPut_split (laysT pre) z.1 (laysT post) key value
        rw [hpl] at h5
        rw [h5, ← h.1, ← h4, ← h3]
        simp only [laysT, List.map_append, List.map_cons])
      have HLN := Lib.hid (show (ds.take k ++ ((y.1.1, putF key value false z.1.2), (A3, c3)) :: ds.drop (k + 1)).length = ds.length by
        rw [List.length_append, List.length_cons, hdtk, List.length_drop]; omega)
      clear hy
      rcases own_elim hown3.outer with hz0 | ⟨g, cur, hA2, hrow, hbg, hnc, hcm, hcl, hct⟩
      · omega
      · subst hA2
        have hx : ∃ v, w3.cell? ⟨g, k * 2 + 1, none⟩ = some v := hrow.some_ (by omega)
        obtain ⟨vx, hold⟩ := hx
        have hfz := hrow.frozen (k * 2 + 1)
        rw [hdsp0] at hown3 hlt3
        have hnew := LaysOwn.setWrites (es := putF key value false z.1.2) hown3 ho3 hlt3 HB2.out.size
        rw [hdtk] at hnew
        have HNEW := Lib.hid hnew
        have HBN := Lib.hid (HB3.out.setCell (p := ⟨g, k * 2 + 1, none⟩) hbg (.slice A3 (putF key value false z.1.2).length c3))
        have hkk : (k : Int) < (ds.length : Int) := by omega
        clear hnew hown3 hlt3 hdz0 hdsp0 hrow hcl hct ho3 hb3 hnc hdtk
        go_wp2
        go_ret2
        exact ⟨some ⟨g, 0, none⟩, c2, _, by rw [H.out.2, HLN.out]; rfl, by rw [HFIN.out, H.out.1, Int.toNat_natCast], HNEW.out, HBN.out⟩
    all_goals
      have H := Lib.hid (layWriteF_old (n := n) (k := key) (v := value) h1 (by rw [HE.out, h2, h3, h4]; rfl))
      go_enter Try.func29, Try.ntmps29
      go_wp2_with fail
      refine (specLayersValid_any _ _ _ _ HZ.out (by omega) HL'.out).mono ?_
      rintro e w1 ⟨rfl, hd1⟩
      have hb1 := hd1.below w.heap.size
      rw [h1]
      go_wp2_with fail
      refine (l4Copy_any _ _ _ _ (HZ.out.below hb1) hn HL.out).mono ?_
      rintro e w2 ⟨A2, c2, ds, rfl, hds, hown, hb2⟩
      go_wp2_with (go_at_call 34; refine (l1In_any _ _ _ _).mono ?_; rintro e w' ⟨rfl, rfl⟩)
      go_ret2
      exact ⟨A2, c2, ds, by rw [H.out.2]; rfl, by rw [H.out.1, hds], hown.weaken hb1.size, hb1.trans (hb2.mono hb1.size)⟩

end Go.Proofs.Ytehlgfgkobblbaa
