/- A value written in a layer: LayerWrite of the program. -/
import Derived.Test.YtehlgfgkobblbaaQLays4
import Derived.Test.YtehlgfgkobblbaaQBin
import Derived.Test.YtehlgfgkobblbaaQIns2
namespace Go.Proofs.Ytehlgfgkobblbaa
open Go.ChangeShapes Go.WideShapes Go.ChangeAt Go.RowKit Go.Deep

theorem putF_true_id (key value : Int) : ∀ {es : List Ent}, (∀ m (h : m < es.length), es[m].1 ≠ key) → putF key value true es = es := by
  intro es
  induction es with
  | nil => intro _; rfl
  | cons e es ih =>
    intro h
    have h0 : e.1 ≠ key := h 0 (by simp)
    have e0 : putF key value true (e :: es) = (if e.1 = key then [] else [e]) ++ putF key value true es := by simp [putF]
    rw [e0, if_neg h0, ih (fun m hm => by have := h (m + 1) (by simpa using hm); simpa using this)]
    rfl
theorem putF_spot (key value : Int) : ∀ {es : List Ent} {i : Nat}, i ≤ es.length → (∀ m (h : m < es.length), m < i → es[m].1 < key) → (∀ m (h : m < es.length), i ≤ m → key ≤ es[m].1) → (∀ a b (ha : a < es.length) (hb : b < es.length), a < b → es[a].1 < es[b].1) →
    putF key value false es = if (∃ h : i < es.length, es[i].1 = key) then es.set i (key, value) else es.take i ++ (key, value) :: es.drop i := by
  intro es
  induction es with
  | nil => intro i h _ _ _; have : i = 0 := by simpa using h
           subst this; simp [putF]
  | cons e es ih =>
    intro i hi hlt hge hasc
    cases i with
    | zero =>
      have h0 : key ≤ e.1 := hge 0 (by simp) (Nat.le_refl _)
      have e0 : putF key value false (e :: es) = (key, value) :: ((if e.1 = key then [] else [e]) ++ putF key value true es) := by simp [putF, h0]
      rw [e0, putF_true_id key value (fun m hm => by
        have h1 := hasc 0 (m + 1) (by simp) (by simpa using hm) (by omega)
        simp at h1
        omega)]
      by_cases hk : e.1 = key
      · rw [if_pos hk, if_pos ⟨by simp, by simpa using hk⟩]; simp
      · rw [if_neg hk, if_neg (by rintro ⟨_, h⟩; exact hk (by simpa using h))]; simp
    | succ i =>
      have h0 : e.1 < key := hlt 0 (by simp) (by omega)
      have e0 : putF key value false (e :: es) = e :: putF key value false es := by
        have h1 : ¬ key ≤ e.1 := by omega
        have h2 : ¬ e.1 = key := by omega
        simp [putF, h1, h2]
      rw [e0, ih (i := i) (by simpa using hi) (fun m hm hmi => by have := hlt (m + 1) (by simpa using hm) (by omega); simpa using this) (fun m hm hmi => by have := hge (m + 1) (by simpa using hm) (by omega); simpa using this)
        (fun a b ha hb hab => by have := hasc (a + 1) (b + 1) (by simpa using ha) (by simpa using hb) (by omega); simpa using this)]
      by_cases hk : ∃ h : i < es.length, es[i].1 = key
      · rw [if_pos hk, if_pos (by obtain ⟨h1, h2⟩ := hk; exact ⟨by simpa using h1, by simpa using h2⟩)]; simp
      · rw [if_neg hk, if_neg (by rintro ⟨h1, h2⟩; exact hk ⟨by simpa using h1, by simpa using h2⟩)]; simp
theorem spot_put {es : List Ent} {key value : Int} {i : Nat} {b : Bool} (h : SpotAt es key i b) (hs : entsOk 0 (-1) es = true) :
    putF key value false es = if b then es.set i (key, value) else es.take i ++ (key, value) :: es.drop i := by
  obtain ⟨h1, h2, h3, h4⟩ := h
  rw [putF_spot key value h1 h2 h3 (fun a b ha hb hab => entsOk_asc hs a b ha hb hab)]
  cases b with
  | true => rw [if_pos (h4.1 rfl)]; rfl
  | false => rw [if_neg (fun h => by cases h4.2 h)]; rfl

/-- One of the rows is written, or laid anew. -/
theorem HeldL.set2 {w w' : World} {base : Nat} {l m : List Row} {r r' : Row} (h : HeldL w base (l ++ r :: m)) (hg : w.grownBy w' (rowBlock r)) (ho : rowOwn w' base r') (hb : rowBlock r' = rowBlock r ∨ ∀ k, rowBlock r' = some k → w.heap.size ≤ k) : HeldL w' base (l ++ r' :: m) := by
  rcases hb with hb | hb
  · exact HeldL.set h hg ho hb
  · have hp := List.pairwise_append.1 h.2
    have hp2 := List.pairwise_cons.1 hp.2.1
    have key : ∀ x ∈ l ++ m, rowBlock x = none ∨ rowBlock x ≠ rowBlock r := by
      intro x hx
      cases hk : rowBlock x with
      | none => exact .inl rfl
      | some k =>
        right
        intro e
        rcases List.mem_append.1 hx with hx | hx
        · exact hp.2.2 x hx r (by simp) k hk e.symm
        · exact hp2.1 x hx k e.symm hk
    have hlt : ∀ x ∈ l ++ m, ∀ k, rowBlock x = some k → rowBlock r' ≠ some k := fun x hx k hk hk2 => by
      have h1 := hb k hk2
      have h2 : k < w.heap.size := by
        rcases List.mem_append.1 hx with hx | hx
        · exact (h.lt (List.mem_append_left _ hx) hk).2
        · exact (h.lt (List.mem_append_right _ (List.mem_cons_of_mem _ hx)) hk).2
      omega
    refine ⟨fun x hx => ?_, List.pairwise_append.2 ⟨hp.1, List.pairwise_cons.2 ⟨fun b hb2 k hk hk2 => ?_, hp2.2⟩, fun a ha b hb2 k hk hk2 => ?_⟩⟩
    · rcases List.mem_append.1 hx with hx | hx
      · exact World.ownsRow.kept (h.1 x (List.mem_append_left _ hx)) hg (key x (List.mem_append_left _ hx))
      · rcases List.mem_cons.1 hx with rfl | hx
        · exact ho
        · exact World.ownsRow.kept (h.1 x (List.mem_append_right _ (List.mem_cons_of_mem _ hx))) hg (key x (List.mem_append_right _ hx))
    · exact hlt b (List.mem_append_right _ hb2) k hk2 hk
    · rcases List.mem_cons.1 hb2 with rfl | hb2
      · exact hlt a (List.mem_append_left _ ha) k hk hk2
      · exact hp.2.2 a ha b (List.mem_cons_of_mem _ hb2) k hk hk2

theorem layRows_mid (a : List LayA) (z : LayA) (b : List LayA) : layRows (a ++ z :: b) = layRows a ++ layRow z :: layRows b := by simp [layRows]
theorem LaysOwn.midRow {w : World} {base : Nat} {A : Option Addr} {c : Nat} {a b : List LayA} {z : LayA} (h : LaysOwn w base A c (a ++ z :: b)) : w.ownsRow base 37 2 (.slice z.2.1 z.1.2.length z.2.2) z.1.2.length (entCells z.1.2) := h.row (by simp)

/-- The writes of one layer have become another row; then the layer's cell is set to it. -/
theorem LaysOwn.replace {w w' : World} {base g c : Nat} {a : List LayA} {z : LayA} {b : List LayA} {es : List Ent} {A2 : Option Addr} {c2 : Nat} (h : LaysOwn w base (some ⟨g, 0, none⟩) c (a ++ z :: b)) (hg : w.grownBy w' (Value.slice z.2.1 z.1.2.length z.2.2).ownBlock)
    (ho : w'.ownsRow base 37 2 (.slice A2 es.length c2) es.length (entCells es)) (hb : (Value.slice A2 es.length c2).ownBlock = (Value.slice z.2.1 z.1.2.length z.2.2).ownBlock ∨ ∀ k, (Value.slice A2 es.length c2).ownBlock = some k → w.heap.size ≤ k) :
    LaysOwn (w'.setCell ⟨g, a.length * 2 + 1, none⟩ (.slice A2 es.length c2)) base (some ⟨g, 0, none⟩) c (a ++ ((z.1.1, es), (A2, c2)) :: b) ∧ w'.ownsRow base 28 2 (.slice (some ⟨g, 0, none⟩) (a ++ z :: b).length c) (a ++ z :: b).length (layCells (a ++ z :: b)) := by
  have hout := own_kept_type h.outer h.midRow layTy_ne hg
  have hin : HeldL w' base (layRows (a ++ ((z.1.1, es), (A2, c2)) :: b)) := by
    have h1 := h.inner
    rw [layRows_mid] at h1 ⊢
    exact HeldL.set2 h1 hg ho hb
  have hset := own_set_cell hout (j := a.length * 2 + 1) rfl (by simp; omega) (.slice A2 es.length c2)
  rw [layCells_set1 _ _ _ _ _ _ _ rfl] at hset
  have e3 : (a ++ ((z.1.1, es), (A2, c2)) :: b).length = (a ++ z :: b).length := by simp
  exact ⟨LaysOwn.mk (n := (a ++ z :: b).length) e3.symm hset.1 (inner_kept hin hout hset.2), hout⟩

/-- A value of an entry of one layer is set. -/
theorem entCells_setv (es : List Ent) (i : Nat) (hi : i < es.length) (v : Int) : (entCells es).set (i * 2 + 1) (.int .i64 v) = entCells (es.set i (es[i].1, v)) := by
  induction es generalizing i with
  | nil => simp at hi
  | cons e es ih =>
    cases i with
    | zero => simp [entCells_cons]
    | succ i =>
      have := ih i (by simpa using hi)
      rw [show (i + 1) * 2 + 1 = (i * 2 + 1) + 1 + 1 by omega, entCells_cons, List.set_cons_succ, List.set_cons_succ, this]
      rfl
theorem LaysOwn.setVal {w : World} {base c g2 : Nat} {A : Option Addr} {a : List LayA} {z : LayA} {b : List LayA} {i : Nat} {key v : Int} (h : LaysOwn w base A c (a ++ z :: b)) (hA : z.2.1 = some ⟨g2, 0, none⟩) (hi : i < z.1.2.length) (hk : z.1.2[i].1 = key) :
    LaysOwn (w.setCell ⟨g2, i * 2 + 1, none⟩ (.int .i64 v)) base A c (a ++ ((z.1.1, z.1.2.set i (key, v)), z.2) :: b) := by
  have hset := own_set_cell h.midRow hA (j := i * 2 + 1) (by omega) (.int .i64 v)
  rw [entCells_setv _ _ hi, hk] at hset
  have hin : HeldL (w.setCell ⟨g2, i * 2 + 1, none⟩ (.int .i64 v)) base (layRows (a ++ ((z.1.1, z.1.2.set i (key, v)), z.2) :: b)) := by
    have h1 := h.inner
    rw [layRows_mid] at h1 ⊢
    refine HeldL.set h1 hset.2 ?_ (by simp [rowBlock, rowVal, layRow])
    show World.ownsRow _ base 37 2 (.slice z.2.1 (z.1.2.set i (key, v)).length z.2.2) (z.1.2.set i (key, v)).length _
    rw [List.length_set]
    exact hset.1
  have hout := own_kept_type h.outer h.midRow layTy_ne hset.2
  have e : layCells (a ++ ((z.1.1, z.1.2.set i (key, v)), z.2) :: b) = layCells (a ++ z :: b) := by
    rw [layCells_append, layCells_append, layCells_cons, layCells_cons]; simp
  exact LaysOwn.mk (n := (a ++ z :: b).length) (by simp) (by rw [e]; exact hout) hin

set_option maxRecDepth 100000 in
set_option maxHeartbeats 6400000 in
theorem LayerWrite_any (A : Option Addr) (c : Nat) (zs : List LayA) (n key value : Int) (w : World) (hz : LaysAt w A zs) (hn : zs.length < 4294967296) (hl : ∀ z ∈ zs, z.1.2.length < 4294967296) :
    Calls Try.prog 28 #[.slice A zs.length c, .int .i64 n, .int .i64 key, .int .i64 value] w (NewLays2 (layWriteF (laysT zs) n key value) (layWriteB (laysT zs) n key value) w) := by
  have HZ := Lib.hid hz
  have HL := Lib.hid hl
  have HL' := Lib.hid (show ∀ z ∈ zs, z.1.2.length ≤ 4294967296 from fun z h => Nat.le_of_lt (hl z h))
  have HN := Lib.hid (laysT_len zs)
  clear hz hl
  cases h1 : laysOk (laysT zs)
  case false =>
    have H := Lib.hid (layWriteF_no (n := n) (k := key) (v := value) h1)
    go_enter Try.func28, Try.ntmps28
    go_wp2_with fail
    refine (LayersValid_any _ _ _ _ HZ.out (by omega) HL'.out).mono ?_
    rintro e w1 ⟨rfl, hb1⟩
    rw [h1]
    go_wp2
    go_ret2
    exact ⟨none, 0, [], by rw [H.out.2]; rfl, by rw [H.out.1]; rfl, laysOwn_nil _ _, hb1⟩
  case true =>
    have hlen : zs.length ≤ 20 := by have := (laysOk_iff.1 h1).2; rw [HN.out] at this; exact this
    have HFINE := Lib.hid (laysOk_iff.1 h1).1
    have HE := Lib.hid (writeOk_eq (laysT zs) n key value)
    rw [HN.out] at HE
    cases h2 : inB n 0 ((zs.length : Int) - 1) <;> cases h3 : inB key 0 31 <;> cases h4 : inB value 0 1000000
    case true.true.true =>
      have H := Lib.hid (layWriteF_new h1 (by rw [HE.out, h2, h3, h4]; rfl))
      have b2 := inB_true.1 h2
      have b3 := inB_true.1 h3
      obtain ⟨k, rfl⟩ : ∃ k : Nat, n = (k : Int) := ⟨n.toNat, by omega⟩
      have hlt : k < zs.length := by omega
      have hel : entsOk 0 (-1) zs[k].1.2 = true := by
        have h := layOkB_iff.1 (HFINE.out k (by simpa using hlt))
        rw [laysT_at zs k hlt] at h
        exact h.2
      have HEL := Lib.hid hel
      have HSP := Lib.hid (laysT_split zs k hlt)
      have hk0 : (0 : Int) ≤ (k : Int) := by omega
      have hk1 : (k : Int) < (zs.length : Int) := by omega
      have htk : (zs.take k).length = k := by rw [List.length_take]; omega
      have HTK := Lib.hid htk
      clear htk hel
      generalize zs[k].1 = z at *
      generalize zs.take k = pre at *
      generalize zs.drop (k + 1) = post at *
      go_enter Try.func28, Try.ntmps28
      go_wp2_with fail
      refine (LayersValid_any _ _ _ _ HZ.out (by omega) HL'.out).mono ?_
      rintro e w1 ⟨rfl, hb1⟩
      rw [h1]
      go_wp2_with fail
      refine (cloneLayers_any _ _ _ _ (HZ.out.below hb1) hn HL.out).mono ?_
      rintro e w2 ⟨A2, c2, ds, rfl, hds, hown, hb2⟩
      have HB2 := Lib.hid (hb1.trans (hb2.mono hb1.size))
      have hkd : k < ds.length := by have := congrArg List.length hds; simp at this; omega
      have hdz0 := laysT_split ds k hkd
      have hdsp0 : ds = ds.take k ++ ds[k] :: ds.drop (k + 1) := by rw [← List.drop_eq_getElem_cons hkd, List.take_append_drop]
      obtain ⟨y, hy⟩ : ∃ y, y = ds[k] := ⟨_, rfl⟩
      rw [← hy] at hdz0 hdsp0
      have hdtk : (ds.take k).length = k := by rw [List.length_take]; omega
      have hsplit : y.1 = z ∧ laysT (ds.take k) = laysT pre ∧ laysT (ds.drop (k + 1)) = laysT post := by
        have e1 := hds
        rw [hdz0, HSP.out] at e1
        have h := List.append_inj e1 (by rw [laysT_len, laysT_len, hdtk, HTK.out])
        injection h.2 with h3 h4
        exact ⟨h3, h.1, h4⟩
      have HDT := Lib.hid hdtk
      have hkk : (k : Int) < (ds.length : Int) := by omega
      have hA2 : ∃ g, A2 = some ⟨g, 0, none⟩ ∧ w.heap.size ≤ g := by
        rcases own_elim hown.outer with h0 | ⟨g, cur, h, _, hbg, _⟩
        · omega
        · exact ⟨g, h, Nat.le_trans hb1.size hbg⟩
      obtain ⟨g, rfl, hbg⟩ := hA2
      have hcell : ∀ W ls, LaysOwn W w1.heap.size (some ⟨g, 0, none⟩) c2 (ds.take k ++ ls :: ds.drop (k + 1)) → W.cell? ⟨g, k * 2 + 1, none⟩ = some (.slice ls.2.1 ls.1.2.length ls.2.2) ∧ W.frozen? ⟨g, k * 2 + 1, none⟩ = false := fun W ls hW => by
        obtain ⟨b9, o9, hA9, _, hc9⟩ := hW.at_.at_ (k := k) (by simp; omega)
        injection hA9 with hA9
        injection hA9 with hg9 ho9
        subst hg9
        subst ho9
        have h3 := (hc9 k (by simp; omega)).2
        rw [List.getElem_append_right (by omega)] at h3
        simp only [hdtk, Nat.sub_self, List.getElem_cons_zero, Nat.zero_add] at h3
        refine ⟨h3, ?_⟩
        rcases own_elim hW.outer with h0 | ⟨g9, cur, h, hr, _⟩
        · simp at h0
        · injection h with h
          injection h with h
          subst h
          exact hr.frozen _
      have HCELL := Lib.hid hcell
      have hown2 : LaysOwn w2 w1.heap.size (some ⟨g, 0, none⟩) c2 (ds.take k ++ y :: ds.drop (k + 1)) := by rw [← hdsp0]; exact hown
      have hq2 := (hcell w2 y hown2).1
      have HY := Lib.hid hsplit
      have HOWN2 := Lib.hid hown2
      have HQ2 := Lib.hid (hown2.at_.2 y (by simp)).2
      have HS1 := Lib.hid hb1.size
      have HLN := Lib.hid (show ∀ ls, (ds.take k ++ ls :: ds.drop (k + 1)).length = ds.length from fun ls => by rw [List.length_append, List.length_cons, hdtk, List.length_drop]; omega)
      have HFIN := Lib.hid (show ∀ es' p, es' = putF key value false z.2 → laysT (ds.take k ++ (((y.1.1, es'), p) : LayA) :: ds.drop (k + 1)) = layPut (laysT zs) k key value from fun es' p he => by
        have hpl : (laysT pre).length = k := by rw [laysT_len, HTK.out]
        have h5 := layPut_split (laysT pre) z (laysT post) key value
        rw [hpl] at h5
        rw [HSP.out, h5, ← hsplit.2.1, ← hsplit.2.2, ← hsplit.1, he, ← hsplit.1]
        simp only [laysT, List.map_append, List.map_cons])
      have hey : entsOk 0 (-1) y.1.2 = true := by rw [hsplit.1]; exact HEL.out
      have HEY := Lib.hid hey
      have hel32 := entsOk_length hey
      have hwk : w1.heap.size ≤ w2.heap.size := hb2.size
      clear hds hown hb2 hdz0 hdsp0 hy hdtk hsplit hcell hown2 hey
      generalize ds.take k = pa at *
      generalize ds.drop (k + 1) = pb at *
      go_wp2_with (first | (go_at_call 32; refine (in_any _ _ _ _).mono ?_; rintro e w' ⟨rfl, rfl⟩) | (go_at_call 46; refine (isKey_any _ _).mono ?_; rintro e w' ⟨rfl, rfl⟩) | (go_at_call 50; refine (isValue_any _ _).mono ?_; rintro e w' ⟨rfl, rfl⟩))
      refine (BinSearch_any _ _ y.1.2 key _ HQ2.out HEY.out b3).mono ?_
      rintro e w3 ⟨i, b, rfl, hsp, hb3⟩
      have hput := spot_put (value := value) hsp HEY.out
      have hii := hsp.1
      have HB3 := Lib.hid (HB2.out.trans (hb3.mono HB2.out.size))
      have HOWN3 := Lib.hid (HOWN2.out.below hb3)
      have hq3 := (HCELL.out w3 y HOWN3.out).1
      have hw13 : w1.heap.size ≤ w3.heap.size := Nat.le_trans hwk hb3.size
      have hi0 : (0 : Int) ≤ (i : Int) := by omega
      cases b with
      | true =>
        have hib : i < y.1.2.length := (hsp.2.2.2.1 rfl).1
        have hik : y.1.2[i].1 = key := (hsp.2.2.2.1 rfl).2
        have hyA : ∃ g2, y.2.1 = some ⟨g2, 0, none⟩ ∧ w1.heap.size ≤ g2 ∧ (∃ v, w3.cell? ⟨g2, i * 2 + 1, none⟩ = some v) ∧ w3.frozen? ⟨g2, i * 2 + 1, none⟩ = false := by
          rcases own_elim HOWN3.out.midRow with h0 | ⟨g2, cur, h, hr, hbg2, hnc, _, hcl, _⟩
          · omega
          · exact ⟨g2, h, hbg2, hr.some_ (by omega), hr.frozen _⟩
        obtain ⟨g2, hyA, hbg2, ⟨vx, hold⟩, hfz⟩ := hyA
        have hset := HOWN3.out.setVal (v := value) hyA hib hik
        have HSET := Lib.hid hset
        have HBS := Lib.hid (HB3.out.setCell (p := ⟨g2, i * 2 + 1, none⟩) (Nat.le_trans HS1.out hbg2) (.int .i64 value))
        have HPUT := Lib.hid (show y.1.2.set i (key, value) = putF key value false z.2 by rw [← HY.out.1, hput]; rfl)
        have hib2 : (i : Int) < (y.1.2.length : Int) := by omega
        rw [hyA] at hq3
        clear hset hput hsp hb3 hik
        go_wp2
        go_ret2
        exact ⟨some ⟨g, 0, none⟩, c2, _, by rw [H.out.2, HLN.out]; rfl, by rw [HFIN.out _ _ HPUT.out, H.out.1, Int.toNat_natCast], HSET.out.weaken HS1.out, HBS.out⟩
      | false =>
        have hbx := (Below.refl w3.heap.size w3).alloc (Nat.le_refl _) (.cells #[.int .i64 key, .int .i64 value] 37)
        have hv : RowIs (w3.alloc (.cells #[.int .i64 key, .int .i64 value] 37)) w3.heap.size 37 [.int .i64 key, .int .i64 value] := RowIs.alloc (w := w3) #[.int .i64 key, .int .i64 value] 37
        have hown4 := HOWN3.out.below hbx
        have hlt4 := HOWN3.out.laysLt
        have HPUT := Lib.hid (show y.1.2.take i ++ (key, value) :: y.1.2.drop i = putF key value false z.2 by rw [← HY.out.1, hput]; rfl)
        have HLEN := Lib.hid (show y.1.2.length + 1 = (y.1.2.take i ++ (key, value) :: y.1.2.drop i).length by simp; omega)
        have HBX := Lib.hid (HB3.out.trans (hbx.mono HB3.out.size))
        have HINS := Lib.hid (Insert_any w1.heap.size y.2.1 y.2.2 y.1.2 i key value w3.heap.size 1 _ hown4.midRow hel32 hii hv (Nat.le_trans hw13 hbx.size) (fun kk hk e => by
          have := hlt4 (layRow y) (by simp [layRows]) kk hk
          omega))
        have HOWN4 := Lib.hid hown4
        clear hput hsp hb3 hbx hv hown4 hlt4
        go_wp2_with fail
        refine HINS.out.mono ?_
        rintro e w5 ⟨A5, c5, rfl, ho5, hg5, hw5⟩
        rw [HLEN.out] at ho5 hw5
        have hrep := HOWN4.out.replace hg5 ho5 hw5
        rw [HDT.out] at hrep
        have hq5 : (∃ v, w5.cell? ⟨g, k * 2 + 1, none⟩ = some v) ∧ w5.frozen? ⟨g, k * 2 + 1, none⟩ = false := by
          rcases own_elim hrep.2 with h0 | ⟨g9, cur, h, hr, _, hnc, _, hcl, _⟩
          · simp at h0
          · injection h with h
            injection h with h
            subst h
            have hh := HLN.out y
            exact ⟨hr.some_ (by omega), hr.frozen _⟩
        obtain ⟨⟨vx, hold⟩, hfz⟩ := hq5
        have HB5 := Lib.hid (Below.setCell (HBX.out.grown hg5 HBX.out.size (fun kk hk => Nat.le_trans HS1.out (HOWN4.out.midRow.lt kk hk).1)) (p := ⟨g, k * 2 + 1, none⟩) hbg (.slice A5 (y.1.2.length + 1) c5))
        have hrep1 := hrep.1
        rw [← HLEN.out] at hrep1
        have HREP := Lib.hid hrep1
        clear hrep hrep1 ho5 hg5 hw5
        go_wp2
        go_ret2
        exact ⟨some ⟨g, 0, none⟩, c2, _, by rw [H.out.2, HLN.out]; rfl, by rw [HFIN.out _ _ HPUT.out, H.out.1, Int.toNat_natCast], HREP.out.weaken HS1.out, HB5.out⟩
    all_goals
      have H := Lib.hid (layWriteF_old (n := n) (k := key) (v := value) h1 (by rw [HE.out, h2, h3, h4]; rfl))
      go_enter Try.func28, Try.ntmps28
      go_wp2_with fail
      refine (LayersValid_any _ _ _ _ HZ.out (by omega) HL'.out).mono ?_
      rintro e w1 ⟨rfl, hb1⟩
      rw [h1]
      go_wp2_with fail
      refine (cloneLayers_any _ _ _ _ (HZ.out.below hb1) hn HL.out).mono ?_
      rintro e w2 ⟨A2, c2, ds, rfl, hds, hown, hb2⟩
      go_wp2_with (first | (go_at_call 32; refine (in_any _ _ _ _).mono ?_; rintro e w' ⟨rfl, rfl⟩) | (go_at_call 46; refine (isKey_any _ _).mono ?_; rintro e w' ⟨rfl, rfl⟩) | (go_at_call 50; refine (isValue_any _ _).mono ?_; rintro e w' ⟨rfl, rfl⟩))
      go_ret2
      exact ⟨A2, c2, ds, by rw [H.out.2]; rfl, by rw [H.out.1, hds], hown.weaken hb1.size, hb1.trans (hb2.mono hb1.size)⟩

end Go.Proofs.Ytehlgfgkobblbaa
