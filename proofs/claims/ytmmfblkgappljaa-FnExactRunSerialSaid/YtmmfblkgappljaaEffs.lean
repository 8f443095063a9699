/- Contracts over lists of effects: szEffectS, toEffectS, eqEffectS, DoneCount of both packages. -/
import Derived.Test.YtmmfblkgappljaaNest
import Derived.Test.YtmmfblkgappljaaEff3
import Derived.StillTailTactics
namespace Go.Proofs.Ytmmfblkgappljaa
open Go.ChangeShapes Go.WideShapes Go.ChangeAt Go.RowKit Go.Deep

abbrev effsT (zs : List EffA) : List EffT := zs.map (·.1)

def szE (l : Int) (x : EffT) : Int := if l < x.2.1.length then -1 else if l - x.2.1.length < x.2.2.length then -1 else l - x.2.1.length - x.2.2.length
def szF : Int → List EffT → Int
  | l, [] => l
  | l, x :: xs => if szE l x < 0 then -1 else szF (szE l x) xs
def szS (l : Int) (xs : List EffT) : Int := if l < xs.length then -1 else szF (l - xs.length) xs
theorem effs_bd {zs : List EffA} {xs : List EffT} {N : Nat} (h : effsT zs = xs) (hx : xs.length ≤ N) (hy : ∀ x ∈ xs, (x.2.1.length : Int) + x.2.2.length ≤ N) : zs.length ≤ N ∧ ∀ z ∈ zs, z.1.2.1.length ≤ N ∧ z.1.2.2.length ≤ N := by
  subst h
  refine ⟨by simpa using hx, fun z hz => ?_⟩
  have := hy z.1 (List.mem_map_of_mem (f := (·.1)) hz)
  omega
theorem le16 {zs : List EffA} (h : ∀ z ∈ zs, z.1.2.1.length ≤ 16777216 ∧ z.1.2.2.length ≤ 16777216) : ∀ z ∈ zs, z.1.2.1.length ≤ 4294967296 ∧ z.1.2.2.length ≤ 4294967296 :=
  fun z hz => by have := h z hz; omega
theorem szE_cases (l : Int) (x : EffT) : szE l x = -1 ∨ (szE l x = l - x.2.1.length - x.2.2.length ∧ 0 ≤ szE l x ∧ (x.2.1.length : Int) + x.2.2.length ≤ l) := by
  unfold szE
  split
  · exact .inl rfl
  · split
    · exact .inl rfl
    · exact .inr ⟨rfl, by omega, by omega⟩
theorem szF_cases : ∀ (xs : List EffT) (l : Int), 0 ≤ l → szF l xs = -1 ∨ (0 ≤ szF l xs ∧ szF l xs ≤ l ∧ ∀ x ∈ xs, (x.2.1.length : Int) + x.2.2.length ≤ l) := by
  intro xs
  induction xs with
  | nil => intro l h; exact .inr ⟨h, Int.le_refl _, by simp⟩
  | cons x xs ih =>
    intro l h
    rw [szF]
    rcases szE_cases l x with h1 | ⟨h1, h2, h3⟩
    · rw [h1]; exact .inl (by simp)
    · rw [if_neg (by omega)]
      rcases ih _ h2 with h4 | ⟨h4, h5, h6⟩
      · exact .inl h4
      · refine .inr ⟨h4, by omega, fun y hy => ?_⟩
        rcases List.mem_cons.1 hy with rfl | hy
        · exact h3
        · have := h6 y hy; omega
theorem szS_cases (xs : List EffT) (l : Int) (_h : 0 ≤ l) : szS l xs = -1 ∨ (0 ≤ szS l xs ∧ (xs.length : Int) ≤ l ∧ ∀ x ∈ xs, (x.2.1.length : Int) + x.2.2.length ≤ l) := by
  unfold szS
  by_cases h1 : l < xs.length
  · rw [if_pos h1]; exact .inl rfl
  · rw [if_neg h1]
    rcases szF_cases xs (l - xs.length) (by omega) with h2 | ⟨h2, h3, h4⟩
    · exact .inl h2
    · exact .inr ⟨h2, by omega, fun x hx => by have := h4 x hx; omega⟩
theorem szF_drop (xs : List EffT) (l : Int) (k : Nat) (hk : k < xs.length) : szF l (xs.drop k) = if szE l xs[k] < 0 then -1 else szF (szE l xs[k]) (xs.drop (k + 1)) := by
  rw [List.drop_eq_getElem_cons hk, szF]
theorem effsT_at (zs : List EffA) (k : Nat) (hk : k < zs.length) (hk' : k < (effsT zs).length) : (effsT zs)[k] = zs[k].1 := by simp [effsT]

theorem szEffect_all (x : EffT) (A B : Option Addr) (c d : Nat) (left : Int) (w : World) (hn : x.2.1.length ≤ maxLen) (hm : x.2.2.length ≤ maxLen) (h0 : 0 ≤ left) (h2 : left ≤ 4294967296) :
    Calls Try.prog 23 #[.agg #[.bool x.1, .slice A x.2.1.length c, .slice B x.2.2.length d], .int .i64 left] w fun e w' => e = .returned (.int .i64 (szE left x)) ∧ Below w.heap.size w w' := by
  unfold maxLen at *
  unfold szE
  split
  · exact szEffect_big _ _ _ _ _ _ _ _ _ (by omega) h0 (by omega)
  · split
    · exact szEffect_big2 _ _ _ _ _ _ _ _ _ (by omega) (by omega) (by omega) h2
    · exact szEffect_fits _ _ _ _ _ _ _ _ _ (by omega) h2

set_option maxRecDepth 100000 in
set_option maxHeartbeats 1600000 in
theorem szEffectS_any (A : Option Addr) (c : Nat) (zs : List EffA) (left : Int) (w : World) (hz : EffsAt w A zs) (hn : zs.length ≤ maxLen) (h0 : 0 ≤ left) (h1 : left ≤ 4294967296) :
    Calls Try.prog 13 #[.slice A zs.length c, .int .i64 left] w fun e w' => e = .returned (.int .i64 (szS left (effsT zs))) ∧ Below w.heap.size w w' := by
  have hn' : zs.length ≤ 9223372036854775807 := by unfold maxLen at hn; omega
  have HZ := Lib.hid hz
  clear hz
  by_cases hbig : left < (zs.length : Int)
  · have H := Lib.hid (show szS left (effsT zs) = -1 by unfold szS; rw [if_pos (by simpa using hbig)])
    have hneg : left - (zs.length : Int) < 0 := by omega
    go_enter Try.func13, Try.ntmps13
    go_wp2
    go_ret
    exact ⟨ret_int H.out.symm, Below.refl _ _⟩
  · have hneg : ¬ left - (zs.length : Int) < 0 := by omega
    have H := Lib.hid (show szS left (effsT zs) = szF (left - zs.length) (effsT zs) by unfold szS; rw [if_neg (by simpa using hbig)]; simp)
    have hl0 : 0 ≤ left - (zs.length : Int) := by omega
    have hl1 : left - (zs.length : Int) ≤ 4294967296 := by omega
    have HS := Lib.hid (show szF (left - zs.length) ((effsT zs).drop 0) = szS left (effsT zs) by rw [List.drop_zero]; exact H.out.symm)
    clear H
    go_enter Try.func13, Try.ntmps13
    go_wp2
    obtain ⟨R, hR0⟩ : ∃ R, R = szS left (effsT zs) := ⟨_, rfl⟩
    have HR0 := Lib.hid hR0
    rw [← hR0] at HS
    clear hR0
    go_loopw [1, 5] (fun l i wr => ∃ (k : Nat) (m : Int), k ≤ zs.length ∧ i = .int .i64 k ∧ l = .int .i64 m ∧ 0 ≤ m ∧ m ≤ 4294967296 ∧ szF m ((effsT zs).drop k) = R ∧ Below w.heap.size w wr) (fun _ i _ => zs.length - (intOf i).toNat)
    case atStart => exact ⟨0, _, Nat.zero_le _, rfl, rfl, hl0, hl1, HS.out, Below.refl _ _⟩
    case round =>
      obtain ⟨k, m, hk, rfl, rfl, hm0, hm1, hR, hB⟩ := hrel
      have HR := Lib.hid hR
      clear hR
      by_cases hlt : k < zs.length
      · obtain ⟨b, o, rfl, hb, hc⟩ := (HZ.out.below hB).at_ hlt
        obtain ⟨c0, c1, c2⟩ := hc k hlt
        clear hc
        have hok := HZ.out.2 zs[k] (List.getElem_mem hlt)
        have hx1 := hok.1
        have hx2 := hok.2.1
        have HD := Lib.hid (szF_drop (effsT zs) m k (by simpa using hlt))
        have HE := Lib.hid (effsT_at zs k hlt (by simpa using hlt))
        clear hok
        go_wp2_with fail
        refine (szEffect_all zs[k].1 _ _ _ _ _ _ hx1 hx2 hm0 hm1).mono ?_
        rintro e w2 ⟨rfl, hb2⟩
        have hB2 := hB.trans (hb2.mono hB.size)
        have HC := Lib.hid (szE_cases m zs[k].1)
        have HR2 := Lib.hid (show R = if szE m zs[k].1 < 0 then -1 else szF (szE m zs[k].1) ((effsT zs).drop (k + 1)) by rw [← HR.out, HD.out, HE.out])
        generalize szE m zs[k].1 = m2 at *
        by_cases hm2 : m2 < 0
        · have H3 := Lib.hid (show R = -1 by rw [HR2.out, if_pos hm2])
          go_wp2
          go_ret
          exact ⟨ret_int (H3.out.symm.trans HR0.out), hB2⟩
        · have H3 := Lib.hid (show szF m2 ((effsT zs).drop (k + 1)) = R by rw [HR2.out, if_neg hm2])
          have hm3 : 0 ≤ m2 ∧ m2 ≤ 4294967296 := by rcases HC.out with h | ⟨h, h4, h5⟩ <;> omega
          go_wp2
          go_roundw
          case rel => exact ⟨k + 1, m2, by omega, by go_num, rfl, hm3.1, hm3.2, H3.out, hB2⟩
          case measure => simp [intOf]; omega
      · obtain rfl : k = zs.length := by omega
        have H3 := Lib.hid (show R = m by rw [← HR.out, List.drop_of_length_le (by simp)]; rfl)
        go_wp2
        go_ret
        exact ⟨ret_int (H3.out.symm.trans HR0.out), hB⟩

def EffOwn (w : World) (base : Nat) (z : EffA) : Prop :=
  w.ownsRow base 86 2 (.slice z.2.1.1 z.1.2.1.length z.2.1.2) z.1.2.1.length (entCells z.1.2.1) ∧ w.ownsRow base 86 2 (.slice z.2.2.1 z.1.2.2.length z.2.2.2) z.1.2.2.length (entCells z.1.2.2)
theorem EffOwn.below {w w' : World} {base : Nat} {z : EffA} (h : EffOwn w base z) (hb : Below w.heap.size w w') : EffOwn w' base z := ⟨own_below h.1 hb, own_below h.2 hb⟩
theorem EffOwn.sc {w : World} {base : Nat} {z : EffA} (h : EffOwn w base z) {p : Addr} (hp : p.block < base) (u : Value) : EffOwn (w.setCell p u) base z := ⟨own_sc h.1 hp u, own_sc h.2 hp u⟩
theorem EffOwn.ok {w : World} {base : Nat} {z : EffA} (h : EffOwn w base z) (h1 : z.1.2.1.length ≤ maxLen) (h2 : z.1.2.2.length ≤ maxLen) : EffOk w z := ⟨h1, h2, ents_of_own h.1, ents_of_own h.2⟩

/-- Zero values of effects. -/
def zeff : List Value := [.bool false, .slice none 0 0, .slice none 0 0]
def zeffs (n : Nat) : List Value := (List.replicate n zeff).flatten
theorem zeffs_succ (n : Nat) : zeffs (n + 1) = .bool false :: .slice none 0 0 :: .slice none 0 0 :: zeffs n := by simp [zeffs, zeff, List.replicate_succ]
theorem set_three (a r : List Value) (x y z x' y' z' : Value) (k : Nat) (hk : a.length = k) : (((a ++ x :: y :: z :: r).set k x').set (k + 1) y').set (k + 2) z' = a ++ x' :: y' :: z' :: r := by
  subst hk
  induction a with
  | nil => simp
  | cons b a _ => simp

theorem info_Effect : (Try.prog.info? 43).map (fun i => (i.zero, i.size, i.bytes)) = some (some (.agg #[.bool false, .slice none 0 0, .slice none 0 0]), 3, 56) := by kernel_rfl
theorem made_effs (n : Nat) : (madeCells #[.bool false, .slice none 0 0, .slice none 0 0] (n * 3)).toList = zeffs n := by
  have key : ∀ n : Nat, ∀ i : Nat, (zeffs n)[i]? = if i < n * 3 then (if i % 3 = 0 then some (Value.bool false) else some (.slice none 0 0)) else none := by
    intro n
    induction n with
    | zero => intro i; simp [zeffs]
    | succ n ih =>
      intro i
      rw [zeffs_succ]
      match i with
      | 0 => simp
      | 1 => simp; omega
      | 2 => simp; omega
      | i + 3 =>
        simp only [List.getElem?_cons_succ]
        rw [ih i]
        have h1 : (i + 3) % 3 = i % 3 := by omega
        rw [h1]
        by_cases h : i < n * 3
        · rw [if_pos h, if_pos (show i + 3 < (n + 1) * 3 by omega)]
        · rw [if_neg h, if_neg (show ¬ i + 3 < (n + 1) * 3 by omega)]
  apply List.ext_getElem?
  intro i
  rw [key n i]
  by_cases h : i < n * 3
  · rw [if_pos h, List.getElem?_eq_getElem (by simpa [madeCells] using h)]
    have : i % 3 = 0 ∨ i % 3 = 1 ∨ i % 3 = 2 := by omega
    rcases this with h1 | h1 | h1 <;> simp [madeCells, h1]
  · rw [if_neg h, List.getElem?_eq_none (by simp [madeCells]; omega)]

theorem make_Effect (n : Nat) (hn : n ≤ 4294967296) (w : World) :
    (Instr.makeSlice 25 (.int .i64 (n : Int)) (.int .i64 (n : Int))).run Try.prog w = .ok (.slice (some ⟨w.heap.size, 0, none⟩) n n) (w.alloc (.cells (madeCells #[.bool false, .slice none 0 0, .slice none 0 0] (n * 3)) 43)) := by
  obtain ⟨i, hi, hz0, hz1, hz2⟩ := info_parts info_Effect
  have h := run_make w 25 43 i _ Try.underlying25 hi hz0 .i64 .i64 (n : Int) (n : Int) (by omega) (by omega) (by rw [hz2]; omega) (by omega)
  rw [h]
  simp [hz1, Value.cells]

/-- A new list of effects that reads as xs. -/
def NewEffs (xs : List EffT) (w : World) (e : Ending) (w' : World) : Prop :=
  ∃ A c zs, e = .returned (.slice A zs.length c) ∧ effsT zs = xs ∧ EffsAt w' A zs ∧ Below w.heap.size w w'

set_option maxRecDepth 100000 in
set_option maxHeartbeats 3200000 in
theorem toEffectS_any (A : Option Addr) (c : Nat) (zs : List EffA) (w : World) (hz : EffsAt w A zs) (hn : zs.length ≤ 4294967296) (hl : ∀ z ∈ zs, z.1.2.1.length ≤ 4294967296 ∧ z.1.2.2.length ≤ 4294967296) :
    Calls Try.prog 15 #[.slice A zs.length c] w (NewEffs (effsT zs) w) := by
  have hmk := make_Effect zs.length hn
  have HZ := Lib.hid hz
  have HL := Lib.hid hl
  clear hz hl
  have HST := Lib.hid (show RowIs (w.alloc (.cells (madeCells #[.bool false, .slice none 0 0, .slice none 0 0] (zs.length * 3)) 43)) w.heap.size 43 (effCells [] ++ zeffs (zs.length - 0)) by
    have := RowIs.alloc (w := w) (madeCells #[.bool false, .slice none 0 0, .slice none 0 0] (zs.length * 3)) 43
    rwa [made_effs] at this)
  go_enter Try.func15, Try.ntmps15
  go_wp2
  go_loopw [4] (fun i wr => ∃ (k : Nat) (ds : List EffA), k ≤ zs.length ∧ i = .int .i64 k ∧ effsT ds = (effsT zs).take k ∧ (∀ z ∈ ds, EffOwn wr (w.heap.size + 1) z) ∧ RowIs wr w.heap.size 43 (effCells ds ++ zeffs (zs.length - k)) ∧ Below w.heap.size w wr) (fun i _ => zs.length - (intOf i).toNat)
  case atStart => exact ⟨0, [], Nat.zero_le _, rfl, rfl, by simp, HST.out, (Below.refl _ _).alloc (Nat.le_refl _) _⟩
  case round =>
    obtain ⟨k, ds, hk, rfl, hds, hown, hrow, hbel⟩ := hrel
    have hdl : ds.length = k := by
      have h := congrArg List.length hds
      simp at h
      omega
    by_cases hlt : k < zs.length
    · obtain ⟨b, o, rfl, hb, hc⟩ := (HZ.out.below hbel).at_ hlt
      obtain ⟨c0, c1, c2⟩ := hc k hlt
      clear hc
      have hok := (HZ.out.2 zs[k] (List.getElem_mem hlt)).below hbel
      have hll := HL.out zs[k] (List.getElem_mem hlt)
      have hsz := hrow.lt
      have HDS := Lib.hid hds
      have HDL := Lib.hid hdl
      have HOWN := Lib.hid hown
      have HTK := Lib.hid (show (effsT zs).take (k + 1) = (effsT zs).take k ++ [zs[k].1] by rw [List.take_succ_eq_append_getElem (by simpa using hlt)]; simp)
      have hk0 : (0 : Int) ≤ (k : Int) := by omega
      have hk1 : (k : Int) < (zs.length : Int) := by omega
      clear hds hdl hown
      generalize zs[k] = z at *
      go_wp2_with fail
      refine (toEffect_any z.1 _ _ _ _ _ hok.2.2.1 hok.2.2.2 hll.1 hll.2).mono ?_
      rintro e w2 ⟨A1, c1', B1, d1', rfl, hh, hb2⟩
      have hrow2 := hrow.below hb2 hsz
      have hbel2 := hbel.trans (hb2.mono hbel.size)
      have hsz2 := hrow2.lt
      rw [show zs.length - k = (zs.length - (k + 1)) + 1 by omega, zeffs_succ] at hrow2
      have hlen : (effCells ds).length = k * 3 := by rw [effCells_length, HDL.out]
      obtain ⟨v0, hold0⟩ := hrow2.some_ (k := k * 3) (by simp [hlen])
      obtain ⟨v1, hold1⟩ := hrow2.some_ (k := k * 3 + 1) (by simp [hlen])
      obtain ⟨v2, hold2⟩ := hrow2.some_ (k := k * 3 + 2) (by simp [hlen])
      have hfz0 := hrow2.frozen (k * 3)
      have hfz1 := hrow2.frozen (k * 3 + 1)
      have hfz2 := hrow2.frozen (k * 3 + 2)
      have HR := Lib.hid (show RowIs (((w2.setCell ⟨w.heap.size, k * 3, none⟩ (.bool z.1.1)).setCell ⟨w.heap.size, k * 3 + 1, none⟩ (.slice A1 z.1.2.1.length c1')).setCell ⟨w.heap.size, k * 3 + 2, none⟩ (.slice B1 z.1.2.2.length d1')) w.heap.size 43 (effCells (ds ++ [(z.1, (A1, c1'), (B1, d1'))]) ++ zeffs (zs.length - (k + 1))) by
        have h := ((hrow2.set (k * 3) (.bool z.1.1)).set (k * 3 + 1) (.slice A1 z.1.2.1.length c1')).set (k * 3 + 2) (.slice B1 z.1.2.2.length d1')
        rw [set_three _ _ _ _ _ _ _ _ _ hlen] at h
        rw [effCells_append, List.append_assoc]
        exact h)
      have hwk : w.heap.size + 1 ≤ wr.heap.size := hsz
      have HO := Lib.hid (show ∀ x ∈ ds ++ [((z.1, (A1, c1'), (B1, d1')) : EffA)], EffOwn (((w2.setCell ⟨w.heap.size, k * 3, none⟩ (.bool z.1.1)).setCell ⟨w.heap.size, k * 3 + 1, none⟩ (.slice A1 z.1.2.1.length c1')).setCell ⟨w.heap.size, k * 3 + 2, none⟩ (.slice B1 z.1.2.2.length d1')) (w.heap.size + 1) x from fun x hx => by
        refine EffOwn.sc (p := ⟨w.heap.size, k * 3 + 2, none⟩) (EffOwn.sc (p := ⟨w.heap.size, k * 3 + 1, none⟩) (EffOwn.sc (p := ⟨w.heap.size, k * 3, none⟩) ?_ (Nat.lt_succ_self _) _) (Nat.lt_succ_self _) _) (Nat.lt_succ_self _) _
        rcases List.mem_append.1 hx with hx | hx
        · exact (HOWN.out x hx).below hb2
        · obtain rfl := List.mem_singleton.1 hx
          exact ⟨own_weaken (held_fst hh) hwk, own_weaken (held_snd hh) hwk⟩)
      have HB := Lib.hid (((hbel2.setCell (p := ⟨w.heap.size, k * 3, none⟩) (Nat.le_refl _) (.bool z.1.1)).setCell (p := ⟨w.heap.size, k * 3 + 1, none⟩) (Nat.le_refl _) (.slice A1 z.1.2.1.length c1')).setCell (p := ⟨w.heap.size, k * 3 + 2, none⟩) (Nat.le_refl _) (.slice B1 z.1.2.2.length d1'))
      clear hrow2 hrow hbel hbel2 hh hb2 hok c0 c1 c2 hlen
      go_wp2
      go_roundw
      case rel => exact ⟨k + 1, ds ++ [(z.1, (A1, c1'), (B1, d1'))], by omega, by go_num, by rw [HTK.out, ← HDS.out]; simp [effsT], HO.out, HR.out, HB.out⟩
      case measure => simp [intOf]; omega
    · obtain rfl : k = zs.length := by omega
      go_wp2
      go_ret
      have hall : effsT ds = effsT zs := by rw [hds, List.take_of_length_le (by simp)]
      rw [Nat.sub_self, show zeffs 0 = [] from rfl, List.append_nil] at hrow
      refine ⟨some ⟨w.heap.size, 0, none⟩, zs.length, ds, by rw [hdl]; rfl, hall, ⟨.inr ⟨w.heap.size, 0, rfl, fun j u hu => by rw [Nat.zero_add, hrow.cell]; exact hu⟩, fun z hz => ?_⟩, hbel⟩
      have hmem : z.1 ∈ effsT zs := by rw [← hall]; exact List.mem_map_of_mem hz
      obtain ⟨y, hy, hyz⟩ := List.mem_map.1 hmem
      have := HL.out y hy
      rw [hyz] at this
      exact (hown z hz).ok (by unfold maxLen; omega) (by unfold maxLen; omega)

def cntF (xs : List EffT) : Int := (xs.countP (·.1) : Nat)
theorem cntF_take (xs : List EffT) (k : Nat) (hk : k < xs.length) : cntF (xs.take (k + 1)) = cntF (xs.take k) + (if xs[k].1 then 1 else 0) := by
  unfold cntF
  rw [List.take_succ_eq_append_getElem hk, List.countP_append]
  by_cases h : xs[k].1 = true
  · simp [h]
  · simp [h]
theorem cntF_bd (xs : List EffT) : 0 ≤ cntF xs ∧ cntF xs ≤ xs.length := by
  unfold cntF
  have := List.countP_le_length (p := fun x : EffT => x.1) (l := xs)
  omega

set_option maxRecDepth 100000 in
set_option maxHeartbeats 3200000 in
theorem eqEffectS_any (A B : Option Addr) (c d : Nat) (xs ys : List EffA) (w : World) (hx : EffsAt w A xs) (hy : EffsAt w B ys) (hn : xs.length ≤ 4294967296) (_hm : ys.length ≤ 4294967296)
    (hl : ∀ z ∈ xs, z.1.2.1.length ≤ 4294967296 ∧ z.1.2.2.length ≤ 4294967296) (hl2 : ∀ z ∈ ys, z.1.2.1.length ≤ 4294967296 ∧ z.1.2.2.length ≤ 4294967296) :
    Calls Try.prog 17 #[.slice A xs.length c, .slice B ys.length d] w fun e w' => e = .returned (.bool (decide (effsT xs = effsT ys))) ∧ Below w.heap.size w w' := by
  by_cases hl0 : xs.length = ys.length
  · have hne : ((xs.length : Int) != (ys.length : Int)) = false := by rw [hl0]; simp
    have HL := Lib.hid hl0
    have HX := Lib.hid hx
    have HY := Lib.hid hy
    have HN := Lib.hid hl
    have HN2 := Lib.hid hl2
    clear hl0 hx hy hl hl2
    go_enter Try.func17, Try.ntmps17
    go_wp2
    go_loopw [5] (fun i wr => ∃ k : Nat, k ≤ xs.length ∧ i = .int .i64 k ∧ Below w.heap.size w wr ∧ ∀ j (h : j < xs.length) (h' : j < ys.length), j < k → xs[j].1 = ys[j].1) (fun i _ => xs.length - (intOf i).toNat)
    case atStart => exact ⟨0, Nat.zero_le _, rfl, Below.refl _ _, by intros; omega⟩
    case round =>
      obtain ⟨k, hk, rfl, hdr, hall⟩ := hrel
      have HA := Lib.hid hall
      clear hall
      by_cases hlt : k < xs.length
      · have hlt2 : k < ys.length := by have := HL.out; omega
        obtain ⟨b, o, rfl, hb, hc⟩ := (HX.out.below hdr).at_ hlt
        obtain ⟨c0, c1, c2⟩ := hc k hlt
        clear hc
        obtain ⟨b2, o2, rfl, hb2, hc2⟩ := (HY.out.below hdr).at_ hlt2
        obtain ⟨e0, e1, e2⟩ := hc2 k hlt2
        clear hc2
        have hko := (HX.out.2 xs[k] (List.getElem_mem hlt)).below hdr
        have hko2 := (HY.out.2 ys[k] (List.getElem_mem hlt2)).below hdr
        have hkl := HN.out xs[k] (List.getElem_mem hlt)
        have hkl2 := HN2.out ys[k] (List.getElem_mem hlt2)
        have HK := Lib.hid (show xs[k].1 ≠ ys[k].1 → effsT xs ≠ effsT ys from fun h e => h (by
          have h1 := List.getElem_of_eq e (i := k) (by simpa using hlt)
          simpa using h1))
        have HS := Lib.hid (show xs[k].1 = ys[k].1 → ∀ j (h : j < xs.length) (h' : j < ys.length), j < k + 1 → xs[j].1 = ys[j].1 from fun he j h h' hj => by
          by_cases e : j = k
          · subst e; exact he
          · exact HA.out j h h' (by omega))
        have hk0 : (0 : Int) ≤ (k : Int) := by omega
        have hk1 : (k : Int) < (xs.length : Int) := by omega
        have hk2 : (k : Int) < (ys.length : Int) := by omega
        have HQ := Lib.hid hko
        have HQ2 := Lib.hid hko2
        clear hko hko2
        generalize xs[k] = x at *
        generalize ys[k] = y at *
        cases h1 : effEq x.1 y.1
        · have hf := HK.out (fun h => by rw [h, effEq_self] at h1; cases h1)
          go_wp2
          go_still_tail 8, (by kernel_rfl)
          go_wp2_with (go_at_call 27; refine (eqEffect_any x.1 y.1 _ _ _ _ _ _ _ _ _ HQ.out.2.2.1.dr HQ.out.2.2.2.dr HQ2.out.2.2.1.dr HQ2.out.2.2.2.dr hkl.1 hkl.2 hkl2.1 hkl2.2).mono ?_; rintro e w' ⟨rfl, hb'⟩)
          go_ret
          exact ⟨ret_bool (by simp [hf]), hdr.drew.trans (hb'.mono hdr.size)⟩
        · have HF := Lib.hid (HS.out (by simpa [effEq] using h1))
          go_wp2
          go_still_tail 8, (by kernel_rfl)
          go_wp2_with (go_at_call 27; refine (eqEffect_any x.1 y.1 _ _ _ _ _ _ _ _ _ HQ.out.2.2.1.dr HQ.out.2.2.2.dr HQ2.out.2.2.1.dr HQ2.out.2.2.2.dr hkl.1 hkl.2 hkl2.1 hkl2.2).mono ?_; rintro e w' ⟨rfl, hb'⟩)
          go_roundw
          case rel => exact ⟨k + 1, by omega, by go_num, hdr.drew.trans (hb'.mono hdr.size), HF.out⟩
          case measure => simp [intOf]; omega
      · have HF := Lib.hid (show effsT xs = effsT ys from List.ext_getElem (by simpa using HL.out) (fun j h h' => by simpa using HA.out j (by simpa using h) (by simpa using h') (by simp at h; omega)))
        go_wp2
        go_ret
        exact ⟨ret_bool (by simp [HF.out]), hdr⟩
  · have hne : ((xs.length : Int) != (ys.length : Int)) = true := by rw [bne_iff_ne]; omega
    have hf : effsT xs ≠ effsT ys := fun h => hl0 (by have := congrArg List.length h; simpa using this)
    go_enter Try.func17, Try.ntmps17
    go_wp2
    go_ret
    exact ⟨ret_bool (by simp [hf]), Below.refl _ _⟩

set_option maxRecDepth 100000 in
set_option maxHeartbeats 1600000 in
theorem specDoneCount_any (A : Option Addr) (c : Nat) (zs : List EffA) (w : World) (hz : EffsAt w A zs) (hn : zs.length ≤ 4294967296) :
    Calls Try.prog 14 #[.slice A zs.length c] w fun e w' => e = .returned (.int .i64 (cntF (effsT zs))) ∧ w = w' := by
  have HZ := Lib.hid hz
  clear hz
  go_enter Try.func14, Try.ntmps14
  go_wp2
  go_loop [3, 4] (fun n i => ∃ (k : Nat), k ≤ zs.length ∧ i = .int .i64 k ∧ n = .int .i64 (cntF ((effsT zs).take k))) (fun _ i => zs.length - (intOf i).toNat)
  case atStart => exact ⟨0, Nat.zero_le _, rfl, by simp [cntF]⟩
  case round =>
    obtain ⟨k, hk, rfl, rfl⟩ := hrel
    have hbd := cntF_bd ((effsT zs).take k)
    rw [List.length_take] at hbd
    by_cases hlt : k < zs.length
    · obtain ⟨b, o, rfl, hb, hc⟩ := HZ.out.at_ hlt
      obtain ⟨c0, c1, c2⟩ := hc k hlt
      clear hc c1 c2
      have HT := Lib.hid (cntF_take (effsT zs) k (by simpa using hlt))
      have HE := Lib.hid (effsT_at zs k hlt (by simpa using hlt))
      have hbd2 : 0 ≤ cntF ((effsT zs).take k) ∧ cntF ((effsT zs).take k) ≤ 4294967296 := by omega
      clear hbd
      cases hd : zs[k].1.1
      all_goals
        rw [hd] at c0
        have HV := Lib.hid HT.out
        rw [HE.out, hd] at HV
        generalize cntF ((effsT zs).take k) = q at *
        go_wp2
        go_round
        case rel => exact ⟨k + 1, by omega, by go_num, by rw [HV.out]; simp⟩
        case measure => simp [intOf]; omega
    · obtain rfl : k = zs.length := by omega
      go_wp2
      go_ret
      exact ⟨ret_int (by rw [List.take_of_length_le (by simp)]), rfl⟩

set_option maxRecDepth 100000 in
set_option maxHeartbeats 1600000 in
theorem DoneCount_any (A : Option Addr) (c : Nat) (zs : List EffA) (w : World) (hz : EffsAt w A zs) (hn : zs.length ≤ 4294967296) :
    Calls Try.prog 16 #[.slice A zs.length c] w fun e w' => e = .returned (.int .i64 (cntF (effsT zs))) ∧ Below w.heap.size w w' := by
  have HZ := Lib.hid hz
  clear hz
  go_enter Try.func16, Try.ntmps16
  go_wp2
  go_loopw [3, 8] (fun n i wr => ∃ (k : Nat), k ≤ zs.length ∧ i = .int .i64 k ∧ n = .int .i64 (cntF ((effsT zs).take k)) ∧ Below w.heap.size w wr) (fun _ i _ => zs.length - (intOf i).toNat)
  case atStart => exact ⟨0, Nat.zero_le _, rfl, by simp [cntF], Below.refl _ _⟩
  case round =>
    obtain ⟨k, hk, rfl, rfl, hB⟩ := hrel
    have hbd := cntF_bd ((effsT zs).take k)
    rw [List.length_take] at hbd
    by_cases hlt : k < zs.length
    · obtain ⟨b, o, rfl, hb, hc⟩ := (HZ.out.below hB).at_ hlt
      obtain ⟨c0, c1, c2⟩ := hc k hlt
      clear hc
      have HT := Lib.hid (cntF_take (effsT zs) k (by simpa using hlt))
      have HE := Lib.hid (effsT_at zs k hlt (by simpa using hlt))
      have hbd2 : 0 ≤ cntF ((effsT zs).take k) ∧ cntF ((effsT zs).take k) ≤ 4294967296 := by omega
      clear hbd
      have hk0 : (0 : Int) ≤ (k : Int) := by omega
      have hk1 : (k : Int) < (zs.length : Int) := by omega
      generalize zs[k] = z at *
      cases hd : z.1.1
      all_goals
        rw [hd] at c0
        have HV := Lib.hid HT.out
        rw [HE.out, hd] at HV
        generalize cntF ((effsT zs).take k) = q at *
        go_wp2
        go_roundw
        case rel => exact ⟨k + 1, by omega, by go_num, by rw [HV.out]; simp, hB.alloc hB.size _⟩
        case measure => simp [intOf]; omega
    · obtain rfl : k = zs.length := by omega
      go_wp2
      go_ret
      exact ⟨ret_int (by rw [List.take_of_length_le (by simp)]), hB⟩

end Go.Proofs.Ytmmfblkgappljaa
