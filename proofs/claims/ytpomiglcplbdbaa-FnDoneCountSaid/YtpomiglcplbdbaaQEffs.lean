/- Contracts over lists of effects: szEffectS, toEffectS, eqEffectS, DoneCount of both packages. -/
import Derived.Test.YtpomiglcplbdbaaQNest
import Derived.Test.YtpomiglcplbdbaaQEff3
import Derived.StillTailTactics
namespace Go.Proofs.Ytpomiglcplbdbaa
open Go.ChangeShapes Go.WideShapes Go.ChangeAt Go.RowKit Go.Deep

abbrev effsT (zs : List EffA) : List EffT := zs.map (·.1)

def szE (l : Int) (x : EffT) : Int := if l < x.2.1.length then -1 else if l - x.2.1.length < x.2.2.length then -1 else l - x.2.1.length - x.2.2.length
def szF : Int → List EffT → Int
  | l, [] => l
  | l, x :: xs => if szE l x < 0 then -1 else szF (szE l x) xs
def szS (l : Int) (xs : List EffT) : Int := if l < xs.length then -1 else szF (l - xs.length) xs
theorem effs_bd {zs : List EffA} {xs : List EffT} {N : Nat} (h : effsT zs = xs) (hx : xs.length ≤ N) (hy : ∀ x ∈ xs, (x.2.1.length : Int) + x.2.2.length ≤ N) : zs.length ≤ N ∧ ∀ z ∈ zs, z.1.2.1.length ≤ N ∧ z.1.2.2.length ≤ N := by
  subst h
  refine ⟨by simpa using hx, fun z hz => ?_⟩
  have := hy z.1 (List.mem_map_of_mem (f := (·.1)) hz)
  omega
theorem le16 {zs : List EffA} (h : ∀ z ∈ zs, z.1.2.1.length ≤ 16777216 ∧ z.1.2.2.length ≤ 16777216) : ∀ z ∈ zs, z.1.2.1.length ≤ 4294967296 ∧ z.1.2.2.length ≤ 4294967296 :=
  fun z hz => by have := h z hz; omega
theorem szE_cases (l : Int) (x : EffT) : szE l x = -1 ∨ (szE l x = l - x.2.1.length - x.2.2.length ∧ 0 ≤ szE l x ∧ (x.2.1.length : Int) + x.2.2.length ≤ l) := by
  unfold szE
  split
  · exact .inl rfl
  · split
    · exact .inl rfl
    · exact .inr ⟨rfl, by omega, by omega⟩
theorem szF_cases : ∀ (xs : List EffT) (l : Int), 0 ≤ l → szF l xs = -1 ∨ (0 ≤ szF l xs ∧ szF l xs ≤ l ∧ ∀ x ∈ xs, (x.2.1.length : Int) + x.2.2.length ≤ l) := by
  intro xs
  induction xs with
  | nil => intro l h; exact .inr ⟨h, Int.le_refl _, by simp⟩
  | cons x xs ih =>
    intro l h
    rw [szF]
    rcases szE_cases l x with h1 | ⟨h1, h2, h3⟩
    · rw [h1]; exact .inl (by simp)
    · rw [if_neg (by omega)]
      rcases ih _ h2 with h4 | ⟨h4, h5, h6⟩
      · exact .inl h4
      · refine .inr ⟨h4, by omega, fun y hy => ?_⟩
        rcases List.mem_cons.1 hy with rfl | hy
        · exact h3
        · have := h6 y hy; omega
theorem szS_cases (xs : List EffT) (l : Int) (_h : 0 ≤ l) : szS l xs = -1 ∨ (0 ≤ szS l xs ∧ (xs.length : Int) ≤ l ∧ ∀ x ∈ xs, (x.2.1.length : Int) + x.2.2.length ≤ l) := by
  unfold szS
  by_cases h1 : l < xs.length
  · rw [if_pos h1]; exact .inl rfl
  · rw [if_neg h1]
    rcases szF_cases xs (l - xs.length) (by omega) with h2 | ⟨h2, h3, h4⟩
    · exact .inl h2
    · exact .inr ⟨h2, by omega, fun x hx => by have := h4 x hx; omega⟩
theorem szF_drop (xs : List EffT) (l : Int) (k : Nat) (hk : k < xs.length) : szF l (xs.drop k) = if szE l xs[k] < 0 then -1 else szF (szE l xs[k]) (xs.drop (k + 1)) := by
  rw [List.drop_eq_getElem_cons hk, szF]
theorem effsT_at (zs : List EffA) (k : Nat) (hk : k < zs.length) (hk' : k < (effsT zs).length) : (effsT zs)[k] = zs[k].1 := by simp [effsT]


def EffOwn (w : World) (base : Nat) (z : EffA) : Prop :=
  w.ownsRow base 49 2 (.slice z.2.1.1 z.1.2.1.length z.2.1.2) z.1.2.1.length (entCells z.1.2.1) ∧ w.ownsRow base 49 2 (.slice z.2.2.1 z.1.2.2.length z.2.2.2) z.1.2.2.length (entCells z.1.2.2)
theorem EffOwn.below {w w' : World} {base : Nat} {z : EffA} (h : EffOwn w base z) (hb : Below w.heap.size w w') : EffOwn w' base z := ⟨own_below h.1 hb, own_below h.2 hb⟩
theorem EffOwn.sc {w : World} {base : Nat} {z : EffA} (h : EffOwn w base z) {p : Addr} (hp : p.block < base) (u : Value) : EffOwn (w.setCell p u) base z := ⟨own_sc h.1 hp u, own_sc h.2 hp u⟩
theorem EffOwn.ok {w : World} {base : Nat} {z : EffA} (h : EffOwn w base z) (h1 : z.1.2.1.length ≤ maxLen) (h2 : z.1.2.2.length ≤ maxLen) : EffOk w z := ⟨h1, h2, ents_of_own h.1, ents_of_own h.2⟩

/-- Zero values of effects. -/
def zeff : List Value := [.bool false, .slice none 0 0, .slice none 0 0]
def zeffs (n : Nat) : List Value := (List.replicate n zeff).flatten
theorem zeffs_succ (n : Nat) : zeffs (n + 1) = .bool false :: .slice none 0 0 :: .slice none 0 0 :: zeffs n := by simp [zeffs, zeff, List.replicate_succ]
theorem set_three (a r : List Value) (x y z x' y' z' : Value) (k : Nat) (hk : a.length = k) : (((a ++ x :: y :: z :: r).set k x').set (k + 1) y').set (k + 2) z' = a ++ x' :: y' :: z' :: r := by
  subst hk
  induction a with
  | nil => simp
  | cons b a _ => simp


def cntF (xs : List EffT) : Int := (xs.countP (·.1) : Nat)
theorem cntF_take (xs : List EffT) (k : Nat) (hk : k < xs.length) : cntF (xs.take (k + 1)) = cntF (xs.take k) + (if xs[k].1 then 1 else 0) := by
  unfold cntF
  rw [List.take_succ_eq_append_getElem hk, List.countP_append]
  by_cases h : xs[k].1 = true
  · simp [h]
  · simp [h]
theorem cntF_bd (xs : List EffT) : 0 ≤ cntF xs ∧ cntF xs ≤ xs.length := by
  unfold cntF
  have := List.countP_le_length (p := fun x : EffT => x.1) (l := xs)
  omega


set_option maxRecDepth 100000 in
set_option maxHeartbeats 1600000 in
theorem specDoneCount_any (A : Option Addr) (c : Nat) (zs : List EffA) (w : World) (hz : EffsAt w A zs) (hn : zs.length ≤ 4294967296) :
    Calls Try.prog 54 #[.slice A zs.length c] w fun e w' => e = .returned (.int .i64 (cntF (effsT zs))) ∧ w = w' := by
  have HZ := Lib.hid hz
  clear hz
  go_enter Try.func54, Try.ntmps54
  go_wp2
  go_loop [3, 4] (fun n i => ∃ (k : Nat), k ≤ zs.length ∧ i = .int .i64 k ∧ n = .int .i64 (cntF ((effsT zs).take k))) (fun _ i => zs.length - (intOf i).toNat)
  case atStart => exact ⟨0, Nat.zero_le _, rfl, by simp [cntF]⟩
  case round =>
    obtain ⟨k, hk, rfl, rfl⟩ := hrel
    have hbd := cntF_bd ((effsT zs).take k)
    rw [List.length_take] at hbd
    by_cases hlt : k < zs.length
    · obtain ⟨b, o, rfl, hb, hc⟩ := HZ.out.at_ hlt
      obtain ⟨c0, c1, c2⟩ := hc k hlt
      clear hc c1 c2
      have HT := Lib.hid (cntF_take (effsT zs) k (by simpa using hlt))
      have HE := Lib.hid (effsT_at zs k hlt (by simpa using hlt))
      have hbd2 : 0 ≤ cntF ((effsT zs).take k) ∧ cntF ((effsT zs).take k) ≤ 4294967296 := by omega
      clear hbd
      cases hd : zs[k].1.1
      all_goals
        rw [hd] at c0
        have HV := Lib.hid HT.out
        rw [HE.out, hd] at HV
        generalize cntF ((effsT zs).take k) = q at *
        go_wp2
        go_round
        case rel => exact ⟨k + 1, by omega, by go_num, by rw [HV.out]; simp⟩
        case measure => simp [intOf]; omega
    · obtain rfl : k = zs.length := by omega
      go_wp2
      go_ret
      exact ⟨ret_int (by rw [List.take_of_length_le (by simp)]), rfl⟩

set_option maxRecDepth 100000 in
set_option maxHeartbeats 1600000 in
theorem DoneCount_any (A : Option Addr) (c : Nat) (zs : List EffA) (w : World) (hz : EffsAt w A zs) (hn : zs.length ≤ 4294967296) :
    Calls Try.prog 46 #[.slice A zs.length c] w fun e w' => e = .returned (.int .i64 (cntF (effsT zs))) ∧ Below w.heap.size w w' := by
  have HZ := Lib.hid hz
  clear hz
  go_enter Try.func46, Try.ntmps46
  go_wp2
  go_loopw [3, 8] (fun n i wr => ∃ (k : Nat), k ≤ zs.length ∧ i = .int .i64 k ∧ n = .int .i64 (cntF ((effsT zs).take k)) ∧ Below w.heap.size w wr) (fun _ i _ => zs.length - (intOf i).toNat)
  case atStart => exact ⟨0, Nat.zero_le _, rfl, by simp [cntF], Below.refl _ _⟩
  case round =>
    obtain ⟨k, hk, rfl, rfl, hB⟩ := hrel
    have hbd := cntF_bd ((effsT zs).take k)
    rw [List.length_take] at hbd
    by_cases hlt : k < zs.length
    · obtain ⟨b, o, rfl, hb, hc⟩ := (HZ.out.below hB).at_ hlt
      obtain ⟨c0, c1, c2⟩ := hc k hlt
      clear hc
      have HT := Lib.hid (cntF_take (effsT zs) k (by simpa using hlt))
      have HE := Lib.hid (effsT_at zs k hlt (by simpa using hlt))
      have hbd2 : 0 ≤ cntF ((effsT zs).take k) ∧ cntF ((effsT zs).take k) ≤ 4294967296 := by omega
      clear hbd
      have hk0 : (0 : Int) ≤ (k : Int) := by omega
      have hk1 : (k : Int) < (zs.length : Int) := by omega
      generalize zs[k] = z at *
      cases hd : z.1.1
      all_goals
        rw [hd] at c0
        have HV := Lib.hid HT.out
        rw [HE.out, hd] at HV
        generalize cntF ((effsT zs).take k) = q at *
        go_wp2
        go_roundw
        case rel => exact ⟨k + 1, by omega, by go_num, by rw [HV.out]; simp, hB.alloc hB.size _⟩
        case measure => simp [intOf]; omega
    · obtain rfl : k = zs.length := by omega
      go_wp2
      go_ret
      exact ⟨ret_int (by rw [List.take_of_length_le (by simp)]), hB⟩

end Go.Proofs.Ytpomiglcplbdbaa
