/- The reader of drawn arguments: it lies in a block of its own, a slice of bytes and a place. Contracts of l20Open, pick, odd. -/
import Derived.Test.YtpomiglcplbdbaaQBase
import Derived.Maps.AppendAt
import Derived.Laws.BitsAllLaws
import Derived.IntWalk
import Derived.Deep.QuietTactic
import Derived.BigQuiet
import Derived.StillTailTactics
namespace Go.Proofs.Ytpomiglcplbdbaa
open Go.ChangeShapes Go.WideShapes Go.ChangeAt Go.RowKit Go.Deep

theorem i64_xor_nat (a b : Nat) (ha : a < 9223372036854775808) (hb : b < 9223372036854775808) : bits .xor .i64 (a : Int) (b : Int) = ((a ^^^ b : Nat) : Int) := by
  have hx : a ^^^ b < 2 ^ 63 := Nat.xor_lt_two_pow (by omega) (by omega)
  show IntKind.i64.wrap ((BitVec.ofInt 64 (a : Int) ^^^ BitVec.ofInt 64 (b : Int)).toNat : Int) = _
  rw [BitVec.toNat_xor, ofInt_u64 a (by omega), ofInt_u64 b (by omega)]
  exact IntWalk.i64_in _ (by omega)
theorem i64_xor_bd (a b : Int) (h0 : 0 ≤ a) (h1 : a ≤ 9223372036854775807) (h2 : 0 ≤ b) (h3 : b ≤ 9223372036854775807) : 0 ≤ bits .xor .i64 a b ∧ bits .xor .i64 a b ≤ 9223372036854775807 := by
  obtain ⟨A, rfl⟩ := Int.eq_ofNat_of_zero_le h0
  obtain ⟨B, rfl⟩ := Int.eq_ofNat_of_zero_le h2
  have hx : A ^^^ B < 2 ^ 63 := Nat.xor_lt_two_pow (by omega) (by omega)
  rw [i64_xor_nat A B (by omega) (by omega)]
  omega
/-- x ^ 1. -/
def flip1 (x : Int) : Int := if x % 2 = 0 then x + 1 else x - 1
theorem i64_xor_one (x : Int) (h0 : 0 ≤ x) (h1 : x ≤ 4294967296) : bits .xor .i64 x 1 = flip1 x := by
  obtain ⟨A, rfl⟩ := Int.eq_ofNat_of_zero_le h0
  have e := i64_xor_nat A 1 (by omega) (by omega)
  rw [show ((1 : Nat) : Int) = 1 from rfl] at e
  rw [e]
  have h2 : (A ^^^ 1) / 2 = A / 2 := by rw [Nat.xor_div_two]; simp
  have h3 : (A ^^^ 1) % 2 = (A % 2 + 1) % 2 := by
    have := @Nat.xor_mod_two_eq_one A 1
    omega
  unfold flip1
  split <;> omega
theorem flip1_ne (x : Int) : flip1 x ≠ x := by unfold flip1; split <;> omega
theorem flip1_bd (x : Int) (h0 : 0 ≤ x) : 0 ≤ flip1 x ∧ flip1 x ≤ x + 1 ∧ x - 1 ≤ flip1 x := by unfold flip1; split <;> omega

def BytesAt (w : World) (A : Option Addr) (zs : List Int) : Prop := CellsAt w A (zs.map (Value.int .u8)) ∧ ∀ z ∈ zs, 0 ≤ z ∧ z ≤ 255

theorem BytesAt.at_ {w : World} {A : Option Addr} {zs : List Int} (h : BytesAt w A zs) {k : Nat} (hk : k < zs.length) :
    ∃ b o, A = some ⟨b, o, none⟩ ∧ b < w.heap.size ∧ ∀ j (hj : j < zs.length), w.cell? ⟨b, o + j, none⟩ = some (.int .u8 zs[j]) := by
  obtain ⟨b, o, hA, hb, hc⟩ := CellsAt.pos h.1 (k := k) (by simpa using hk)
  refine ⟨b, o, hA, hb, fun j hj => hc j _ ?_⟩
  simp [hj]

section
variable {H : Type} {enc : TypeId × Value → H} {w : World} {sp : Nat → Bool} {hd : Bool}
theorem open_bytes_ {v : Value} {d : DataW H} {ps : List MemPlace} (h : DataW.Trod enc Try.prog w 0 sp hd 22 v d ps) (hv : ∃ a n c, v = .slice a n c) :
    ∃ A c zs, v = .slice A zs.length c ∧ zs.length ≤ c ∧ c ≤ maxLen ∧ BytesAt w A zs := by
  obtain ⟨a, n, c', rfl⟩ := hv
  obtain ⟨fuel, hf⟩ := h
  have hcap : n ≤ c' ∧ c' ≤ maxLen := by
    rcases open_slice Try.underlying22 hf with ⟨hcs, _⟩ | ⟨a1, len, cap, m, nf, D, Pl, hcs, _, hl, hc, _⟩
    · simp [Value.cells] at hcs; rw [hcs.2.1, hcs.2.2]; unfold maxLen; omega
    · simp [Value.cells] at hcs; rw [hcs.2.1, hcs.2.2]; exact ⟨hl, hc⟩
  obtain ⟨A, n, c, css, h0, h1, h2, h3, h4⟩ := rows_of_cells Try.underlying22 hf (fun cs => ∃ k : Int, cs = [.int .u8 k] ∧ 0 ≤ k ∧ k ≤ 255) (fun n cs x h _ => by
    obtain ⟨k, h, _, hw⟩ := DataW.trod_int Try.underlying5 h
    exact ⟨k, h, bounds_u8 hw⟩)
  obtain ⟨zs, h5, h6⟩ := list_choose (fun k : Int => [Value.int .u8 k]) (fun k => 0 ≤ k ∧ k ≤ 255) css (fun y hy => by obtain ⟨k, hk, hb⟩ := h3 y hy; exact ⟨k, hk, hb⟩)
  subst h5
  have hn : zs.length = n := by simpa using h1
  subst hn
  simp [Value.cells] at h0
  refine ⟨A, c', zs, by rw [h0.1, h0.2.1], h0.2.1 ▸ hcap.1, hcap.2, ?_, h6⟩
  have e : (zs.map (fun k : Int => [Value.int .u8 k])).flatten = zs.map (Value.int .u8) := by
    clear h0 h1 h2 h3 h4 h6
    induction zs with
    | nil => rfl
    | cons z zs ih => simp only [List.map_cons, List.flatten_cons, ih]; rfl
  rwa [e] at h4
end

theorem CellsAt.belowB {w w' : World} {A : Option Addr} {xs : List Value} {B : Nat} (h : CellsAt w A xs) (hb : Below B w w') (hA : ∀ a, A = some a → a.block < B) : CellsAt w' A xs := by
  rcases h with rfl | ⟨b, o, hA', hc⟩
  · exact .inl rfl
  · refine .inr ⟨b, o, hA', fun j u hu => ?_⟩
    rw [hb.cell (p := ⟨b, o + j, none⟩) (hA ⟨b, o, none⟩ hA')]
    exact hc j u hu

/-- The reader in block R: its place is not beyond m. -/
def RdAt (w : World) (R m : Nat) : Prop :=
  ∃ (A : Option Addr) (c : Nat) (bs : List Int) (p : Nat), RowIs w R 103 [.slice A bs.length c, .int .i64 (p : Int)] ∧ p ≤ m ∧ bs.length ≤ 2000 ∧ BytesAt w A bs ∧ (bs = [] ∨ ∀ a, A = some a → a.block < R)

theorem RdAt.lt {w : World} {R m : Nat} (h : RdAt w R m) : R < w.heap.size := by obtain ⟨_, _, _, _, h, _⟩ := h; exact h.lt
theorem RdAt.up {w : World} {R m m' : Nat} (h : RdAt w R m) (hm : m ≤ m') : RdAt w R m' := by
  obtain ⟨A, c, bs, p, h1, h2, h3⟩ := h
  exact ⟨A, c, bs, p, h1, by omega, h3⟩
theorem RdAt.belowB {w w' : World} {R m B : Nat} (h : RdAt w R m) (hb : Below B w w') (hR : R < B) : RdAt w' R m := by
  obtain ⟨A, c, bs, p, h1, h2, h3, h4, h5⟩ := h
  refine ⟨A, c, bs, p, h1.below hb hR, h2, h3, ⟨?_, h4.2⟩, h5⟩
  rcases h5 with h5 | h5
  · subst h5; exact .inl rfl
  · exact h4.1.belowB hb (fun a ha => by have := h5 a ha; omega)
theorem RdAt.below {w w' : World} {R m : Nat} (h : RdAt w R m) (hb : Below w.heap.size w w') : RdAt w' R m := h.belowB hb h.lt

/-- All that is older than the call stands, but for the reader. -/
def Gr (R : Nat) (w w' : World) : Prop := w.grownBy w' (some R)
theorem Gr.refl (R : Nat) (w : World) : Gr R w w := World.grownBy.refl w _
theorem Gr.trans {R : Nat} {a b c : World} (h : Gr R a b) (k : Gr R b c) : Gr R a c := World.grownBy.trans h k
theorem Gr.of_below {R : Nat} {a b : World} (h : Below a.heap.size a b) : Gr R a b := ⟨h.os, h.tape, h.output, h.size, fun k hk _ => h.block k hk⟩
theorem Gr.size {R : Nat} {a b : World} (h : Gr R a b) : a.heap.size ≤ b.heap.size := World.grownBy.size h
theorem Gr.drew {R : Nat} {a b : World} (h : Gr R a b) : Gr R a b.drew := by
  have h' : a.grownBy b (some R) := h
  exact ⟨h'.os, h'.tape, h'.output, h'.size, h'.block⟩
theorem Gr.drewN {R : Nat} {a b : World} (h : Gr R a b) (n : Nat) : Gr R a (b.drewN n) := by
  have h' : a.grownBy b (some R) := h
  exact ⟨h'.os, h'.tape, h'.output, h'.size, h'.block⟩
theorem Gr.alloc {R : Nat} {a b : World} (h : Gr R a b) (o : Obj) : Gr R a (b.alloc o) := h.trans (Gr.of_below ((Below.refl _ _).alloc (Nat.le_refl _) _))
/-- .. and then something above is written. -/
theorem Gr.upTo {R B : Nat} {a b c : World} (h : Gr R a b) (hb : Below B b c) (hB : a.heap.size ≤ B) : Gr R a c :=
  ⟨hb.os.trans h.os, hb.tape.trans h.tape, hb.output.trans h.output, Nat.le_trans h.size hb.size, fun k hk hne => (hb.block k (by omega)).trans (World.grownBy.block h k hk hne)⟩
theorem Gr.below {R B : Nat} {a b c : World} (hb : Below B a b) (h : Gr R b c) (hR : B ≤ R) (hB : B ≤ b.heap.size) : Below B a c :=
  hb.grown h hB (fun k hk => by injection hk with hk; omega)
theorem own_gr {w w' : World} {base E sz n R : Nat} {v : Value} {xs : List Value} (h : w.ownsRow base E sz v n xs) (hg : Gr R w w') (hR : R < base) : w'.ownsRow base E sz v n xs := by
  refine h.kept hg ?_
  cases hv : v.ownBlock with
  | none => exact .inl rfl
  | some k =>
    right
    intro he
    injection he with he
    have h1 := (h.lt k hv).1
    omega

theorem RowIs.gr {w w' : World} {g E R : Nat} {vs : List Value} (h : RowIs w g E vs) (hg : Gr R w w') (hne : g ≠ R) : RowIs w' g E vs :=
  (World.grownBy.block hg g h.lt (fun e => hne (by injection e))).trans h

/-- What pick leaves behind. -/
def PickRes (n : Int) (R m : Nat) (w : World) (e : Ending) (w' : World) : Prop :=
  ∃ x : Int, e = .returned (.int .i64 x) ∧ 0 ≤ x ∧ (1 ≤ n → x < n) ∧ (n < 1 → x = 0) ∧ RdAt w' R (m + 1) ∧ Gr R w w'

theorem gr_setCell (w : World) (R j : Nat) (u : Value) : Gr R w (w.setCell ⟨R, j, none⟩ u) :=
  ⟨rfl, rfl, rfl, by simp [World.setCell], fun k _ hne => Below.heap_setCell w ⟨R, j, none⟩ u k (fun e => hne (by rw [e]))⟩

theorem rd_step {w : World} {R m : Nat} {A : Option Addr} {c : Nat} {bs : List Int} {p : Nat} (hrow : RowIs w R 103 [.slice A bs.length c, .int .i64 (p : Int)]) (hp : p ≤ m) (hl : bs.length ≤ 2000) (hb : BytesAt w A bs) (hA : bs = [] ∨ ∀ a, A = some a → a.block < R) {q : Int} (hq : q = (p : Int) + 1) :
    RdAt (w.setCell ⟨R, 1, none⟩ (.int .i64 q)) R (m + 1) := by
  refine ⟨A, c, bs, p + 1, ?_, by omega, hl, ⟨?_, hb.2⟩, hA⟩
  · have := hrow.set 1 (.int .i64 q)
    rw [hq] at this ⊢
    simpa using this
  · rcases hA with hA | hA
    · subst hA; exact .inl rfl
    · exact hb.1.belowB (B := R) ((Below.refl R w).setCell (p := ⟨R, 1, none⟩) (Nat.le_refl _) _) hA

def OpenRes (w : World) (e : Ending) (w' : World) : Prop :=
  ∃ R : Nat, e = .returned (.pointer (some ⟨R, 0, none⟩)) ∧ RdAt w' R 0 ∧ w.heap.size ≤ R ∧ Below w.heap.size w w'

theorem bytes_lt {w : World} {A : Option Addr} {bs : List Int} (hb : BytesAt w A bs) : bs = [] ∨ ∀ a, A = some a → a.block < w.heap.size := by
  by_cases h : bs = []
  · exact .inl h
  · right
    intro a ha
    obtain ⟨b, o, hA, hl, _⟩ := hb.at_ (k := 0) (List.length_pos_iff.2 h)
    rw [hA] at ha
    injection ha with ha
    subst ha
    exact hl

theorem open_rd {w : World} {A : Option Addr} {c n : Nat} {bs : List Int} (hb : BytesAt w A bs) (hl : bs.length ≤ 2000) (hn : n = bs.length) : RdAt (w.alloc (.cells #[.slice A n c, .int .i64 0] 103)) w.heap.size 0 := by
  subst hn
  refine ⟨A, c, bs, 0, RowIs.alloc _ _, Nat.le_refl _, hl, ⟨CellsAt.below hb.1 ((Below.refl _ _).alloc (Nat.le_refl _) _), hb.2⟩, bytes_lt hb⟩

theorem BytesAt.take {w : World} {A : Option Addr} {bs : List Int} (h : BytesAt w A bs) (n : Nat) : BytesAt w A (bs.take n) := by
  refine ⟨?_, fun z hz => h.2 z (List.mem_of_mem_take hz)⟩
  rcases h.1 with h1 | ⟨b, o, hA, hc⟩
  · left; simp at h1; simp [h1]
  · refine .inr ⟨b, o, hA, fun j u hu => hc j u ?_⟩
    rw [List.map_take] at hu
    rw [List.getElem?_take] at hu
    split at hu
    · exact hu
    · cases hu

set_option maxRecDepth 100000 in
set_option maxHeartbeats 800000 in
theorem l20Open_any (A : Option Addr) (c : Nat) (bs : List Int) (w : World) (hb : BytesAt w A bs) (hn : bs.length ≤ c) (_hc : c ≤ maxLen) :
    Calls Try.prog 56 #[.slice A bs.length c] w (OpenRes w) := by
  have HB := Lib.hid hb
  clear hb
  by_cases hl : bs.length ≤ 2000
  · have hd : decide ((2000 : Int) < (bs.length : Int)) = false := by simp; omega
    go_enter Try.func56, Try.ntmps56
    go_wp2
    go_ret
    exact ⟨_, rfl, open_rd HB.out hl rfl, Nat.le_refl _, (Below.refl _ _).alloc (Nat.le_refl _) _⟩
  · have hd : decide ((2000 : Int) < (bs.length : Int)) = true := by simp; omega
    have hc2 : 2000 ≤ c := by omega
    have hc3 : ¬ ((c : Int) < 2000) := by omega
    go_enter Try.func56, Try.ntmps56
    go_wp2
    go_ret
    have hl2 : 2000 = (bs.take 2000).length := by rw [List.length_take]; omega
    exact ⟨_, rfl, open_rd (HB.out.take 2000) (by omega) hl2, Nat.le_refl _, (Below.refl _ _).alloc (Nat.le_refl _) _⟩

set_option maxRecDepth 100000 in
set_option maxHeartbeats 2000000 in
theorem pick_any (n : Int) (R m : Nat) (w : World) (h : RdAt w R m) (hm : m ≤ 1099511627776) (hn : n ≤ 4294967296) :
    Calls Try.prog 73 #[.pointer (some ⟨R, 0, none⟩), .int .i64 n] w (PickRes n R m w) := by
  obtain ⟨A, c, bs, p, hrow, hp, hl, hb, hA⟩ := h
  have c0 : w.cell? ⟨R, 0, none⟩ = some (.slice A bs.length c) := hrow.cell 0
  have c1 : w.cell? ⟨R, 1, none⟩ = some (.int .i64 (p : Int)) := hrow.cell 1
  have hfz := hrow.frozen 1
  have HX := Lib.hid (rd_step hrow hp hl hb hA (q := (p : Int) + 1) rfl)
  have HB := Lib.hid hb
  clear hb hrow
  have HE : ∀ x : Int, 0 ≤ x → (1 ≤ n → x < n) → (n < 1 → x = 0) → PickRes n R m w (.returned (.int .i64 x)) (w.setCell ⟨R, 1, none⟩ (.int .i64 ((p : Int) + 1))) :=
    fun x h0 h1 h2 => ⟨x, rfl, h0, h1, h2, HX.out, gr_setCell _ _ _ _⟩
  have HE := Lib.hid HE
  by_cases h1 : n < 1
  · go_enter Try.func73, Try.ntmps73
    go_wp2
    go_ret
    exact HE.out 0 (by omega) (by omega) (fun _ => rfl)
  · by_cases h2 : bs.length = 0
    · have h3 : ((bs.length : Int) == 0) = true := by simp [h2]
      have H2 := Lib.hid h2
      clear h2
      go_enter Try.func73, Try.ntmps73
      go_wp2
      go_ret
      exact HE.out 0 (by omega) (by omega) (fun _ => rfl)
    · have h3 : ((bs.length : Int) == 0) = false := by simp [h2]
      by_cases h4 : p < bs.length
      · obtain ⟨b, o, rfl, hbl, hc⟩ := HB.out.at_ h4
        have hcell := hc p h4
        clear hc
        have hz := HB.out.2 bs[p] (List.getElem_mem h4)
        have hne : b ≠ R := by
          rcases hA with hA | hA
          · subst hA; simp at h2
          · have := hA _ rfl; simp at this; omega
        clear hA
        have HM := Lib.hid (show (1 ≤ n → bs[p] % n < n) ∧ 0 ≤ bs[p] % n from ⟨fun h => Int.emod_lt_of_pos _ (by omega), Int.emod_nonneg _ (by omega)⟩)
        go_enter Try.func73, Try.ntmps73
        go_wp2
        go_ret
        exact HE.out _ HM.out.2 HM.out.1 (by omega)
      · obtain ⟨b, o, rfl, hbl, hc⟩ := HB.out.at_ (k := 0) (by omega)
        have hne : b ≠ R := by
          rcases hA with hA | hA
          · subst hA; simp at h2
          · have := hA _ rfl; simp at this; omega
        clear hA
        have hl0 : 0 < bs.length := by omega
        have hi1 : p % bs.length < bs.length := Nat.mod_lt _ hl0
        have hi2 : (p * 7 + 3) % bs.length < bs.length := Nat.mod_lt _ hl0
        have hcell1 := hc _ hi1
        have hcell2 := hc _ hi2
        have hz1 := HB.out.2 _ (List.getElem_mem hi1)
        have hz2 := HB.out.2 _ (List.getElem_mem hi2)
        clear hc
        generalize bs[p % bs.length] = a1 at *
        generalize bs[(p * 7 + 3) % bs.length] = a2 at *
        have hq := Nat.div_le_self p bs.length
        have hqn : ((p / bs.length : Nat) : Int) ≤ 1099511627776 := by omega
        have hqz : (0 : Int) ≤ ((p / bs.length : Nat) : Int) := Int.natCast_nonneg _
        have e1 : ((p : Int)).tmod (bs.length : Int) = ((p % bs.length : Nat) : Int) := rfl
        have e2 : (((p : Int) * 7 + 3)).tmod (bs.length : Int) = (((p * 7 + 3) % bs.length : Nat) : Int) := rfl
        have e3 : ((p : Int)).tdiv (bs.length : Int) = ((p / bs.length : Nat) : Int) := rfl
        have i1 : (((p % bs.length : Nat) : Int)).toNat = p % bs.length := Int.toNat_natCast _
        generalize p / bs.length = q1 at *
        have j1 : ((p % bs.length : Nat) : Int) < (bs.length : Int) := by omega
        have j2 : (((p * 7 + 3) % bs.length : Nat) : Int) < (bs.length : Int) := by omega
        generalize p % bs.length = i1 at *
        generalize (p * 7 + 3) % bs.length = i2 at *
        have w1 : IntKind.i64.wrap (a1 * 131) = a1 * 131 := IntWalk.i64_in _ (by omega)
        have w2 : IntKind.i64.wrap (a2 * 1117) = a2 * 1117 := IntWalk.i64_in _ (by omega)
        have w3 : IntKind.i64.wrap (a1 * 131 + a2 * 1117) = a1 * 131 + a2 * 1117 := IntWalk.i64_in _ (by omega)
        have w4 : IntKind.i64.wrap ((p : Int) * 29) = (p : Int) * 29 := IntWalk.i64_in _ (by omega)
        have w5 : IntKind.i64.wrap (a1 * 131 + a2 * 1117 + (p : Int) * 29) = a1 * 131 + a2 * 1117 + (p : Int) * 29 := IntWalk.i64_in _ (by omega)
        have w6 : IntKind.i64.wrap ((q1 : Int) * 53) = (q1 : Int) * 53 := IntWalk.i64_in _ (by omega)
        have w7 : IntKind.i64.wrap (a1 * 131 + a2 * 1117 + (p : Int) * 29 + (q1 : Int) * 53) = a1 * 131 + a2 * 1117 + (p : Int) * 29 + (q1 : Int) * 53 := IntWalk.i64_in _ (by omega)
        have w8 : IntKind.i64.wrap ((p : Int) * 7) = (p : Int) * 7 := IntWalk.i64_in _ (by omega)
        have w9 : IntKind.i64.wrap ((p : Int) * 7 + 3) = (p : Int) * 7 + 3 := IntWalk.i64_in _ (by omega)
        have hx0 : 0 ≤ a1 * 131 + a2 * 1117 + (p : Int) * 29 + (q1 : Int) * 53 := by omega
        have hx1 : a1 * 131 + a2 * 1117 + (p : Int) * 29 + (q1 : Int) * 53 ≤ 4611686018427387904 := by omega
        go_enter Try.func73, Try.ntmps73
        go_wp2
        go_quiet (fail)
        clear e1 e2 e3 w1 w2 w3 w4 w5 w6 w7 w8 w9 hcell1 hcell2 c0 c1
        generalize a1 * 131 + a2 * 1117 + (p : Int) * 29 + (q1 : Int) * 53 = X at *
        have hbx := i64_xor_bd X (X / 64) hx0 (by omega) (by omega) (by omega)
        have HM := Lib.hid (show (1 ≤ n → bits .xor .i64 X (X / 64) % n < n) ∧ 0 ≤ bits .xor .i64 X (X / 64) % n from ⟨fun h => Int.emod_lt_of_pos _ (by omega), Int.emod_nonneg _ (by omega)⟩)
        have HD := Lib.hid (show RdAt ((w.setCell ⟨R, 1, none⟩ (.int .i64 ((p : Int) + 1))).drewN nq) R (m + 1) from HX.out.below (below_drewN (Below.refl _ _) nq))
        go_wp2
        go_ret
        exact ⟨_, rfl, HM.out.2, HM.out.1, (by omega), HD.out, (gr_setCell _ _ _ _).drewN nq⟩

/-- What a draw of an integer leaves behind. -/
def IntRes (lo hi : Int) (R m : Nat) (w : World) (e : Ending) (w' : World) : Prop :=
  ∃ x : Int, e = .returned (.int .i64 x) ∧ lo ≤ x ∧ x ≤ hi ∧ RdAt w' R m ∧ Gr R w w'
def OddRes (n : Int) (R m : Nat) (w : World) (e : Ending) (w' : World) : Prop :=
  ∃ b : Bool, e = .returned (.bool b) ∧ (n < 1 → b = false) ∧ RdAt w' R (m + 1) ∧ Gr R w w'

set_option maxRecDepth 100000 in
set_option maxHeartbeats 800000 in
theorem odd_any (n : Int) (R m : Nat) (w : World) (h : RdAt w R m) (hm : m ≤ 1099511627776) (hn : n ≤ 4294967296) (h0 : 0 ≤ n) :
    Calls Try.prog 93 #[.pointer (some ⟨R, 0, none⟩), .int .i64 n] w (OddRes n R m w) := by
  have H := Lib.hid h
  clear h
  by_cases h1 : n < 1
  · go_enter Try.func93, Try.ntmps93
    go_wp2
    go_ret
    exact ⟨false, rfl, fun _ => rfl, H.out.up (by omega), Gr.refl _ _⟩
  · go_enter Try.func93, Try.ntmps93
    go_wp2_with fail
    refine (pick_any n R m _ H.out hm hn).mono ?_
    rintro e w1 ⟨x, rfl, hx0, hx1, hx2, hr, hg⟩
    have hx1 := hx1 (by omega)
    clear hx2
    go_wp2
    go_ret
    exact ⟨_, rfl, (by omega), hr, hg⟩

set_option maxRecDepth 100000 in
set_option maxHeartbeats 800000 in
theorem l20Key_any (R m : Nat) (w : World) (h : RdAt w R m) (hm : m ≤ 1000000000) :
    Calls Try.prog 91 #[.pointer (some ⟨R, 0, none⟩)] w (IntRes 0 31 R (m + 3) w) := by
  have H := Lib.hid h
  clear h
  go_enter Try.func91, Try.ntmps91
  go_wp2_with fail
  refine (pick_any 5 R m _ H.out (by omega) (by omega)).mono ?_
  rintro e w1 ⟨x, rfl, hx0, hx1, _, hr, hg⟩
  have hx1 := hx1 (by omega)
  go_wp2_with fail
  refine (pick_any 32 R (m + 1) _ hr (by omega) (by omega)).mono ?_
  rintro e w2 ⟨y, rfl, hy0, hy1, _, hr2, hg2⟩
  have hy1 := hy1 (by omega)
  have hr3 : RdAt (w2.alloc (.cells #[.int .i64 x, .int .i64 y] 3)) R (m + 2) := hr2.below ((Below.refl _ _).alloc (Nat.le_refl _) _)
  have hrow := RowIs.alloc (w := w2) #[.int .i64 x, .int .i64 y] 3
  have hlt := hr2.lt
  go_wp2_with fail
  refine (pick_any 4 R (m + 2) _ hr3 (by omega) (by omega)).mono ?_
  rintro e w3 ⟨z, rfl, hz0, hz1, _, hr4, hg4⟩
  have hz1 := hz1 (by omega)
  have hrow2 := hrow.gr hg4 (by omega)
  have q0 : w3.cell? ⟨w2.heap.size, 0, none⟩ = some (.int .i64 x) := hrow2.cell 0
  have q1 : w3.cell? ⟨w2.heap.size, 1, none⟩ = some (.int .i64 y) := hrow2.cell 1
  have HG := Lib.hid (((hg.trans hg2).alloc _).trans hg4)
  clear hrow hrow2
  rcases (show z / 3 = 0 ∨ z / 3 = 1 by omega) with e | e
  · have e2 : z < 3 := by omega
    go_wp2
    go_ret
    exact ⟨x, rfl, by omega, by omega, hr4, HG.out⟩
  · have e2 : 3 ≤ z := by omega
    go_wp2
    go_ret
    exact ⟨y, rfl, by omega, by omega, hr4, HG.out⟩

end Go.Proofs.Ytpomiglcplbdbaa
