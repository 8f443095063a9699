/- Plain laws of sums and of the tree over 32 values. No program is in sight. -/
import Derived.Test.YtpomiglcplbdbaaPutMath
import Derived.Test.YtpomiglcplbdbaaSum
namespace Go.Proofs.Ytpomiglcplbdbaa

theorem moreF_inj_s {s s' n : Int} (h0 : 0 ≤ s) (h1 : s ≤ 1000002) (h0' : 0 ≤ s') (h1' : s' ≤ 1000002) (h : moreF s n = moreF s' n) : s = s' := by
  unfold moreF at h; omega
theorem moreF_inj_n {s n n' : Int} (hd : n - n' < 1000003) (hd' : n' - n < 1000003) (h : moreF s n = moreF s n') : n = n' := by
  unfold moreF at h; omega

theorem foldl_more_inj (zs : List Int) : ∀ {s s' : Int}, 0 ≤ s → s ≤ 1000002 → 0 ≤ s' → s' ≤ 1000002 → zs.foldl moreF s = zs.foldl moreF s' → s = s' := by
  induction zs with
  | nil => intro s s' _ _ _ _ h; exact h
  | cons z zs ih =>
    intro s s' h0 h1 h0' h1' h
    have := ih (moreF_bd s z).1 (moreF_bd s z).2 (moreF_bd s' z).1 (moreF_bd s' z).2 h
    exact moreF_inj_s h0 h1 h0' h1' this

/-- The sum of two sums. -/
def nodeF (a b : Int) : Int := sumF 2 [a, b]
theorem nodeF_eq (a b : Int) : nodeF a b = moreF (moreF 19 a) b := rfl
theorem nodeF_bd (a b : Int) : 0 ≤ nodeF a b ∧ nodeF a b ≤ 1000002 := moreF_bd _ _
theorem nodeF_inj_l {a a' b : Int} (h0 : 0 ≤ a) (h1 : a ≤ 1000002) (h0' : 0 ≤ a') (h1' : a' ≤ 1000002) (h : nodeF a b = nodeF a' b) : a = a' := by
  rw [nodeF_eq, nodeF_eq] at h
  have := moreF_inj_s (moreF_bd _ _).1 (moreF_bd _ _).2 (moreF_bd _ _).1 (moreF_bd _ _).2 h
  exact moreF_inj_n (by omega) (by omega) this
theorem nodeF_inj_r {a b b' : Int} (h0 : 0 ≤ b) (h1 : b ≤ 1000002) (h0' : 0 ≤ b') (h1' : b' ≤ 1000002) (h : nodeF a b = nodeF a b') : b = b' := by
  rw [nodeF_eq, nodeF_eq] at h
  exact moreF_inj_n (by omega) (by omega) h

def pairUp : List Int → List Int
  | a :: b :: r => nodeF a b :: pairUp r
  | _ => []

theorem pairUp_length : ∀ (n : Nat) (l : List Int), l.length = 2 * n → (pairUp l).length = n := by
  intro n
  induction n with
  | zero => intro l h; have : l = [] := List.eq_nil_of_length_eq_zero (by omega); subst this; rfl
  | succ n ih =>
    intro l h
    match l, h with
    | a :: b :: r, h => simp only [pairUp, List.length_cons]; rw [ih r (by simp at h; omega)]

theorem pairUp_get : ∀ (l : List Int) (i : Nat), 2 * i + 1 < l.length → (pairUp l).getD i 0 = nodeF (l.getD (2 * i) 0) (l.getD (2 * i + 1) 0) := by
  intro l i
  induction i generalizing l with
  | zero =>
    intro h
    match l, h with
    | a :: b :: r, _ => rfl
  | succ i ih =>
    intro h
    match l, h with
    | a :: b :: r, h =>
      have := ih r (by simp at h; omega)
      rw [show 2 * (i + 1) = 2 * i + 1 + 1 from by omega]
      simp only [pairUp, List.getD_cons_succ]
      rw [this]

theorem pairUp_bd : ∀ (n : Nat) (l : List Int), l.length = 2 * n → ∀ x ∈ pairUp l, 0 ≤ x ∧ x ≤ 1000002 := by
  intro n
  induction n with
  | zero => intro l h; have : l = [] := List.eq_nil_of_length_eq_zero (by omega); subst this; simp [pairUp]
  | succ n ih =>
    intro l h
    match l, h with
    | a :: b :: r, h =>
      intro x hx
      rcases List.mem_cons.1 (show x ∈ nodeF a b :: pairUp r from hx) with rfl | hx
      · exact nodeF_bd a b
      · exact ih r (by simp at h; omega) x hx

def leafFrom (b : Int) : List Int → List Int
  | [] => []
  | x :: xs => sumF 1 [b, x] :: leafFrom (b + 1) xs
theorem leafFrom_length (b : Int) (xs : List Int) : (leafFrom b xs).length = xs.length := by
  induction xs generalizing b with
  | nil => rfl
  | cons x xs ih => simp [leafFrom, ih]
theorem leafFrom_get (b : Int) (xs : List Int) (k : Nat) (hk : k < xs.length) : (leafFrom b xs).getD k 0 = sumF 1 [b + k, xs.getD k 0] := by
  induction xs generalizing b k with
  | nil => simp at hk
  | cons x xs ih =>
    cases k with
    | zero => simp [leafFrom]
    | succ k =>
      simp only [leafFrom, List.getD_cons_succ]
      rw [ih (b + 1) k (by simpa using hk)]
      congr 2
      omega
theorem leafFrom_append (b : Int) (xs ys : List Int) : leafFrom b (xs ++ ys) = leafFrom b xs ++ leafFrom (b + xs.length) ys := by
  induction xs generalizing b with
  | nil => simp [leafFrom]
  | cons x xs ih =>
    have e : b + 1 + (xs.length : Int) = b + ((x :: xs).length : Int) := by simp; omega
    simp only [List.cons_append, leafFrom, ih, e]

theorem leafSum_bd (a b : Int) : 0 ≤ sumF 1 [a, b] ∧ sumF 1 [a, b] ≤ 1000002 := moreF_bd _ _
theorem leafSum_inj {k x y : Int} (hd : x - y < 1000003) (hd' : y - x < 1000003) (h : sumF 1 [k, x] = sumF 1 [k, y]) : x = y :=
  moreF_inj_n hd hd' (show moreF (moreF 18 k) x = moreF (moreF 18 k) y from h)

def levelF (v : List Int) : Nat → List Int
  | 0 => leafFrom 0 v
  | n + 1 => pairUp (levelF v n)

theorem levelF_length {v : List Int} (h : v.length = 32) : (levelF v 0).length = 32 ∧ (levelF v 1).length = 16 ∧ (levelF v 2).length = 8 ∧ (levelF v 3).length = 4 ∧ (levelF v 4).length = 2 ∧ (levelF v 5).length = 1 := by
  have h0 : (levelF v 0).length = 32 := by rw [levelF, leafFrom_length, h]
  have h1 : (levelF v 1).length = 16 := pairUp_length 16 _ h0
  have h2 : (levelF v 2).length = 8 := pairUp_length 8 _ h1
  have h3 : (levelF v 3).length = 4 := pairUp_length 4 _ h2
  have h4 : (levelF v 4).length = 2 := pairUp_length 2 _ h3
  exact ⟨h0, h1, h2, h3, h4, pairUp_length 1 _ h4⟩

theorem levelF_len {v : List Int} (h : v.length = 32) (n : Nat) (hn : n ≤ 5) : (levelF v n).length = 2 ^ (5 - n) := by
  have hl := levelF_length h
  match n, hn with
  | 0, _ => exact hl.1
  | 1, _ => exact hl.2.1
  | 2, _ => exact hl.2.2.1
  | 3, _ => exact hl.2.2.2.1
  | 4, _ => exact hl.2.2.2.2.1
  | 5, _ => exact hl.2.2.2.2.2

theorem levelF_bd {v : List Int} (h : v.length = 32) (n : Nat) (hn : n ≤ 5) : ∀ x ∈ levelF v n, 0 ≤ x ∧ x ≤ 1000002 := by
  cases n with
  | zero =>
    intro x hx
    obtain ⟨k, hk, rfl⟩ := List.getElem_of_mem hx
    have hk' : k < v.length := by rw [levelF, leafFrom_length] at hk; exact hk
    have := leafFrom_get 0 v k hk'
    rw [List.getD_eq_getElem?_getD, List.getElem?_eq_getElem (by rw [leafFrom_length]; exact hk')] at this
    have e : (levelF v 0)[k] = sumF 1 [0 + (k : Int), v.getD k 0] := this
    rw [e]
    exact leafSum_bd _ _
  | succ n =>
    have hl := levelF_len h n (by omega)
    have h2 : (2 : Nat) ^ (5 - n) = 2 * 2 ^ (5 - (n + 1)) := by
      rw [← Nat.pow_succ']; congr 1; omega
    exact pairUp_bd _ _ (by rw [hl, h2])

def rootF (v : List Int) : Int := (levelF v 5).getD 0 0
theorem rootF_bd {v : List Int} (h : v.length = 32) : 0 ≤ rootF v ∧ rootF v ≤ 1000002 := by
  have hl := (levelF_length h).2.2.2.2.2
  have := levelF_bd h 5 (by omega)
  unfold rootF
  rw [List.getD_eq_getElem?_getD, List.getElem?_eq_getElem (by omega)]
  exact this _ (List.getElem_mem _)

/-- The neighbour at a level. -/
def sib (key : Nat) (l : Nat) : Nat := if key / 2 ^ l % 2 = 1 then key / 2 ^ l - 1 else key / 2 ^ l + 1
def proofF (v : List Int) (key : Nat) : List Int := (List.range 5).map fun l => (levelF v l).getD (sib key l) 0

/-- A step of a proof's way up. -/
def stepF (key : Nat) (l : Nat) (sum other : Int) : Int := if key / 2 ^ l % 2 = 1 then nodeF other sum else nodeF sum other
theorem stepF_bd (key l : Nat) (a b : Int) : 0 ≤ stepF key l a b ∧ stepF key l a b ≤ 1000002 := by unfold stepF; split <;> exact nodeF_bd _ _
def upF (key : Nat) (sum : Int) : Nat → List Int → Int
  | _, [] => sum
  | l, x :: xs => upF key (stepF key l sum x) (l + 1) xs

theorem upF_inj (key : Nat) : ∀ (xs : List Int) (l : Nat) {a b : Int}, 0 ≤ a → a ≤ 1000002 → 0 ≤ b → b ≤ 1000002 → upF key a l xs = upF key b l xs → a = b := by
  intro xs
  induction xs with
  | nil => intro l a b _ _ _ _ h; exact h
  | cons x xs ih =>
    intro l a b h0 h1 h0' h1' h
    have := ih (l + 1) (stepF_bd _ _ _ _).1 (stepF_bd _ _ _ _).2 (stepF_bd _ _ _ _).1 (stepF_bd _ _ _ _).2 h
    unfold stepF at this
    split at this
    · exact nodeF_inj_r h0 h1 h0' h1' this
    · exact nodeF_inj_l h0 h1 h0' h1' this

theorem upF_bd (key : Nat) : ∀ (xs : List Int) (l : Nat) {a : Int}, 0 ≤ a → a ≤ 1000002 → 0 ≤ upF key a l xs ∧ upF key a l xs ≤ 1000002 := by
  intro xs
  induction xs with
  | nil => intro l a h0 h1; exact ⟨h0, h1⟩
  | cons x xs ih => intro l a h0 h1; exact ih (l + 1) (stepF_bd _ _ _ _).1 (stepF_bd _ _ _ _).2

theorem level_step {v : List Int} (h : v.length = 32) (key : Nat) (hk : key < 32) (l : Nat) (hl : l < 5) :
    stepF key l ((levelF v l).getD (key / 2 ^ l) 0) ((levelF v l).getD (sib key l) 0) = (levelF v (l + 1)).getD (key / 2 ^ (l + 1)) 0 := by
  have hlen := levelF_len h l (by omega)
  have hdiv : key / 2 ^ (l + 1) = key / 2 ^ l / 2 := by rw [Nat.pow_succ, Nat.div_div_eq_div_mul]
  have hlt : key / 2 ^ l < 2 ^ (5 - l) := by
    rw [Nat.div_lt_iff_lt_mul (Nat.pow_pos (by omega)), ← Nat.pow_add, show 5 - l + l = 5 from by omega]
    exact hk
  have hev : (2 : Nat) ^ (5 - l) = 2 * 2 ^ (4 - l) := by rw [← Nat.pow_succ']; congr 1; omega
  have hg := pairUp_get (levelF v l) (key / 2 ^ (l + 1)) (by rw [hlen, hdiv]; omega)
  rw [levelF, hg, hdiv]
  unfold stepF sib
  by_cases hb : key / 2 ^ l % 2 = 1
  · rw [if_pos hb, if_pos hb]
    congr 2 <;> omega
  · rw [if_neg hb, if_neg hb]
    congr 2 <;> omega

/-- A key's value leads to the root by its proof. -/
theorem root_up {v : List Int} (h : v.length = 32) (key : Nat) (hk : key < 32) : upF key (sumF 1 [(key : Int), v.getD key 0]) 0 (proofF v key) = rootF v := by
  have e0 : sumF 1 [(key : Int), v.getD key 0] = (levelF v 0).getD (key / 2 ^ 0) 0 := by
    have := leafFrom_get 0 v key (by omega)
    simp only [Int.zero_add] at this
    rw [Nat.pow_zero, Nat.div_one]
    exact this.symm
  have s0 := level_step h key hk 0 (by omega)
  have s1 := level_step h key hk 1 (by omega)
  have s2 := level_step h key hk 2 (by omega)
  have s3 := level_step h key hk 3 (by omega)
  have s4 := level_step h key hk 4 (by omega)
  have hp : proofF v key = [(levelF v 0).getD (sib key 0) 0, (levelF v 1).getD (sib key 1) 0, (levelF v 2).getD (sib key 2) 0, (levelF v 3).getD (sib key 3) 0, (levelF v 4).getD (sib key 4) 0] := rfl
  rw [hp, e0]
  simp only [upF]
  rw [s0, s1, s2, s3, s4, rootF]
  congr 1
  have : key / 2 ^ 5 = 0 := by omega
  simpa using this

/-- A key's proof does not hang on its own value. -/
theorem level_other {v : List Int} (h : v.length = 32) (key : Nat) (_hk : key < 32) (x : Int) : ∀ (l : Nat), l ≤ 5 → ∀ i, i ≠ key / 2 ^ l → (levelF (v.set key x) l).getD i 0 = (levelF v l).getD i 0 := by
  intro l
  induction l with
  | zero =>
    intro _ i hi
    rw [Nat.pow_zero, Nat.div_one] at hi
    by_cases hi2 : i < 32
    · have e1 := leafFrom_get 0 (v.set key x) i (by simp; omega)
      have e2 := leafFrom_get 0 v i (by omega)
      show (leafFrom 0 (v.set key x)).getD i 0 = (leafFrom 0 v).getD i 0
      rw [e1, e2]
      congr 3
      rw [List.getD_eq_getElem?_getD, List.getD_eq_getElem?_getD, List.getElem?_set_ne (by omega)]
    · have l1 := (levelF_length (v := v.set key x) (by simpa using h)).1
      have l2 := (levelF_length h).1
      rw [List.getD_eq_getElem?_getD, List.getD_eq_getElem?_getD, List.getElem?_eq_none (by omega), List.getElem?_eq_none (by omega)]
  | succ l ih =>
    intro hl i hi
    have hlen := levelF_len h l (by omega)
    have hlen' := levelF_len (v := v.set key x) (by simpa using h) l (by omega)
    have hdiv : key / 2 ^ (l + 1) = key / 2 ^ l / 2 := by rw [Nat.pow_succ, Nat.div_div_eq_div_mul]
    by_cases hi2 : 2 * i + 1 < 2 ^ (5 - l)
    · rw [levelF, levelF, pairUp_get _ _ (by rw [hlen']; exact hi2), pairUp_get _ _ (by rw [hlen]; exact hi2), ih (by omega) _ (by omega), ih (by omega) _ (by omega)]
    · have l1 := levelF_len (v := v.set key x) (by simpa using h) (l + 1) hl
      have l2 := levelF_len h (l + 1) hl
      have hev : (2 : Nat) ^ (5 - l) = 2 * 2 ^ (5 - (l + 1)) := by rw [← Nat.pow_succ']; congr 1; omega
      rw [List.getD_eq_getElem?_getD, List.getD_eq_getElem?_getD, List.getElem?_eq_none (by omega), List.getElem?_eq_none (by omega)]

theorem proof_set {v : List Int} (h : v.length = 32) (key : Nat) (hk : key < 32) (x : Int) : proofF (v.set key x) key = proofF v key := by
  unfold proofF
  apply List.map_congr_left
  intro l hl
  have hl5 : l < 5 := by simpa using hl
  refine level_other h key hk x l (by omega) _ ?_
  unfold sib
  split <;> omega

end Go.Proofs.Ytpomiglcplbdbaa
