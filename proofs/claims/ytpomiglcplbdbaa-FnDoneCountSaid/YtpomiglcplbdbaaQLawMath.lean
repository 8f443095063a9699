/- Plain laws for the laws: sums, leaves, stores, totals, changed keys. No program is in sight. -/
import Derived.Test.YtpomiglcplbdbaaQBase
import Derived.Test.YtpomiglcplbdbaaQRd
import Derived.Test.YtpomiglcplbdbaaQPut2
import Derived.Test.YtpomiglcplbdbaaQLeaf
namespace Go.Proofs.Ytpomiglcplbdbaa

/-! ### sums -/
theorem sumOfF_elim {tag : Int} {zs : List Int} (h : 0 ≤ sumOfF tag zs) : (0 ≤ tag ∧ tag ≤ 9) ∧ zs.all okSummed = true ∧ sumOfF tag zs = sumF tag zs := by
  unfold sumOfF at h ⊢
  cases h1 : inB tag 0 9 <;> cases h2 : zs.all okSummed
  case true.true => exact ⟨inB_true.1 h1, rfl, by simp⟩
  all_goals (rw [h1, h2] at h; simp at h)
theorem sumOfF_or (tag : Int) (zs : List Int) : sumOfF tag zs = -1 ∨ (0 ≤ sumOfF tag zs ∧ sumOfF tag zs ≤ 1000002) := by
  by_cases h : 0 ≤ sumOfF tag zs
  · obtain ⟨h1, h2, h3⟩ := sumOfF_elim h
    right
    rw [h3]
    exact sumF_bd tag h1.1 h1.2 zs
  · left
    unfold sumOfF at h ⊢
    split
    · next h4 =>
      rw [if_pos h4] at h
      have : 0 ≤ sumF tag zs := (sumF_bd tag (by simp at h4; exact (inB_true.1 h4.1).1) (by simp at h4; exact (inB_true.1 h4.1).2) zs).1
      omega
    · rfl
theorem sumOfF_next {tag : Int} {zs : List Int} (h : 0 ≤ sumOfF tag zs) : sumOfF ((tag + 1) % 10) zs ≠ sumOfF tag zs := by
  obtain ⟨h1, h2, h3⟩ := sumOfF_elim h
  have e : sumOfF ((tag + 1) % 10) zs = sumF ((tag + 1) % 10) zs := by
    unfold sumOfF
    rw [h2, inB_true.2 (by omega)]; rfl
  rw [e, h3]
  intro h4
  have := foldl_more_inj zs (by omega) (by omega) (by omega) (by omega) (show zs.foldl moreF (17 + (tag + 1) % 10) = zs.foldl moreF (17 + tag) from h4)
  omega
theorem all_set {zs : List Int} (h : zs.all okSummed = true) (k : Nat) {x : Int} (hx : okSummed x = true) : (zs.set k x).all okSummed = true := by
  rw [List.all_eq_true] at h ⊢
  intro y hy
  rcases List.mem_or_eq_of_mem_set hy with h1 | h1
  · exact h y h1
  · rw [h1]; exact hx
theorem sumF_set_inj (zs : List Int) : ∀ (s : Int) (k : Nat) (h : k < zs.length) (x : Int), 0 ≤ s → s ≤ 1000002 → x - zs[k] < 1000003 → zs[k] - x < 1000003 → (zs.set k x).foldl moreF s = zs.foldl moreF s → x = zs[k] := by
  induction zs with
  | nil => intro s k h; simp at h
  | cons z zs ih =>
    intro s k h x h0 h1 h2 h3 h4
    cases k with
    | zero =>
      simp only [List.set_cons_zero, List.foldl_cons, List.getElem_cons_zero] at *
      have := foldl_more_inj zs (moreF_bd _ _).1 (moreF_bd _ _).2 (moreF_bd _ _).1 (moreF_bd _ _).2 h4
      exact moreF_inj_n h2 h3 this
    | succ k =>
      simp only [List.set_cons_succ, List.foldl_cons, List.getElem_cons_succ] at *
      exact ih _ k (by simpa using h) x (moreF_bd _ _).1 (moreF_bd _ _).2 h2 h3 h4
theorem sumOfF_flip {tag : Int} {zs : List Int} (h : 0 ≤ sumOfF tag zs) (k : Nat) (hk : k < zs.length) (hx : flip1 zs[k] ≤ 2000000) : sumOfF tag (zs.set k (flip1 zs[k])) ≠ sumOfF tag zs := by
  obtain ⟨h1, h2, h3⟩ := sumOfF_elim h
  have hz := List.all_eq_true.1 h2 zs[k] (List.getElem_mem hk)
  have hz' := inB_true.1 hz
  have hf := flip1_bd zs[k] hz'.1
  have e : sumOfF tag (zs.set k (flip1 zs[k])) = sumF tag (zs.set k (flip1 zs[k])) := by
    unfold sumOfF
    rw [all_set h2 k (inB_true.2 ⟨hf.1, hx⟩), inB_true.2 h1]; rfl
  rw [e, h3]
  intro h4
  exact flip1_ne zs[k] (sumF_set_inj zs (17 + tag) k hk _ (by omega) (by omega) (by omega) (by omega) h4)
theorem sumOfF_all {tag : Int} {zs : List Int} (h : 0 ≤ sumOfF tag zs) (k : Nat) (hk : k < zs.length) : 0 ≤ zs[k] ∧ zs[k] ≤ 2000000 :=
  inB_true.1 (List.all_eq_true.1 (sumOfF_elim h).2.1 zs[k] (List.getElem_mem hk))
theorem sumOfF_more {tag n : Int} {zs : List Int} (h : 0 ≤ sumOfF tag zs) (h0 : 0 ≤ n) (h1 : n ≤ 2000000) : sumMoreF (sumOfF tag zs) n = sumOfF tag (zs ++ [n]) := by
  obtain ⟨h2, h3, h4⟩ := sumOfF_elim h
  have hb := sumF_bd tag h2.1 h2.2 zs
  have e : sumOfF tag (zs ++ [n]) = sumF tag (zs ++ [n]) := by
    unfold sumOfF
    have : (zs ++ [n]).all okSummed = true := by rw [List.all_append, h3]; simp [okSummed, inB_true.2 (show (0 : Int) ≤ n ∧ n ≤ 2000000 from ⟨h0, h1⟩)]
    rw [this, inB_true.2 h2]; rfl
  rw [e, h4, sumMoreF, inB_true.2 hb, inB_true.2 ⟨h0, h1⟩]
  simp [sumF, List.foldl_append]
theorem sumMoreF_or (s n : Int) : sumMoreF s n = -1 ∨ 0 ≤ sumMoreF s n := by
  unfold sumMoreF
  split
  · right; exact (moreF_bd _ _).1
  · left; rfl

/-! ### leaves -/
theorem leafF_elim {k v : Int} (h : 0 ≤ leafF k v) : (0 ≤ k ∧ k ≤ 31) ∧ (0 ≤ v ∧ v ≤ 1000000) ∧ leafF k v = sumF 1 [k, v] := by
  unfold leafF at h ⊢
  cases h1 : inB k 0 31 <;> cases h2 : inB v 0 1000000
  case true.true => exact ⟨inB_true.1 h1, inB_true.1 h2, by simp⟩
  all_goals (rw [h1, h2] at h; simp at h)
theorem leafF_or (k v : Int) : leafF k v = -1 ∨ (0 ≤ leafF k v ∧ leafF k v ≤ 1000002) := by
  by_cases h : 0 ≤ leafF k v
  · right; obtain ⟨_, _, h3⟩ := leafF_elim h; rw [h3]; exact leafSum_bd k v
  · left
    unfold leafF at h ⊢
    split
    · next h4 => rw [if_pos h4] at h; have := (leafSum_bd k v).1; omega
    · rfl
theorem leafF_sum {k v : Int} (h : 0 ≤ leafF k v) : leafF k v = sumOfF 1 [k, v] := by
  obtain ⟨h1, h2, h3⟩ := leafF_elim h
  rw [h3]
  unfold sumOfF
  rw [show [k, v].all okSummed = true by simp [okSummed, inB_true.2 (show (0 : Int) ≤ k ∧ k ≤ 2000000 by omega), inB_true.2 (show (0 : Int) ≤ v ∧ v ≤ 2000000 by omega)], inB_true.2 (by omega)]
  rfl
theorem leafF_value {k v : Int} (h : 0 ≤ leafF k v) : leafF k (flip1 v) ≠ leafF k v := by
  obtain ⟨h1, h2, h3⟩ := leafF_elim h
  have hf := flip1_bd v h2.1
  rcases leafF_or k (flip1 v) with h4 | h4
  · omega
  · obtain ⟨_, _, h5⟩ := leafF_elim h4.1
    rw [h5, h3]
    intro h6
    exact flip1_ne v (leafSum_inj (by omega) (by omega) h6)
theorem leafF_key {k v : Int} (h : 0 ≤ leafF k v) : leafF (flip1 k) v ≠ leafF k v := by
  obtain ⟨h1, h2, h3⟩ := leafF_elim h
  have hf := flip1_bd k h1.1
  rcases leafF_or (flip1 k) v with h4 | h4
  · omega
  · obtain ⟨_, _, h5⟩ := leafF_elim h4.1
    rw [h5, h3]
    intro h6
    have h7 := moreF_inj_s (moreF_bd _ _).1 (moreF_bd _ _).2 (moreF_bd _ _).1 (moreF_bd _ _).2 (show moreF (moreF 18 (flip1 k)) v = moreF (moreF 18 k) v from h6)
    exact flip1_ne k (moreF_inj_n (by omega) (by omega) h7)

/-! ### stores -/
theorem entsOk_append {least last : Int} {a b : List Ent} (h : entsOk least last (a ++ b) = true) : entsOk least last a = true := by
  induction a generalizing last with
  | nil => rfl
  | cons e es ih =>
    rw [List.cons_append, entsOk_cons] at h
    rw [entsOk_cons]
    exact ⟨h.1, h.2.1, ih h.2.2⟩
theorem entsOk_take {least last : Int} {a : List Ent} (h : entsOk least last a = true) (k : Nat) : entsOk least last (a.take k) = true := by
  rw [← List.take_append_drop k a] at h
  exact entsOk_append h
theorem entsOk_32 (least last : Int) (a : List Ent) (x : Int) : entsOk least last (a ++ [(32, x)]) = false := by
  induction a generalizing last with
  | nil => simp [entsOk, inB]
  | cons e es ih => simp [entsOk, ih]
theorem putRes_ok {es : List Ent} (h : entsOk 1 (-1) es = true) (k v : Int) : entsOk 1 (-1) (putRes es k v) = true := by
  unfold putRes
  rw [if_pos h]
  split
  · next h2 =>
    rw [Bool.and_eq_true] at h2
    exact storeOf_ok (vOk_set (toV_ok h (by omega)) _ (inB_true.1 h2.2).1 (inB_true.1 h2.2).2)
  · exact h
theorem putOk_elim {es : List Ent} {k v : Int} (h : putOk es k v = true) : entsOk 1 (-1) es = true ∧ (0 ≤ k ∧ k ≤ 31) ∧ (0 ≤ v ∧ v ≤ 1000000) := by
  simp only [putOk, Bool.and_eq_true] at h
  exact ⟨h.1.1, inB_true.1 h.1.2, inB_true.1 h.2⟩
theorem putOk_intro {es : List Ent} {k v : Int} (h : entsOk 1 (-1) es = true) (h1 : 0 ≤ k ∧ k ≤ 31) (h2 : 0 ≤ v ∧ v ≤ 1000000) : putOk es k v = true := by
  simp [putOk, h, inB_true.2 h1, inB_true.2 h2]
theorem putRes_not {es : List Ent} {k v : Int} (h : putOk es k v = false) : putRes es k v = [] ∨ putRes es k v = es := by
  unfold putRes
  split
  · split
    · next h1 h2 => rw [Bool.and_eq_true] at h2; simp [putOk, h1, h2.1, h2.2] at h
    · right; rfl
  · left; rfl
theorem toV_put {es : List Ent} {k v : Int} (h : putOk es k v = true) : toV (putRes es k v) = (toV es).set k.toNat v := by
  obtain ⟨h0, h1, h2⟩ := putOk_elim h
  unfold putRes
  rw [if_pos h0, inB_true.2 h1, inB_true.2 h2]
  exact toV_storeOf (vOk_set (toV_ok h0 (by omega)) _ h2.1 h2.2)
theorem valueAtF_get {es : List Ent} (h : entsOk 1 (-1) es = true) (k : Nat) (hk : k ≤ 31) : valueAtF es (k : Int) = (toV es).getD k 0 := by
  rw [toV_get h]
  unfold valueAtF
  rw [h, inB_true.2 (by omega)]; rfl
theorem valueAtF_bd {es : List Ent} (h : entsOk 1 (-1) es = true) {k : Int} (hk : 0 ≤ k ∧ k ≤ 31) : 0 ≤ valueAtF es k ∧ valueAtF es k ≤ 1000000 := by
  obtain ⟨n, rfl⟩ := Int.eq_ofNat_of_zero_le hk.1
  rw [valueAtF_get h n (by omega)]
  exact vOk_get (toV_ok h (by omega)) n
theorem valueAtF_look {es : List Ent} (h : entsOk 1 (-1) es = true) {k : Int} (hk : 0 ≤ k ∧ k ≤ 31) : valueAtF es k = valAt es k := by
  unfold valueAtF; rw [h, inB_true.2 hk]; rfl
theorem valueAtF_no {es : List Ent} {k : Int} (h : ¬ (entsOk 1 (-1) es = true ∧ 0 ≤ k ∧ k ≤ 31)) : valueAtF es k = -1 := by
  unfold valueAtF
  cases h1 : entsOk 1 (-1) es
  · rfl
  · have : inB k 0 31 = false := inB_false.2 (fun h2 => h ⟨h1, h2⟩)
    rw [this]; rfl
theorem valueAtF_put {es : List Ent} {k v : Int} (h : putOk es k v = true) {j : Int} (hj : 0 ≤ j ∧ j ≤ 31) : valueAtF (putRes es k v) j = if j = k then v else valueAtF es j := by
  obtain ⟨h0, h1, h2⟩ := putOk_elim h
  obtain ⟨n, rfl⟩ := Int.eq_ofNat_of_zero_le hj.1
  rw [valueAtF_get (putRes_ok h0 k v) n (by omega), valueAtF_get h0 n (by omega), toV_put h]
  rw [List.getD_eq_getElem?_getD, List.getD_eq_getElem?_getD]
  by_cases e : (n : Int) = k
  · rw [if_pos e, show k.toNat = n from by omega, List.getElem?_set_self (by rw [toV_length]; omega)]; rfl
  · rw [if_neg e, List.getElem?_set_ne (by omega)]
theorem put_back {es : List Ent} {k v : Int} (h : putOk es k v = true) : putOk (putRes es k v) k (valueAtF es k) = true ∧ putRes (putRes es k v) k (valueAtF es k) = es := by
  obtain ⟨h0, h1, h2⟩ := putOk_elim h
  have hp : putOk (putRes es k v) k (valueAtF es k) = true := putOk_intro (putRes_ok h0 _ _) h1 (valueAtF_bd h0 h1)
  refine ⟨hp, toV_inj (putRes_ok (putRes_ok h0 _ _) _ _) h0 ?_⟩
  rw [toV_put hp, toV_put h]
  obtain ⟨n, rfl⟩ := Int.eq_ofNat_of_zero_le h1.1
  rw [valueAtF_get h0 n (by omega)]
  apply List.ext_getElem
  · simp
  · intro i h3 h4
    rw [List.getElem_set, List.getElem_set]
    by_cases e : ((n : Int)).toNat = i
    · rw [if_pos e]
      have : n = i := by omega
      subst this
      rw [List.getD_eq_getElem?_getD, List.getElem?_eq_getElem h4]; rfl
    · rw [if_neg e, if_neg e]
theorem put_order {es : List Ent} {k v j u : Int} (h : putOk es k v = true) (h2 : putOk es j u = true) (hne : k ≠ j) : putRes (putRes es k v) j u = putRes (putRes es j u) k v := by
  obtain ⟨h0, a1, a2⟩ := putOk_elim h
  obtain ⟨_, b1, b2⟩ := putOk_elim h2
  have p1 : putOk (putRes es k v) j u = true := putOk_intro (putRes_ok h0 _ _) b1 b2
  have p2 : putOk (putRes es j u) k v = true := putOk_intro (putRes_ok h0 _ _) a1 a2
  refine toV_inj (putRes_ok (putRes_ok h0 _ _) _ _) (putRes_ok (putRes_ok h0 _ _) _ _) ?_
  rw [toV_put p1, toV_put h, toV_put p2, toV_put h2]
  exact List.set_comm _ _ (by omega)

/-! ### totals -/
theorem sumV_foldl (es : List Ent) : ∀ (s : Int), es.foldl (fun s e => s + e.2) s = s + sumV es := by
  induction es with
  | nil => intro s; simp [sumV]
  | cons e es ih =>
    intro s
    unfold sumV
    rw [List.foldl_cons, List.foldl_cons, ih, ih]
    omega
theorem sumV_cons (e : Ent) (es : List Ent) : sumV (e :: es) = e.2 + sumV es := by
  unfold sumV
  rw [List.foldl_cons, sumV_foldl]
  simp [sumV]
theorem sumV_storeFrom (xs : List Int) (hx : ∀ x ∈ xs, 0 ≤ x) : ∀ b : Int, sumV (storeFrom b xs) = xs.sum := by
  induction xs with
  | nil => intro b; rfl
  | cons x xs ih =>
    intro b
    have h0 := hx x (by simp)
    have := ih (fun y hy => hx y (by simp [hy])) (b + 1)
    unfold storeFrom
    rw [List.sum_cons]
    split
    · rw [sumV_cons, this]
    · rw [this]; omega
theorem sumV_toV {es : List Ent} (h : entsOk 1 (-1) es = true) : sumV es = (toV es).sum := by
  have hv := toV_ok h (by omega)
  have := sumV_storeFrom (toV es) (fun x hx => (hv.2 x hx).1) 0
  rw [← this]
  show sumV es = sumV (storeOf (toV es))
  rw [storeOf_toV h]
theorem sum_set (v : List Int) : ∀ (k : Nat) (x : Int), k < v.length → (v.set k x).sum = v.sum - v.getD k 0 + x := by
  induction v with
  | nil => intro k x h; simp at h
  | cons a v ih =>
    intro k x h
    cases k with
    | zero => simp; omega
    | succ k =>
      have := ih k x (by simpa using h)
      simp only [List.set_cons_succ, List.sum_cons, List.getD_cons_succ, this]
      omega
theorem total_put {es : List Ent} {k v : Int} (h : putOk es k v = true) : totalF (putRes es k v) = totalF es - valueAtF es k + v := by
  obtain ⟨h0, h1, h2⟩ := putOk_elim h
  have hr := putRes_ok h0 k v
  unfold totalF
  rw [if_pos hr, if_pos h0, sumV_toV hr, sumV_toV h0, toV_put h]
  obtain ⟨n, rfl⟩ := Int.eq_ofNat_of_zero_le h1.1
  rw [valueAtF_get h0 n (by omega)]
  rw [show ((n : Int)).toNat = n from by omega]
  exact sum_set _ _ _ (by rw [toV_length]; omega)
theorem sumV_ge {last : Int} {es : List Ent} (h : entsOk 1 last es = true) : (es.length : Int) ≤ sumV es := by
  induction es generalizing last with
  | nil => simp [sumV]
  | cons e es ih =>
    rw [entsOk_cons] at h
    have := ih h.2.2
    rw [sumV_cons, List.length_cons]
    omega
theorem sumV_le {last : Int} {es : List Ent} (h : entsOk 1 last es = true) : sumV es ≤ es.length * 1000000 := by
  induction es generalizing last with
  | nil => simp [sumV]
  | cons e es ih =>
    rw [entsOk_cons] at h
    have := ih h.2.2
    rw [sumV_cons, List.length_cons]
    omega
theorem totalF_or (es : List Ent) : (totalF es = -1 ∧ entsOk 1 (-1) es = false) ∨ (entsOk 1 (-1) es = true ∧ (es.length : Int) ≤ totalF es ∧ totalF es ≤ 32000000) := by
  unfold totalF
  cases h : entsOk 1 (-1) es
  · left; simp
  · right
    have h1 := sumV_ge h
    have h2 := sumV_le h
    have h3 := entsOk_length h
    simp
    omega

/-! ### changed keys -/
theorem changedF_comm (a b : List Ent) : changedF a b = changedF b a := by
  unfold changedF
  rw [Bool.and_comm]
  congr 1
  unfold diffF
  congr 1
  funext k
  congr 1
  rw [eq_iff_iff]
  exact eq_comm
theorem changedF_self (a : List Ent) : changedF a a = [] := by
  unfold changedF
  split
  · unfold diffF
    simp
  · rfl
/-- Puts of the second store's values, one key after the other. -/
def putKeys (b : List Ent) (ks : List Int) (s : List Ent) : List Ent := ks.foldl (fun s k => putRes s k (valueAtF b k)) s
theorem putKeys_snoc (b : List Ent) (ks : List Int) (s : List Ent) (j : Nat) (h : j < ks.length) : putKeys b (ks.take (j + 1)) s = putRes (putKeys b (ks.take j) s) ks[j] (valueAtF b ks[j]) := by
  unfold putKeys
  rw [List.take_succ_eq_append_getElem h, List.foldl_append]; rfl
theorem putKeys_ok (b : List Ent) (ks : List Int) : ∀ {s : List Ent}, entsOk 1 (-1) s = true → entsOk 1 (-1) (putKeys b ks s) = true := by
  induction ks with
  | nil => intro s h; exact h
  | cons k ks ih => intro s h; exact ih (putRes_ok h _ _)
theorem putKeys_get {b : List Ent} (hb : entsOk 1 (-1) b = true) (ks : List Int) (hk : ∀ k ∈ ks, 0 ≤ k ∧ k ≤ 31) : ∀ {s : List Ent}, entsOk 1 (-1) s = true → ∀ j : Nat, j ≤ 31 →
    (toV (putKeys b ks s)).getD j 0 = if (j : Int) ∈ ks then (toV b).getD j 0 else (toV s).getD j 0 := by
  induction ks with
  | nil => intro s h j hj; simp [putKeys]
  | cons k ks ih =>
    intro s h j hj
    have hk0 := hk k (by simp)
    have hp : putOk s k (valueAtF b k) = true := putOk_intro h hk0 (valueAtF_bd hb hk0)
    have e1 := ih (fun x hx => hk x (by simp [hx])) (putRes_ok h k (valueAtF b k)) j hj
    have e2 : putKeys b (k :: ks) s = putKeys b ks (putRes s k (valueAtF b k)) := rfl
    rw [e2, e1, toV_put hp]
    by_cases h1 : (j : Int) ∈ ks
    · simp [h1]
    · simp only [h1, if_false]
      rw [List.getD_eq_getElem?_getD]
      by_cases h2 : (j : Int) = k
      · subst h2
        rw [show ((j : Int)).toNat = j from by omega, List.getElem?_set_self (by rw [toV_length]; omega)]
        simp [valueAtF_get hb j hj]
      · rw [List.getElem?_set_ne (by omega)]
        simp [h1, h2]
theorem diffF_mem (v u : List Int) (n : Nat) (k : Int) : k ∈ diffF v u n ↔ ∃ j : Nat, j < n ∧ k = j ∧ v.getD j 0 ≠ u.getD j 0 := by
  unfold diffF
  simp only [List.mem_flatMap, List.mem_range]
  constructor
  · rintro ⟨j, hj, h⟩
    split at h
    · simp at h
    · next hne => exact ⟨j, hj, by simpa using h, hne⟩
  · rintro ⟨j, hj, rfl, hne⟩
    exact ⟨j, hj, by rw [if_neg hne]; simp⟩
theorem changedF_bd {a b : List Ent} : ∀ k ∈ changedF a b, 0 ≤ k ∧ k ≤ 31 := by
  intro k hk
  unfold changedF at hk
  split at hk
  · obtain ⟨j, hj, rfl, _⟩ := (diffF_mem _ _ _ _).1 hk
    omega
  · simp at hk
theorem putKeys_changed {a b : List Ent} (ha : entsOk 1 (-1) a = true) (hb : entsOk 1 (-1) b = true) : putKeys b (changedF a b) a = b := by
  refine toV_inj (putKeys_ok b _ ha) hb ?_
  apply List.ext_getElem
  · rw [toV_length, toV_length]
  · intro j h1 h2
    have hj : j ≤ 31 := by rw [toV_length] at h1; omega
    have e := putKeys_get hb (changedF a b) changedF_bd ha j hj
    rw [List.getD_eq_getElem?_getD, List.getElem?_eq_getElem h1] at e
    rw [List.getD_eq_getElem?_getD (l := toV b), List.getElem?_eq_getElem h2] at e
    simp only [Option.getD_some] at e
    rw [e]
    split
    · rfl
    · next hn =>
      have : (toV a).getD j 0 = (toV b).getD j 0 := by
        refine Classical.byContradiction fun hne => hn ?_
        unfold changedF
        rw [ha, hb]
        exact (diffF_mem _ _ _ _).2 ⟨j, by omega, rfl, hne⟩
      rw [this, List.getD_eq_getElem?_getD, List.getElem?_eq_getElem h2]; rfl

end Go.Proofs.Ytpomiglcplbdbaa
