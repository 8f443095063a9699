/- Plain laws of stores: lists of entries with ascending keys, and vectors of 32 values. No program is in sight. -/
import Derived.Test.YtpomiglcplbdbaaMem
namespace Go.Proofs.Ytpomiglcplbdbaa

/-- Keys ascend from above last, within 0..31; values are within least..1000000. -/
def entsOk (least : Int) : Int → List Ent → Bool
  | _, [] => true
  | last, e :: es => inB e.1 (last + 1) 31 && inB e.2 least 1000000 && entsOk least e.1 es

theorem entsOk_cons {least last : Int} {e : Ent} {es : List Ent} : entsOk least last (e :: es) = true ↔ (last + 1 ≤ e.1 ∧ e.1 ≤ 31) ∧ (least ≤ e.2 ∧ e.2 ≤ 1000000) ∧ entsOk least e.1 es = true := by
  simp only [entsOk, Bool.and_eq_true, inB_true, and_assoc]

theorem entsOk_mono {least last last' : Int} {es : List Ent} (h : entsOk least last es = true) (hl : last' ≤ last) : entsOk least last' es = true := by
  cases es with
  | nil => rfl
  | cons e es =>
    rw [entsOk_cons] at h ⊢
    exact ⟨⟨by omega, h.1.2⟩, h.2⟩

theorem entsOk_least {least least' last : Int} {es : List Ent} (h : entsOk least last es = true) (hl : least' ≤ least) : entsOk least' last es = true := by
  induction es generalizing last with
  | nil => rfl
  | cons e es ih =>
    rw [entsOk_cons] at h ⊢
    exact ⟨h.1, ⟨by omega, h.2.1.2⟩, ih h.2.2⟩

theorem entsOk_length {least last : Int} {es : List Ent} (h : entsOk least last es = true) (hl : -1 ≤ last := by omega) : es.length ≤ 32 := by
  have key : ∀ (last : Int) (es : List Ent), entsOk least last es = true → last ≤ 31 → (es.length : Int) ≤ 31 - last := by
    intro last es
    induction es generalizing last with
    | nil => intro _ h0; simp; omega
    | cons e es ih =>
      intro h h0
      rw [entsOk_cons] at h
      have := ih e.1 h.2.2 (by omega)
      simp only [List.length_cons]
      omega
  cases es with
  | nil => simp
  | cons e es =>
    have h1 := entsOk_cons.1 h
    have := key e.1 es h1.2.2 (by omega)
    simp only [List.length_cons]
    omega

/-- The value of the first entry with the key. -/
def look (es : List Ent) (k : Int) : Option Int := (es.find? (fun e => e.1 == k)).map (·.2)
theorem look_nil (k : Int) : look [] k = none := rfl
theorem look_cons (e : Ent) (es : List Ent) (k : Int) : look (e :: es) k = if e.1 = k then some e.2 else look es k := by
  unfold look
  by_cases h : e.1 = k
  · simp [h]
  · have : (e.1 == k) = false := by simp [h]
    simp [this, h]

def valAt (es : List Ent) (k : Int) : Int := (look es k).getD 0

theorem look_low {least last : Int} {es : List Ent} (h : entsOk least last es = true) {k : Int} (hk : k ≤ last) : look es k = none := by
  induction es generalizing last with
  | nil => rfl
  | cons e es ih =>
    rw [entsOk_cons] at h
    rw [look_cons, if_neg (by omega)]
    exact ih h.2.2 (by omega)

theorem look_bd {least last : Int} {es : List Ent} (h : entsOk least last es = true) {k v : Int} (hk : look es k = some v) : (last < k ∧ k ≤ 31) ∧ least ≤ v ∧ v ≤ 1000000 := by
  induction es generalizing last with
  | nil => simp [look_nil] at hk
  | cons e es ih =>
    rw [entsOk_cons] at h
    rw [look_cons] at hk
    by_cases he : e.1 = k
    · rw [if_pos he] at hk
      injection hk with hk
      omega
    · rw [if_neg he] at hk
      have := ih h.2.2 hk
      omega

/-- Entries with the same look are the same. -/
theorem look_ext {least last : Int} {a b : List Ent} (ha : entsOk least last a = true) (hb : entsOk least last b = true) (h : ∀ k, look a k = look b k) : a = b := by
  induction a generalizing b last with
  | nil =>
    cases b with
    | nil => rfl
    | cons e es => have := h e.1; rw [look_nil, look_cons, if_pos rfl] at this; cases this
  | cons x xs ih =>
    cases b with
    | nil => have := h x.1; rw [look_nil, look_cons, if_pos rfl] at this; cases this
    | cons y ys =>
      have ha' := entsOk_cons.1 ha
      have hb' := entsOk_cons.1 hb
      have hxy : x.1 = y.1 := by
        rcases Int.lt_trichotomy x.1 y.1 with hlt | heq | hgt
        · have h1 := h x.1
          rw [look_cons, if_pos rfl, look_cons, if_neg (by omega), look_low hb'.2.2 (by omega)] at h1
          cases h1
        · exact heq
        · have h1 := h y.1
          rw [look_cons, if_neg (by omega), look_low ha'.2.2 (by omega), look_cons, if_pos rfl] at h1
          cases h1
      have hv : x.2 = y.2 := by
        have h1 := h x.1
        rw [look_cons, if_pos rfl, look_cons, if_pos hxy.symm] at h1
        injection h1
      have hx : x = y := Prod.ext hxy hv
      subst hx
      congr 1
      refine ih ha'.2.2 hb'.2.2 (fun k => ?_)
      have h1 := h k
      rw [look_cons, look_cons] at h1
      by_cases hk : x.1 = k
      · subst hk
        rw [look_low ha'.2.2 (Int.le_refl _), look_low hb'.2.2 (Int.le_refl _)]
      · rwa [if_neg hk, if_neg hk] at h1

/-- Vectors: values of all keys. -/
def setAll (v : List Int) (es : List Ent) : List Int := es.foldl (fun v e => v.set e.1.toNat e.2) v
def zeros : List Int := List.replicate 32 0
def toV (es : List Ent) : List Int := setAll zeros es
def vOk (v : List Int) : Prop := v.length = 32 ∧ ∀ x ∈ v, 0 ≤ x ∧ x ≤ 1000000

theorem setAll_cons (v : List Int) (e : Ent) (es : List Ent) : setAll v (e :: es) = setAll (v.set e.1.toNat e.2) es := rfl
theorem setAll_append (v : List Int) (a b : List Ent) : setAll v (a ++ b) = setAll (setAll v a) b := by simp [setAll]
theorem setAll_length (v : List Int) (es : List Ent) : (setAll v es).length = v.length := by
  induction es generalizing v with
  | nil => rfl
  | cons e es ih => rw [setAll_cons, ih, List.length_set]

theorem setAll_get {least last : Int} {es : List Ent} (h : entsOk least last es = true) (hl : -1 ≤ last) (v : List Int) (hv : v.length = 32) (k : Nat) :
    (setAll v es).getD k 0 = (look es k).getD (v.getD k 0) := by
  induction es generalizing last v with
  | nil => rfl
  | cons e es ih =>
    rw [entsOk_cons] at h
    rw [setAll_cons, ih h.2.2 (by omega) _ (by simpa using hv), look_cons]
    by_cases he : e.1 = (k : Int)
    · rw [if_pos he, look_low h.2.2 (by omega)]
      have : e.1.toNat = k := by omega
      rw [this]
      simp only [Option.getD_none, Option.getD_some, List.getD_eq_getElem?_getD]
      rw [List.getElem?_set_self (by omega)]
      rfl
    · rw [if_neg he]
      have : e.1.toNat ≠ k := by omega
      simp only [List.getD_eq_getElem?_getD]
      rw [List.getElem?_set_ne this]

theorem toV_length (es : List Ent) : (toV es).length = 32 := by unfold toV; rw [setAll_length]; rfl
theorem toV_get {least : Int} {es : List Ent} (h : entsOk least (-1) es = true) (k : Nat) : (toV es).getD k 0 = valAt es k := by
  unfold toV
  rw [setAll_get h (Int.le_refl _) zeros rfl, valAt]
  congr 1
  rw [zeros, List.getD_eq_getElem?_getD, List.getElem?_replicate]
  split <;> rfl

theorem setAll_ok {least last : Int} {es : List Ent} (h : entsOk least last es = true) (h0 : 0 ≤ least) {v : List Int} (hv : vOk v) : vOk (setAll v es) := by
  induction es generalizing last v with
  | nil => exact hv
  | cons e es ih =>
    rw [entsOk_cons] at h
    rw [setAll_cons]
    refine ih h.2.2 ⟨by simpa using hv.1, fun x hx => ?_⟩
    rcases List.mem_or_eq_of_mem_set hx with h1 | h1
    · exact hv.2 x h1
    · subst h1; omega
theorem zeros_ok : vOk zeros := ⟨rfl, fun x hx => by have := List.eq_of_mem_replicate hx; omega⟩
theorem toV_ok {least : Int} {es : List Ent} (h : entsOk least (-1) es = true) (h0 : 0 ≤ least) : vOk (toV es) := setAll_ok h h0 zeros_ok
theorem vOk_get {v : List Int} (h : vOk v) (k : Nat) : 0 ≤ v.getD k 0 ∧ v.getD k 0 ≤ 1000000 := by
  rw [List.getD_eq_getElem?_getD]
  by_cases hk : k < v.length
  · rw [List.getElem?_eq_getElem hk]; exact h.2 _ (List.getElem_mem hk)
  · rw [List.getElem?_eq_none (by omega)]; simp
theorem vOk_set {v : List Int} (h : vOk v) (k : Nat) {x : Int} (h0 : 0 ≤ x) (h1 : x ≤ 1000000) : vOk (v.set k x) :=
  ⟨by simpa using h.1, fun y hy => by
    rcases List.mem_or_eq_of_mem_set hy with h2 | h2
    · exact h.2 y h2
    · subst h2; exact ⟨h0, h1⟩⟩

/-- The entries of a vector from key b on. -/
def storeFrom (b : Int) : List Int → List Ent
  | [] => []
  | x :: xs => if 0 < x then (b, x) :: storeFrom (b + 1) xs else storeFrom (b + 1) xs
def storeOf (v : List Int) : List Ent := storeFrom 0 v

theorem storeFrom_append (b : Int) (xs ys : List Int) : storeFrom b (xs ++ ys) = storeFrom b xs ++ storeFrom (b + xs.length) ys := by
  induction xs generalizing b with
  | nil => simp [storeFrom]
  | cons x xs ih =>
    have e : b + 1 + (xs.length : Int) = b + ((x :: xs).length : Int) := by simp; omega
    by_cases h : 0 < x
    · simp only [List.cons_append, storeFrom, if_pos h, ih, e]
    · simp only [List.cons_append, storeFrom, if_neg h, ih, e]

theorem storeFrom_length (b : Int) (xs : List Int) : (storeFrom b xs).length ≤ xs.length := by
  induction xs generalizing b with
  | nil => simp [storeFrom]
  | cons x xs ih =>
    have := ih (b + 1)
    unfold storeFrom
    split <;> simp <;> omega

theorem storeFrom_ok (b : Int) (xs : List Int) (hx : ∀ x ∈ xs, x ≤ 1000000) (hb : b + xs.length ≤ 32) : entsOk 1 (b - 1) (storeFrom b xs) = true := by
  induction xs generalizing b with
  | nil => rfl
  | cons x xs ih =>
    have hl : ((x :: xs).length : Int) = xs.length + 1 := by simp
    have hx0 := hx x (by simp)
    have := ih (b + 1) (fun y hy => hx y (by simp [hy])) (by omega)
    unfold storeFrom
    by_cases h : 0 < x
    · rw [if_pos h, entsOk_cons]
      refine ⟨⟨by simp, by simp; omega⟩, ⟨by simp; omega, hx0⟩, ?_⟩
      exact entsOk_mono this (by simp)
    · rw [if_neg h]
      exact entsOk_mono this (by omega)

theorem look_storeFrom (b : Int) (xs : List Int) (k : Int) :
    look (storeFrom b xs) k = if b ≤ k ∧ k < b + xs.length ∧ 0 < xs.getD (k - b).toNat 0 then some (xs.getD (k - b).toNat 0) else none := by
  induction xs generalizing b with
  | nil => simp [storeFrom, look_nil]
  | cons x xs ih =>
    have hl : ((x :: xs).length : Int) = xs.length + 1 := by simp
    have key : look (storeFrom (b + 1) xs) k = if b ≤ k ∧ k < b + (x :: xs).length ∧ 0 < (x :: xs).getD (k - b).toNat 0 ∧ k ≠ b then some ((x :: xs).getD (k - b).toNat 0) else none := by
      rw [ih, hl]
      by_cases hk : b + 1 ≤ k
      · have e : (k - b).toNat = (k - (b + 1)).toNat + 1 := by omega
        rw [e]
        simp only [List.getD_cons_succ]
        congr 1
        simp only [eq_iff_iff]
        constructor
        · rintro ⟨h1, h2, h3⟩; exact ⟨by omega, by omega, h3, by omega⟩
        · rintro ⟨h1, h2, h3, h4⟩; exact ⟨by omega, by omega, h3⟩
      · rw [if_neg (by omega), if_neg (by omega)]
    unfold storeFrom
    by_cases h : 0 < x
    · rw [if_pos h, look_cons, key]
      by_cases hk : b = k
      · subst hk
        simp [h]
        omega
      · rw [if_neg hk]
        congr 1
        simp only [eq_iff_iff]
        constructor
        · rintro ⟨h1, h2, h3, h4⟩; exact ⟨h1, h2, h3⟩
        · rintro ⟨h1, h2, h3⟩; exact ⟨h1, h2, h3, fun e => hk e.symm⟩
    · rw [if_neg h, key]
      congr 1
      simp only [eq_iff_iff]
      constructor
      · rintro ⟨h1, h2, h3, h4⟩; exact ⟨h1, h2, h3⟩
      · rintro ⟨h1, h2, h3⟩
        refine ⟨h1, h2, h3, fun e => ?_⟩
        subst e
        simp at h3
        omega

theorem storeOf_ok {v : List Int} (h : vOk v) : entsOk 1 (-1) (storeOf v) = true :=
  storeFrom_ok 0 v (fun x hx => (h.2 x hx).2) (by rw [h.1]; decide)

/-- Entries out of a vector lead back to it, and the other way round. -/
theorem toV_storeOf {v : List Int} (h : vOk v) : toV (storeOf v) = v := by
  apply List.ext_getElem (by rw [toV_length, h.1])
  intro k h1 h2
  have hk : k < 32 := by rw [toV_length] at h1; exact h1
  have e1 := toV_get (storeOf_ok h) k
  have e2 : valAt (storeOf v) k = (if 0 ≤ (k : Int) ∧ (k : Int) < 0 + v.length ∧ 0 < v.getD ((k : Int) - 0).toNat 0 then some (v.getD ((k : Int) - 0).toNat 0) else none).getD 0 := by
    rw [valAt, storeOf, look_storeFrom]
  rw [e2] at e1
  rw [List.getD_eq_getElem?_getD, List.getElem?_eq_getElem h1] at e1
  simp only [Option.getD_some] at e1
  rw [e1]
  have hb := h.2 v[k] (List.getElem_mem h2)
  have hv : v.getD (((k : Int) - 0).toNat) 0 = v[k] := by
    rw [show ((k : Int) - 0).toNat = k from by omega, List.getD_eq_getElem?_getD, List.getElem?_eq_getElem h2]; rfl
  rw [hv]
  by_cases hp : 0 < v[k]
  · rw [if_pos ⟨by omega, by have := h.1; omega, hp⟩]; rfl
  · rw [if_neg (by omega)]; simp; omega

theorem storeOf_toV {es : List Ent} (h : entsOk 1 (-1) es = true) : storeOf (toV es) = es := by
  have hv := toV_ok h (by omega)
  refine look_ext (storeOf_ok hv) h (fun k => ?_)
  rw [storeOf, look_storeFrom]
  by_cases hk : 0 ≤ k ∧ k < 32
  · have e1 := toV_get h k.toNat
    rw [show ((k.toNat : Nat) : Int) = k from by omega] at e1
    rw [show (k - 0).toNat = k.toNat from by omega, e1, valAt]
    cases hl : look es k with
    | none => simp
    | some x =>
      have := look_bd h hl
      rw [if_pos ⟨by omega, by rw [toV_length]; omega, by simp; omega⟩]; rfl
  · rw [if_neg (by rw [toV_length]; omega)]
    cases hl : look es k with
    | none => rfl
    | some x => have := look_bd h hl; omega

theorem toV_inj {a b : List Ent} (ha : entsOk 1 (-1) a = true) (hb : entsOk 1 (-1) b = true) (h : toV a = toV b) : a = b := by
  rw [← storeOf_toV ha, ← storeOf_toV hb, h]

end Go.Proofs.Ytpomiglcplbdbaa
