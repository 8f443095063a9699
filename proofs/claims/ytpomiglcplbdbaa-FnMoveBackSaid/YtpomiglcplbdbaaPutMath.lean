/- Plain laws of putting a value: the reference's way through the list, and the vectors. -/
import Derived.Test.YtpomiglcplbdbaaMath
namespace Go.Proofs.Ytpomiglcplbdbaa

/-- The reference's loop: p tells that the new entry has its place already (or wants none). -/
def putF (key value : Int) : Bool → List Ent → List Ent
  | p, [] => if p then [] else [(key, value)]
  | p, e :: es =>
    (if !p && decide (key ≤ e.1) then [(key, value)] else []) ++ (if e.1 = key then [] else [e]) ++ putF key value (p || decide (key ≤ e.1)) es

theorem putF_nil (key value : Int) (p : Bool) : putF key value p [] = if p then [] else [(key, value)] := rfl

theorem putF_true (key value : Int) {least last : Int} {es : List Ent} (h : entsOk least last es = true) :
    entsOk least last (putF key value true es) = true ∧ ∀ k, look (putF key value true es) k = if k = key then none else look es k := by
  induction es generalizing last with
  | nil => exact ⟨rfl, fun k => by simp [putF, look_nil]⟩
  | cons e es ih =>
    have h' := entsOk_cons.1 h
    have ih' := ih h'.2.2
    have e0 : putF key value true (e :: es) = (if e.1 = key then [] else [e]) ++ putF key value true es := by simp [putF]
    rw [e0]
    by_cases hk : e.1 = key
    · rw [if_pos hk, List.nil_append]
      refine ⟨entsOk_mono ih'.1 (by omega), fun k => ?_⟩
      rw [ih'.2, look_cons]
      by_cases h1 : k = key
      · rw [if_pos h1, if_pos h1]
      · rw [if_neg h1, if_neg h1, if_neg (by omega)]
    · rw [if_neg hk]
      refine ⟨?_, fun k => ?_⟩
      · show entsOk least last (e :: putF key value true es) = true
        rw [entsOk_cons]; exact ⟨h'.1, h'.2.1, ih'.1⟩
      · show look (e :: putF key value true es) k = _
        rw [look_cons, look_cons, ih'.2]
        by_cases h1 : e.1 = k
        · rw [if_pos h1, if_pos h1, if_neg (by omega)]
        · rw [if_neg h1, if_neg h1]

theorem putF_false (key value : Int) {least last : Int} {es : List Ent} (h : entsOk least last es = true) (hk0 : last + 1 ≤ key) (hk1 : key ≤ 31) (hv0 : least ≤ value) (hv1 : value ≤ 1000000) :
    entsOk least last (putF key value false es) = true ∧ ∀ k, look (putF key value false es) k = if k = key then some value else look es k := by
  induction es generalizing last with
  | nil =>
    refine ⟨?_, fun k => ?_⟩
    · show entsOk least last [(key, value)] = true
      rw [entsOk_cons]; exact ⟨⟨hk0, hk1⟩, ⟨hv0, hv1⟩, rfl⟩
    · show look [(key, value)] k = _
      rw [look_cons, look_nil]
      by_cases h1 : k = key
      · rw [if_pos h1, if_pos h1.symm]
      · rw [if_neg h1, if_neg (fun e => h1 e.symm)]
  | cons e es ih =>
    have h' := entsOk_cons.1 h
    by_cases hle : key ≤ e.1
    · have ht := putF_true key value h'.2.2
      have e0 : putF key value false (e :: es) = (key, value) :: ((if e.1 = key then [] else [e]) ++ putF key value true es) := by simp [putF, hle]
      rw [e0]
      by_cases hk : e.1 = key
      · rw [if_pos hk, List.nil_append]
        refine ⟨?_, fun k => ?_⟩
        · rw [entsOk_cons]; exact ⟨⟨hk0, hk1⟩, ⟨hv0, hv1⟩, hk ▸ ht.1⟩
        · rw [look_cons, look_cons, ht.2]
          by_cases h1 : k = key
          · rw [if_pos h1.symm, if_pos h1]
          · simp only [if_neg h1, if_neg (fun e => h1 e.symm : ¬ key = k)]
            rw [if_neg (by omega)]
      · rw [if_neg hk]
        refine ⟨?_, fun k => ?_⟩
        · show entsOk least last ((key, value) :: e :: putF key value true es) = true
          rw [entsOk_cons, entsOk_cons]
          exact ⟨⟨hk0, hk1⟩, ⟨hv0, hv1⟩, ⟨by simp; omega, h'.1.2⟩, h'.2.1, ht.1⟩
        · show look ((key, value) :: e :: putF key value true es) k = _
          rw [look_cons, look_cons, look_cons, ht.2]
          by_cases h1 : k = key
          · rw [if_pos h1.symm, if_pos h1]
          · simp only [if_neg h1, if_neg (fun e => h1 e.symm : ¬ key = k)]
    · have e0 : putF key value false (e :: es) = e :: putF key value false es := by
        have : e.1 ≠ key := by omega
        simp [putF, hle, this]
      have ih' := ih h'.2.2 (by omega)
      rw [e0]
      refine ⟨?_, fun k => ?_⟩
      · rw [entsOk_cons]; exact ⟨h'.1, h'.2.1, ih'.1⟩
      · rw [look_cons, look_cons, ih'.2]
        by_cases h1 : e.1 = k
        · rw [if_pos h1, if_pos h1, if_neg (by omega)]
        · rw [if_neg h1, if_neg h1]

/-- Putting a value into a store, the reference's way, is setting it in the vector. -/
theorem put_store {key value : Int} {es : List Ent} (h : entsOk 1 (-1) es = true) (hk0 : 0 ≤ key) (hk1 : key ≤ 31) (hv0 : 0 ≤ value) (hv1 : value ≤ 1000000) :
    putF key value (decide (value = 0)) es = storeOf ((toV es).set key.toNat value) := by
  have hv := toV_ok h (by omega)
  have hs := vOk_set hv key.toNat hv0 hv1
  have hlook : ∀ k, look (storeOf ((toV es).set key.toNat value)) k = if k = key then (if value = 0 then none else some value) else look es k := by
    intro k
    rw [storeOf, look_storeFrom]
    by_cases hk : 0 ≤ k ∧ k < 32
    · have hg : ((toV es).set key.toNat value).getD (k - 0).toNat 0 = if k = key then value else valAt es k := by
        have e1 := toV_get h k.toNat
        rw [show ((k.toNat : Nat) : Int) = k from by omega] at e1
        rw [show (k - 0).toNat = k.toNat from by omega]
        rw [List.getD_eq_getElem?_getD] at e1 ⊢
        by_cases h1 : k = key
        · subst h1
          rw [if_pos rfl, List.getElem?_set_self (by rw [toV_length]; omega)]; rfl
        · rw [if_neg h1, List.getElem?_set_ne (by omega), e1]
      rw [hg]
      have hlen : ((toV es).set key.toNat value).length = 32 := by simp [toV_length]
      by_cases h1 : k = key
      · rw [if_pos h1, if_pos h1]
        by_cases h2 : value = 0
        · rw [if_pos h2, if_neg (by omega)]
        · rw [if_neg h2, if_pos ⟨by omega, by rw [hlen]; omega, by omega⟩]
      · rw [if_neg h1, if_neg h1, valAt]
        cases hl : look es k with
        | none => simp
        | some x =>
          have := look_bd h hl
          rw [if_pos ⟨by omega, by rw [hlen]; omega, by simp; omega⟩]; rfl
    · rw [if_neg (by simp [toV_length]; omega), if_neg (by omega)]
      cases hl : look es k with
      | none => rfl
      | some x => have := look_bd h hl; omega
  by_cases hz : value = 0
  · have ht := putF_true key value h
    rw [decide_eq_true hz]
    refine look_ext ht.1 (storeOf_ok hs) (fun k => ?_)
    rw [ht.2, hlook, if_pos hz]
  · have ht := putF_false key value h (by omega) hk1 (by omega) hv1
    rw [decide_eq_false hz]
    refine look_ext ht.1 (storeOf_ok hs) (fun k => ?_)
    rw [ht.2, hlook, if_neg hz]

theorem putF_length (key value : Int) (p : Bool) (es : List Ent) : (putF key value p es).length ≤ es.length + 1 := by
  have key_ : ∀ (p : Bool) (es : List Ent), (putF key value p es).length ≤ es.length + (if p then 0 else 1) := by
    intro p es
    induction es generalizing p with
    | nil => cases p <;> simp [putF]
    | cons e es ih =>
      unfold putF
      cases p
      · by_cases h : key ≤ e.1
        · have := ih true
          simp only [h, decide_true, Bool.or_true] at this ⊢
          simp at this ⊢
          split <;> simp <;> omega
        · have := ih false
          simp only [h, decide_false, Bool.or_false] at this ⊢
          simp at this ⊢
          split <;> simp <;> omega
      · have := ih true
        simp at this ⊢
        split <;> simp <;> omega
  have := key_ p es
  split at this <;> omega

end Go.Proofs.Ytpomiglcplbdbaa
