/- A region that draws its order, by an invariant: each operation is walked once, whatever came up ahead of it. -/
import Derived.Test.YtjopbffjemhgdaaQBase
import Derived.RegionTactic
namespace Go.Proofs.Ytjopbffjemhgdaa
open Go

def tabT (T : Nat) (t : Nat → Value) : Array Value := ((List.range T).map t).toArray
def upd (t : Nat → Value) (d : Nat) (v : Value) : Nat → Value := fun i => if i = d then v else t i
theorem tabT_size (T : Nat) (t : Nat → Value) : (tabT T t).size = T := by simp [tabT]
theorem tabT_get {T : Nat} {t : Nat → Value} {d : Nat} (h : d < T) : (tabT T t)[d]? = some (t d) := by simp [tabT, h]
theorem tabT_set (T : Nat) (t : Nat → Value) (d : Nat) (v : Value) : (tabT T t).setIfInBounds d v = tabT T (upd t d v) := by
  unfold tabT
  rw [List.setIfInBounds_toArray]
  congr 1
  apply List.ext_getElem
  · simp
  · intro i h1 h2
    have hi : i < T := by simpa using h2
    rw [List.getElem_set]
    simp only [upd, List.getElem_map, List.getElem_range]
    by_cases e : d = i
    · subst e; simp
    · rw [if_neg e, if_neg (fun h => e h.symm)]

def actT (T : Nat) (ds : List Deferred) (t : Nat → Value) : Act := { tmps := tabT T t, defers := ds }
theorem actT_eval {T : Nat} {ds : List Deferred} {t : Nat → Value} {d : Nat} (h : d < T) : (actT T ds t).eval (.tmp d) = t d := by
  simp [Act.eval, actT, Array.getD_eq_getD_getElem?, tabT_get h]
theorem actT_const {T : Nat} {ds : List Deferred} {t : Nat → Value} {v : Value} : (actT T ds t).eval (.const v) = v := rfl
theorem actT_put (T : Nat) (ds : List Deferred) (t : Nat → Value) (d : Nat) (v : Value) : (actT T ds t).put (some d) v = actT T ds (upd t d v) := by
  simp [Act.put, actT, tabT_set]

def dstOf (ops : Array Oper) (i : Nat) : Option Tmp := (ops[i]?).bind (·.dst)

/-- What the tactics of a walk ask of the region: no guards, slots in bounds, each slot once, what an operation waits for stands ahead of it. -/
def invOk (T : Nat) (ops : Array Oper) : Bool :=
  ops.toList.all (fun o => o.guard.isNone && (match o.dst with | some d => decide (d < T) | none => true)) && decide (ops.toList.filterMap (·.dst)).Nodup &&
  ops.toList.zipIdx.all (fun p => p.1.after.all (fun e => !Region.binds .any e || decide (e.on < p.2)))

section
variable {P : Program} {ops : Array Oper} {Q : Exit → Act → World → Prop}

/-- Operation number j, walked: from any state in which what it waits for has come up. -/
def OneStep (P : Program) (ops : Array Oper) (Q : Exit → Act → World → Prop) (T : Nat) (ds : List Deferred) (t0 : Nat → Value) (F : Nat → Value → World → Prop) (G : Nat → World → Prop) (Le : World → World → Prop) (j : Nat) (o : Oper) : Prop :=
  ∀ (m : Nat) (t : Nat → Value) (w : World), G (m + 1) w → (∀ d, (∀ i, dstOf ops i ≠ some d) → t d = t0 d) →
    (∀ e ∈ o.after, Region.binds .any e = true → ∃ v, F e.on v w ∧ ∀ d, dstOf ops e.on = some d → t d = v) →
    ∀ K : Act → World → Prop, (∀ v w', F j v w' → G m w' → Le w w' → K ((actT T ds t).put o.dst v) w') → Oper.wp P o (actT T ds t) w K Q
def AllSteps (P : Program) (ops : Array Oper) (Q : Exit → Act → World → Prop) (T : Nat) (ds : List Deferred) (t0 : Nat → Value) (F : Nat → Value → World → Prop) (G : Nat → World → Prop) (Le : World → World → Prop) : List Oper → Nat → Prop
  | [], _ => True
  | o :: l, k => OneStep P ops Q T ds t0 F G Le k o ∧ AllSteps P ops Q T ds t0 F G Le l (k + 1)
theorem AllSteps.get {T : Nat} {ds : List Deferred} {t0 : Nat → Value} {F : Nat → Value → World → Prop} {G : Nat → World → Prop} {Le : World → World → Prop} : ∀ {l : List Oper} {k : Nat}, AllSteps P ops Q T ds t0 F G Le l k → ∀ {i : Nat} {o : Oper}, l[i]? = some o → OneStep P ops Q T ds t0 F G Le (k + i) o
  | [], _, _, _, _, h => by simp at h
  | x :: l, k, h, 0, o, ho => by
    simp at ho
    subst ho
    exact h.1
  | x :: l, k, h, i + 1, o, ho => by
    have := AllSteps.get h.2 (i := i) (o := o) (by simpa using ho)
    rwa [show k + 1 + i = k + (i + 1) from by omega] at this

/-- What has come up: the slots, and what they hold. -/
def InvAt (ops : Array Oper) (T : Nat) (ds : List Deferred) (t0 : Nat → Value) (F : Nat → Value → World → Prop) (G : Nat → World → Prop) (listed : Array Bool) (a : Act) (w : World) : Prop :=
  ∃ t : Nat → Value, a = actT T ds t ∧ (∀ d, (∀ i, dstOf ops i ≠ some d) → t d = t0 d) ∧ (∀ j, listed.getD j false = true → ∃ v, F j v w ∧ ∀ d, dstOf ops j = some d → t d = v) ∧ G (listed.toList.count false) w

theorem ready_nil_all {listed : Array Bool} (hl : listed.size = ops.size) (hback : ∀ (j : Nat) (o : Oper), ops[j]? = some o → ∀ e ∈ o.after, Region.binds .any e = true → e.on < j) (h : Region.ready .any ops listed = []) :
    ∀ j, j < ops.size → listed.getD j false = true := by
  intro j
  induction j using Nat.strongRecOn with
  | _ j ih =>
    intro hj
    cases hb : listed.getD j false with
    | true => rfl
    | false =>
      exfalso
      have hjl : j < listed.size := by omega
      have hm : j ∈ Region.ready .any ops listed := by
        refine mem_ready.2 ⟨?_, ops[j], Array.getElem?_eq_getElem hj, fun e he hbd => ?_⟩
        · simpa [hjl] using hb
        · have hlt := hback j ops[j] (Array.getElem?_eq_getElem hj) e he hbd
          exact ih e.on hlt (by omega)
      rw [h] at hm
      cases hm

theorem count_set {l : List Bool} : ∀ {j : Nat}, l[j]? = some false → (l.set j true).count false + 1 = l.count false := by
  induction l with
  | nil => intro j h; simp at h
  | cons x l ih =>
    intro j h
    cases j with
    | zero => simp at h; subst h; simp
    | succ j =>
      have := ih (j := j) (by simpa using h)
      simp only [List.set_cons_succ, List.count_cons]
      omega

theorem wpAny_inv {T : Nat} {ds : List Deferred} {t0 : Nat → Value} {F : Nat → Value → World → Prop} {G : Nat → World → Prop} {Le : World → World → Prop}
    (hg : ∀ (j : Nat) (o : Oper), ops[j]? = some o → o.guard = none) (hinj : ∀ i j d, dstOf ops i = some d → dstOf ops j = some d → i = j)
    (hback : ∀ (j : Nat) (o : Oper), ops[j]? = some o → ∀ e ∈ o.after, Region.binds .any e = true → e.on < j)
    (hmono : ∀ j v w w', Le w w' → F j v w → F j v w') (hs : ∀ (j : Nat) (o : Oper), ops[j]? = some o → OneStep P ops Q T ds t0 F G Le j o)
    (hend : ∀ m t w, G m w → (∀ d, (∀ i, dstOf ops i ≠ some d) → t d = t0 d) → (∀ j, j < ops.size → ∃ v, F j v w ∧ ∀ d, dstOf ops j = some d → t d = v) → Q .normal (actT T ds t) w) :
    ∀ (fuel : Nat) (listed : Array Bool) (a : Act) (w : World), listed.size = ops.size → listed.toList.count false ≤ fuel → InvAt ops T ds t0 F G listed a w → wpAny P .any ops Q fuel listed a w := by
  intro fuel
  induction fuel with
  | zero =>
    intro listed a w hl hc hI
    have hr : Region.ready .any ops listed = [] := by
      cases hr : Region.ready .any ops listed with
      | nil => rfl
      | cons x xs =>
        exfalso
        have hm : x ∈ Region.ready .any ops listed := by rw [hr]; simp
        obtain ⟨h1, o, h2, _⟩ := mem_ready.1 hm
        have hx : x < ops.size := (Array.getElem?_eq_some_iff.1 h2).1
        have hxl : x < listed.size := by omega
        have h3 : listed[x] = false := by simpa [hxl] using h1
        have h4 : false ∈ listed.toList := by rw [← h3]; simp
        have := List.count_pos_iff.2 h4
        omega
    obtain ⟨t, rfl, hk, hv, hG⟩ := hI
    exact ⟨hr, hend _ t w hG hk fun j hj => hv j (ready_nil_all hl hback hr j hj)⟩
  | succ fuel ih =>
    intro listed a w hl hc hI
    refine ⟨fun hr => ?_, fun i hi => ?_⟩
    · obtain ⟨t, rfl, hk, hv, hG⟩ := hI
      exact hend _ t w hG hk fun j hj => hv j (ready_nil_all hl hback hr j hj)
    · obtain ⟨h1, o, h2, h3⟩ := mem_ready.1 hi
      have hx : i < ops.size := (Array.getElem?_eq_some_iff.1 h2).1
      have hxl : i < listed.size := by omega
      have h4 : listed[i] = false := by simpa [hxl] using h1
      refine wpOp_step h2 fun K' hK' => ?_
      have hw : Region.wanted o (yielded ops a.tmps) = true := by simp [Region.wanted, hg i o h2]
      rw [if_pos hw]
      obtain ⟨t, rfl, hk, hv, hG⟩ := hI
      have hcnt : (listed.setIfInBounds i true).toList.count false + 1 = listed.toList.count false := by
        have := count_set (l := listed.toList) (j := i) (by simp [hxl, h4])
        rw [Array.toList_setIfInBounds]
        exact this
      rw [← hcnt] at hG
      refine hs i o h2 _ t w hG hk (fun e he hb => hv e.on (h3 e he hb)) K' (fun v w' hF hG' hle => hK' _ _ ?_)
      refine ih _ _ _ (by simpa using hl) ?_ ?_
      · omega
      · have hdo : dstOf ops i = o.dst := by simp [dstOf, h2]
        have hval : ∀ (t' : Nat → Value), (∀ d, dstOf ops i = some d → t' d = v) → (∀ d, dstOf ops i ≠ some d → t' d = t d) →
            (∀ d, (∀ i, dstOf ops i ≠ some d) → t' d = t0 d) ∧ (∀ j, (listed.setIfInBounds i true).getD j false = true → ∃ v, F j v w' ∧ ∀ d, dstOf ops j = some d → t' d = v) := by
          intro t' ht1 ht2
          refine ⟨fun d hd => by rw [ht2 d (hd i)]; exact hk d hd, fun j hj => ?_⟩
          by_cases e : i = j
          · subst e
            exact ⟨v, hF, ht1⟩
          · rw [getD_set_ne false e] at hj
            obtain ⟨u, hu1, hu2⟩ := hv j hj
            exact ⟨u, hmono j u w w' hle hu1, fun d hd => by rw [ht2 d (fun h => e (hinj i j d h hd))]; exact hu2 d hd⟩
        cases hd : o.dst with
        | none =>
          have := hval t (fun d h => by rw [hdo, hd] at h; cases h) (fun d _ => rfl)
          exact ⟨t, rfl, this.1, this.2, hG'⟩
        | some d0 =>
          have := hval (upd t d0 v) (fun d h => by rw [hdo, hd] at h; injection h with h; subst h; simp [upd]) (fun d h => by
            have : d ≠ d0 := fun e => h (by rw [hdo, hd, e])
            simp [upd, this])
          exact ⟨upd t d0 v, actT_put T ds t d0 v, this.1, this.2, hG'⟩

/-- **A region that draws its order**: G of the world throughout, F j of what operation j has left, kept by whatever comes later. -/
theorem wp_region_inv {id : Nat} {a0 : Act} {w0 : World} (T : Nat) (ds : List Deferred) (t0 : Nat → Value) (F : Nat → Value → World → Prop) (G : Nat → World → Prop) (Le : World → World → Prop)
    (ha : a0 = actT T ds t0) (hm : P.follows .mixedOrders = true) (hok : invOk T ops = true) (h0 : G ops.size w0.drew)
    (hmono : ∀ j v w w', Le w w' → F j v w → F j v w') (hs : AllSteps P ops Q T ds t0 F G Le ops.toList 0)
    (hend : ∀ m t w, G m w → (∀ d, (∀ i, dstOf ops i ≠ some d) → t d = t0 d) → (∀ j, j < ops.size → ∃ v, F j v w ∧ ∀ d, dstOf ops j = some d → t d = v) → Q .normal (actT T ds t) w) :
    (Code.region id ops true).wp P Q a0 w0 := by
  subst ha
  simp only [invOk, Bool.and_eq_true, List.all_eq_true, decide_eq_true_eq] at hok
  obtain ⟨⟨hok1, hok2⟩, hok3⟩ := hok
  refine wp_region_any hm (wpAny_inv (F := F) (G := G) (Le := Le) (T := T) (ds := ds) (t0 := t0) ?_ ?_ ?_ hmono ?_ hend _ _ _ _ (by simp) ?_ ?_)
  · intro j o ho
    have := (hok1 o (by rw [← Array.getElem?_toList] at ho; exact List.mem_of_getElem? ho)).1
    simpa using this
  · intro i j d hi hj
    have key : ∀ (l : List Oper) (_ : (l.filterMap (fun o : Oper => o.dst)).Nodup) (i j : Nat) (d : Tmp), (l[i]?).bind (fun o : Oper => o.dst) = some d → (l[j]?).bind (fun o : Oper => o.dst) = some d → i = j := by
      intro l
      induction l with
      | nil => intro _ i j d h; simp at h
      | cons x l ih =>
        intro hn i j d h1 h2
        have hmem : ∀ k : Nat, (l[k]?).bind (fun o : Oper => o.dst) = some d → d ∈ l.filterMap (fun o : Oper => o.dst) := fun k hk => by
          cases hx : l[k]? with
          | none => rw [hx] at hk; cases hk
          | some o => rw [hx] at hk; exact List.mem_filterMap.2 ⟨o, List.mem_of_getElem? hx, hk⟩
        cases hx : x.dst with
        | none =>
          rw [List.filterMap_cons_none hx] at hn
          cases i with
          | zero => simp [hx] at h1
          | succ i =>
            cases j with
            | zero => simp [hx] at h2
            | succ j => rw [ih hn i j d (by simpa using h1) (by simpa using h2)]
        | some d' =>
          rw [List.filterMap_cons_some hx, List.nodup_cons] at hn
          cases i with
          | zero =>
            simp [hx] at h1
            subst h1
            cases j with
            | zero => rfl
            | succ j => exact absurd (hmem j (by simpa using h2)) hn.1
          | succ i =>
            cases j with
            | zero =>
              simp [hx] at h2
              subst h2
              exact absurd (hmem i (by simpa using h1)) hn.1
            | succ j => rw [ih hn.2 i j d (by simpa using h1) (by simpa using h2)]
    exact key ops.toList hok2 i j d (by simpa [dstOf] using hi) (by simpa [dstOf] using hj)
  · intro j o ho e he hb
    have h1 := hok3 (o, j) (by
      rw [← Array.getElem?_toList] at ho
      exact List.mem_zipIdx_iff_getElem?.2 ho)
    have h2 := (Array.all_eq_true_iff_forall_mem.1 h1) e he
    simpa [hb] using h2
  · intro j o ho
    have := hs.get (i := j) (o := o) (by rw [Array.getElem?_toList]; exact ho)
    rwa [Nat.zero_add] at this
  · simp
  · refine ⟨t0, rfl, fun _ _ => rfl, fun j hj => ?_, by simpa using h0⟩
    exfalso
    by_cases hlt : j < ops.size
    · simp [hlt] at hj
    · simp [hlt] at hj

end
end Go.Proofs.Ytjopbffjemhgdaa
