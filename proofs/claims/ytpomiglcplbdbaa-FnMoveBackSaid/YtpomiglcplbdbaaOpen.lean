/- How arguments that came in read: integers, and slices of integers, of entries, of actions. -/
import Derived.Test.YtpomiglcplbdbaaMem
import Derived.ProofKit
import Derived.OpenShut
import Derived.ChangeOld
import Derived.Deep.Slices
namespace Go.Proofs.Ytpomiglcplbdbaa
open Go.ChangeShapes Go.WideShapes Go.ChangeAt Go.RowKit Go.Deep

theorem own : ownKnob Try.prog.godebug = none := by kernel_rfl
theorem laidOut : laidOutB Try.prog = true := by kernel_rfl

theorem flatten_get (s : Nat) : ∀ (css : List (List Value)), (∀ cs ∈ css, cs.length = s) → ∀ (j : Nat) (u : Value), css.flatten[j]? = some u →
    ∃ i k, ∃ h : i < css.length, k < s ∧ j = i * s + k ∧ css[i][k]? = some u := by
  intro css
  induction css with
  | nil => intro _ j u hu; simp at hu
  | cons c css ih =>
    intro hs j u hu
    have hc : c.length = s := hs c (by simp)
    rw [List.flatten_cons, List.getElem?_append] at hu
    by_cases hj : j < c.length
    · rw [if_pos hj] at hu
      exact ⟨0, j, by simp, by omega, by omega, by simpa using hu⟩
    · rw [if_neg hj] at hu
      obtain ⟨i, k, hi, hk, he, hx⟩ := ih (fun cs h => hs cs (by simp [h])) _ u hu
      refine ⟨i + 1, k, by simpa using hi, hk, ?_, by simpa using hx⟩
      rw [Nat.add_mul]
      omega

theorem flatten_ints (zs : List Int) : (zs.map (fun k : Int => [Value.int .i64 k])).flatten = zs.map (Value.int .i64) := by
  induction zs with
  | nil => rfl
  | cons z zs ih => simp only [List.map_cons, List.flatten_cons, ih]; rfl

theorem list_choose {α β : Type} (f : α → β) (Q : α → Prop) : ∀ (l : List β), (∀ y ∈ l, ∃ x, y = f x ∧ Q x) → ∃ xs : List α, l = xs.map f ∧ ∀ x ∈ xs, Q x := by
  intro l
  induction l with
  | nil => intro _; exact ⟨[], rfl, by simp⟩
  | cons y l ih =>
    intro h
    obtain ⟨x, hx, hq⟩ := h y (by simp)
    obtain ⟨xs, hxs, hqs⟩ := ih (fun z hz => h z (by simp [hz]))
    refine ⟨x :: xs, by rw [hx, hxs]; rfl, fun z hz => ?_⟩
    rcases List.mem_cons.1 hz with rfl | hz
    · exact hq
    · exact hqs z hz

section
variable {H : Type} {enc : TypeId × Value → H} {P : Program} {w : World} {sp : Nat → Bool} {hd : Bool}

theorem rows_of_cells {t e : TypeId} {fuel : Nat} {cs0 : List Value} {x : DataW H × List MemPlace} (ht : P.underlying t = some (.slice e)) (hf : DataW.trod enc P w 0 sp hd fuel t cs0 = some x)
    (R : List Value → Prop) (hR : ∀ n cs x, DataW.trod enc P w 0 sp hd n e cs = some x → cs.length = P.cellsOf e → R cs) :
    ∃ (A : Option Addr) (n c : Nat) (css : List (List Value)), cs0 = [.slice A n c] ∧ css.length = n ∧ n ≤ maxLen ∧ (∀ cs ∈ css, R cs) ∧ CellsAt w A css.flatten := by
  rcases open_slice ht hf with ⟨hcs, _⟩ | ⟨a, len, cap, m, nf, D, Pl, hcs, hb, hl, hm, hmm, hx, hi⟩
  · exact ⟨none, 0, 0, [], hcs, rfl, by unfold maxLen; omega, by simp, .inl rfl⟩
  · have hlm : len ≤ m := by rw [hmm]; split <;> omega
    let g : Nat → List Value := fun i => (w.cells? 0 (a.add (i * P.cellsOf e)) (P.cellsOf e)).getD []
    have hg : ∀ i, i < len → w.cells? 0 (a.add (i * P.cellsOf e)) (P.cellsOf e) = some (g i) ∧ R (g i) := by
      intro i hil
      obtain ⟨cs', h1, h2⟩ := hi i (by omega)
      have h3 := World.cells?_some h1
      have : g i = cs' := by show (w.cells? 0 _ _).getD [] = _; rw [h1]; rfl
      rw [this]
      exact ⟨h1, hR _ _ _ h2 h3.2.1⟩
    refine ⟨some a, len, cap, (List.range len).map g, hcs, by simp, by omega, ?_, ?_⟩
    · intro cs hcs
      obtain ⟨i, hi', rfl⟩ := List.mem_map.1 hcs
      exact (hg i (by simpa using hi')).2
    · have key : ∀ j u, ((List.range len).map g).flatten[j]? = some u → w.cell? (a.add j) = some u := by
        intro j u hu
        obtain ⟨i, k, hil, hk, rfl, hx⟩ := flatten_get (P.cellsOf e) _ (by
          intro cs hcs
          obtain ⟨i, hi', rfl⟩ := List.mem_map.1 hcs
          exact (World.cells?_some (hg i (by simpa using hi')).1).2.1) j u hu
        simp only [List.getElem_map, List.getElem_range] at hx
        have h1 := (World.cells?_some (hg i (by simpa using hil)).1).2.2 k hk
        rw [add_add] at h1
        rw [h1, hx]
      by_cases hfl : ((List.range len).map g).flatten = []
      · exact .inl hfl
      · right
        have h0 : 0 < ((List.range len).map g).flatten.length := List.length_pos_iff.2 hfl
        obtain ⟨b, off, spot⟩ := a
        have h1 := key 0 _ (List.getElem?_eq_getElem h0)
        have hspot : spot = none := by simpa [Addr.add] using World.cell?_spot h1
        subst hspot
        refine ⟨b, off, rfl, fun j u hu => ?_⟩
        have := key j u hu
        have hadd : (⟨b, off, none⟩ : Addr).add j = ⟨b, off + j, none⟩ := by unfold Addr.add; split <;> simp_all
        rwa [hadd] at this

theorem ints_of_cells {t e : TypeId} {fuel : Nat} {cs0 : List Value} {x : DataW H × List MemPlace} (ht : P.underlying t = some (.slice e)) (he : P.underlying e = some (.int .i64)) (hf : DataW.trod enc P w 0 sp hd fuel t cs0 = some x) :
    ∃ A c zs, cs0 = [.slice A zs.length c] ∧ zs.length ≤ maxLen ∧ IntsAt w A zs := by
  obtain ⟨A, n, c, css, h0, h1, h2, h3, h4⟩ := rows_of_cells ht hf (fun cs => ∃ k : Int, cs = [.int .i64 k]) (fun n cs x h _ => by
    obtain ⟨k, h, _⟩ := DataW.trod_int he h
    exact ⟨k, h⟩)
  obtain ⟨zs, h5, _⟩ := list_choose (fun k : Int => [Value.int .i64 k]) (fun _ => True) css (fun y hy => by obtain ⟨k, hk⟩ := h3 y hy; exact ⟨k, hk, trivial⟩)
  subst h5
  have hn : zs.length = n := by simpa using h1
  subst hn
  refine ⟨A, c, zs, h0, h2, ?_⟩
  unfold IntsAt
  rwa [flatten_ints] at h4

theorem ent_of_cells {e : TypeId} {f0 f1 : Field} {fuel : Nat} {cs : List Value} {x : DataW H × List MemPlace} (he : P.underlying e = some (.struct #[f0, f1])) (h0 : P.underlying f0.type = some (.int .i64)) (h1 : P.underlying f1.type = some (.int .i64))
    (o0 : f0.offset = 0) (o1 : f1.offset = 1) (c0 : P.cellsOf f0.type = 1) (c1 : P.cellsOf f1.type = 1) (hc : P.cellsOf e = 2) (h : DataW.trod enc P w 0 sp hd fuel e cs = some x) : ∃ k : Ent, cs = [.int .i64 k.1, .int .i64 k.2] := by
  obtain ⟨y0, y1, n, _, hl, t0, t1⟩ := trod_struct2 he h
  rw [hc] at hl
  match cs, hl with
  | [a, b], _ =>
    rw [o0, c0] at t0
    rw [o1, c1] at t1
    obtain ⟨k, hk, _⟩ := DataW.trod_int h0 t0
    obtain ⟨v, hv, _⟩ := DataW.trod_int h1 t1
    simp at hk hv
    exact ⟨(k, v), by rw [hk, hv]⟩

theorem ents_of_cells {t e : TypeId} {f0 f1 : Field} {fuel : Nat} {cs0 : List Value} {x : DataW H × List MemPlace} (ht : P.underlying t = some (.slice e)) (he : P.underlying e = some (.struct #[f0, f1]))
    (h0 : P.underlying f0.type = some (.int .i64)) (h1 : P.underlying f1.type = some (.int .i64)) (o0 : f0.offset = 0) (o1 : f1.offset = 1) (c0 : P.cellsOf f0.type = 1) (c1 : P.cellsOf f1.type = 1) (hc : P.cellsOf e = 2)
    (hf : DataW.trod enc P w 0 sp hd fuel t cs0 = some x) :
    ∃ A c es, cs0 = [.slice A es.length c] ∧ es.length ≤ maxLen ∧ EntsAt w A es := by
  obtain ⟨A, n, c, css, g0, g1, g2, g3, g4⟩ := rows_of_cells ht hf (fun cs => ∃ k : Ent, cs = [.int .i64 k.1, .int .i64 k.2]) (fun n cs x h _ => ent_of_cells he h0 h1 o0 o1 c0 c1 hc h)
  obtain ⟨es, h5, _⟩ := list_choose (fun k : Ent => [Value.int .i64 k.1, .int .i64 k.2]) (fun _ => True) css (fun y hy => by obtain ⟨k, hk⟩ := g3 y hy; exact ⟨k, hk, trivial⟩)
  subst h5
  have hn : es.length = n := by simpa using g1
  subst hn
  exact ⟨A, c, es, g0, g2, by unfold EntsAt entCells; rw [List.flatMap_def]; exact g4⟩

theorem act_of_cells {e : TypeId} {f0 f1 f2 f3 : Field} {fuel : Nat} {cs : List Value} {x : DataW H × List MemPlace} (he : P.underlying e = some (.struct #[f0, f1, f2, f3]))
    (h0 : P.underlying f0.type = some (.int .i64)) (h1 : P.underlying f1.type = some (.int .i64)) (h2 : P.underlying f2.type = some (.int .i64)) (h3 : P.underlying f3.type = some (.int .i64))
    (o0 : f0.offset = 0) (o1 : f1.offset = 1) (o2 : f2.offset = 2) (o3 : f3.offset = 3) (c0 : P.cellsOf f0.type = 1) (c1 : P.cellsOf f1.type = 1) (c2 : P.cellsOf f2.type = 1) (c3 : P.cellsOf f3.type = 1) (hc : P.cellsOf e = 4)
    (h : DataW.trod enc P w 0 sp hd fuel e cs = some x) : ∃ k : ActT, cs = [.int .i64 k.1, .int .i64 k.2.1, .int .i64 k.2.2.1, .int .i64 k.2.2.2] := by
  obtain ⟨xs, n, _, _, hl, hxl, hf⟩ := DataW.trod_struct he h
  rw [hc] at hl
  have t0 := hf 0 f0 rfl
  have t1 := hf 1 f1 rfl
  have t2 := hf 2 f2 rfl
  have t3 := hf 3 f3 rfl
  match cs, hl, xs, hxl with
  | [a, b, c, d], _, [y0, y1, y2, y3], _ =>
    rw [o0, c0] at t0
    rw [o1, c1] at t1
    rw [o2, c2] at t2
    rw [o3, c3] at t3
    obtain ⟨k0, hk0, _⟩ := DataW.trod_int h0 t0
    obtain ⟨k1, hk1, _⟩ := DataW.trod_int h1 t1
    obtain ⟨k2, hk2, _⟩ := DataW.trod_int h2 t2
    obtain ⟨k3, hk3, _⟩ := DataW.trod_int h3 t3
    simp at hk0 hk1 hk2 hk3
    exact ⟨(k0, k1, k2, k3), by rw [hk0, hk1, hk2, hk3]⟩

end

section
variable {H : Type} {enc : TypeId × Value → H} {w : World} {sp : Nat → Bool} {hd : Bool}

theorem open_ints_ {v : Value} {d : DataW H} {ps : List MemPlace} (h : DataW.Trod enc Try.prog w 0 sp hd 23 v d ps) (hv : ∃ a n c, v = .slice a n c) :
    ∃ A c zs, v = .slice A zs.length c ∧ zs.length ≤ maxLen ∧ IntsAt w A zs := by
  obtain ⟨a, n, c', rfl⟩ := hv
  obtain ⟨fuel, hf⟩ := h
  obtain ⟨A, c, zs, h0, h1, h2⟩ := ints_of_cells Try.underlying23 Try.underlying3 hf
  simp [Value.cells] at h0
  exact ⟨A, c, zs, by rw [h0.1, h0.2.1, h0.2.2], h1, h2⟩



end
end Go.Proofs.Ytpomiglcplbdbaa
