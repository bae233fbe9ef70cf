/- THE GROUND OF THE WALKS, 21: a range over a map: the iterator, its steps in whatever order, the entry of a step; deletions on the way. -/
import Derived.Test.YtngnplhdokboiaaWkk
import Derived.Maps.RangeRun
namespace Go.Wk
open Go
set_option linter.unusedVariables false
set_option linter.unusedSimpArgs false
set_option linter.unusedSectionVars false

/-- A range over the map 'es' under way: nothing was laid into it since; 'left' is still to come. -/
structure Rng {κ : Type} (K : κ → Value) (es : Array MapEntry) (since : Nat) (seen : Array Nat) (left : List (κ × Value)) : Prop where
  old : ∀ x ∈ es.toList, x.born < since
  born : es.toList.Pairwise fun a b => a.born < b.born
  left : (leftOf es seen).toList.map (fun e => (e.key, e.val)) = left.map (fun x => (K x.1, x.2))

theorem born_nodup {es : List MapEntry} (h : es.Pairwise fun a b => a.born < b.born) : (es.map (·.born)).Nodup := by
  rw [List.nodup_iff_pairwise_ne, List.pairwise_map]
  exact h.imp fun h => Nat.ne_of_lt h
theorem leftOf_push {es : Array MapEntry} {seen : Array Nat} (hb : es.toList.Pairwise fun a b => a.born < b.born) {A B : List MapEntry} {e : MapEntry} (h : (leftOf es seen).toList = A ++ e :: B) : (leftOf es (seen.push e.born)).toList = A ++ B := by
  have e1 : (leftOf es (seen.push e.born)).toList = (leftOf es seen).toList.filter fun x => !decide (x.born = e.born) := by
    unfold leftOf
    rw [Array.toList_filter, Array.toList_filter, List.filter_filter]
    apply List.filter_congr
    intro x _
    rw [Array.contains_push]
    by_cases hx : x.born = e.born
    · simp [hx]
    · simp [hx]
  have hp : (leftOf es seen).toList.Pairwise fun a b => a.born < b.born := by unfold leftOf; rw [Array.toList_filter]; exact hb.sublist List.filter_sublist
  rw [e1, h, List.filter_append, List.filter_cons]
  rw [h, List.pairwise_append] at hp
  have hA : A.filter (fun x => !decide (x.born = e.born)) = A := List.filter_eq_self.2 fun x hx => by
    have := hp.2.2 x hx e (by simp); simp; omega
  have hB : B.filter (fun x => !decide (x.born = e.born)) = B := List.filter_eq_self.2 fun x hx => by
    have := (List.pairwise_cons.1 hp.2.1).1 x hx; simp; omega
  rw [hA, hB]; simp
theorem map_split {α β γ : Type} {f : α → γ} {g : β → γ} : ∀ {A : List α} {e : α} {B : List α} {l : List β}, (A ++ e :: B).map f = l.map g → ∃ pre x post, l = pre ++ x :: post ∧ A.map f = pre.map g ∧ f e = g x ∧ B.map f = post.map g
  | [], e, B, [], h => by simp at h
  | [], e, B, y :: l, h => by
    simp only [List.nil_append, List.map_cons, List.cons.injEq] at h
    exact ⟨[], y, l, rfl, rfl, h.1, h.2⟩
  | a :: A, e, B, [], h => by simp at h
  | a :: A, e, B, y :: l, h => by
    simp only [List.cons_append, List.map_cons, List.cons.injEq] at h
    obtain ⟨pre, x, post, rfl, h1, h2, h3⟩ := map_split h.2
    exact ⟨y :: pre, x, post, rfl, by simp [h.1, h1], h2, h3⟩

section
variable {κ : Type} {P : Program} {n : Nat} {KK : PK} {f : Fr} {ds : List Deferred} {w : World} {d ty : Nat} {p : String} {af : Array Edge} {g : Option (Nat × Bool)} {t size bytes kt et : Nat} {zero : Value} {x y : Operand} {L : List Atom} {K : κ → Value} {es : Array MapEntry} {clock : Nat}

/-- 'range m' -/
theorem op_range {b : Nat} {m : List (κ × Value)} (H : Holds w L) (hb : w.heap[b]? = some (.map es clock)) (hm : MapObj K m (.map es clock)) (tm : TI P t size bytes zero (.map kt et)) (hx : ev f x = .map (some b)) (hn : d < n)
    (k : ∀ r w', Ext none' w w' → Holds w' (own r (.mapIter (some b) clock #[] clock) :: L) → Rng K es clock #[] m → KK (upd f d (.pointer (some ⟨r, 0, none⟩))) ds w') : Op1 P n ⟨some d, .range t x, ty, p, af, g⟩ f ds w KK := by
  refine Op1_val rfl rfl hn (w' := w.alloc (.mapIter (some b) clock #[] clock)) ?_ (k _ _ (Ext.alloc _ _ _) (H.alloc _) ?_)
  · simp only [execOp, hx, Instr.range, Sem.run_bind, tm.run_underlying, Result.andThen, run_getObj_map hb, Sem.run_pure, run_newObj_alloc]
  · obtain ⟨es', c', he, h1, h2, h3, h4⟩ := hm
    cases he
    refine ⟨h4, h3, ?_⟩
    have e : leftOf es #[] = es := by unfold leftOf; rw [Array.filter_eq_self]; intro x _; simp
    rw [e]; exact h1

theorem heap_of_drew {w w1 : World} (h : w1 = w ∨ w1 = w.drew) : w1.heap = w.heap ∧ w1.os = w.os ∧ w1.tape = w.tape ∧ w1.output = w.output := by
  rcases h with rfl | rfl
  · exact ⟨rfl, rfl, rfl, rfl⟩
  · exact ⟨rfl, rfl, rfl, rfl⟩
theorem ext_setBlock {w w1 : World} {r : Nat} {o : Obj} (h : w1 = w ∨ w1 = w.drew) : Ext (fun k => k = r) w (ChangeMaps.setBlock w1 r o) := by
  obtain ⟨h1, h2, h3, h4⟩ := heap_of_drew h
  refine ⟨h2, h3, h4, ?_, fun k hk hM => ?_⟩
  · simp [ChangeMaps.setBlock, h1]
  · simp only [ChangeMaps.setBlock, h1]
    rw [Array.getElem?_setIfInBounds_ne (Ne.symm hM)]
theorem setBlock_at {w w1 : World} {r : Nat} {o : Obj} (h : w1 = w ∨ w1 = w.drew) (hr : r < w.heap.size) : (ChangeMaps.setBlock w1 r o).heap[r]? = some o := by
  obtain ⟨h1, -⟩ := heap_of_drew h
  simp [ChangeMaps.setBlock, h1, hr]

/-- A step: nothing is left, or one that is left. -/
theorem op_next {b r since c0 : Nat} {seen : Array Nat} {left : List (κ × Value)} (H : Holds w L) (i : Nat) (hi : L[i]? = some (own r (.mapIter (some b) since seen c0))) (hb : w.heap[b]? = some (.map es clock)) (hr : Rng K es since seen left) (hsc : since ≤ c0) (hx : ev f x = .pointer (some ⟨r, 0, none⟩)) (hn : d < n)
    (k0 : left = [] → KK (upd f d (.tuple #[.bool false])) ds w)
    (k1 : ∀ e pre u post w', left = pre ++ u :: post → e ∈ es.toList → e.key = K u.1 → e.val = u.2 → Ext (fun k => k = r) w w' → Holds w' (L.set i (own r (.mapIter (some b) since (seen.push e.born) clock))) → Rng K es since (seen.push e.born) (pre ++ post) → KK (upd f d (.tuple #[.bool true, K u.1, u.2])) ds w') :
    Op1 P n ⟨some d, .next x false, ty, p, af, g⟩ f ds w KK := by
  have hr0 := H.getOwn i hi
  rcases run_next_at (P := P) w ty r b since c0 seen es clock hr0 hb hr.old hsc with ⟨h0, hrun⟩ | ⟨e, he, w1, hw1, hrun⟩
  · refine Op1_val rfl rfl hn (w' := w) ?_ (k0 ?_)
    · simp only [execOp, hx, Sem.run_bind, hrun, Result.andThen, Sem.run_pure]
    · have := hr.left
      have h1 : (leftOf es seen).toList = [] := List.eq_nil_of_length_eq_zero (by simpa using h0)
      rw [h1] at this
      simpa using this.symm
  · obtain ⟨A, B, hAB⟩ := List.append_of_mem he
    have hl := hr.left
    rw [hAB] at hl
    obtain ⟨pre, u, post, rfl, h1, h2, h3⟩ := map_split hl
    obtain ⟨h2k, h2v⟩ : e.key = K u.1 ∧ e.val = u.2 := by simpa using h2
    have hmem : e ∈ es.toList := by
      have : e ∈ (leftOf es seen).toList := he
      unfold leftOf at this; rw [Array.toList_filter] at this; exact (List.mem_filter.1 this).1
    refine Op1_val rfl rfl hn (w' := ChangeMaps.setBlock w1 r (.mapIter (some b) since (seen.push e.born) clock)) ?_ (k1 e pre u post _ rfl hmem h2k h2v (ext_setBlock hw1) (H.step i hi rfl (ext_setBlock hw1) (fun _ _ h => h) (own_ok (setBlock_at hw1 (own_lt hr0))) fun _ h => .inl h) ⟨hr.old, hr.born, ?_⟩)
    · simp only [execOp, hx, Sem.run_bind, hrun, Result.andThen, Sem.run_pure, h2k, h2v]
    · rw [leftOf_push hr.born hAB]; simp [h1, h3]
/-- The entry of the step. -/
theorem y_entry {b r since : Nat} {seen : Array Nat} {e : MapEntry} {u v : Value} (hr0 : w.heap[r]? = some (.mapIter (some b) since (seen.push e.born) clock)) (hb : w.heap[b]? = some (.map es clock)) (he : e ∈ es.toList) (hbn : es.toList.Pairwise fun a b => a.born < b.born) (hu : e.key = u) (hv : e.val = v) (hx : ev f x = .pointer (some ⟨r, 0, none⟩)) :
    Yd P ⟨some d, .entry x, ty, p, af, g⟩ f w (.tuple #[u, v]) :=
  ⟨rfl, by
    have := run_entry_at (P := P) w r b since seen es clock e hr0 hb he (born_nodup hbn)
    rw [hu, hv] at this
    simp only [execOp, hx, Sem.run_bind, this, Result.andThen, Sem.run_pure]⟩
variable [DecidableEq κ]
/-- A map of one's own, laid open; and shut again. -/
theorem Holds.mpOpen {b : Nat} {m : List (κ × Value)} (H : Holds w L) (i : Nat) (hi : L[i]? = some (mp K b m)) : ∃ es clock, MapObj K m (.map es clock) ∧ Holds w (L.set i (own b (.map es clock))) := by
  obtain ⟨o, ho, es, clock, rfl, h⟩ := H.get hi
  exact ⟨es, clock, ⟨es, clock, rfl, h⟩, H.step i hi rfl (Ext.refl none' w) (fun _ _ h => h.elim) (own_ok ho) fun _ h => .inl h⟩
theorem Holds.mpShut {b : Nat} {m : List (κ × Value)} (H : Holds w L) (i : Nat) (hi : L[i]? = some (own b (.map es clock))) (hm : MapObj K m (.map es clock)) : Holds w (L.set i (mp K b m)) :=
  H.step i hi rfl (Ext.refl none' w) (fun _ _ h => h.elim) (mp_ok (H.getOwn i hi) hm) fun _ h => .inl h
end
end Go.Wk
