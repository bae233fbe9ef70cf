/- THE GROUND OF THE WALKS, 16: stores into a row; two effects in either order; rows of many cells each. -/
import Derived.Test.YtngnplhdokboiaaWkf
namespace Go.Wk
open Go
set_option linter.unusedVariables false

section
variable {P : Program} {l : Option Nat} {n : Nat} {K : PK} {f : Fr} {ds : List Deferred} {w : World} {L : List Atom} {d t ty size bytes : Nat} {zero : Value} {dd : TypeDesc} {p : String} {af : Array Edge} {g : Option (Nat × Bool)} {x y : Operand}

theorem rowCell {w : World} {e sz m : Nat} {v : Value} {cs : List Value} (h : w.ownsRow 0 e sz v m cs) {b o : Nat} {u : Value} (hv : v.ownBlock = some b) (hc : cs[o]? = some u) : Cells w b o [u] := by
  rcases h.2 with ⟨rfl, _⟩ | ⟨g', cap, cur, rfl, _, hh, hcc, hm, hsz, ht⟩
  · simp [Value.ownBlock] at hv
  · have hbg : g' = b := by simpa [Value.ownBlock] using hv
    subst hbg
    refine Cells.unit hh ?_
    have hl := (List.getElem?_eq_some_iff.1 hc).1
    rw [← ht, List.getElem?_take_of_lt (by rw [← h.1]; exact hl), Array.getElem?_toList] at hc
    exact hc
/-- One cell of a row of one's own is written. -/
theorem op_storeRow (H : Holds w L) (i : Nat) {e sz m : Nat} {v : Value} {cs : List Value} (hi : L[i]? = some (row e sz v m cs)) {b o : Nat} (hv : v.ownBlock = some b) (ti : TI P t 1 bytes zero dd) {u : Value} (hx : ev f x = .pointer (some ⟨b, o, none⟩)) (hy : ev f y = u)
    (hu : u.cells = #[u]) (ho : o < cs.length) (h1 : u.oneCell' = true) (k : ∀ w', Holds w' (L.set i (row e sz v m (cs.set o u))) → K f ds w') : Op1 P n ⟨none, .store t x y, ty, p, af, g⟩ f ds w K := by
  obtain ⟨hl, hor⟩ := H.get hi
  rcases hor with ⟨rfl, rfl⟩ | ⟨g', cap, cur, rfl, hb0, hh, hc, hm, hsz, ht⟩
  · simp [Value.ownBlock] at hv
  · have hbg : g' = b := by simpa [Value.ownBlock] using hv
    subst hbg
    have hlen : m * sz ≤ cap * sz := Nat.mul_le_mul_right _ hc
    have hcl : cs.length ≤ cur.size := by omega
    have hst := run_storeCells (P := P) (o := o) u.cells.toList 0 w cur hh (by rw [hu]; simp; omega) (by rw [hu]; simpa using h1)
    simp only [Nat.add_zero] at hst
    have hlaid : laid cur o u.cells.toList = cur.setIfInBounds o u := by rw [hu]; rfl
    refine Op1_skip rfl rfl (w' := w.putObj g' (.cells (laid cur o u.cells.toList) e)) ?_ (k _ (H.step i hi rfl (Ext.put w g' _) (fun k _ hk => by subst hk; simp [Value.ownBlock]) (row_ok ⟨by rw [List.length_set]; exact hl, .inr ⟨g', cap, _, rfl, hb0, World.putObj_heap_same (own_lt hh), hc, hm, by rw [hlaid]; simpa using hsz, ?_⟩⟩) fun _ h => .inl h))
    · simp [execOp, hx, hy, Instr.storeAt, Instr.sureAddr, storeVar, ti.run_size, hu, Result.andThen]
      rw [hu] at hst; simp at hst; rw [hst]
    · rw [hlaid, Array.toList_setIfInBounds, List.take_set, ht]
end

section
variable {P : Program} {n : Nat} {Q : PQ} {f : Fr} {ds : List Deferred} {w : World} {ops : List Oper} {bs : List Nat} {S0 : World → Prop} {fuel : Nat} {listed : List Bool}
theorem Op1.imp {o : Oper} {K K' : PK} (h : Op1 P n o f ds w K) (hk : ∀ f ds w, K f ds w → K' f ds w) : Op1 P n o f ds w K' := ⟨h.1, fun a ha he _ => Oper.wp_mono' (fun a w hh => by obtain ⟨f', h1, h2⟩ := hh; exact ⟨f', h1, hk _ _ _ h2⟩) (h.2 a ha he)⟩
/-- Two effects, in either order. -/
theorem DA_pair (i j : Nat) {dst dst' : Option Nat} {op op' : Op} {ty ty' : Nat} {p p' : String} {af af' : Array Edge} (hr : Region.ready .any ops.toArray listed.toArray = [i, j]) (hri : Region.ready .any ops.toArray (listed.set i true).toArray = [j]) (hrj : Region.ready .any ops.toArray (listed.set j true).toArray = [i])
    (hne : i ≠ j) (hi : ops[i]? = some ⟨dst, op, ty, p, af, none⟩) (hj : ops[j]? = some ⟨dst', op', ty', p', af', none⟩) (A : PK)
    (h : Op1 P n ⟨dst, op, ty, p, af, none⟩ f ds w fun f1 ds1 w1 => Sx bs S0 (listed.set i true).toArray w1 ∧ Op1 P n ⟨dst', op', ty', p', af', none⟩ f1 ds1 w1 fun f2 ds2 w2 => Sx bs S0 ((listed.set i true).set j true).toArray w2 ∧ A f2 ds2 w2)
    (h' : Op1 P n ⟨dst', op', ty', p', af', none⟩ f ds w fun f1 ds1 w1 => Sx bs S0 (listed.set j true).toArray w1 ∧ Op1 P n ⟨dst, op, ty, p, af, none⟩ f1 ds1 w1 fun f2 ds2 w2 => Sx bs S0 ((listed.set i true).set j true).toArray w2 ∧ A f2 ds2 w2)
    (k : ∀ f ds w, Sx bs S0 ((listed.set i true).set j true).toArray w → A f ds w → DA P n ops bs S0 Q fuel ((listed.set i true).set j true) f ds w) : DA P n ops bs S0 Q (fuel + 1 + 1) listed f ds w := by
  refine DA_two i j hr hi hj (h.imp ?_) (h'.imp ?_)
  · rintro f1 ds1 w1 ⟨hs, h2⟩
    exact ⟨hs, DA_one j hri hj (h2.imp fun f2 ds2 w2 ⟨hs2, ha⟩ => ⟨hs2, k _ _ _ hs2 ha⟩)⟩
  · rintro f1 ds1 w1 ⟨hs, h2⟩
    refine ⟨hs, DA_one i hrj hi (h2.imp fun f2 ds2 w2 ⟨hs2, ha⟩ => ?_)⟩
    rw [List.set_comm _ _ (Ne.symm hne)]
    exact ⟨hs2, k _ _ _ hs2 ha⟩
end

section
variable {α : Type}
theorem Cells.append {w : World} {b o : Nat} {c1 c2 : List Value} (h1 : Cells w b o c1) (h2 : Cells w b (o + c1.length) c2) : Cells w b o (c1 ++ c2) := by
  obtain ⟨C, ty, fr, hb, hc⟩ := h1
  obtain ⟨C', ty', fr', hb', hc'⟩ := h2
  rw [hb] at hb'; injection hb' with hb'; injection hb' with e1 e2 e3; subst e1 e2 e3
  refine ⟨C, ty, fr, hb, fun i hi => ?_⟩
  by_cases h : i < c1.length
  · rw [List.getElem?_append_left h]; exact hc i h
  · rw [List.getElem?_append_right (by omega)]
    have := hc' (i - c1.length) (by simp at hi; omega)
    rwa [show o + c1.length + (i - c1.length) = o + i by omega] at this
/-- What an append reads of a slice. -/
theorem SlR.src {T : Ty α} {bytes : Nat} {Z : Nat → Prop} {w : World} {v : Value} {xs : List α} (h : SlR T bytes Z w v xs) : ∃ news, (∀ w', Keeps Z w w' → Src w' v xs.length news) ∧ Els T Z w news xs := by
  obtain ⟨a, c, rfl, h1, h2, h3, h4, h5⟩ := h
  by_cases hx : xs = []
  · subst hx
    exact ⟨[], fun _ _ => ⟨a, c, rfl, h2, fun A e j u hu => by simp at hu⟩, Els.nil _ _ _⟩
  · obtain ⟨x0, hx0⟩ : ∃ x, xs[0]? = some x := ⟨xs[0]'(List.length_pos_iff.2 hx), List.getElem?_eq_getElem _⟩
    obtain ⟨b, o, _, rfl, hz0, hc0, _⟩ := h5 0 x0 hx0
    have key : ∀ k, k ≤ xs.length → ∃ news, Els T Z w news (xs.take k) ∧ Cells w b o news := by
      intro k
      induction k with
      | zero => intro _; exact ⟨[], by simpa using Els.nil T Z w, by obtain ⟨C, ty, fr, hb, _⟩ := hc0; exact ⟨C, ty, fr, hb, fun i hi => by simp at hi⟩⟩
      | succ k ih =>
        intro hk
        obtain ⟨news, he, hc⟩ := ih (by omega)
        obtain ⟨x, hxk⟩ : ∃ x, xs[k]? = some x := ⟨xs[k]'(by omega), List.getElem?_eq_getElem _⟩
        obtain ⟨b', o', cs, e, _, hcs, hr⟩ := h5 k x hxk
        injection e with e; injection e with e1 e2 _; subst e1 e2
        refine ⟨news ++ cs, by rw [List.take_add_one, hxk]; exact he.snoc hr, hc.append ?_⟩
        rw [he.1, List.length_take, Nat.min_eq_left (by omega)]; exact hcs
    obtain ⟨news, he, hc⟩ := key xs.length (Nat.le_refl _)
    rw [List.take_length] at he
    exact ⟨news, fun w' k => Src.cells (hc.ext (k.2 b hz0 hc.lt)) _ _, he⟩
theorem cutA_zero (a : Option Addr) (m size : Nat) : cutA a m 0 size = a := by
  unfold cutA; split
  · rfl
  · cases a with
    | none => rfl
    | some a => simp [Addr.add]
/-- A slice's begin. -/
theorem SlR.take {T : Ty α} {bytes : Nat} {Z : Nat → Prop} {w : World} {a : Option Addr} {n c : Nat} {xs : List α} (h : SlR T bytes Z w (.slice a n c) xs) (k : Nat) (hk : k ≤ xs.length) (m size : Nat) : SlR T bytes Z w (.slice (cutA a m 0 size) k c) (xs.take k) := by
  rw [cutA_zero]
  obtain ⟨a', c', e, h1, h2, h3, h4, h5⟩ := h
  injection e with e1 e2 e3; subst e1 e3
  have hl : (xs.take k).length = k := by rw [List.length_take]; omega
  refine ⟨a, c, by rw [hl], by omega, fun h => ⟨by have := (h2 h).1; omega, (h2 h).2⟩, by rw [hl]; exact Nat.le_trans (Nat.mul_le_mul_right _ hk) h3, h4, fun i x hx => h5 i x ?_⟩
  rw [List.getElem?_take] at hx
  split at hx
  · exact hx
  · cases hx
theorem Holds.addNils {w : World} {L : List Atom} (h : Holds w L) (e size : Nat) : ∀ n, Holds w (List.replicate n (row e size (.slice none 0 0) 0 []) ++ L)
  | 0 => by simpa using h
  | n + 1 => by rw [List.replicate_succ, List.cons_append]; exact (Holds.addNils h e size n).rowNil e size
theorem flat_get {g : α → List Value} {m : Nat} (hg : ∀ x, (g x).length = m) : ∀ (l : List α) (i c : Nat), c < m → (l.flatMap g)[i * m + c]? = (l[i]?).bind fun x => (g x)[c]?
  | [], i, c, _ => by simp
  | x :: l, 0, c, hc => by
    rw [List.flatMap_cons, List.getElem?_append_left (by rw [hg]; omega)]; simp
  | x :: l, i + 1, c, hc => by
    rw [List.flatMap_cons, List.getElem?_append_right (by rw [hg, Nat.add_mul]; omega), hg, show (i + 1) * m + c - m = i * m + c by rw [Nat.add_mul]; omega, flat_get hg l i c hc]; simp
theorem flat_len {g : α → List Value} {m : Nat} (hg : ∀ x, (g x).length = m) : ∀ (l : List α), (l.flatMap g).length = l.length * m
  | [] => by simp
  | x :: l => by rw [List.flatMap_cons, List.length_append, hg, flat_len hg l, List.length_cons, Nat.add_mul]; omega
theorem flat_set {g : α → List Value} {m : Nat} (hg : ∀ x, (g x).length = m) : ∀ (l : List α) (i c : Nat) (x x' : α) (v : Value), c < m → l[i]? = some x → g x' = (g x).set c v → (l.flatMap g).set (i * m + c) v = (l.set i x').flatMap g
  | [], i, c, x, x', v, _, h, _ => by simp at h
  | y :: l, 0, c, x, x', v, hc, h, hx => by
    simp at h; subst h
    rw [List.flatMap_cons, List.set_append_left _ _ (by rw [hg]; omega), List.set_cons_zero, List.flatMap_cons, hx]; simp
  | y :: l, i + 1, c, x, x', v, hc, h, hx => by
    simp at h
    rw [List.flatMap_cons, List.set_append_right _ _ (by rw [hg, Nat.add_mul]; omega), hg, show (i + 1) * m + c - m = i * m + c by rw [Nat.add_mul]; omega, flat_set hg l i c x x' v hc h hx, List.set_cons_succ, List.flatMap_cons]
end
end Go.Wk
