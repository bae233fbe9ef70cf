/- THE GROUND OF THE WALKS, 20: sums whose result is told; conversions between kinds of numbers; rows read and written an element at a time. -/
import Derived.Test.YtngnplhdokboiaaWkj
namespace Go.Wk
open Go
set_option linter.unusedVariables false
set_option linter.unusedSimpArgs false

section
variable {P : Program} {f : Fr} {w : World} {d t t' ty : Nat} {p : String} {af : Array Edge} {g : Option (Nat × Bool)} {x y : Operand} {a b : Int} {k k' : IntKind}
theorem y_add64' (c : Int) (hx : ev f x = .int .i64 a) (hy : ev f y = .int .i64 b) (h : a + b = c) (h1 : -9223372036854775808 ≤ c) (h2 : c < 9223372036854775808) : Yd P ⟨some d, .binOp .add t x y t', ty, p, af, g⟩ f w (.int .i64 c) := by
  subst h; exact y_add64 hx hy h1 h2
theorem y_sub64' (c : Int) (hx : ev f x = .int .i64 a) (hy : ev f y = .int .i64 b) (h : a - b = c) (h1 : -9223372036854775808 ≤ c) (h2 : c < 9223372036854775808) : Yd P ⟨some d, .binOp .sub t x y t', ty, p, af, g⟩ f w (.int .i64 c) := by
  subst h; exact y_sub64 hx hy h1 h2
theorem y_mul64' (c : Int) (hx : ev f x = .int .i64 a) (hy : ev f y = .int .i64 b) (h : a * b = c) (h1 : -9223372036854775808 ≤ c) (h2 : c < 9223372036854775808) : Yd P ⟨some d, .binOp .mul t x y t', ty, p, af, g⟩ f w (.int .i64 c) := by
  subst h
  have := y_mulw (P := P) (w := w) (d := d) (t := t) (t' := t') (ty := ty) (p := p) (af := af) (g := g) hx hy
  rwa [show IntKind.i64.wrap (a * b) = a * b from IntWalk.i64_in _ (by omega)] at this
/-- A conversion between kinds of numbers. -/
theorem y_conv (c : Int) (hs : (P.underlying t).isSome = true) (hd : P.underlying t' = some (.int k')) (hx : ev f x = .int k a) (h : k'.wrap a = c) : Yd P ⟨some d, .convert t t' x, ty, p, af, g⟩ f w (.int k' c) := by
  subst h
  have hk : P.intKind t' = k' := by simp [Program.intKind, hd]
  have := run_convert_int (P := P) w t t' k a hs (by rw [hk]; exact hd)
  rw [hk] at this
  exact ⟨rfl, by simp only [execOp, hx, Sem.run_bind, this, Result.andThen, Sem.run_pure]⟩
theorem y_shr1 (c : Int) (hx : ev f x = .int k a) (hy : ev f y = .int k' 1) (hb : 1 ≤ k.bits) (h : a.fdiv 2 = c) : Yd P ⟨some d, .binOp .shr t x y t', ty, p, af, g⟩ f w (.int k c) := by
  subst h
  refine ⟨rfl, ?_⟩
  have e : min (Int.toNat 1) k.bits = 1 := by show min 1 k.bits = 1; omega
  have hs : (Op.shift .shr k a k' 1).run P w = .ok (.int k (a.fdiv 2)) w := by
    unfold Op.shift
    rw [if_neg (by decide)]
    simp only [e]
    rfl
  simp [execOp, hx, hy, eqGuard, binOp, Result.andThen, hs]
end
theorem wrap_u64 {a : Int} (h0 : 0 ≤ a) (h1 : a < 18446744073709551616) : IntKind.u64.wrap a = a := by
  show IntKind.wrap .u64 a = a
  unfold IntKind.wrap
  simp [IntKind.signed, IntKind.bits]
  omega
theorem wrap_i64 {a : Int} (h0 : -9223372036854775808 ≤ a) (h1 : a < 9223372036854775808) : IntKind.i64.wrap a = a := IntWalk.i64_in _ (by omega)

/-! ### Rows, an element at a time -/
section
variable {P : Program} {n : Nat} {K : PK} {f : Fr} {ds : List Deferred} {w : World} {L : List Atom} {d t ty size bytes : Nat} {zero : Value} {dd : TypeDesc} {p : String} {af : Array Edge} {g : Option (Nat × Bool)} {x y : Operand}
theorem rowCells {w : World} {e sz m : Nat} {v : Value} {cs : List Value} (h : w.ownsRow 0 e sz v m cs) {b o : Nat} (hv : v.ownBlock = some b) {us : List Value} (hc : (cs.drop o).take us.length = us) : Cells w b o us := by
  rcases h.2 with ⟨rfl, _⟩ | ⟨g', cap, cur, rfl, _, hh, hcc, hm, hsz, ht⟩
  · simp [Value.ownBlock] at hv
  · have hbg : g' = b := by simpa [Value.ownBlock] using hv
    subst hbg
    have hC : Cells w g' 0 cs := Cells.of hh (by rw [List.drop_zero, h.1]; exact ht)
    have := hC.take o hc
    rwa [Nat.zero_add] at this
theorem flat_at {α : Type} {g : α → List Value} {m : Nat} (hg : ∀ x, (g x).length = m) {l : List α} {i : Nat} {x : α} (hi : l[i]? = some x) : ((l.flatMap g).drop (i * m)).take (g x).length = g x := by
  apply List.ext_getElem?
  intro c
  rw [hg]
  by_cases hc : c < m
  · rw [List.getElem?_take_of_lt hc, List.getElem?_drop, flat_get hg l i c hc, hi]; rfl
  · rw [List.getElem?_eq_none (by simp; omega), List.getElem?_eq_none (by rw [hg]; omega)]
/-- An element of a row that lies there element by element. -/
theorem rowElAt {α : Type} {g : α → List Value} {m : Nat} (hg : ∀ x, (g x).length = m) {w : World} {e n : Nat} {v : Value} {l : List α} (h : w.ownsRow 0 e m v n (l.flatMap g)) {b : Nat} (hv : v.ownBlock = some b) {i : Nat} {x : α} (hi : l[i]? = some x) : Cells w b (0 + i * m) (g x) := by
  rw [Nat.zero_add]; exact rowCells h hv (flat_at hg hi)
theorem flat_setEl {α : Type} {g : α → List Value} {m : Nat} (hg : ∀ x, (g x).length = m) : ∀ (l : List α) (i : Nat) (x : α), i < l.length → (l.flatMap g).take (i * m) ++ g x ++ (l.flatMap g).drop (i * m + m) = (l.set i x).flatMap g
  | [], i, x, h => by simp at h
  | y :: l, 0, x, h => by
    have : (g y).length = m := hg y
    simp [List.drop_append, ← this]
  | y :: l, i + 1, x, h => by
    have e1 : (i + 1) * m = (g y).length + i * m := by rw [hg, Nat.add_mul]; omega
    rw [List.flatMap_cons, List.set_cons_succ, List.flatMap_cons, e1, List.take_length_add_append, Nat.add_assoc, List.drop_length_add_append, List.append_assoc, List.append_assoc, ← flat_setEl hg l i x (by simpa using h)]
    simp
/-- Many cells of a row of one's own are written at once. -/
theorem op_storeRowA (H : Holds w L) (i : Nat) {e sz m : Nat} {v : Value} {cs : List Value} (hi : L[i]? = some (row e sz v m cs)) {b o : Nat} (hv : v.ownBlock = some b) (ti : TI P t size bytes zero dd) {u : Value} (hx : ev f x = .pointer (some ⟨b, o, none⟩)) (hy : ev f y = u)
    (hu : u.cells.size = size) (ho : o + size ≤ cs.length) (h1 : ∀ c ∈ u.cells.toList, c.oneCell' = true) (k : ∀ w', Holds w' (L.set i (row e sz v m (cs.take o ++ u.cells.toList ++ cs.drop (o + size)))) → K f ds w') : Op1 P n ⟨none, .store t x y, ty, p, af, g⟩ f ds w K := by
  obtain ⟨hl, hor⟩ := H.get hi
  rcases hor with ⟨rfl, rfl⟩ | ⟨g', cap, cur, rfl, hb0, hh, hc, hm, hsz, ht⟩
  · simp [Value.ownBlock] at hv
  · have hbg : g' = b := by simpa [Value.ownBlock] using hv
    subst hbg
    have hlen : m * sz ≤ cap * sz := Nat.mul_le_mul_right _ hc
    have hcl : cs.length ≤ cur.size := by omega
    have hul : u.cells.toList.length = size := by simpa using hu
    have hst := run_storeCells (P := P) (o := o) u.cells.toList 0 w cur hh (by rw [hul]; omega) h1
    simp only [Nat.add_zero] at hst
    have hlaid := laid_toList cur o u.cells.toList (by rw [hul]; omega)
    refine Op1_skip rfl rfl (w' := w.putObj g' (.cells (laid cur o u.cells.toList) e)) ?_ (k _ (H.step i hi rfl (Ext.put w g' _) (fun k _ hk => by subst hk; simp [Value.ownBlock]) (row_ok ⟨?_, .inr ⟨g', cap, _, rfl, hb0, World.putObj_heap_same (own_lt hh), hc, hm, by rw [laid_size]; exact hsz, ?_⟩⟩) fun _ h => .inl h))
    · simp [execOp, hx, hy, Instr.storeAt, Instr.sureAddr, storeVar, ti.run_size, hu, Result.andThen, hst]
    · simp only [List.length_append, List.length_take, List.length_drop, hul]; omega
    · rw [hlaid, hul]
      have e1 : m * sz = cs.length := hl.symm
      rw [e1] at ht ⊢
      rw [← ht]
      simp only [List.take_append, List.length_append, List.length_take, Array.length_toList, hul, List.take_take, List.length_drop]
      have h2 : min o cur.size = o := by omega
      have h3 : min cs.length cur.size = cs.length := by omega
      simp only [h2, h3]
      have h4 : min cs.length o = o := by omega
      have h5 : min o cs.length = o := by omega
      rw [h4, List.take_of_length_le (l := u.cells.toList) (by rw [hul]; omega), h5, List.drop_take, show cs.length - (o + size) = cs.length - (o + size) from rfl]
/-- An element of such a row is written. -/
theorem op_storeEl {α : Type} {gg : α → List Value} {m : Nat} (hg : ∀ x, (gg x).length = m) (H : Holds w L) (i : Nat) {e nn : Nat} {v : Value} {l : List α} (hi : L[i]? = some (row e m v nn (l.flatMap gg))) {b j : Nat} (hv : v.ownBlock = some b) (ti : TI P t m bytes zero dd) {u : Value} (el : α)
    (hx : ev f x = .pointer (some ⟨b, 0 + j * m, none⟩)) (hy : ev f y = u) (hu : u.cells.toList = gg el) (hj : j < l.length) (h1 : ∀ c ∈ gg el, c.oneCell' = true) (k : ∀ w', Holds w' (L.set i (row e m v nn ((l.set j el).flatMap gg))) → K f ds w') : Op1 P n ⟨none, .store t x y, ty, p, af, g⟩ f ds w K := by
  rw [Nat.zero_add] at hx
  refine op_storeRowA H i hi hv ti hx hy (by rw [← Array.length_toList, hu, hg]) (by rw [flat_len hg]; have := Nat.mul_le_mul_right m (show j + 1 ≤ l.length from hj); rw [Nat.add_mul] at this; omega) (by rw [hu]; exact h1) fun w' H' => k w' ?_
  rw [hu, flat_setEl hg l j el hj] at H'
  exact H'
end
end Go.Wk
