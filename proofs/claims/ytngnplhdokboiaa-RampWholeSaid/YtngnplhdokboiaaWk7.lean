/- THE GROUND OF THE WALKS, 7: shorthands: a variable that is made and filled at once; data of numbers alone; rows read element by element; sums of ints in their bounds. -/
import Derived.Test.YtngnplhdokboiaaWk6
namespace Go.Wk
open Go
set_option linter.unusedVariables false
set_option linter.unusedSimpArgs false

theorem laid_full : ∀ (vs : List Value) (pre : List Value) (C : List Value), C.length = vs.length → laid (pre ++ C).toArray pre.length vs = (pre ++ vs).toArray
  | [], pre, C, h => by simp at h; subst h; rfl
  | v :: r, pre, [], h => by simp at h
  | v :: r, pre, c :: C, h => by
    simp only [laid]
    have e : (pre ++ c :: C).toArray.setIfInBounds pre.length v = (pre ++ [v] ++ C).toArray := by
      simp [List.setIfInBounds_toArray, List.set_append]
    rw [e]
    have := laid_full r (pre ++ [v]) C (by simpa using h)
    simp only [List.length_append, List.length_cons, List.length_nil] at this
    rw [this]; simp
theorem laid_all (C : Array Value) (vs : Array Value) (h : C.size = vs.size) : laid C 0 vs.toList = vs := by
  have := laid_full vs.toList [] C.toList (by simpa using h)
  simpa using this

section
variable {P : Program} {l : Option Nat} {n : Nat} {Q : PQ} {f : Fr} {ds : List Deferred} {w : World} {d t size bytes : Nat} {zero : Value} {dd : TypeDesc} {y : Operand} {L : List Atom} {all : Array Oper} {rest : List Oper} {ty1 ty2 : Nat} {p1 p2 : String} {a1 a2 : Array Edge}
/-- 'x := v' where x lies in memory: made, and filled. -/
theorem OL_var (H : Holds w L) (ti : TI P t size bytes zero dd) (hz : zero.cells.size = size) {v : Value} (hn : d < n) (hy : ∀ u, ev (upd f d u) y = v) (hs : v.cells.size = size) (h1 : ∀ u ∈ v.cells.toList, u.oneCell' = true)
    (k : ∀ b w', Holds w' (own b (.cells v.cells t) :: L) → OL P l n all Q rest (upd f d (.pointer (some ⟨b, 0, none⟩))) ds w') :
    OL P l n all Q (⟨some d, .alloc t, ty1, p1, a1, none⟩ :: ⟨none, .store t (.tmp d) y, ty2, p2, a2, none⟩ :: rest) f ds w := by
  refine OL_c (op_alloc H ti hn fun b w' H' => ?_)
  refine OL_c (op_store H' 0 rfl ti (upd_same _ _ _) (hy _) hs (by rw [hz]; omega) h1 fun w'' H'' => ?_)
  have e : laid zero.cells 0 v.cells.toList = v.cells := laid_all _ _ (by rw [hz, hs])
  rw [e] at H''
  exact k b w'' H''
theorem y_add64 {x y : Operand} {a b : Int} {t t' ty : Nat} {p : String} {af : Array Edge} {g : Option (Nat × Bool)} (hx : ev f x = .int .i64 a) (hy : ev f y = .int .i64 b) (h1 : -9223372036854775808 ≤ a + b) (h2 : a + b < 9223372036854775808) :
    Yd P ⟨some d, .binOp .add t x y t', ty, p, af, g⟩ f w (.int .i64 (a + b)) := by
  have := y_addw (P := P) (w := w) (d := d) (t := t) (t' := t') (ty := ty) (p := p) (af := af) (g := g) hx hy
  rwa [show IntKind.i64.wrap (a + b) = a + b from IntWalk.i64_in _ (by omega)] at this
theorem y_sub64 {x y : Operand} {a b : Int} {t t' ty : Nat} {p : String} {af : Array Edge} {g : Option (Nat × Bool)} (hx : ev f x = .int .i64 a) (hy : ev f y = .int .i64 b) (h1 : -9223372036854775808 ≤ a - b) (h2 : a - b < 9223372036854775808) :
    Yd P ⟨some d, .binOp .sub t x y t', ty, p, af, g⟩ f w (.int .i64 (a - b)) := by
  have := y_subw (P := P) (w := w) (d := d) (t := t) (t' := t') (ty := ty) (p := p) (af := af) (g := g) hx hy
  rwa [show IntKind.i64.wrap (a - b) = a - b from IntWalk.i64_in _ (by omega)] at this
end

/-- Data that stand on no memory. -/
def Ty.flat {α : Type} (T : Ty α) : Prop := ∀ {Z Z' : Nat → Prop} {w w' : World} {cs : List Value} {x : α}, T.R Z w cs x → T.R Z' w' cs x
theorem tInt_flat (k : IntKind) : (tInt k).flat := fun h => h
theorem tBool_flat : tBool.flat := fun h => h
theorem tPair_flat {α β : Type} {A : Ty α} {B : Ty β} (a : A.flat) (b : B.flat) : (tPair A B).flat := fun ⟨c1, c2, e, h1, h2⟩ => ⟨c1, c2, e, a h1, b h2⟩
theorem tMap_flat {α β : Type} {A : Ty α} {f : β → α} (a : A.flat) : (tMap A f).flat := fun h => a h
theorem Els.flat {α : Type} {T : Ty α} (hf : T.flat) {Z Z' : Nat → Prop} {w w' : World} {cs : List Value} {xs : List α} (h : Els T Z w cs xs) : Els T Z' w' cs xs := ⟨h.1, fun i x hx => hf (h.2 i x hx)⟩

/-- A row of one's own: what holds of it as a slice. -/
theorem Holds.rowLen {w : World} {L : List Atom} (h : Holds w L) (i : Nat) {e size : Nat} {v : Value} {n : Nat} {cs : List Value} (hi : L[i]? = some (row e size v n cs)) : ∃ a c, v = .slice a n c ∧ n ≤ c ∧ c ≤ maxLen := by
  obtain ⟨a, c, h1, h2, _, h3⟩ := ownsRow_slice (h.get hi); exact ⟨a, c, h1, h2, h3⟩
theorem Holds.rowAt {α : Type} {T : Ty α} {w : World} {L : List Atom} {Z : Nat → Prop} (h : Holds w L) (i : Nat) {e n : Nat} {v : Value} {cs : List Value} {xs : List α} (hi : L[i]? = some (row e T.sz v n cs)) (he : Els T Z w cs xs) {j : Nat} {x : α} (hx : xs[j]? = some x) (hp : Nat.ble 1 T.sz = true) :
    ∃ b c cs', v = .slice (some ⟨b, 0, none⟩) n c ∧ Cells w b (0 + j * T.sz) cs' ∧ T.R Z w cs' x := by
  have ho := h.get hi
  have hp' := Nat.le_of_ble_eq_true hp
  have hl := ownsRow_slice ho
  have hj := (List.getElem?_eq_some_iff.1 hx).1
  have hn : n = xs.length := by
    obtain ⟨_, _, _, _, h1, _⟩ := hl; rw [he.1] at h1; exact (Nat.eq_of_mul_eq_mul_right hp' h1).symm
  obtain ⟨b, c, hv, hc, hC⟩ := ownsRow_cells ho (by omega)
  refine ⟨b, c, (cs.drop (j * T.sz)).take T.sz, hv, ?_, he.2 j x hx⟩
  refine hC.take (j * T.sz) ?_
  rw [List.length_take, List.length_drop]
  have hb : j * T.sz + T.sz ≤ cs.length := by rw [he.1]; have := Nat.mul_le_mul_right T.sz (show j + 1 ≤ xs.length from hj); rw [Nat.add_mul] at this; omega
  rw [Nat.min_eq_left (by omega)]

theorem Holds.getRow {w : World} {L : List Atom} (h : Holds w L) (i : Nat) {e size : Nat} {v : Value} {n : Nat} {cs : List Value} (hi : L[i]? = some (row e size v n cs)) : w.ownsRow 0 e size v n cs := h.get hi
/-- An exclusive atom lies beyond what was there at the begin. -/
theorem Holds.fresh {w : World} {L : List Atom} (h : Holds w L) (i j : Nat) {a : Atom} {n0 : Nat} {w0 : World} (hi : L[i]? = some a) (hj : L[j]? = some (shr (fun k => k < n0) w0)) (hx : a.excl = true := by rfl) : ∀ k, a.F k → n0 ≤ k := by
  intro k hk
  have hmem := List.mem_of_getElem? hj
  have hne : i ≠ j := by
    rintro rfl
    rw [hi] at hj; injection hj with hj; subst hj; cases hx
  have hap := getElem_apart h.apart hi (shr (fun k => k < n0) w0) (by
    rw [List.mem_eraseIdx_iff_getElem?]
    exact ⟨j, Ne.symm hne, hj⟩) (.inl hx) k hk
  exact Nat.le_of_not_lt hap

theorem Src.row {w : World} {e size : Nat} {v : Value} {n : Nat} {cs : List Value} (h : w.ownsRow 0 e size v n cs) : Src w v n cs := by
  rcases h.2 with ⟨rfl, rfl⟩ | ⟨g, cap, cur, rfl, _, hh, hc, hm, hsz, ht⟩
  · exact ⟨none, 0, rfl, fun _ => ⟨rfl, rfl⟩, fun A e => (by cases e)⟩
  · exact Src.cells (Cells.of hh (by rw [List.drop_zero, h.1]; exact ht)) n cap

/-- A function that writes into a row that came in: it starts with the row, and with all else. -/
theorem Holds.startRow {w : World} {e size : Nat} {v : Value} {n : Nat} {cs : List Value} (h : w.ownsRow 0 e size v n cs) : Holds w [row e size v n cs, shr (fun k => k < w.heap.size ∧ v.ownBlock ≠ some k) w] :=
  ((Holds.nil w).cons (a := shr (fun k => k < w.heap.size ∧ v.ownBlock ≠ some k) w) ⟨⟨Nat.le_refl _, rfl, rfl, rfl, fun _ _ => rfl⟩, fun _ h => h.1, shr_stable fun _ h => h.1⟩ (by simp)).cons (row_ok h) fun b hb _ k hk hF => by
    simp only [List.mem_singleton] at hb; subst hb; exact hF.2 hk
theorem Holds.ext_row {w0 w : World} {L : List Atom} {v : Value} (h : Holds w L) (i : Nat) (hi : L[i]? = some (shr (fun k => k < w0.heap.size ∧ v.ownBlock ≠ some k) w0)) : Ext (fun k => v.ownBlock = some k) w0 w := by
  obtain ⟨a, b, c, d, e⟩ := h.get hi
  exact ⟨b, c, d, a, fun k hk hm => e k ⟨hk, hm⟩⟩

/-- The pair (1 cell, 1 cell) of two numbers. -/
theorem pair_cells {k k' : IntKind} {Z : Nat → Prop} {w : World} {cs : List Value} {x : Int × Int} (h : (tPair (tInt k) (tInt k')).R Z w cs x) : cs = [.int k x.1, .int k' x.2] ∧ InK k x.1 ∧ InK k' x.2 := by
  obtain ⟨c1, c2, rfl, ⟨rfl, h1⟩, ⟨rfl, h2⟩⟩ := h
  exact ⟨rfl, h1, h2⟩
end Go.Wk
