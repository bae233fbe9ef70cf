/- THE GROUND OF THE WALKS, 4: the rules for operations on memory: new variables, loads, stores, fields, indexes, literals, len, append onto a row of one's own. -/
import Derived.Test.YtngnplhdokboiaaWk3
import Derived.WalkKit
namespace Go.Wk
open Go
set_option linter.unusedVariables false
set_option linter.unusedSimpArgs false

/-- What the table says of a type. -/
structure TI (P : Program) (t size bytes : Nat) (zero : Value) (d : TypeDesc) : Prop where
  u : P.underlying t = some d
  i : ∃ i, P.info? t = some i ∧ i.size = size ∧ i.zero = some zero ∧ i.bytes = bytes
def isAggD : TypeDesc → Bool
  | .struct _ | .array _ _ => true
  | _ => false

section
variable {P : Program} {w : World} {t size bytes : Nat} {zero : Value} {dd : TypeDesc}
theorem TI.run_underlying (h : TI P t size bytes zero dd) : (underlying t).run P w = .ok dd w := Go.run_underlying h.u w
theorem TI.run_size (h : TI P t size bytes zero dd) : (sizeOf t).run P w = .ok size w := by
  obtain ⟨i, hi, hs, -, -⟩ := h.i
  simp [sizeOf, typeInfo, hi, hs]
theorem TI.run_zero (h : TI P t size bytes zero dd) : (zeroValue t).run P w = .ok zero w := by
  obtain ⟨i, hi, -, hz, -⟩ := h.i
  simp [zeroValue, typeInfo, hi, hz]
theorem TI.run_isAgg (h : TI P t size bytes zero dd) : (isAgg t).run P w = .ok (isAggD dd) w := by
  simp only [isAgg, Sem.run_bind, h.run_underlying, Result.andThen]
  cases dd <;> rfl
end

/-- In w, from cell o of block b on, lie the cells cs. -/
def Cells (w : World) (b o : Nat) (cs : List Value) : Prop := ∃ (C : Array Value) (ty : TypeId) (fr : Nat × Nat), w.heap[b]? = some (.cells C ty fr) ∧ ∀ i, i < cs.length → C[o + i]? = cs[i]?
theorem Cells.cell {w : World} {b o : Nat} {cs : List Value} (h : Cells w b o cs) (i : Nat) {v : Value} (hv : cs[i]? = some v) : w.cell? ⟨b, o + i, none⟩ = some v := by
  obtain ⟨C, ty, fr, hb, hc⟩ := h
  have hi : i < cs.length := (List.getElem?_eq_some_iff.1 hv).1
  simp [World.cell?, hb, hc i hi, hv]
theorem Cells.one {w : World} {b o : Nat} {v : Value} (h : Cells w b o [v]) : w.cell? ⟨b, o, none⟩ = some v := h.cell 0 rfl
theorem Cells.of {w : World} {b : Nat} {C : Array Value} {ty : TypeId} {fr : Nat × Nat} (h : w.heap[b]? = some (.cells C ty fr)) {o : Nat} {cs : List Value} (hc : (C.toList.drop o).take cs.length = cs) : Cells w b o cs :=
  ⟨C, ty, fr, h, fun i hi => by
    have : ((C.toList.drop o).take cs.length)[i]? = cs[i]? := by rw [hc]
    rw [List.getElem?_take_of_lt hi, List.getElem?_drop] at this
    rw [← this]; simp⟩
theorem Cells.take {w : World} {b o : Nat} {xs cs : List Value} (h : Cells w b o cs) (k : Nat) (hx : (cs.drop k).take xs.length = xs) : Cells w b (o + k) xs := by
  obtain ⟨C, ty, fr, hb, hc⟩ := h
  refine ⟨C, ty, fr, hb, fun i hi => ?_⟩
  have e : ((cs.drop k).take xs.length)[i]? = xs[i]? := by rw [hx]
  rw [List.getElem?_take_of_lt hi, List.getElem?_drop] at e
  rw [← e, Nat.add_assoc]
  refine hc _ ?_
  have h1 : xs[i]? ≠ none := by simp [hi]
  rw [← e] at h1
  exact (List.getElem?_eq_some_iff.1 (Option.eq_some_iff_get_eq.2 ⟨Option.isSome_iff_ne_none.2 h1, rfl⟩)).1
theorem Cells.ext {w w' : World} {b o : Nat} {cs : List Value} (h : Cells w b o cs) (e : w'.heap[b]? = w.heap[b]?) : Cells w' b o cs := by
  obtain ⟨C, ty, fr, hb, hc⟩ := h
  exact ⟨C, ty, fr, e.trans hb, hc⟩
theorem Cells.lt {w : World} {b o : Nat} {cs : List Value} (h : Cells w b o cs) : b < w.heap.size := by obtain ⟨C, ty, fr, hb, _⟩ := h; exact own_lt hb
theorem Cells.unit {w : World} {b : Nat} {C : Array Value} {ty : TypeId} {fr : Nat × Nat} (h : w.heap[b]? = some (.cells C ty fr)) {o : Nat} {v : Value} (hv : C[o]? = some v) : Cells w b o [v] :=
  ⟨C, ty, fr, h, fun i hi => by obtain rfl : i = 0 := by simp at hi; omega
                                simpa using hv⟩

theorem run_loadCellsFrom {P : Program} {w : World} {b o : Nat} {cs : List Value} (h : Cells w b o cs) : ∀ (n i : Nat) (acc : Array Value), i + n = cs.length → (loadCellsFrom ⟨b, o, none⟩ i n acc).run P w = .ok (acc ++ (cs.drop i).toArray) w
  | 0, i, acc, hi => by
    have : cs.drop i = [] := by simp; omega
    simp [loadCellsFrom, this]
  | n + 1, i, acc, hi => by
    have hlt : i < cs.length := by omega
    have hc := h.cell i (List.getElem?_eq_getElem hlt)
    have ea : (⟨b, o, none⟩ : Addr).add i = ⟨b, o + i, none⟩ := by
      by_cases h0 : i = 0
      · subst h0; simp [Addr.add]
      · simp [Addr.add, h0]
    simp only [loadCellsFrom, ea, Sem.run_bind]
    have hl : (load ⟨b, o + i, none⟩).run P w = .ok cs[i] w := by simp [load, Sem.run, hc]
    rw [hl]
    simp only [Result.andThen]
    rw [run_loadCellsFrom h n (i + 1) _ (by omega)]
    congr 1
    rw [List.drop_eq_getElem_cons hlt]
    simp
theorem run_loadCells {P : Program} {w : World} {b o : Nat} {cs : List Value} (h : Cells w b o cs) {n : Nat} (hn : n = cs.length) : (loadCells ⟨b, o, none⟩ n).run P w = .ok cs.toArray w := by
  have := run_loadCellsFrom (P := P) h n 0 #[] (by omega)
  simpa [loadCells] using this

section
variable {P : Program} {n : Nat} {K : PK} {f : Fr} {ds : List Deferred} {w : World} {d ty : Nat} {p : String} {af : Array Edge} {g : Option (Nat × Bool)} {t size bytes : Nat} {zero : Value} {dd : TypeDesc} {x y : Operand} {L : List Atom}

theorem y_loadS (ti : TI P t size bytes zero dd) (hag : isAggD dd = false) {b o : Nat} {v : Value} (hx : ev f x = .pointer (some ⟨b, o, none⟩)) (hc : Cells w b o [v]) : Yd P ⟨some d, .load t x, ty, p, af, g⟩ f w v :=
  ⟨rfl, by simp [execOp, hx, Instr.loadAt, Instr.sureAddr, loadVar, ti.run_isAgg, hag, Result.andThen, load, Sem.run, hc.one]⟩
theorem y_loadA (ti : TI P t size bytes zero dd) (hag : isAggD dd = true) {b o : Nat} {cs : List Value} (hx : ev f x = .pointer (some ⟨b, o, none⟩)) (hc : Cells w b o cs) (hl : size = cs.length) : Yd P ⟨some d, .load t x, ty, p, af, g⟩ f w (.agg cs.toArray) :=
  ⟨rfl, by simp [execOp, hx, Instr.loadAt, Instr.sureAddr, loadVar, ti.run_isAgg, hag, Result.andThen, ti.run_size, run_loadCells hc hl]⟩

/-- A new variable of type t. -/
theorem op_alloc (H : Holds w L) (ti : TI P t size bytes zero dd) (hn : d < n) (k : ∀ b w', Holds w' (own b (.cells zero.cells t) :: L) → K (upd f d (.pointer (some ⟨b, 0, none⟩))) ds w') : Op1 P n ⟨some d, .alloc t, ty, p, af, g⟩ f ds w K :=
  Op1_val rfl rfl hn (w' := w.alloc (.cells zero.cells t)) (by simp [execOp, Instr.alloc, ti.run_zero, Result.andThen, newVar, newRow, run_newObj_alloc]) (k _ _ (H.alloc _))
theorem op_box (H : Holds w L) {v : Value} (hx : ev f x = v) (hn : d < n) (k : ∀ b w', Holds w' (own b (.cells v.cells t) :: L) → K (upd f d (.pointer (some ⟨b, 0, none⟩))) ds w') : Op1 P n ⟨some d, .box t x, ty, p, af, g⟩ f ds w K :=
  Op1_val rfl rfl hn (w' := w.alloc (.cells v.cells t)) (by simp [execOp, hx, Instr.box, Result.andThen, newVar, newRow, run_newObj_alloc]) (k _ _ (H.alloc _))

/-- vs laid over C from place o on. -/
def laid (C : Array Value) (o : Nat) : List Value → Array Value
  | [] => C
  | v :: r => laid (C.setIfInBounds o v) (o + 1) r
theorem laid_size (C : Array Value) (o : Nat) (vs : List Value) : (laid C o vs).size = C.size := by
  induction vs generalizing C o with
  | nil => rfl
  | cons v r ih => simp [laid, ih]
theorem run_storeCells {P : Program} {b o : Nat} {ty : TypeId} : ∀ (vs : List Value) (i : Nat) (w : World) (C : Array Value), w.heap[b]? = some (.cells C ty (0, 0)) → o + i + vs.length ≤ C.size → (∀ v ∈ vs, v.oneCell' = true) →
    (storeCells ⟨b, o, none⟩ vs i).run P w = .ok () (w.putObj b (.cells (laid C (o + i) vs) ty (0, 0)))
  | [], i, w, C, hb, _, _ => by
    have hh : w.putObj b (.cells C ty (0, 0)) = w := by
      simp only [World.putObj]
      have : w.heap.setIfInBounds b (.cells C ty (0, 0)) = w.heap := by
        apply Array.ext_getElem?
        intro j
        by_cases hj : b = j
        · subst hj; rw [Array.getElem?_setIfInBounds, if_pos rfl, if_pos (own_lt hb), hb]
        · rw [Array.getElem?_setIfInBounds_ne hj]
      rw [this]
    simp [storeCells, laid, hh]
  | v :: r, i, w, C, hb, hl, h1 => by
    have hlt : o + i < C.size := by simp at hl; omega
    have ea : (⟨b, o, none⟩ : Addr).add i = ⟨b, o + i, none⟩ := by
      by_cases h0 : i = 0
      · subst h0; simp [Addr.add]
      · simp [Addr.add, h0]
    have hset : w.setCell ⟨b, o + i, none⟩ v = w.putObj b (.cells (C.setIfInBounds (o + i) v) ty (0, 0)) := by
      simp only [World.setCell, World.putObj]
      congr 1
      apply Array.ext_getElem?
      intro j
      by_cases hj : b = j
      · subst hj; rw [Array.getElem?_modify, Array.getElem?_setIfInBounds, if_pos rfl, if_pos rfl, if_pos (own_lt hb), hb]; simp
      · rw [Array.getElem?_modify, Array.getElem?_setIfInBounds_ne hj]; simp [hj]
    have hst : (store ⟨b, o + i, none⟩ v).run P w = .ok () (w.putObj b (.cells (C.setIfInBounds (o + i) v) ty (0, 0))) := by
      have hc : w.cell? ⟨b, o + i, none⟩ = some C[o + i] := by simp [World.cell?, hb, hlt]
      have hf : w.frozen? ⟨b, o + i, none⟩ = false := by simp [World.frozen?, hb]
      have hv1 := h1 v (by simp)
      rw [← hset]
      cases v <;> first | (simp [Value.oneCell'] at hv1; done) | simp [store, Sem.run, hc, hf]
    simp only [storeCells, ea, Sem.run_bind, hst, Result.andThen]
    rw [run_storeCells r (i + 1) _ (C.setIfInBounds (o + i) v) (World.putObj_heap_same (own_lt hb)) (by simp at hl ⊢; omega) fun v hv => h1 v (by simp [hv])]
    congr 1
    simp only [World.putObj, laid, Nat.add_assoc]
    congr 1
    apply Array.ext_getElem?
    intro j
    by_cases hj : b = j
    · subst hj; simp [Array.getElem?_setIfInBounds]
    · rw [Array.getElem?_setIfInBounds_ne hj, Array.getElem?_setIfInBounds_ne hj, Array.getElem?_setIfInBounds_ne hj]

/-- A store into a block of one's own. -/
theorem op_store (H : Holds w L) (i : Nat) {b o : Nat} {C : Array Value} {e : TypeId} {v : Value} (hi : L[i]? = some (own b (.cells C e))) (ti : TI P t size bytes zero dd) (hx : ev f x = .pointer (some ⟨b, o, none⟩)) (hy : ev f y = v) (hs : v.cells.size = size) (hl : o + size ≤ C.size)
    (h1 : ∀ u ∈ v.cells.toList, u.oneCell' = true) (k : ∀ w', Holds w' (L.set i (own b (.cells (laid C o v.cells.toList) e))) → K f ds w') : Op1 P n ⟨none, .store t x y, ty, p, af, g⟩ f ds w K := by
  have hb := H.getOwn i hi
  have hst := run_storeCells (P := P) (o := o) v.cells.toList 0 w C hb (by simp; omega) h1
  simp only [Nat.add_zero] at hst
  refine Op1_skip rfl rfl (w' := w.putObj b (.cells (laid C o v.cells.toList) e)) ?_ (k _ (H.put i hi _))
  simp [execOp, hx, hy, Instr.storeAt, Instr.sureAddr, storeVar, ti.run_size, hs, Result.andThen, hst]

theorem y_fieldAddr {fs : Array Field} {fd : Field} {i : Nat} {size' bytes' : Nat} {zero' : Value} {dd' : TypeDesc} (ti : TI P t size bytes zero (.struct fs)) (hf : fs[i]? = some fd) (ti' : TI P fd.type size' bytes' zero' dd') (hpos : Nat.ble 1 size' = true)
    {b o : Nat} (hx : ev f x = .pointer (some ⟨b, o, none⟩))         : Yd P ⟨some d, .fieldAddr t x i, ty, p, af, g⟩ f w (.pointer (some ⟨b, o + fd.offset, none⟩)) := by
  have h0 : size' ≠ 0 := by have := Nat.le_of_ble_eq_true hpos; omega
  have ea : (⟨b, o, none⟩ : Addr).add fd.offset = ⟨b, o + fd.offset, none⟩ := by
    by_cases h0 : fd.offset = 0
    · simp [Addr.add, h0]
    · simp [Addr.add, h0]
  exact ⟨rfl, by simp [execOp, hx, Instr.fieldAt, ti.run_underlying, hf, Instr.sureAddr, fieldPlace, ti'.run_size, h0, Result.andThen, ea]⟩
theorem y_field {fs : Array Field} {fd : Field} {i : Nat} {size' bytes' : Nat} {zero' : Value} {dd' : TypeDesc} (ti : TI P t size bytes zero (.struct fs)) (hf : fs[i]? = some fd) (ti' : TI P fd.type size' bytes' zero' dd') (hag : isAggD dd' = false)
    {cs : Array Value} {v : Value} (hx : ev f x = .agg cs) (hv : cs[fd.offset]? = some v) : Yd P ⟨some d, .field t x i, ty, p, af, g⟩ f w v :=
  ⟨rfl, by simp [execOp, hx, Instr.field, ti.run_underlying, hf, part, ti'.run_isAgg, hag, asAgg, hv, Result.andThen]⟩
theorem y_indexAddr {e size' bytes' : Nat} {zero' : Value} {dd' : TypeDesc} (ti : TI P t size bytes zero (.slice e)) (ti' : TI P e size' bytes' zero' dd') {b o : Nat} {ln cap : Nat} {kd : IntKind} {i : Int} (hx : ev f x = .slice (some ⟨b, o, none⟩) ln cap) (hy : ev f y = .int kd i) (h0 : 0 ≤ i) (hlt : i < ln) :
    Yd P ⟨some d, .indexAddr t x y, ty, p, af, g⟩ f w (.pointer (some ⟨b, o + i.toNat * size', none⟩)) := by
  have ea : (⟨b, o, none⟩ : Addr).add (i.toNat * size') = ⟨b, o + i.toNat * size', none⟩ := by
    by_cases h0 : i.toNat * size' = 0
    · simp only [Addr.add, h0]; simp
    · simp only [Addr.add, h0]; simp
  exact ⟨rfl, by simp [execOp, hx, hy, Instr.indexAt, asIntOf, ti.run_underlying, h0, hlt, ti'.run_size, Result.andThen, ea]⟩

theorem y_len {tys : Array TypeId} {t0 : TypeId} {e : TypeId} (ht : tys[0]? = some t0) (ti : TI P t0 size bytes zero (.slice e)) {a : Option Addr} {ln cap : Nat} (hx : ev f x = .slice a ln cap) :
    Yd P ⟨some d, .call { callee := .builtin .len, args := #[x], argTypes := tys }, ty, p, af, g⟩ f w (.int .i64 ln) :=
  ⟨rfl, by simp [execOp, resolve, invoke, builtin, hx, Builtin.len_, ht, ti.run_underlying, goInt, Result.andThen]⟩

/-! ### Rows of one's own -/
/-- The slice value v, n elements of type e (size cells each), owns the cells cs. -/
abbrev row (e size : Nat) (v : Value) (n : Nat) (cs : List Value) : Atom := ⟨true, fun k => v.ownBlock = some k, fun w => w.ownsRow 0 e size v n cs⟩
theorem row_stable (e size : Nat) (v : Value) (n : Nat) (cs : List Value) : (row e size v n cs).stable := by
  intro w w' hs _ _ _ h hp
  obtain ⟨h1, h2⟩ := hp
  refine ⟨h1, ?_⟩
  rcases h2 with h2 | ⟨g, cap, cur, hv, hg, hh, r⟩
  · exact .inl h2
  · exact .inr ⟨g, cap, cur, hv, hg, by rw [h g (by simp [hv, Value.ownBlock]) (own_lt hh)]; exact hh, r⟩
theorem row_ok {w : World} {e size : Nat} {v : Value} {n : Nat} {cs : List Value} (h : w.ownsRow 0 e size v n cs) : (row e size v n cs).ok w :=
  ⟨h, fun k hk => by
    rcases h.2 with ⟨hv, _⟩ | ⟨g, cap, cur, hv, hg, hh, r⟩
    · simp [hv, Value.ownBlock] at hk
    · simp [hv, Value.ownBlock] at hk; subst hk; exact own_lt hh, row_stable _ _ _ _ _⟩
theorem ownsRow_base {w : World} {base : Nat} {e size : Nat} {v : Value} {n : Nat} {cs : List Value} (h : w.ownsRow base e size v n cs) : w.ownsRow 0 e size v n cs := by
  obtain ⟨h1, h2⟩ := h
  refine ⟨h1, ?_⟩
  rcases h2 with h2 | ⟨g, cap, cur, hv, hg, r⟩
  · exact .inl h2
  · exact .inr ⟨g, cap, cur, hv, Nat.zero_le _, r⟩
theorem ownsRow_nil (w : World) (e size : Nat) : w.ownsRow 0 e size (.slice none 0 0) 0 [] := ⟨by simp, .inl ⟨rfl, rfl⟩⟩
/-- The nil slice is a row. -/
theorem Holds.rowNil {w : World} {L : List Atom} (h : Holds w L) (e size : Nat) : Holds w (row e size (.slice none 0 0) 0 [] :: L) :=
  h.cons (row_ok (ownsRow_nil w e size)) fun b _ _ k hk => by simp [Value.ownBlock] at hk
theorem ownsRow_slice {w : World} {base : Nat} {e size : Nat} {v : Value} {n : Nat} {cs : List Value} (h : w.ownsRow base e size v n cs) : ∃ a c, v = .slice a n c ∧ n ≤ c ∧ cs.length = n * size ∧ c ≤ maxLen := by
  rcases h.2 with ⟨hv, hn⟩ | ⟨g, cap, cur, hv, _, _, hc, hm, _⟩
  · subst hn; exact ⟨_, _, hv, Nat.le_refl _, h.1, Nat.zero_le _⟩
  · exact ⟨_, _, hv, hc, h.1, hm⟩
theorem ownsRow_cells {w : World} {base : Nat} {e size : Nat} {v : Value} {n : Nat} {cs : List Value} (h : w.ownsRow base e size v n cs) (hn : 0 < n) : ∃ b c, v = .slice (some ⟨b, 0, none⟩) n c ∧ n ≤ c ∧ Cells w b 0 cs := by
  rcases h.2 with ⟨hv, h0⟩ | ⟨g, cap, cur, hv, _, hh, hc, hm, hsz, ht⟩
  · omega
  · refine ⟨g, cap, hv, hc, Cells.of hh ?_⟩
    rw [List.drop_zero, h.1]; exact ht

/-- What is appended: m elements whose cells are news. -/
def Src (w : World) (xv : Value) (m : Nat) (news : List Value) : Prop := ∃ a c, xv = .slice a m c ∧ (a = none → m = 0 ∧ c = 0) ∧ (∀ A, a = some A → ∀ j u, news[j]? = some u → w.cell? (A.add j) = some u)
theorem Src.cells {w : World} {b o : Nat} {news : List Value} (h : Cells w b o news) (m c : Nat) : Src w (.slice (some ⟨b, o, none⟩) m c) m news :=
  ⟨_, _, rfl, fun h => (by cases h), fun A e j u hu => by
    injection e with e; subst e
    have ea : (⟨b, o, none⟩ : Addr).add j = ⟨b, o + j, none⟩ := by
      by_cases h0 : j = 0
      · subst h0; simp [Addr.add]
      · simp [Addr.add, h0]
    rw [ea]; exact h.cell j hu⟩

theorem run_append (te : TypeId) {e size bytes : Nat} {z : Value} {dd' : TypeDesc} (hu : P.underlying t = some (.slice e)) (ti : TI P e size bytes z dd') (hz : z.cells.size = size) (hpos : 0 < size) {v xv : Value} {m k : Nat} {cs news : List Value} (hown : w.ownsRow 0 e size v k cs)
    (hsrc : Src w xv m news) (hl : news.length = m * size) (h1 : ∀ u ∈ news, u.oneCell' = true) (hb : (k + m) * bytes ≤ 140737488355328) (h63 : k + m ≤ maxLen) :
    ∃ v' w', (Builtin.append_ #[t, t] te #[v, xv]).run P w = .ok v' w' ∧ w'.ownsRow 0 e size v' (k + m) (cs ++ news) ∧ Ext (fun i => v.ownBlock = some i) w w' ∧ (∀ i, v'.ownBlock = some i → v.ownBlock = some i ∨ w.heap.size ≤ i) := by
  obtain ⟨i, hi, hs, hz', hby⟩ := ti.i
  obtain ⟨a, c, rfl, hnone, hcell⟩ := hsrc
  cases a with
  | none =>
    obtain ⟨rfl, rfl⟩ := hnone rfl
    have hnews : news = [] := List.eq_nil_of_length_eq_zero (by simpa using hl)
    subst hnews
    exact ⟨v, w, run_append_owned_none w 0 t te e i size hu hi v k cs hown, by simpa using hown, Ext.refl _ _, fun i h => .inl h⟩
  | some A =>
    have ext_of : ∀ {w' : World} {r : Option Nat}, w.grownBy w' r → Ext (fun i => r = some i) w w' := fun hg => ⟨hg.os, hg.tape, hg.output, hg.size, fun j hj hm => hg.block j hj fun e => hm e.symm⟩
    rcases hown.2 with ⟨rfl, rfl⟩ | ⟨g', cap, cur, rfl, hbg, hh, hc, hm, hsz, htake⟩
    · have hown' : w.ownsRow w.heap.size e size (.slice none 0 0) 0 cs := ⟨hown.1, .inl ⟨rfl, rfl⟩⟩
      obtain ⟨v', w', hrun, ho, hg, _⟩ := run_append_own (P := P) w w.heap.size t te e i z size bytes hu hi hz' hs hby hz hpos (.slice none 0 0) 0 cs hown' A m c news hl (hcell A rfl) h1 h63 hb (Nat.le_refl _)
      refine ⟨v', w', hrun, ownsRow_base ho, ext_of hg, fun i hi => .inr ?_⟩
      rcases ho.2 with ⟨hv, _⟩ | ⟨g2, c2, cur2, hv, hb2, _⟩
      · simp [hv, Value.ownBlock] at hi
      · simp [hv, Value.ownBlock] at hi; omega
    · by_cases hroom : k + m ≤ cap
      · obtain ⟨w', hrun, ho, hg⟩ := run_append_fits (P := P) w 0 t te e i size hu hi hs g' k cap cs hown A m c news hl (hcell A rfl) h1 hroom
        exact ⟨_, w', hrun, ho, ext_of hg, fun i hi => .inl hi⟩
      · have hol : cs.length = k * size := hown.1
        have hcs : ∀ j u, cs[j]? = some u → w.cell? ((⟨g', 0, none⟩ : Addr).add j) = some u := fun j u hu => by
          have ea : (⟨g', 0, none⟩ : Addr).add j = ⟨g', j, none⟩ := by
            by_cases h0 : j = 0
            · subst h0; simp [Addr.add]
            · simp [Addr.add, h0]
          rw [ea]
          have hC : Cells w g' 0 cs := Cells.of hh (by rw [List.drop_zero, hol]; exact htake)
          have := hC.cell j hu
          simpa using this
        obtain ⟨v', w', hrun, ho, hg⟩ := run_append_arg_grows (P := P) w t te e i z size bytes hu hi hz' hs hby hz hpos ⟨g', 0, none⟩ k cap cs hol hcs A m c news hl (hcell A rfl) (by omega) h63 hb
        refine ⟨v', w', hrun, ownsRow_base ho, (ext_of hg).mono fun _ _ h => (by cases h), fun i hi => .inr ?_⟩
        rcases ho.2 with ⟨hv, _⟩ | ⟨g2, c2, cur2, hv, hb2, _⟩
        · simp [hv, Value.ownBlock] at hi
        · simp [hv, Value.ownBlock] at hi; omega

/-- append onto a row of one's own. -/
theorem op_append (H : Holds w L) (i : Nat) {tys : Array TypeId} {e size bytes size0 bytes0 : Nat} {z z0 : Value} {dd' : TypeDesc} {v xv : Value} {m k : Nat} {cs news : List Value} (hi : L[i]? = some (row e size v k cs)) (ht : tys = #[t, t]) (ti0 : TI P t size0 bytes0 z0 (.slice e)) (ti : TI P e size bytes z dd') (hz : z.cells.size = size) (hpos : Nat.ble 1 size = true)
    (hx : ev f x = v) (hy : ev f y = xv) (hsrc : Src w xv m news) (hl : news.length = m * size) (h1 : ∀ u ∈ news, u.oneCell' = true) (hb : (k + m) * bytes ≤ 140737488355328) (h63 : k + m ≤ maxLen) (hn : d < n)
    (kk : ∀ v' w', Holds w' (L.set i (row e size v' (k + m) (cs ++ news))) → K (upd f d v') ds w') : Op1 P n ⟨some d, .call { callee := .builtin .append, args := #[x, y], argTypes := tys }, ty, p, af, g⟩ f ds w K := by
  subst ht
  obtain ⟨v', w', hrun, ho, he, hfr⟩ := run_append (P := P) (w := w) ty ti0.u ti hz (Nat.le_of_ble_eq_true hpos) (H.get hi) hsrc hl h1 hb h63
  refine Op1_val rfl rfl hn (w' := w') ?_ (kk v' w' (H.step i hi rfl he (fun _ _ h => h) (row_ok ho) hfr))
  simp [execOp, resolve, invoke, builtin, hx, hy, hrun, Result.andThen]
end
end Go.Wk
