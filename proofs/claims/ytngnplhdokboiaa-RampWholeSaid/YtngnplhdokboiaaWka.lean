/- THE GROUND OF THE WALKS, 10: slice expressions; rows of one's own that begin within their block. -/
import Derived.Test.YtngnplhdokboiaaWk9
namespace Go.Wk
open Go
set_option linter.unusedVariables false
set_option linter.unusedSimpArgs false

theorem add_spot {b o k : Nat} : (⟨b, o, none⟩ : Addr).add k = ⟨b, o + k, none⟩ := by
  by_cases h0 : k = 0
  · subst h0; simp [Addr.add]
  · simp [Addr.add, h0]
/-- The address of a cut. -/
def cutA (a : Option Addr) (m lo size : Nat) : Option Addr := if m = lo then a else a.map (·.add (lo * size))
theorem cutA_some (b o m lo size : Nat) : cutA (some ⟨b, o, none⟩) m lo size = some ⟨b, o + (if m = lo then 0 else lo * size), none⟩ := by
  unfold cutA; split
  · rename_i h; simp [h]
  · rename_i h; simp [h, add_spot]
theorem cutA_none (m lo size : Nat) : cutA none m lo size = none := by unfold cutA; split <;> rfl

section
variable {P : Program} {n : Nat} {K : PK} {f : Fr} {ds : List Deferred} {w : World} {d ty : Nat} {p : String} {af : Array Edge} {g : Option (Nat × Bool)} {t size bytes e size' bytes' : Nat} {zero zero' : Value} {dd : TypeDesc} {x y z u : Operand} {L : List Atom} {a : Option Addr} {ln cap : Nat} {lo hi mx : Int} {k1 k2 k3 : IntKind}

/-- xs[lo:] -/
theorem y_sliceL (ti : TI P t size bytes zero (.slice e)) (te : TI P e size' bytes' zero' dd) (hx : ev f x = .slice a ln cap) (hy : ev f y = .int k1 lo) (h0 : 0 ≤ lo) (h1 : lo ≤ ln) :
    Yd P ⟨some d, .slice t x (some y) none none, ty, p, af, g⟩ f w (.slice (cutA a cap lo.toNat size') (ln - lo.toNat) (cap - lo.toNat)) :=
  ⟨rfl, by
    have hcond : (0 ≤ lo ∧ lo ≤ (ln : Int)) := ⟨h0, h1⟩
    simp only [execOp, hx, Option.map_some, Option.map_none, hy, Instr.sliceAt, Sem.run_bind, ti.run_underlying, Result.andThen, Instr.slice, Instr.sliceBounds, Instr.sliceBound, asIntOf, Sem.run_pure, if_pos hcond, te.run_size, Option.isSome_none, Bool.false_eq_true, if_false]
    rfl⟩
/-- xs[:hi] -/
theorem y_sliceH (ti : TI P t size bytes zero (.slice e)) (te : TI P e size' bytes' zero' dd) (hx : ev f x = .slice a ln cap) (hy : ev f y = .int k1 hi) (h0 : 0 ≤ hi) (h1 : hi ≤ cap) :
    Yd P ⟨some d, .slice t x none (some y) none, ty, p, af, g⟩ f w (.slice (cutA a cap 0 size') hi.toNat cap) :=
  ⟨rfl, by
    have hcond : (0 ≤ hi ∧ hi ≤ (cap : Int)) := ⟨h0, h1⟩
    simp only [execOp, hx, Option.map_some, Option.map_none, hy, Instr.sliceAt, Sem.run_bind, ti.run_underlying, Result.andThen, Instr.slice, Instr.sliceBounds, Instr.sliceBound, asIntOf, Sem.run_pure, if_pos hcond, te.run_size, if_true]
    rfl⟩
/-- xs[lo:hi] -/
theorem y_sliceLH (ti : TI P t size bytes zero (.slice e)) (te : TI P e size' bytes' zero' dd) (hx : ev f x = .slice a ln cap) (hy : ev f y = .int k1 lo) (hz : ev f z = .int k2 hi) (h0 : 0 ≤ lo) (h1 : lo ≤ hi) (h2 : hi ≤ cap) :
    Yd P ⟨some d, .slice t x (some y) (some z) none, ty, p, af, g⟩ f w (.slice (cutA a cap lo.toNat size') (hi.toNat - lo.toNat) (cap - lo.toNat)) :=
  ⟨rfl, by
    have hcond : (0 ≤ hi ∧ hi ≤ (cap : Int)) := ⟨by omega, h2⟩
    have hcond2 : (0 ≤ lo ∧ lo ≤ (hi.toNat : Int)) := ⟨h0, by omega⟩
    simp only [execOp, hx, Option.map_some, Option.map_none, hy, hz, Instr.sliceAt, Sem.run_bind, ti.run_underlying, Result.andThen, Instr.slice, Instr.sliceBounds, Instr.sliceBound, asIntOf, Sem.run_pure, if_pos hcond, if_pos hcond2, te.run_size, if_true, Option.isSome_none, Bool.false_eq_true, if_false]
    rfl⟩
/-- xs[:hi:mx] -/
theorem y_sliceHM (ti : TI P t size bytes zero (.slice e)) (te : TI P e size' bytes' zero' dd) (hx : ev f x = .slice a ln cap) (hy : ev f y = .int k1 hi) (hz : ev f z = .int k2 mx) (h0 : 0 ≤ hi) (h1 : hi ≤ mx) (h2 : mx ≤ cap) :
    Yd P ⟨some d, .slice t x none (some y) (some z), ty, p, af, g⟩ f w (.slice (cutA a mx.toNat 0 size') hi.toNat mx.toNat) :=
  ⟨rfl, by
    have hcond : (0 ≤ mx ∧ mx ≤ (cap : Int)) := ⟨by omega, h2⟩
    have hcond2 : (0 ≤ hi ∧ hi ≤ (mx.toNat : Int)) := ⟨h0, by omega⟩
    simp only [execOp, hx, Option.map_some, Option.map_none, hy, hz, Instr.sliceAt, Sem.run_bind, ti.run_underlying, Result.andThen, Instr.slice, Instr.sliceBounds, Instr.sliceBound, asIntOf, Sem.run_pure, if_pos hcond, if_pos hcond2, te.run_size, if_true]
    rfl⟩
end

/-- The slice value v, n elements, owns its block, in which it may begin anywhere; its cells are cs. -/
def GRow (w : World) (e size : Nat) (v : Value) (n : Nat) (cs : List Value) : Prop := cs.length = n * size ∧
  ((v = .slice none 0 0 ∧ n = 0) ∨ ∃ g off cap cur, v = .slice (some ⟨g, off, none⟩) n cap ∧ w.heap[g]? = some (.cells cur e (0, 0)) ∧ n ≤ cap ∧ cap ≤ maxLen ∧ off + cap * size ≤ cur.size ∧ (cur.toList.drop off).take (n * size) = cs)
abbrev grow (e size : Nat) (v : Value) (n : Nat) (cs : List Value) : Atom := ⟨true, fun k => v.ownBlock = some k, fun w => GRow w e size v n cs⟩
theorem grow_stable (e size : Nat) (v : Value) (n : Nat) (cs : List Value) : (grow e size v n cs).stable := by
  intro w w' hs _ _ _ h hp
  obtain ⟨h1, h2⟩ := hp
  refine ⟨h1, ?_⟩
  rcases h2 with h2 | ⟨g, off, cap, cur, hv, hh, r⟩
  · exact .inl h2
  · exact .inr ⟨g, off, cap, cur, hv, by rw [h g (by simp [hv, Value.ownBlock]) (own_lt hh)]; exact hh, r⟩
theorem grow_ok {w : World} {e size : Nat} {v : Value} {n : Nat} {cs : List Value} (h : GRow w e size v n cs) : (grow e size v n cs).ok w :=
  ⟨h, fun k hk => by
    rcases h.2 with ⟨hv, _⟩ | ⟨g, off, cap, cur, hv, hh, r⟩
    · simp [hv, Value.ownBlock] at hk
    · simp [hv, Value.ownBlock] at hk; subst hk; exact own_lt hh, grow_stable _ _ _ _ _⟩
theorem GRow.of {w : World} {base e size : Nat} {v : Value} {n : Nat} {cs : List Value} (h : w.ownsRow base e size v n cs) : GRow w e size v n cs := by
  obtain ⟨h1, h2⟩ := h
  refine ⟨h1, ?_⟩
  rcases h2 with h2 | ⟨g, cap, cur, hv, hg, hh, hc, hm, hsz, ht⟩
  · exact .inl h2
  · exact .inr ⟨g, 0, cap, cur, hv, hh, hc, hm, by omega, by rw [List.drop_zero]; exact ht⟩
theorem GRow.slice {w : World} {e size : Nat} {v : Value} {n : Nat} {cs : List Value} (h : GRow w e size v n cs) : ∃ a c, v = .slice a n c ∧ n ≤ c ∧ c ≤ maxLen := by
  rcases h.2 with ⟨hv, hn⟩ | ⟨g, off, cap, cur, hv, hh, hc, hm, _⟩
  · subst hn; exact ⟨_, _, hv, Nat.le_refl _, Nat.zero_le _⟩
  · exact ⟨_, _, hv, hc, hm⟩
theorem GRow.cells {w : World} {e size : Nat} {v : Value} {n : Nat} {cs : List Value} (h : GRow w e size v n cs) (hn : 0 < n) : ∃ b o c, v = .slice (some ⟨b, o, none⟩) n c ∧ Cells w b o cs := by
  rcases h.2 with ⟨hv, h0⟩ | ⟨g, off, cap, cur, hv, hh, hc, hm, hsz, ht⟩
  · omega
  · exact ⟨g, off, cap, hv, Cells.of hh (by rw [h.1]; exact ht)⟩
/-- v[lo:] of such a row. -/
theorem GRow.cut {w : World} {e size : Nat} {a : Option Addr} {n c : Nat} {cs : List Value} (h : GRow w e size (.slice a n c) n cs) (lo : Nat) (hlo : lo ≤ n) : GRow w e size (.slice (cutA a c lo size) (n - lo) (c - lo)) (n - lo) (cs.drop (lo * size)) ∧
    (∀ k, (Value.slice (cutA a c lo size) (n - lo) (c - lo)).ownBlock = some k → (Value.slice a n c).ownBlock = some k) := by
  have hl : (cs.drop (lo * size)).length = (n - lo) * size := by rw [List.length_drop, h.1, Nat.sub_mul]
  rcases h.2 with ⟨hv, h0⟩ | ⟨g, off, cap, cur, hv, hh, hc, hm, hsz, ht⟩
  · injection hv with h1 h2 h3; subst h1 h2 h3
    obtain rfl : lo = 0 := by omega
    rw [cutA_none]
    exact ⟨⟨hl, .inl ⟨rfl, rfl⟩⟩, fun k hk => hk⟩
  · injection hv with h1 h2 h3; subst h1 h3
    rw [cutA_some]
    refine ⟨⟨hl, .inr ⟨g, _, c - lo, cur, rfl, hh, by omega, by omega, ?_, ?_⟩⟩, fun k hk => by simpa [Value.ownBlock] using hk⟩
    · rw [Nat.sub_mul]
      split
      · rename_i hcl; subst hcl; omega
      · have : lo * size ≤ c * size := Nat.mul_le_mul_right _ (by omega)
        omega
    · rw [← ht]
      split
      · rename_i hcl
        have hln : lo = n := by omega
        subst hln; simp
      · rw [← List.drop_drop, List.drop_take, ← Nat.sub_mul]

theorem run_appendG {P : Program} {w : World} {t : Nat} (te : TypeId) {e size bytes : Nat} {z : Value} {dd' : TypeDesc} (hu : P.underlying t = some (.slice e)) (ti : TI P e size bytes z dd') (hz : z.cells.size = size) (hpos : 0 < size) {v xv : Value} {m k : Nat} {cs news : List Value} (hown : GRow w e size v k cs)
    (hsrc : Src w xv m news) (hl : news.length = m * size) (h1 : ∀ u ∈ news, u.oneCell' = true) (hb : (k + m) * bytes ≤ 140737488355328) (h63 : k + m ≤ maxLen) :
    ∃ v' w', (Builtin.append_ #[t, t] te #[v, xv]).run P w = .ok v' w' ∧ GRow w' e size v' (k + m) (cs ++ news) ∧ Ext (fun i => v.ownBlock = some i) w w' ∧ (∀ i, v'.ownBlock = some i → v.ownBlock = some i ∨ w.heap.size ≤ i) := by
  obtain ⟨i, hi, hs, hz', hby⟩ := ti.i
  rcases hown.2 with ⟨rfl, rfl⟩ | ⟨g', off, cap, cur, rfl, hh, hc, hm, hsz, htake⟩
  · obtain ⟨v', w', r1, r2, r3, r4⟩ := run_append (P := P) (w := w) te hu ti hz hpos (v := .slice none 0 0) (k := 0) (cs := cs) ⟨hown.1, .inl ⟨rfl, rfl⟩⟩ hsrc hl h1 hb h63
    exact ⟨v', w', r1, GRow.of r2, r3, r4⟩
  · obtain ⟨a, c, rfl, hnone, hcell⟩ := hsrc
    have hfc : (Builtin.firstCells size m (.slice a m c)).run P w = .ok news.toArray w := by
      cases a with
      | none =>
        obtain ⟨rfl, rfl⟩ := hnone rfl
        have : news = [] := List.eq_nil_of_length_eq_zero (by simpa using hl)
        subst this; simp [Builtin.firstCells]
      | some A => exact run_firstCells_some (P := P) w size m A m c news hl (hcell A rfl)
    by_cases hroom : k + m ≤ cap
    · have hbd : off + k * size + 0 + news.length ≤ cur.size := by
        have : (k + m) * size ≤ cap * size := Nat.mul_le_mul_right _ hroom
        rw [Nat.add_mul] at this; omega
      have hst := run_storeCells (P := P) (b := g') (o := off + k * size) news 0 w cur hh hbd h1
      simp only [Nat.add_zero] at hst
      refine ⟨.slice (some ⟨g', off, none⟩) (k + m) cap, w.putObj g' (.cells (laid cur (off + k * size) news) e), ?_, ⟨by rw [List.length_append, hown.1, hl, Nat.add_mul], .inr ⟨g', off, cap, _, rfl, World.putObj_heap_same (own_lt hh), hroom, hm, by rw [laid_size]; exact hsz, ?_⟩⟩, (Ext.put _ _ _).mono fun j _ h => by simp [Value.ownBlock, h], fun j hj => .inl hj⟩
      · simp [Builtin.append_, run_underlying hu, sizeOf, typeInfo, hi, hs, Builtin.lenOf, hroom, hfc, add_spot, hst]
      · have h2 := laid_toList cur (off + k * size) news (by omega)
        rw [h2]
        have hcl : (cur.toList.take (off + k * size)).length = off + k * size := by simp; omega
        rw [List.append_assoc, List.drop_append_of_le_length (by rw [hcl]; omega), List.drop_take, show off + k * size - off = k * size from by omega, htake]
        rw [← List.append_assoc]
        have hlen : (cs ++ news).length = (k + m) * size := by rw [List.length_append, hown.1, hl, Nat.add_mul]
        rw [← hlen, List.take_left]
    · have hC : Cells w g' off cs := Cells.of hh (by rw [hown.1]; exact htake)
      have hcs : ∀ j u, cs[j]? = some u → w.cell? ((⟨g', off, none⟩ : Addr).add j) = some u := fun j u hu => by rw [add_spot]; exact hC.cell j hu
      have fin : ∀ {v' w'}, w'.ownsRow w.heap.size e size v' (k + m) (cs ++ news) → w.grownBy w' none → GRow w' e size v' (k + m) (cs ++ news) ∧ Ext (fun i => (Value.slice (some ⟨g', off, none⟩) k cap).ownBlock = some i) w w' ∧ (∀ i, v'.ownBlock = some i → (Value.slice (some ⟨g', off, none⟩) k cap).ownBlock = some i ∨ w.heap.size ≤ i) := fun ho hg =>
        ⟨GRow.of ho, ⟨hg.os, hg.tape, hg.output, hg.size, fun j hj hm => hg.block j hj (by simp)⟩, fun j hj => .inr (by
          rcases ho.2 with ⟨hv, _⟩ | ⟨g2, c2, cur2, hv, hb2, _⟩
          · simp [hv, Value.ownBlock] at hj
          · simp [hv, Value.ownBlock] at hj; omega)⟩
      cases a with
      | none =>
        obtain ⟨rfl, rfl⟩ := hnone rfl
        omega
      | some A =>
        obtain ⟨v', w', hrun, ho, hg⟩ := run_append_arg_grows (P := P) w t te e i z size bytes hu hi hz' hs hby hz hpos ⟨g', off, none⟩ k cap cs hown.1 hcs A m c news hl (hcell A rfl) (by omega) h63 hb
        obtain ⟨r1, r2, r3⟩ := fin ho hg
        exact ⟨v', w', hrun, r1, r2, r3⟩
section
variable {P : Program} {n : Nat} {K : PK} {f : Fr} {ds : List Deferred} {w : World} {d ty : Nat} {p : String} {af : Array Edge} {g : Option (Nat × Bool)} {t : Nat} {x y : Operand} {L : List Atom}
/-- append onto such a row. -/
theorem op_appendG (H : Holds w L) (i : Nat) {tys : Array TypeId} {e size bytes size0 bytes0 : Nat} {z z0 : Value} {dd' : TypeDesc} {v xv : Value} {m k : Nat} {cs news : List Value} (hi : L[i]? = some (grow e size v k cs)) (ht : tys = #[t, t]) (ti0 : TI P t size0 bytes0 z0 (.slice e)) (ti : TI P e size bytes z dd') (hz : z.cells.size = size) (hpos : Nat.ble 1 size = true)
    (hx : ev f x = v) (hy : ev f y = xv) (hsrc : Src w xv m news) (hl : news.length = m * size) (h1 : ∀ u ∈ news, u.oneCell' = true) (hb : (k + m) * bytes ≤ 140737488355328) (h63 : k + m ≤ maxLen) (hn : d < n)
    (kk : ∀ v' w', Holds w' (L.set i (grow e size v' (k + m) (cs ++ news))) → K (upd f d v') ds w') : Op1 P n ⟨some d, .call { callee := .builtin .append, args := #[x, y], argTypes := tys }, ty, p, af, g⟩ f ds w K := by
  subst ht
  obtain ⟨v', w', hrun, ho, he, hfr⟩ := run_appendG (P := P) (w := w) ty ti0.u ti hz (Nat.le_of_ble_eq_true hpos) (H.get hi) hsrc hl h1 hb h63
  refine Op1_val rfl rfl hn (w' := w') ?_ (kk v' w' (H.step i hi rfl he (fun _ _ h => h) (grow_ok ho) hfr))
  simp [execOp, resolve, invoke, builtin, hx, hy, hrun, Result.andThen]
theorem Holds.rowG (h : Holds w L) (i : Nat) {e size : Nat} {v : Value} {n : Nat} {cs : List Value} (hi : L[i]? = some (row e size v n cs)) : Holds w (L.set i (grow e size v n cs)) :=
  h.step i hi rfl (Ext.refl none' w) (fun _ _ h => h.elim) (grow_ok (GRow.of (h.getRow i hi))) fun _ h => .inl h
/-- The value is cut: xs = xs[lo:]. -/
theorem Holds.cutG (h : Holds w L) (i : Nat) {e size : Nat} {a : Option Addr} {n c : Nat} {cs : List Value} (hi : L[i]? = some (grow e size (.slice a n c) n cs)) (lo : Nat) (hlo : lo ≤ n) : Holds w (L.set i (grow e size (.slice (cutA a c lo size) (n - lo) (c - lo)) (n - lo) (cs.drop (lo * size)))) := by
  obtain ⟨h1, h2⟩ := GRow.cut (h.get hi) lo hlo
  exact h.step i hi rfl (Ext.refl none' w) (fun _ _ h => h.elim) (grow_ok h1) fun k hk => .inl (h2 k hk)
theorem Holds.growAt {α : Type} {T : Ty α} {Z : Nat → Prop} (h : Holds w L) (i : Nat) {e n : Nat} {v : Value} {cs : List Value} {xs : List α} (hi : L[i]? = some (grow e T.sz v n cs)) (he : Els T Z w cs xs) {j : Nat} {x : α} (hx : xs[j]? = some x) (hp : Nat.ble 1 T.sz = true) :
    ∃ b o c cs', v = .slice (some ⟨b, o, none⟩) n c ∧ Cells w b (o + j * T.sz) cs' ∧ T.R Z w cs' x := by
  have ho : GRow w e T.sz v n cs := h.get hi
  have hp' := Nat.le_of_ble_eq_true hp
  have hj := (List.getElem?_eq_some_iff.1 hx).1
  have hn : n = xs.length := by
    have h1 := ho.1; rw [he.1] at h1; exact (Nat.eq_of_mul_eq_mul_right hp' h1).symm
  obtain ⟨b, o, c, hv, hC⟩ := ho.cells (by omega)
  refine ⟨b, o, c, (cs.drop (j * T.sz)).take T.sz, hv, ?_, he.2 j x hx⟩
  refine hC.take (j * T.sz) ?_
  rw [List.length_take, List.length_drop]
  have hb : j * T.sz + T.sz ≤ cs.length := by rw [he.1]; have := Nat.mul_le_mul_right T.sz (show j + 1 ≤ xs.length from hj); rw [Nat.add_mul] at this; omega
  rw [Nat.min_eq_left (by omega)]
theorem Els.drop {α : Type} {T : Ty α} {Z : Nat → Prop} {w : World} {cs : List Value} {xs : List α} (h : Els T Z w cs xs) (k : Nat) (hk : k ≤ xs.length) : Els T Z w (cs.drop (k * T.sz)) (xs.drop k) := by
  refine ⟨by rw [List.length_drop, h.1, List.length_drop, Nat.sub_mul], fun i x hx => ?_⟩
  rw [List.getElem?_drop] at hx
  have := h.2 _ x hx
  rwa [Nat.add_mul, ← List.drop_drop] at this
end
end Go.Wk
