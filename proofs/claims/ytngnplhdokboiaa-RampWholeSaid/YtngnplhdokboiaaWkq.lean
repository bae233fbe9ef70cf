/- THE GROUND OF THE WALKS, 26: bytes that are written out; a slice of bytes on one's own block. -/
import Derived.Test.YtngnplhdokboiaaWkp
namespace Go.Wk
open Go
set_option linter.unusedVariables false
set_option linter.unusedSimpArgs false

section
variable {P : Program} {n : Nat} {K : PK} {f : Fr} {ds : List Deferred} {w : World} {L : List Atom} {d t ty : Nat} {p : String} {af : Array Edge} {g : Option (Nat × Bool)} {x : Operand}
theorem freeze_put {b : Nat} {C : Array Value} {e : TypeId} (h : w.heap[b]? = some (.cells C e (0, 0))) : w.freeze ⟨b, C.size, none⟩ 1 = w.putObj b (.cells C e (C.size, C.size + 1)) := by
  unfold World.freeze World.putObj
  rw [if_neg (by decide)]
  congr 1
  apply Array.ext_getElem?
  intro j
  by_cases hj : b = j
  · subst hj
    rw [Array.getElem?_modify, Array.getElem?_setIfInBounds, if_pos rfl, if_pos rfl, if_pos (own_lt h), h]
    rfl
  · rw [Array.getElem?_modify, if_neg hj, Array.getElem?_setIfInBounds_ne hj]
/-- []byte("..") of a text that is written out. -/
theorem op_convSame (H : Holds w L) (i : Nat) {e b m c : Nat} {cs : List Value} (hi : L[i]? = some (row e 1 (.slice (some ⟨b, 0, none⟩) m c) m cs)) (ht : P.underlying t = some (.slice e)) (he : P.underlying e = some (.int .u8)) (hx : ev f x = .slice (some ⟨b, 0, none⟩) m c) (hn : d < n)
    (k : ∀ C fr w', C.toList.take m = cs → m ≤ c → c ≤ maxLen → Holds w' (L.set i (own b (.cells C e fr))) → K (upd f d (.slice (some ⟨b, 0, none⟩) m c)) ds w') : Op1 P n ⟨some d, .convert t t x, ty, p, af, g⟩ f ds w K := by
  obtain ⟨hl, hor⟩ := H.get hi
  rcases hor with ⟨hv, _⟩ | ⟨g', cap, cur, hv, _, hh, hc, hm, hsz, htk⟩
  · cases hv
  · injection hv with h1 h2 h3; injection h1 with h1; injection h1 with h1 _ _; subst h1 h3
    have hsh : w.shape? b = some (e, cur.size) := by unfold World.shape?; rw [hh]
    have hrun : (convert t t (.slice (some ⟨b, 0, none⟩) m c)).run P w = .ok (.slice (some ⟨b, 0, none⟩) m c) (w.putObj b (.cells cur e (cur.size, cur.size + 1))) := by
      rw [← freeze_put hh]
      simp [convert, run_underlying ht, run_underlying he, markStringish, Result.andThen, Sem.run, shape, hsh, freeze]
    refine Op1_val rfl rfl hn ?_ (k cur (cur.size, cur.size + 1) _ (by simpa using htk) hc hm (H.step i hi rfl (Ext.put w b _) (fun _ _ hk => by subst hk; simp [Value.ownBlock]) (own_ok (World.putObj_heap_same (own_lt hh))) fun k hk => .inl (by simp only at hk; subst hk; simp [Value.ownBlock])))
    simp only [execOp, hx, Sem.run_bind, hrun, Result.andThen, Sem.run_pure]
/-- A slice of bytes on a block. -/
theorem SlR_block {Z : Nat → Prop} {b m c : Nat} {e : TypeId} {C : Array Value} {fr : Nat × Nat} {k : List Int} (h : w.heap[b]? = some (.cells C e fr)) (hC : C.toList.take m = k.map (Value.int .u8)) (hk : ∀ x ∈ k, InK .u8 x) (hm : m = k.length) (hmc : m ≤ c) (hc : c ≤ maxLen) (hl : m ≤ 140737488351232) (hZ : Z b) :
    SlR (tInt .u8) 1 Z w (.slice (some ⟨b, 0, none⟩) m c) k := by
  subst hm
  refine ⟨_, c, rfl, hmc, fun h => (by cases h), by omega, hc, fun i x hx => ⟨b, 0, [.int .u8 x], rfl, hZ, Cells.unit h ?_, rfl, hk x (List.mem_of_getElem? hx)⟩⟩
  have hl := (List.getElem?_eq_some_iff.1 hx).1
  have h1 : (C.toList.take k.length)[i]? = (k.map (Value.int .u8))[i]? := by rw [hC]
  rw [List.getElem?_take_of_lt hl, List.getElem?_map, hx] at h1
  show C[0 + i * 1]? = _
  rw [Nat.zero_add, Nat.mul_one]
  simpa using h1
end
end Go.Wk
