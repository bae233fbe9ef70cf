/- THE GROUND OF THE WALKS, 14: from the reading of an argument as data to Lean's data. -/
import Derived.Test.YtngnplhdokboiaaWkd
import Derived.ChangeArms
namespace Go.Wk
open Go
set_option linter.unusedVariables false

def Opens {α : Type} (P : Program) (w : World) (t : TypeId) (T : Ty α) : Prop :=
  ∀ (H : Type) (enc : TypeId × Value → H) (fuel : Nat) (cs : List Value) (x : DataW H × List MemPlace), DataW.trod enc P w 0 (fun _ => true) true fuel t cs = some x → (x.1.weights P t).all (· ≤ reachBytes) = true → ∃ y, T.R (fun _ => True) w cs y

def OpensF {α : Type} (P : Program) (w : World) (fs : List Field) (off : Nat) (T : Ty α) : Prop :=
  ∀ (H : Type) (enc : TypeId × Value → H) (fuel : Nat) (cs : List Value) (xs : List (DataW H × List MemPlace)), (∀ (i : Nat) (f : Field), fs[i]? = some f → DataW.trod enc P w 0 (fun _ => true) true fuel f.type ((cs.drop f.offset).take (P.cellsOf f.type)) = xs[i]?) → xs.length = fs.length →
    (DataW.weightsEach P (fs.map (·.type)) (xs.map (·.1))).all (· ≤ reachBytes) = true → ∃ y, T.R (fun _ => True) w ((cs.drop off).take T.sz) y

section
variable {α β : Type} {P : Program} {w : World} {t : TypeId}

theorem opens_int {k : IntKind} (ht : P.underlying t = some (.int k)) : Opens P w t (tInt k) := by
  intro H enc fuel cs x h _
  obtain ⟨n, rfl, _, hw⟩ := DataW.trod_int ht h
  exact ⟨n, rfl, hw⟩
theorem opens_bool (ht : P.underlying t = some .bool) : Opens P w t tBool := by
  intro H enc fuel cs x h _
  obtain ⟨b, rfl, _⟩ := DataW.trod_bool ht h
  exact ⟨b, rfl, trivial⟩
def StrOk (s : ByteArray) : Prop := s.size ≤ 140737488351232
def tStr : Ty ByteArray := tLit Value.string StrOk fun _ => rfl
theorem opens_str (ht : P.underlying t = some .string) : Opens P w t tStr := by
  intro H enc fuel cs x h hw
  obtain ⟨s, rfl, rfl, _⟩ := DataW.trod_string ht h
  refine ⟨s, rfl, ?_⟩
  simp only [DataW.weights, List.all_cons, List.all_nil, Bool.and_true, decide_eq_true_eq, Array.length_toList] at hw
  exact hw

theorem weightsAll_mem {H : Type} {e : TypeId} {p : Nat → Bool} : ∀ {ds : List (DataW H)} {d : DataW H}, d ∈ ds → (DataW.weightsAll P e ds).all p = true → (d.weights P e).all p = true
  | [], d, h, _ => by simp at h
  | d0 :: ds, d, h, hw => by
    rw [DataW.weightsAll, List.all_append, Bool.and_eq_true] at hw
    rcases List.mem_cons.1 h with rfl | h
    · exact hw.1
    · exact weightsAll_mem h hw.2

theorem list_of_each {R : Nat → α → Prop} : ∀ (n : Nat), (∀ i, i < n → ∃ x, R i x) → ∃ xs : List α, xs.length = n ∧ ∀ i x, xs[i]? = some x → R i x
  | 0, _ => ⟨[], rfl, fun i x h => by simp at h⟩
  | n + 1, h => by
    obtain ⟨xs, hl, hx⟩ := list_of_each n fun i hi => h i (by omega)
    obtain ⟨y, hy⟩ := h n (by omega)
    refine ⟨xs ++ [y], by simp [hl], fun i x hi => ?_⟩
    by_cases hlt : i < xs.length
    · exact hx i x (by rwa [List.getElem?_append_left hlt] at hi)
    · have hi' := (List.getElem?_eq_some_iff.1 hi).1
      simp at hi'
      obtain rfl : i = n := by omega
      rw [List.getElem?_append_right (by omega), hl] at hi
      simp at hi; subst hi; exact hy

theorem cells_of_cells? {b o n : Nat} {cs : List Value} (hn : 0 < n) (h : w.cells? 0 ⟨b, o, none⟩ n = some cs) : Cells w b o cs := by
  obtain ⟨_, hl, hc⟩ := World.cells?_some h
  have hadd : ∀ i, (⟨b, o, none⟩ : Addr).add i = ⟨b, o + i, none⟩ := fun i => by
    by_cases h0 : i = 0
    · subst h0; rfl
    · simp [Addr.add, h0]
  have h0 := hc 0 hn
  have h1 : ∃ v, cs[0]? = some v := ⟨_, List.getElem?_eq_getElem (by omega)⟩
  obtain ⟨v, hv⟩ := h1
  rw [hadd, hv] at h0
  unfold World.cell? at h0
  split at h0
  · rename_i C ty fr hb
    refine ⟨C, ty, fr, hb, fun i hi => ?_⟩
    have := hc i (by omega)
    rw [hadd] at this
    simp only [World.cell?, hb] at this
    simpa using this
  · cases h0

theorem opens_slice {e : TypeId} {bytes : Nat} {T : Ty α} (ht : P.underlying t = some (.slice e)) (hc : P.cellsOf e = T.sz) (hb : P.bytesOf e = bytes) (hp : 0 < T.sz) (he : Opens P w e T) : Opens P w t (tSlice T bytes) := by
  intro H enc fuel cs x h hw
  rcases DataW.trod_slice ht h with ⟨rfl, _⟩ | ⟨a, len, cap, elems, rest, n, _, rfl, rfl, _, hl, hm, hlen, hel, _, _⟩
  · exact ⟨[], _, rfl, SlR.nil _ _ _ _⟩
  · rw [DataW.weights, ht] at hw
    simp only [List.length_map, List.all_cons, List.all_append, Bool.and_eq_true, decide_eq_true_eq, hb] at hw
    obtain ⟨hw1, hw2, _⟩ := hw
    obtain ⟨b, o, sp⟩ := a
    have key : ∀ i, i < len → ∃ x, sp = none ∧ ∃ cs, Cells w b (o + i * T.sz) cs ∧ T.R (fun _ => True) w cs x := by
      intro i hi
      have hsp : sp = none := by
        have h0 := hel 0 (by omega)
        rw [List.getElem?_eq_getElem (by omega), Option.bind_eq_some_iff] at h0
        obtain ⟨cs', hcs, _⟩ := h0
        have h2 := World.cells?_some hcs
        have h1 := h2.2.2 0 (by omega)
        rw [Nat.zero_mul, List.getElem?_eq_getElem (by omega)] at h1
        simp only [Addr.add, if_true, World.cell?] at h1
        split at h1
        · cases sp with
          | none => rfl
          | some _ => simp at h1
        · cases h1
      subst hsp
      have h0 := hel i hi
      rw [List.getElem?_eq_getElem (by omega), Option.bind_eq_some_iff] at h0
      obtain ⟨cs', hcs, hy⟩ := h0
      have hadd : (⟨b, o, none⟩ : Addr).add (i * P.cellsOf e) = ⟨b, o + i * T.sz, none⟩ := by
        rw [hc]
        by_cases h0 : i * T.sz = 0
        · simp [Addr.add, h0]
        · simp [Addr.add, h0]
      rw [hadd, hc] at hcs
      obtain ⟨x, hx⟩ := he H enc n cs' _ hy (weightsAll_mem (List.mem_map.2 ⟨_, List.getElem_mem _, rfl⟩) hw2)
      exact ⟨x, rfl, cs', cells_of_cells? hp hcs, hx⟩
    obtain ⟨xs, hxl, hx⟩ := list_of_each len key
    refine ⟨xs, _, rfl, some ⟨b, o, sp⟩, cap, by rw [hxl], by omega, fun h => (by cases h), ?_, hm, fun i x hi => ?_⟩
    · have h1 : xs.length * bytes ≤ (elems.length + rest.length) * bytes := Nat.mul_le_mul_right _ (by omega)
      have h2 : (elems.length + rest.length) * bytes ≤ 140737488351232 := hw1
      omega
    · obtain ⟨rfl, cs', h1, h2⟩ := hx i x hi
      exact ⟨b, o, cs', rfl, trivial, h1, h2⟩

theorem opensF_one {f : Field} {off : Nat} {T : Ty α} (ho : f.offset = off) (hc : P.cellsOf f.type = T.sz) (h : Opens P w f.type T) : OpensF P w [f] off T := by
  intro H enc fuel cs xs hx hl hw
  match xs, hl with
  | [x0], _ =>
    have h0 := hx 0 f rfl
    simp only [List.map_cons, List.map_nil, DataW.weightsEach, List.append_nil] at hw
    rw [ho, hc] at h0
    exact h H enc fuel _ x0 h0 hw
theorem opensF_cons {f : Field} {fs : List Field} {off : Nat} {A : Ty α} {B : Ty β} (ho : f.offset = off) (hc : P.cellsOf f.type = A.sz) (h : Opens P w f.type A) (k : OpensF P w fs (off + A.sz) B) : OpensF P w (f :: fs) off (tPair A B) := by
  intro H enc fuel cs xs hx hl hw
  match xs, hl with
  | x0 :: xs, hl =>
    have h0 := hx 0 f rfl
    simp only [List.map_cons, DataW.weightsEach, List.all_append, Bool.and_eq_true] at hw
    rw [ho, hc] at h0
    obtain ⟨y0, hy0⟩ := h H enc fuel _ x0 h0 hw.1
    obtain ⟨y1, hy1⟩ := k H enc fuel cs xs (fun i g hi => hx (i + 1) g hi) (by simpa using hl) hw.2
    refine ⟨(y0, y1), _, _, ?_, hy0, hy1⟩
    show (cs.drop off).take (A.sz + B.sz) = _
    rw [List.take_add, List.drop_drop]
theorem opens_struct {fs : Array Field} {T : Ty α} (ht : P.underlying t = some (.struct fs)) (hc : P.cellsOf t = T.sz) (h : OpensF P w fs.toList 0 T) : Opens P w t T := by
  intro H enc fuel cs x hx hw
  obtain ⟨xs, n, _, rfl, hl, hxl, hf⟩ := DataW.trod_struct ht hx
  rw [DataW.weights, ht] at hw
  obtain ⟨y, hy⟩ := h H enc n cs xs (fun i f hi => hf i f (by simpa using hi)) (by simpa using hxl) hw
  refine ⟨y, ?_⟩
  rwa [List.drop_zero, ← hc, ← hl, List.take_length] at hy
theorem opens_map {T : Ty α} {f : β → α} (g : α → β) (hg : ∀ a, f (g a) = a) (h : Opens P w t T) : Opens P w t (tMap T f) := by
  intro H enc fuel cs x hx hw
  obtain ⟨y, hy⟩ := h H enc fuel cs x hx hw
  exact ⟨g y, by show T.R _ w cs (f (g y)); rwa [hg]⟩

/-- A parameter. -/
theorem Opens.arg {T : Ty α} (h : Opens P w t T) {H : Type} {enc : TypeId × Value → H} {v : Value} {d : DataW H} {ps : List MemPlace} (ht : DataW.Trod enc P w 0 (fun _ => true) true t v d ps) (hw : (d.weights P t).all (· ≤ reachBytes) = true) : ∃ y, T.R (fun _ => True) w v.cells.toList y := by
  obtain ⟨fuel, hf⟩ := ht
  exact h H enc fuel _ _ hf hw
theorem Opens.slice {T : Ty α} {bytes : Nat} (h : Opens P w t (tSlice T bytes)) {H : Type} {enc : TypeId × Value → H} {a : Option Addr} {n c : Nat} {d : DataW H} {ps : List MemPlace} (ht : DataW.Trod enc P w 0 (fun _ => true) true t (.slice a n c) d ps) (hw : (d.weights P t).all (· ≤ reachBytes) = true) : ∃ xs, SlR T bytes (fun _ => True) w (.slice a n c) xs := by
  obtain ⟨xs, v, e, hv⟩ := h.arg ht hw
  obtain rfl : Value.slice a n c = v := by simpa [Value.cells] using e
  exact ⟨xs, hv⟩
end
end Go.Wk
