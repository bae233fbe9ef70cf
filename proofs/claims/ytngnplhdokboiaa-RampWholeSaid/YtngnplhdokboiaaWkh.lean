/- THE GROUND OF THE WALKS, 17: bytes as strings, and strings held against each other. -/
import Derived.Test.YtngnplhdokboiaaWkg
import Derived.Laws.BytesString
import Derived.Sort.Walk0
namespace Go.Wk
open Go
set_option linter.unusedVariables false

/-- Bytes as a string. -/
def kb (k : List Int) : ByteArray := ⟨(k.map fun i => UInt8.ofNat i.toNat).toArray⟩
theorem kb_fold (k : List Int) : k.foldl (fun r n => r.push (UInt8.ofNat n.toNat)) ByteArray.empty = kb k := by
  have : ∀ (k : List Int) (s : ByteArray), k.foldl (fun r n => r.push (UInt8.ofNat n.toNat)) s = ⟨s.data ++ (k.map fun i => UInt8.ofNat i.toNat).toArray⟩ := by
    intro k
    induction k with
    | nil => intro s; simp
    | cons a k ih => intro s; rw [List.foldl_cons, ih]; simp [ByteArray.push]
  rw [this]; simp [kb, ByteArray.empty, ByteArray.emptyWithCapacity]; rfl
theorem inK_u8 {a : Int} (h : InK .u8 a) : 0 ≤ a ∧ a < 256 := by
  unfold InK Lit.wf at h
  rw [Bool.and_eq_true, decide_eq_true_iff, decide_eq_true_iff] at h
  have h1 : IntKind.u8.min = 0 := rfl
  have h2 : IntKind.u8.max = 255 := rfl
  omega
theorem u8_inj {a b : Int} (ha : InK .u8 a) (hb : InK .u8 b) (h : UInt8.ofNat a.toNat = UInt8.ofNat b.toNat) : a = b := by
  have ha' := inK_u8 ha
  have hb' := inK_u8 hb
  have := congrArg UInt8.toNat h
  simp at this
  omega
theorem kb_inj : ∀ {a b : List Int}, (∀ x ∈ a, InK .u8 x) → (∀ x ∈ b, InK .u8 x) → kb a = kb b → a = b := by
  intro a b ha hb h
  have h1 : (a.map fun i => UInt8.ofNat i.toNat) = (b.map fun i => UInt8.ofNat i.toNat) := by
    have := congrArg (fun s => s.data.toList) h
    simpa [kb] using this
  clear h
  induction a generalizing b with
  | nil => cases b with
    | nil => rfl
    | cons y b => simp at h1
  | cons x a ih => cases b with
    | nil => simp at h1
    | cons y b =>
      simp only [List.map_cons, List.cons.injEq] at h1
      rw [u8_inj (ha x (by simp)) (hb y (by simp)) h1.1, ih (fun x hx => ha x (by simp [hx])) (fun x hx => hb x (by simp [hx])) h1.2]

section
variable {P : Program} {f : Fr} {w : World} {d t t' ty : Nat} {p : String} {af : Array Edge} {g : Option (Nat × Bool)} {x y : Operand} {Z : Nat → Prop}
theorem SlR.row {α : Type} {T : Ty α} {bytes : Nat} {v : Value} {xs : List α} (h : SlR T bytes Z w v xs) (hx : xs ≠ []) : ∃ b o c news, v = .slice (some ⟨b, o, none⟩) xs.length c ∧ Z b ∧ Cells w b o news ∧ Els T Z w news xs := by
  obtain ⟨a, c, rfl, h1, h2, h3, h4, h5⟩ := h
  obtain ⟨x0, hx0⟩ : ∃ x, xs[0]? = some x := ⟨xs[0]'(List.length_pos_iff.2 hx), List.getElem?_eq_getElem _⟩
  obtain ⟨b, o, _, rfl, hz0, hc0, _⟩ := h5 0 x0 hx0
  have key : ∀ k, k ≤ xs.length → ∃ news, Els T Z w news (xs.take k) ∧ Cells w b o news := by
    intro k
    induction k with
    | zero => intro _; exact ⟨[], by simpa using Els.nil T Z w, by obtain ⟨C, ty, fr, hb, _⟩ := hc0; exact ⟨C, ty, fr, hb, fun i hi => by simp at hi⟩⟩
    | succ k ih =>
      intro hk
      obtain ⟨news, he, hc⟩ := ih (by omega)
      obtain ⟨x, hxk⟩ : ∃ x, xs[k]? = some x := ⟨xs[k]'(by omega), List.getElem?_eq_getElem _⟩
      obtain ⟨b', o', cs, e, _, hcs, hr⟩ := h5 k x hxk
      injection e with e; injection e with e1 e2 _; subst e1 e2
      refine ⟨news ++ cs, by rw [List.take_add_one, hxk]; exact he.snoc hr, hc.append ?_⟩
      rw [he.1, List.length_take, Nat.min_eq_left (by omega)]; exact hcs
  obtain ⟨news, he, hc⟩ := key xs.length (Nat.le_refl _)
  rw [List.take_length] at he
  exact ⟨b, o, c, news, rfl, hz0, hc, he⟩
theorem Els.ints {k : IntKind} {cs : List Value} {xs : List Int} (h : Els (tInt k) Z w cs xs) : cs = xs.map (Value.int k) := by
  apply List.ext_getElem?
  intro i
  have hl : cs.length = xs.length := by have := h.1; simpa [tInt, tLit] using this
  rw [List.getElem?_map]
  by_cases hi : i < xs.length
  · obtain ⟨h1, _⟩ := h.2 i xs[i] (List.getElem?_eq_getElem hi)
    have h2 : ((cs.drop (i * 1)).take 1)[0]? = some (Value.int k xs[i]) := by
      have : (cs.drop (i * 1)).take 1 = [Value.int k xs[i]] := h1
      rw [this]; rfl
    rw [List.getElem?_take_of_lt (by omega), List.getElem?_drop] at h2
    rw [List.getElem?_eq_getElem hi]; simpa using h2
  · rw [List.getElem?_eq_none (by omega), List.getElem?_eq_none (by omega)]; rfl
theorem SlR.allIn {k : IntKind} {bytes : Nat} {v : Value} {xs : List Int} (h : SlR (tInt k) bytes Z w v xs) : ∀ x ∈ xs, InK k x := fun x hx => by
  obtain ⟨i, hi⟩ := List.getElem?_of_mem hx
  obtain ⟨a, c, rfl, _, _⟩ := h.len
  obtain ⟨_, _, _, _, _, _, _, h2⟩ := h.at hi
  exact h2
/-- string(bytes) -/
theorem y_toStr {e : TypeId} {k : List Int} {bytes : Nat} {v : Value} (hs : P.underlying t = some (.slice e)) (he : P.underlying e = some (.int .u8)) (hd : P.underlying t' = some .string) (hx : ev f x = v) (h : SlR (tInt .u8) bytes Z w v k) :
    Yd P ⟨some d, .convert t t' x, ty, p, af, g⟩ f w (.string (kb k)) := by
  refine ⟨rfl, ?_⟩
  obtain ⟨a, c, rfl, h1, h2, _⟩ := id h
  have hr : (Conv.bytesToString (.slice a k.length c)).run P w = .ok (.string (kb k)) w := by
    by_cases hk : k = []
    · subst hk
      cases a with
      | none => rfl
      | some a => simp [Conv.bytesToString, loadCells, loadCellsFrom]; rfl
    · obtain ⟨b, o, c', news, hv, _, hc, hE⟩ := h.row hk
      injection hv with hv _ _; subst hv
      have hn := hE.ints
      rw [← kb_fold]
      exact run_bytesToString w _ _ _ k (by rw [run_loadCells hc (by rw [hn, List.length_map]), hn])
  simp only [execOp, hx, Sem.run_bind, run_convert_bytes_string w t t' e a k.length c hs he hd, hr, Result.andThen, Sem.run_pure]
theorem bytes_toList_inj {a b : ByteArray} (h : a.toList = b.toList) : a = b := by
  rw [ByteArray.toList_eq, ByteArray.toList_eq] at h
  obtain ⟨a⟩ := a; obtain ⟨b⟩ := b
  simp only [ByteArray.mk.injEq]
  exact Array.toList_inj.1 h
theorem y_neqS {a b : ByteArray} (hx : ev f x = .string a) (hy : ev f y = .string b) : Yd P ⟨some d, .binOp .neq t x y t', ty, p, af, g⟩ f w (.bool (decide (a ≠ b))) :=
  ⟨rfl, by
    have : (!(a.toList == b.toList)) = decide (a ≠ b) := by
      rw [Bool.eq_iff_iff, decide_eq_true_iff]
      simp only [Bool.not_eq_true', beq_eq_false_iff_ne]
      exact ⟨fun h e => h (by rw [e]), fun h e => h (bytes_toList_inj e)⟩
    simp [execOp, hx, hy, eqGuard, binOp, Op.stringOp]
    simpa using this⟩
theorem y_eqlS {a b : ByteArray} (hx : ev f x = .string a) (hy : ev f y = .string b) : Yd P ⟨some d, .binOp .eql t x y t', ty, p, af, g⟩ f w (.bool (decide (a = b))) :=
  ⟨rfl, by
    have : (a.toList == b.toList) = decide (a = b) := by
      rw [Bool.eq_iff_iff, decide_eq_true_iff]
      simp only [beq_iff_eq]
      exact ⟨fun h => bytes_toList_inj h, fun h => by rw [h]⟩
    simp [execOp, hx, hy, eqGuard, binOp, Op.stringOp]
    simpa using this⟩
theorem y_neq0 {k : IntKind} {a : Int} (hx : ev f x = .int k a) (hy : ev f y = .int k a) : Yd P ⟨some d, .binOp .neq t x y t', ty, p, af, g⟩ f w (.bool false) := by
  have := y_neq (P := P) (w := w) (d := d) (t := t) (t' := t') (ty := ty) (p := p) (af := af) (g := g) hx hy
  rwa [decide_eq_false (show ¬ (a ≠ a) from fun h => h rfl)] at this
theorem y_neqS0 {a : ByteArray} (hx : ev f x = .string a) (hy : ev f y = .string a) : Yd P ⟨some d, .binOp .neq t x y t', ty, p, af, g⟩ f w (.bool false) := by
  have := y_neqS (P := P) (w := w) (d := d) (t := t) (t' := t') (ty := ty) (p := p) (af := af) (g := g) hx hy
  rwa [decide_eq_false (show ¬ (a ≠ a) from fun h => h rfl)] at this
end
end Go.Wk
