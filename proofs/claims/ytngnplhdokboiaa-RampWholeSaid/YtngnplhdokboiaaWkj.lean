/- THE GROUND OF THE WALKS, 19: comparisons whose answer is known. -/
import Derived.Test.YtngnplhdokboiaaWki
namespace Go.Wk
open Go
set_option linter.unusedVariables false
section
variable {P : Program} {f : Fr} {w : World} {d t t' ty : Nat} {p : String} {af : Array Edge} {g : Option (Nat × Bool)} {x y : Operand} {k : IntKind} {a b : Int}
theorem y_eqlT (h : a = b) (hx : ev f x = .int k a) (hy : ev f y = .int k b) : Yd P ⟨some d, .binOp .eql t x y t', ty, p, af, g⟩ f w (.bool true) := by
  have := y_eql (P := P) (w := w) (d := d) (t := t) (t' := t') (ty := ty) (p := p) (af := af) (g := g) hx hy; rwa [decide_eq_true h] at this
theorem y_eqlF (h : ¬ a = b) (hx : ev f x = .int k a) (hy : ev f y = .int k b) : Yd P ⟨some d, .binOp .eql t x y t', ty, p, af, g⟩ f w (.bool false) := by
  have := y_eql (P := P) (w := w) (d := d) (t := t) (t' := t') (ty := ty) (p := p) (af := af) (g := g) hx hy; rwa [decide_eq_false h] at this
theorem y_neqT (h : a ≠ b) (hx : ev f x = .int k a) (hy : ev f y = .int k b) : Yd P ⟨some d, .binOp .neq t x y t', ty, p, af, g⟩ f w (.bool true) := by
  have := y_neq (P := P) (w := w) (d := d) (t := t) (t' := t') (ty := ty) (p := p) (af := af) (g := g) hx hy; rwa [decide_eq_true h] at this
theorem y_neqF (h : a = b) (hx : ev f x = .int k a) (hy : ev f y = .int k b) : Yd P ⟨some d, .binOp .neq t x y t', ty, p, af, g⟩ f w (.bool false) := by
  have := y_neq (P := P) (w := w) (d := d) (t := t) (t' := t') (ty := ty) (p := p) (af := af) (g := g) hx hy; rwa [decide_eq_false (fun hn : a ≠ b => hn h)] at this
theorem y_lssT (h : a < b) (hx : ev f x = .int k a) (hy : ev f y = .int k b) : Yd P ⟨some d, .binOp .lss t x y t', ty, p, af, g⟩ f w (.bool true) := by
  have := y_lss (P := P) (w := w) (d := d) (t := t) (t' := t') (ty := ty) (p := p) (af := af) (g := g) hx hy; rwa [decide_eq_true h] at this
theorem y_lssF (h : ¬ a < b) (hx : ev f x = .int k a) (hy : ev f y = .int k b) : Yd P ⟨some d, .binOp .lss t x y t', ty, p, af, g⟩ f w (.bool false) := by
  have := y_lss (P := P) (w := w) (d := d) (t := t) (t' := t') (ty := ty) (p := p) (af := af) (g := g) hx hy; rwa [decide_eq_false h] at this
theorem y_leqT (h : a ≤ b) (hx : ev f x = .int k a) (hy : ev f y = .int k b) : Yd P ⟨some d, .binOp .leq t x y t', ty, p, af, g⟩ f w (.bool true) := by
  have := y_leq (P := P) (w := w) (d := d) (t := t) (t' := t') (ty := ty) (p := p) (af := af) (g := g) hx hy; rwa [decide_eq_true h] at this
theorem y_leqF (h : ¬ a ≤ b) (hx : ev f x = .int k a) (hy : ev f y = .int k b) : Yd P ⟨some d, .binOp .leq t x y t', ty, p, af, g⟩ f w (.bool false) := by
  have := y_leq (P := P) (w := w) (d := d) (t := t) (t' := t') (ty := ty) (p := p) (af := af) (g := g) hx hy; rwa [decide_eq_false h] at this
theorem y_gtrT (h : a > b) (hx : ev f x = .int k a) (hy : ev f y = .int k b) : Yd P ⟨some d, .binOp .gtr t x y t', ty, p, af, g⟩ f w (.bool true) := by
  have := y_gtr (P := P) (w := w) (d := d) (t := t) (t' := t') (ty := ty) (p := p) (af := af) (g := g) hx hy; rwa [decide_eq_true h] at this
theorem y_gtrF (h : ¬ a > b) (hx : ev f x = .int k a) (hy : ev f y = .int k b) : Yd P ⟨some d, .binOp .gtr t x y t', ty, p, af, g⟩ f w (.bool false) := by
  have := y_gtr (P := P) (w := w) (d := d) (t := t) (t' := t') (ty := ty) (p := p) (af := af) (g := g) hx hy; rwa [decide_eq_false h] at this
theorem y_geqT (h : a ≥ b) (hx : ev f x = .int k a) (hy : ev f y = .int k b) : Yd P ⟨some d, .binOp .geq t x y t', ty, p, af, g⟩ f w (.bool true) := by
  have := y_geq (P := P) (w := w) (d := d) (t := t) (t' := t') (ty := ty) (p := p) (af := af) (g := g) hx hy; rwa [decide_eq_true h] at this
theorem y_geqF (h : ¬ a ≥ b) (hx : ev f x = .int k a) (hy : ev f y = .int k b) : Yd P ⟨some d, .binOp .geq t x y t', ty, p, af, g⟩ f w (.bool false) := by
  have := y_geq (P := P) (w := w) (d := d) (t := t) (t' := t') (ty := ty) (p := p) (af := af) (g := g) hx hy; rwa [decide_eq_false h] at this
end
section
variable {P : Program} {l : Option Nat} {n : Nat} {Q : PQ} {K : Fr → Prop} {f : Fr} {ds : List Deferred} {w : World} {all : Array Oper} {rest : List Oper}
/-- The guard itself was passed over. -/
theorem yielded_undef {a : Act} {j d : Nat} (ha : Fits n f a) (hj : (all[j]?).bind (·.dst) = some d) (hd : d < n) (hb : f d = undef) : yielded all a.tmps j = none := by
  unfold yielded
  rw [hj]
  have : a.tmps[d]? = some (f d) := by
    rw [← ha.2 d, Array.getD_eq_getD_getElem?]
    rw [Array.getElem?_eq_getElem (by rw [ha.1]; exact hd)]; rfl
  simp only [Option.bind_some, this, hb]
  rfl
theorem OL_u {dst : Option Nat} {op : Op} {ty : Nat} {p : String} {af : Array Edge} {j d : Nat} {b : Bool} (hj : (all[j]?).bind (·.dst) = some d) (hd : d < n) (hb : f d = undef) (hdst : ∀ d, dst = some d → d < n)
    (h : OL P l n all Q rest (updO f dst undef) ds w) : OL P l n all Q (⟨dst, op, ty, p, af, some (j, b)⟩ :: rest) f ds w := fun a ha hd' =>
  wpListIn_step fun K hK => by
    rw [if_neg (by simp only [Region.wanted, yielded_undef ha hj hd hb]; simp)]
    exact ⟨fun g _ => fe_fn l g, hK _ _ (h _ (ha.putO hdst _) (by cases dst <;> exact hd'))⟩
theorem QL_u {dst : Option Nat} {op : Op} {ty : Nat} {p : String} {af : Array Edge} {j dj : Nat} {b : Bool} (hj : (all[j]?).bind (·.dst) = some dj) (hdj : dj < n) (hb : f dj = undef) (hdst : ∀ d, dst = some d → d < n)
    (k : QL P n all rest (updO f dst undef) w K) : QL P n all (⟨dst, op, ty, p, af, some (j, b)⟩ :: rest) f w K :=
  ⟨undef, fun a ha => .inr ⟨by simp only [Region.wanted, yielded_undef ha hj hdj hb]; simp, rfl⟩, hdst, k⟩
end
end Go.Wk
