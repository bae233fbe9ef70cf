/- THE GROUND OF THE WALKS, 15: more operators: the rest of a division, truth values held against each other. -/
import Derived.Test.YtngnplhdokboiaaWke
namespace Go.Wk
open Go
set_option linter.unusedVariables false
section
variable {P : Program} {f : Fr} {w : World} {d t t' ty : Nat} {p : String} {af : Array Edge} {g : Option (Nat × Bool)} {x y : Operand}
theorem y_rem64 {a b : Int} (hx : ev f x = .int .i64 a) (hy : ev f y = .int .i64 b) (h0 : 0 ≤ a) (hb : 0 < b) :
    Yd P ⟨some d, .binOp .rem t x y t', ty, p, af, g⟩ f w (.int .i64 (a % b)) := by
  have hm : a.tmod b = a % b := Int.tmod_eq_emod_of_nonneg h0
  exact ⟨rfl, by simp [execOp, hx, hy, eqGuard, binOp, Op.intDiv, hm, show b ≠ 0 by omega]⟩
theorem run_isNil {e : TypeId} {a : Option Addr} (ht : P.underlying t = some (.pointer e)) (hp : a = none ∨ ∃ x, a = some x) : (Op.equal t (.pointer a) (.pointer none)).run P w = .ok a.isNone w := by
  unfold Op.equal
  rw [show Op.maxDepth = 9999 + 1 from rfl, Op.equalIn]
  simp only [Sem.run_bind, run_underlying ht, Result.andThen]
  rcases hp with rfl | ⟨x, rfl⟩
  · rfl
  · rfl
theorem run_binOp_nil {a : Option Addr} : (binOp .eql t (.pointer a) (.pointer none)) = (do pure (.bool (← Op.equal t (.pointer a) (.pointer none)))) := by
  cases a <;> rfl
theorem run_eqGuard_ptr {a b : Option Addr} : (eqGuard .eql t x y (.pointer a) (.pointer b)).run P w = .ok () w := by
  cases a <;> cases b <;> rfl
theorem y_isNil {e : TypeId} {a : Option Addr} (ht : P.underlying t = some (.pointer e)) (hx : ev f x = .pointer a) (hy : ev f y = .pointer none) : Yd P ⟨some d, .binOp .eql t x y t', ty, p, af, g⟩ f w (.bool a.isNone) :=
  ⟨rfl, by
    have hr := run_isNil (w := w) (a := a) ht (by cases a with | none => exact .inl rfl | some x => exact .inr ⟨x, rfl⟩)
    simp only [execOp, hx, hy, Sem.run_bind, run_eqGuard_ptr, Result.andThen, run_binOp_nil, hr, Sem.run_pure]⟩
theorem y_neqB {a b : Bool} (ht : P.underlying t = some .bool) (hx : ev f x = .bool a) (hy : ev f y = .bool b) : Yd P ⟨some d, .binOp .neq t x y t', ty, p, af, g⟩ f w (.bool (a != b)) :=
  ⟨rfl, by simp [execOp, hx, hy, eqGuard, binOp, run_equal_bool w t a b ht, bne]⟩
theorem y_eqlB {a b : Bool} (ht : P.underlying t = some .bool) (hx : ev f x = .bool a) (hy : ev f y = .bool b) : Yd P ⟨some d, .binOp .eql t x y t', ty, p, af, g⟩ f w (.bool (a == b)) :=
  ⟨rfl, by simp [execOp, hx, hy, eqGuard, binOp, run_equal_bool w t a b ht]⟩
end
theorem SlR.reach {α : Type} {T : Ty α} {bytes : Nat} {Z : Nat → Prop} {w : World} {v : Value} {xs : List α} (h : SlR T bytes Z w v xs) : xs.length * bytes ≤ 140737488351232 := by
  obtain ⟨_, _, _, _, _, h, _⟩ := h; exact h
theorem SlR.len1 {α : Type} {T : Ty α} {bytes : Nat} {Z : Nat → Prop} {w : World} {v : Value} {xs : List α} (h : SlR T bytes Z w v xs) (hb : 0 < bytes) : xs.length ≤ 140737488351232 :=
  Nat.le_trans (Nat.le_mul_of_pos_right _ hb) h.reach
end Go.Wk
