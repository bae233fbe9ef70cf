/- THE GROUND OF THE WALKS, 15: more operators: the rest of a division, truth values held against each other. -/
import Derived.Test.YtplpedigkhgakaaWke
namespace Go.Wk
open Go
set_option linter.unusedVariables false
section
variable {P : Program} {f : Fr} {w : World} {d t t' ty : Nat} {p : String} {af : Array Edge} {g : Option (Nat × Bool)} {x y : Operand}
theorem y_rem64 {a b : Int} (hx : ev f x = .int .i64 a) (hy : ev f y = .int .i64 b) (h0 : 0 ≤ a) (hb : 0 < b) :
    Yd P ⟨some d, .binOp .rem t x y t', ty, p, af, g⟩ f w (.int .i64 (a % b)) := by
  have hm : a.tmod b = a % b := Int.tmod_eq_emod_of_nonneg h0
  exact ⟨rfl, by simp [execOp, hx, hy, eqGuard, binOp, Op.intDiv, hm, show b ≠ 0 by omega]⟩
theorem y_neqB {a b : Bool} (ht : P.underlying t = some .bool) (hx : ev f x = .bool a) (hy : ev f y = .bool b) : Yd P ⟨some d, .binOp .neq t x y t', ty, p, af, g⟩ f w (.bool (a != b)) :=
  ⟨rfl, by simp [execOp, hx, hy, eqGuard, binOp, run_equal_bool w t a b ht, bne]⟩
theorem y_eqlB {a b : Bool} (ht : P.underlying t = some .bool) (hx : ev f x = .bool a) (hy : ev f y = .bool b) : Yd P ⟨some d, .binOp .eql t x y t', ty, p, af, g⟩ f w (.bool (a == b)) :=
  ⟨rfl, by simp [execOp, hx, hy, eqGuard, binOp, run_equal_bool w t a b ht]⟩
end
end Go.Wk
