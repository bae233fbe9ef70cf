/- Two edges held against each other. -/
import Derived.Test.YtplpedigkhgakaaWt
namespace Go.Proofs.Ytplpedigkhgakaa
open Go Go.Wk
set_option linter.unusedVariables false
theorem guard35 : Try.prog.eqGuardType Try.prog.depth 35 = false := by kernel_rfl
theorem held35 : Try.prog.stoodInHeld 35 = false := by kernel_rfl
theorem fields35 : Try.prog.fieldsOf 35 = #[{ name := "From", type := 23, offset := 0, embedded := false, tag := "", pkgPath := "", byteOffset := 0 }, { name := "To", type := 23, offset := 1, embedded := false, tag := "", pkgPath := "", byteOffset := 8 }] := by kernel_rfl
theorem eqE (w : World) (a b c d : Int) : (Op.equalIn 10000 35 (.agg #[.int .u64 a, .int .u64 b]) (.agg #[.int .u64 c, .int .u64 d])).run Try.prog w = .ok (decide (a = c ∧ b = d)) w := by
  rw [show (10000 : Nat) = 9999 + 1 from rfl, run_equalIn_struct w 9999 35 _ _ (by rw [fields35]; exact Try.underlying35) held35, fields35]
  have e : ∀ (n : Nat) (x y : Int), (Op.equalIn (n + 1) 23 (.int .u64 x) (.int .u64 y)).run Try.prog w = .ok (x == y) w := fun n x y => run_equalIn_int w n 23 .u64 .u64 x y Try.underlying23
  have e' := e 9998
  have p0 : ∀ (x y : Int), (part 23 #[.int .u64 x, .int .u64 y] 0).run Try.prog w = .ok (.int .u64 x) w := fun x y => by simp [part, isAgg, run_underlying Try.underlying23, Result.andThen]
  have p1 : ∀ (x y : Int), (part 23 #[.int .u64 x, .int .u64 y] 1).run Try.prog w = .ok (.int .u64 y) w := fun x y => by simp [part, isAgg, run_underlying Try.underlying23, Result.andThen]
  simp only [Op.eqFields, Sem.run_bind, p0, p1, Result.andThen]
  rw [show (9999 : Nat) = 9998 + 1 from rfl]
  by_cases h1 : a = c
  · by_cases h2 : b = d
    · simp [e', h1, h2, Op.eqFields, p0, p1, Result.andThen, Sem.run_bind]
    · simp [e', h1, h2, Op.eqFields, p0, p1, Result.andThen, Sem.run_bind]
  · simp [e', h1, Op.eqFields, p0, p1, Result.andThen, Sem.run_bind]
section
variable {f : Fr} {w : World} {d ty t' : Nat} {p : String} {af : Array Edge} {g : Option (Nat × Bool)} {x y : Operand} {a b c e : Int}
theorem y_neqE (hx : ev f x = .agg #[.int .u64 a, .int .u64 b]) (hy : ev f y = .agg #[.int .u64 c, .int .u64 e]) : Yd Try.prog ⟨some d, .binOp .neq 35 x y t', ty, p, af, g⟩ f w (.bool (decide (¬ (a = c ∧ b = e)))) :=
  ⟨rfl, by simp only [execOp, hx, hy, Sem.run_bind, run_eqGuard_agg _ _ _ _ _ _ _ guard35, run_neq_struct, eqE, Result.andThen]; simp⟩
theorem y_eqlE (hx : ev f x = .agg #[.int .u64 a, .int .u64 b]) (hy : ev f y = .agg #[.int .u64 c, .int .u64 e]) : Yd Try.prog ⟨some d, .binOp .eql 35 x y t', ty, p, af, g⟩ f w (.bool (decide (a = c ∧ b = e))) :=
  ⟨rfl, by simp only [execOp, hx, hy, Sem.run_bind, run_eqGuard_agg _ _ _ _ _ _ _ guard35, run_eql_struct, eqE, Result.andThen]; simp⟩
end
end Go.Proofs.Ytplpedigkhgakaa
