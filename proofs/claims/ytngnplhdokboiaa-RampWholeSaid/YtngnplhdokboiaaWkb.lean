/- THE GROUND OF THE WALKS, 11: results that lie in memory; small shorthands. -/
import Derived.Test.YtngnplhdokboiaaWka
namespace Go.Wk
open Go
set_option linter.unusedVariables false
set_option linter.unusedSimpArgs false

section
variable {P : Program} {fn : Func} {R : Ending → World → Prop} {f : Fr} {w : World} {size bytes size' bytes' : Nat} {zero zero' : Value} {dd dd' : TypeDesc}
theorem run_loadVarS {t b o : Nat} {v : Value} (ti : TI P t size bytes zero dd) (hag : isAggD dd = false) (hc : Cells w b o [v]) : (loadVar t ⟨b, o, none⟩).run P w = .ok v w := by
  simp [loadVar, ti.run_isAgg, hag, Result.andThen, load, Sem.run, hc.one]
theorem run_loadVarA {t b o : Nat} {cs : List Value} (ti : TI P t size bytes zero dd) (hag : isAggD dd = true) (hc : Cells w b o cs) (hl : size = cs.length) : (loadVar t ⟨b, o, none⟩).run P w = .ok (.agg cs.toArray) w := by
  simp [loadVar, ti.run_isAgg, hag, Result.andThen, ti.run_size, run_loadCells hc hl]
/-- One result, in memory. -/
theorem ret1c {a t b o : Nat} {v : Value} (h : fn.results = #[.cell a t]) (hf : f a = .pointer (some ⟨b, o, none⟩)) (hl : (loadVar t ⟨b, o, none⟩).run P w = .ok v w) (hR : R (.returned v) w) : RetOK P fn R f [] w :=
  ⟨_, fun ac ha => by
    have e : ac.tmps.getD a undef = .pointer (some ⟨b, o, none⟩) := by rw [ha.2 a, hf]
    simp only [results, h, List.mapM_toArray, List.mapM_cons, List.mapM_nil, e, asAddr, Sem.run_bind, Sem.run_pure, Result.andThen, hl, pure_bind]
    simp [Result.andThen, hl], hR⟩
/-- Two results, in memory both. -/
theorem ret2cc {a t b o a' t' b' o' : Nat} {v v' : Value} (h : fn.results = #[.cell a t, .cell a' t']) (hf : f a = .pointer (some ⟨b, o, none⟩)) (hl : (loadVar t ⟨b, o, none⟩).run P w = .ok v w)
    (hf' : f a' = .pointer (some ⟨b', o', none⟩)) (hl' : (loadVar t' ⟨b', o', none⟩).run P w = .ok v' w) (hR : R (.returned (.tuple #[v, v'])) w) : RetOK P fn R f [] w :=
  ⟨_, fun ac ha => by
    have e : ac.tmps.getD a undef = .pointer (some ⟨b, o, none⟩) := by rw [ha.2 a, hf]
    have e' : ac.tmps.getD a' undef = .pointer (some ⟨b', o', none⟩) := by rw [ha.2 a', hf']
    simp only [results, h, List.mapM_toArray, List.mapM_cons, List.mapM_nil, e, e', asAddr, Sem.run_bind, Sem.run_pure, Result.andThen, hl, hl', pure_bind]
    simp [Result.andThen, hl, hl'], hR⟩
/-- One in memory, one in a temporary. -/
theorem ret2ct {a t b o u : Nat} {v v' : Value} (h : fn.results = #[.cell a t, .tmp u]) (hf : f a = .pointer (some ⟨b, o, none⟩)) (hl : (loadVar t ⟨b, o, none⟩).run P w = .ok v w)
    (hu : f u = v') (hR : R (.returned (.tuple #[v, v'])) w) : RetOK P fn R f [] w :=
  ⟨_, fun ac ha => by
    have e : ac.tmps.getD a undef = .pointer (some ⟨b, o, none⟩) := by rw [ha.2 a, hf]
    have e' : ac.tmps.getD u undef = v' := by rw [ha.2 u, hu]
    simp only [results, h, List.mapM_toArray, List.mapM_cons, List.mapM_nil, e, e', asAddr, Sem.run_bind, Sem.run_pure, Result.andThen, hl, pure_bind]
    simp [Result.andThen, hl], hR⟩
end
end Go.Wk
