/- THE GROUND OF THE WALKS, 18: drawn regions with effects, under guards. -/
import Derived.Test.YtngnplhdokboiaaWkh
namespace Go.Wk
open Go
set_option linter.unusedVariables false
section
variable {P : Program} {l : Option Nat} {n : Nat} {Q : PQ} {f : Fr} {ds : List Deferred} {w : World} {ops : List Oper} {bs : List Nat} {S0 : World → Prop} {fuel : Nat} {listed : List Bool}
theorem DA_yg (i : Nat) {op : Op} {ty : Nat} {p : String} {af : Array Edge} {d : Nat} {v : Value} {j dj : Nat} {b : Bool} (hi : ops[i]? = some ⟨some d, op, ty, p, af, some (j, b)⟩) (hj : (ops.toArray[j]?).bind (·.dst) = some dj) (hdj : dj < n) (hbv : f dj = .bool b) (hok : okT ops listed i = true) (hb : bs.contains i = false) (hreach : bs.all (fun d => reachB ops.toArray ops.length d i) = true)
    (hy : ∀ w', S0 w' → Yd P ⟨some d, op, ty, p, af, some (j, b)⟩ f w' v) (hS : Sx bs S0 listed.toArray w) (hd : d < n) (k : Sx bs S0 (listed.set i true).toArray w → DA P n ops bs S0 Q fuel (listed.set i true) (upd f d v) ds w) : DA P n ops bs S0 Q (fuel + 1) listed f ds w :=
  DA_q i hi hok hb (fun a ha => by simp [Region.wanted, yielded_at ha hj hdj hbv]) (.inl ⟨hreach, fun w' h => (hy w' h).run⟩) hS (fun _ e => by injection e with e; subst e; exact hd) k
theorem DA_pg (i : Nat) {op : Op} {ty : Nat} {p : String} {af : Array Edge} {d : Nat} {v : Value} {j dj : Nat} {b : Bool} (hi : ops[i]? = some ⟨some d, op, ty, p, af, some (j, b)⟩) (hj : (ops.toArray[j]?).bind (·.dst) = some dj) (hdj : dj < n) (hbv : f dj = .bool b) (hok : okT ops listed i = true) (hb : bs.contains i = false)
    (hy : ∀ w', Yd P ⟨some d, op, ty, p, af, some (j, b)⟩ f w' v) (hS : Sx bs S0 listed.toArray w) (hd : d < n) (k : Sx bs S0 (listed.set i true).toArray w → DA P n ops bs S0 Q fuel (listed.set i true) (upd f d v) ds w) : DA P n ops bs S0 Q (fuel + 1) listed f ds w :=
  DA_q i hi hok hb (fun a ha => by simp [Region.wanted, yielded_at ha hj hdj hbv]) (.inr fun w' => (hy w').run) hS (fun _ e => by injection e with e; subst e; exact hd) k
theorem DA_oneg (i : Nat) {dst : Option Nat} {op : Op} {ty : Nat} {p : String} {af : Array Edge} {j dj : Nat} {b : Bool} (hr : Region.ready .any ops.toArray listed.toArray = [i]) (hi : ops[i]? = some ⟨dst, op, ty, p, af, some (j, b)⟩) (hj : (ops.toArray[j]?).bind (·.dst) = some dj) (hdj : dj < n) (hbv : f dj = .bool b)
    (h : Op1 P n ⟨dst, op, ty, p, af, some (j, b)⟩ f ds w fun f' ds' w' => Sx bs S0 (listed.set i true).toArray w' ∧ DA P n ops bs S0 Q fuel (listed.set i true) f' ds' w') : DA P n ops bs S0 Q (fuel + 1) listed f ds w :=
  DA_all [i] hr (by simp) fun k hk => by
    simp only [List.mem_singleton] at hk; subst hk
    exact ⟨_, hi, fun a ha => by simp [Region.wanted, yielded_at ha hj hdj hbv], h⟩
end
end Go.Wk
