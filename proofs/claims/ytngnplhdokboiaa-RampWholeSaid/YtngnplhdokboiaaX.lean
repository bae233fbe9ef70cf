/- The data of versions, cells and what is seen, as they lie in memory. -/
import Derived.Test.YtngnplhdokboiaaWt
import Derived.Test.YtngnplhdokboiaaWkp
import Derived.Test.YtngnplhdokboiaaWkf
namespace Go.Proofs.Ytngnplhdokboiaa
open Go Go.Wk
set_option linter.unusedVariables false
set_option linter.unusedSimpArgs false

abbrev Key := List Int
structure Sn where
  key : Key
  ts : Int
  txn : Int
  keys : List Key
  deriving DecidableEq
structure Sp where
  lo : Key
  hi : Key
  deriving DecidableEq
structure Ver where
  ts : Int
  txn : Int
  dead : Bool
  val : Key
  keys : List Key
  deriving DecidableEq
structure Cl where
  key : Key
  vers : List Ver
  intent : Ver
  deriving DecidableEq
abbrev tKey : Ty Key := tSlice (tInt .u8) 1
abbrev tKeys : Ty (List Key) := tSlice tKey 24
abbrev tSn : Ty Sn := tMap (tPair tKey (tPair (tInt .u64) (tPair (tInt .u64) tKeys))) fun s => (s.key, s.ts, s.txn, s.keys)
abbrev tSp : Ty Sp := tMap (tPair tKey tKey) fun s => (s.lo, s.hi)
abbrev tVer : Ty Ver := tMap (tPair (tInt .u64) (tPair (tInt .u64) (tPair tBool (tPair tKey tKeys)))) fun v => (v.ts, v.txn, v.dead, v.val, v.keys)
abbrev tCl : Ty Cl := tMap (tPair tKey (tPair (tSlice tVer 72) tVer)) fun c => (c.key, c.vers, c.intent)
abbrev tSns : Ty (List Sn) := tSlice tSn 64

theorem sn_cells {Z : Nat → Prop} {w : World} {cs : List Value} {s : Sn} : tSn.R Z w cs s ↔ ∃ vk vl, cs = [vk, .int .u64 s.ts, .int .u64 s.txn, vl] ∧ SlR (tInt .u8) 1 Z w vk s.key ∧ InK .u64 s.ts ∧ InK .u64 s.txn ∧ SlR tKey 24 Z w vl s.keys := by
  constructor
  · rintro ⟨_, _, rfl, ⟨vk, rfl, h1⟩, _, _, rfl, ⟨rfl, h2⟩, _, _, rfl, ⟨rfl, h3⟩, vl, rfl, h4⟩
    exact ⟨vk, vl, rfl, h1, h2, h3, h4⟩
  · rintro ⟨vk, vl, rfl, h1, h2, h3, h4⟩
    exact ⟨[vk], _, rfl, ⟨vk, rfl, h1⟩, [.int .u64 s.ts], _, rfl, ⟨rfl, h2⟩, [.int .u64 s.txn], [vl], rfl, ⟨rfl, h3⟩, vl, rfl, h4⟩
theorem sp_cells {Z : Nat → Prop} {w : World} {cs : List Value} {s : Sp} : tSp.R Z w cs s ↔ ∃ vl vh, cs = [vl, vh] ∧ SlR (tInt .u8) 1 Z w vl s.lo ∧ SlR (tInt .u8) 1 Z w vh s.hi := by
  constructor
  · rintro ⟨_, _, rfl, ⟨vl, rfl, h1⟩, vh, rfl, h2⟩
    exact ⟨vl, vh, rfl, h1, h2⟩
  · rintro ⟨vl, vh, rfl, h1, h2⟩
    exact ⟨[vl], [vh], rfl, ⟨vl, rfl, h1⟩, vh, rfl, h2⟩
theorem ver_cells {Z : Nat → Prop} {w : World} {cs : List Value} {v : Ver} : tVer.R Z w cs v ↔ ∃ vv vk, cs = [.int .u64 v.ts, .int .u64 v.txn, .bool v.dead, vv, vk] ∧ InK .u64 v.ts ∧ InK .u64 v.txn ∧ SlR (tInt .u8) 1 Z w vv v.val ∧ SlR tKey 24 Z w vk v.keys := by
  constructor
  · rintro ⟨_, _, rfl, ⟨rfl, h1⟩, _, _, rfl, ⟨rfl, h2⟩, _, _, rfl, ⟨rfl, _⟩, _, _, rfl, ⟨vv, rfl, h3⟩, vk, rfl, h4⟩
    exact ⟨vv, vk, rfl, h1, h2, h3, h4⟩
  · rintro ⟨vv, vk, rfl, h1, h2, h3, h4⟩
    exact ⟨[.int .u64 v.ts], _, rfl, ⟨rfl, h1⟩, [.int .u64 v.txn], _, rfl, ⟨rfl, h2⟩, [.bool v.dead], _, rfl, ⟨rfl, trivial⟩, [vv], [vk], rfl, ⟨vv, rfl, h3⟩, vk, rfl, h4⟩
theorem cl_cells {Z : Nat → Prop} {w : World} {cs : List Value} {c : Cl} : tCl.R Z w cs c ↔ ∃ vk vs is, cs = vk :: vs :: is ∧ SlR (tInt .u8) 1 Z w vk c.key ∧ SlR tVer 72 Z w vs c.vers ∧ tVer.R Z w is c.intent := by
  constructor
  · rintro ⟨_, _, rfl, ⟨vk, rfl, h1⟩, _, is, rfl, ⟨vs, rfl, h2⟩, h3⟩
    exact ⟨vk, vs, is, rfl, h1, h2, h3⟩
  · rintro ⟨vk, vs, is, rfl, h1, h2, h3⟩
    exact ⟨[vk], _, rfl, ⟨vk, rfl, h1⟩, [vs], is, rfl, ⟨vs, rfl, h2⟩, h3⟩
theorem any_take {α : Type} {l : List α} {j : Nat} {x : α} (h : l[j]? = some x) (q : α → Bool) : (l.take (j + 1)).any q = ((l.take j).any q || q x) := by
  rw [List.take_add_one, h, Option.toList_some, List.any_append]; simp only [List.any_cons, List.any_nil, Bool.or_false]
theorem keys_in {Z : Nat → Prop} {w : World} {v : Value} {ys : List Key} (h : SlR tKey 24 Z w v ys) : ∀ k ∈ ys, ∀ x ∈ k, InK .u8 x := by
  intro k hk
  obtain ⟨j, hj⟩ := List.getElem?_of_mem hk
  obtain ⟨_, _, rfl, _, _⟩ := h.len
  obtain ⟨_, _, _, _, _, _, vy, _, hvy⟩ := h.at hj
  exact hvy.allIn
end Go.Proofs.Ytngnplhdokboiaa
