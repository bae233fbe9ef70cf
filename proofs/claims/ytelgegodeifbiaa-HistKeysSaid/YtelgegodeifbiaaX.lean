/- The data of histories, as they lie in memory. -/
import Derived.Test.YtelgegodeifbiaaWt
import Derived.Test.YtelgegodeifbiaaWkf
import Derived.Test.YtelgegodeifbiaaP
namespace Go.Proofs.Ytelgegodeifbiaa
open Go Go.Wk Pl
set_option linter.unusedVariables false

abbrev tKey : Ty Key := tSlice (tInt .u8) 1
abbrev tKeys : Ty (List Key) := tSlice tKey 24
abbrev tSn : Ty Sn := tMap (tPair tKey (tPair (tInt .u64) (tPair (tInt .u64) tKeys))) fun s => (s.key, s.ts, s.txn, s.keys)
abbrev tSp : Ty Sp := tMap (tPair tKey tKey) fun s => (s.lo, s.hi)
abbrev tEv : Ty Ev := tMap (tPair (tInt .i64) (tPair (tInt .u64) (tPair (tInt .i64) (tPair (tInt .u64) (tPair tSp (tPair (tSlice tSn 64) tKeys)))))) fun e => (e.kind, e.txn, e.level, e.ts, e.span, e.seen, e.keys)
abbrev tRn : Ty Rn := tMap (tPair (tInt .u64) (tPair (tInt .i64) (tPair (tInt .i64) (tPair (tInt .u64) (tPair (tInt .u64) (tPair tKeys (tPair (tSlice tSn 64) (tSlice tSp 48)))))))) fun r => (r.txn, r.level, r.state, r.start, r.ts, r.keys, r.seen, r.spans)

theorem sn_cells {Z : Nat → Prop} {w : World} {cs : List Value} {s : Sn} : tSn.R Z w cs s ↔ ∃ vk vl, cs = [vk, .int .u64 s.ts, .int .u64 s.txn, vl] ∧ SlR (tInt .u8) 1 Z w vk s.key ∧ InK .u64 s.ts ∧ InK .u64 s.txn ∧ SlR tKey 24 Z w vl s.keys := by
  constructor
  · rintro ⟨_, _, rfl, ⟨vk, rfl, h1⟩, _, _, rfl, ⟨rfl, h2⟩, _, _, rfl, ⟨rfl, h3⟩, vl, rfl, h4⟩
    exact ⟨vk, vl, rfl, h1, h2, h3, h4⟩
  · rintro ⟨vk, vl, rfl, h1, h2, h3, h4⟩
    exact ⟨[vk], _, rfl, ⟨vk, rfl, h1⟩, [.int .u64 s.ts], _, rfl, ⟨rfl, h2⟩, [.int .u64 s.txn], [vl], rfl, ⟨rfl, h3⟩, vl, rfl, h4⟩
theorem sp_cells {Z : Nat → Prop} {w : World} {cs : List Value} {s : Sp} : tSp.R Z w cs s ↔ ∃ vl vh, cs = [vl, vh] ∧ SlR (tInt .u8) 1 Z w vl s.lo ∧ SlR (tInt .u8) 1 Z w vh s.hi := by
  constructor
  · rintro ⟨_, _, rfl, ⟨vl, rfl, h1⟩, vh, rfl, h2⟩
    exact ⟨vl, vh, rfl, h1, h2⟩
  · rintro ⟨vl, vh, rfl, h1, h2⟩
    exact ⟨[vl], [vh], rfl, ⟨vl, rfl, h1⟩, vh, rfl, h2⟩
theorem ev_cells {Z : Nat → Prop} {w : World} {cs : List Value} {e : Ev} : tEv.R Z w cs e ↔ ∃ vl vh vs vk, cs = [.int .i64 e.kind, .int .u64 e.txn, .int .i64 e.level, .int .u64 e.ts, vl, vh, vs, vk] ∧ InK .i64 e.kind ∧ InK .u64 e.txn ∧ InK .i64 e.level ∧ InK .u64 e.ts ∧
    SlR (tInt .u8) 1 Z w vl e.span.lo ∧ SlR (tInt .u8) 1 Z w vh e.span.hi ∧ SlR tSn 64 Z w vs e.seen ∧ SlR tKey 24 Z w vk e.keys := by
  constructor
  · rintro ⟨_, _, rfl, ⟨rfl, h1⟩, _, _, rfl, ⟨rfl, h2⟩, _, _, rfl, ⟨rfl, h3⟩, _, _, rfl, ⟨rfl, h4⟩, _, _, rfl, h5, _, _, rfl, ⟨vs, rfl, h6⟩, vk, rfl, h7⟩
    obtain ⟨vl, vh, rfl, h8, h9⟩ := sp_cells.1 h5
    exact ⟨vl, vh, vs, vk, rfl, h1, h2, h3, h4, h8, h9, h6, h7⟩
  · rintro ⟨vl, vh, vs, vk, rfl, h1, h2, h3, h4, h8, h9, h6, h7⟩
    exact ⟨[.int .i64 e.kind], _, rfl, ⟨rfl, h1⟩, [.int .u64 e.txn], _, rfl, ⟨rfl, h2⟩, [.int .i64 e.level], _, rfl, ⟨rfl, h3⟩, [.int .u64 e.ts], _, rfl, ⟨rfl, h4⟩, [vl, vh], _, rfl, sp_cells.2 ⟨vl, vh, rfl, h8, h9⟩, [vs], [vk], rfl, ⟨vs, rfl, h6⟩, vk, rfl, h7⟩
theorem rn_cells {Z : Nat → Prop} {w : World} {cs : List Value} {r : Rn} : tRn.R Z w cs r ↔ ∃ vk vs vp, cs = [.int .u64 r.txn, .int .i64 r.level, .int .i64 r.state, .int .u64 r.start, .int .u64 r.ts, vk, vs, vp] ∧ InK .u64 r.txn ∧ InK .i64 r.level ∧ InK .i64 r.state ∧ InK .u64 r.start ∧ InK .u64 r.ts ∧
    SlR tKey 24 Z w vk r.keys ∧ SlR tSn 64 Z w vs r.seen ∧ SlR tSp 48 Z w vp r.spans := by
  constructor
  · rintro ⟨_, _, rfl, ⟨rfl, h1⟩, _, _, rfl, ⟨rfl, h2⟩, _, _, rfl, ⟨rfl, h3⟩, _, _, rfl, ⟨rfl, h4⟩, _, _, rfl, ⟨rfl, h5⟩, _, _, rfl, ⟨vk, rfl, h6⟩, _, _, rfl, ⟨vs, rfl, h7⟩, vp, rfl, h8⟩
    exact ⟨vk, vs, vp, rfl, h1, h2, h3, h4, h5, h6, h7, h8⟩
  · rintro ⟨vk, vs, vp, rfl, h1, h2, h3, h4, h5, h6, h7, h8⟩
    exact ⟨[.int .u64 r.txn], _, rfl, ⟨rfl, h1⟩, [.int .i64 r.level], _, rfl, ⟨rfl, h2⟩, [.int .i64 r.state], _, rfl, ⟨rfl, h3⟩, [.int .u64 r.start], _, rfl, ⟨rfl, h4⟩, [.int .u64 r.ts], _, rfl, ⟨rfl, h5⟩, [vk], _, rfl, ⟨vk, rfl, h6⟩, [vs], [vp], rfl, ⟨vs, rfl, h7⟩, vp, rfl, h8⟩

end Go.Proofs.Ytelgegodeifbiaa
