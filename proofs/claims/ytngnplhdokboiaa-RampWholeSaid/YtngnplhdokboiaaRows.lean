/-
  No cell of these rows narrows 'for every input' (looked for: loops, veiled, ifaces, maps, wideKeys, modest, calm, conditions, laid).
  DERIVED. THE GIVEN ROWS OF THIS SEAT. 3 by the template 'for every input the law returns true; each argument reads behind the call as it read before'; 0 by the template 'total and deterministic' (their statements: YtngnplhdokboiaaTotals.lean).
  GIVEN WITH THE SEED: the statements are not yours to turn. If you find one false, say at which input.
  Laid BY PROGRAM, IN A SANDBOX (cutbox-rows.mjs): the forced cells as the released guide's own fill.sh prints them over the translation cd9baddec85770b0… (all of the seat's roots in one cut). By AI agents, Wed Nov 11 2026. No macro, syntax, notation, axiom, sorry.
-/
import Derived.Test.YtngnplhdokboiaaChecked
import GoSem.Claim
import GoSem.ClaimJoined
import GoSem.ClaimMapViews
import Derived.JoinedTies
import Derived.KernelRfl
namespace Go.Proofs.Ytngnplhdokboiaa
/- THE CELL 'sum', in the pinned program and in every row, IS THE sha256 OF THE DUMP (.gsa) THAT YtngnplhdokboiaaProg.lean LOADS. Nothing in Lean hashes anything: it is a label: what it is worth is what the hold of that sum in a sandbox is worth. -/
noncomputable def Try.pinned : Pinned := { name := "ytngnplhdokboiaa", sum := "cd9baddec85770b0f677c9d2c7bb458a7197da73fec191dff08a4c4fbacefb68", checked := Try.checked }
namespace Rows
def none {H : Type} : Left H := { results := [], args := [] }

/-- 'plenumlaw17.RampLatest': WHATEVER THE INPUT: true; the input reads as it did. -/
def rampLatestSpec : ChangeSpec := { name := "rampLatest", fn := fun _ => fun
  | [d1, d2] => { results := [.lit (.bool true)], args := [d1, d2] }
  | _ => none }
def rampLatestRow : OpenClaim := { program := "ytngnplhdokboiaa", sum := "cd9baddec85770b0f677c9d2c7bb458a7197da73fec191dff08a4c4fbacefb68", func := "plenum/plenumlaw17.RampLatest", spec := "rampLatest", inPlace := ["internal/bytealg.Compare"], unfollowed := true, recurses := true, apart := false }
def RampLatestSaid : Prop := rampLatestRow.holds Try.pinned (OpenSpec.ofChange rampLatestSpec)

/-- ITS FALSE NEIGHBOUR: 'it returns false'. Refute it at one input. -/
def rampLatestWrong : ChangeSpec := { name := "rampLatest", fn := fun _ => fun
  | [d1, d2] => { results := [.lit (.bool false)], args := [d1, d2] }
  | _ => none }
def RampLatestWrongFalsely : Prop := rampLatestRow.holds Try.pinned (OpenSpec.ofChange rampLatestWrong)

/-- 'plenumlaw17.RampBars': WHATEVER THE INPUT: true; the input reads as it did. -/
def rampBarsSpec : ChangeSpec := { name := "rampBars", fn := fun _ => fun
  | [d1, d2] => { results := [.lit (.bool true)], args := [d1, d2] }
  | _ => none }
def rampBarsRow : OpenClaim := { program := "ytngnplhdokboiaa", sum := "cd9baddec85770b0f677c9d2c7bb458a7197da73fec191dff08a4c4fbacefb68", func := "plenum/plenumlaw17.RampBars", spec := "rampBars", inPlace := ["internal/bytealg.Compare"], unfollowed := true, recurses := true, apart := false }
def RampBarsSaid : Prop := rampBarsRow.holds Try.pinned (OpenSpec.ofChange rampBarsSpec)

/-- ITS FALSE NEIGHBOUR: 'it returns false'. Refute it at one input. -/
def rampBarsWrong : ChangeSpec := { name := "rampBars", fn := fun _ => fun
  | [d1, d2] => { results := [.lit (.bool false)], args := [d1, d2] }
  | _ => none }
def RampBarsWrongFalsely : Prop := rampBarsRow.holds Try.pinned (OpenSpec.ofChange rampBarsWrong)

/-- 'plenumlaw17.RampWhole': WHATEVER THE INPUT: true; the input reads as it did. -/
def rampWholeSpec : ChangeSpec := { name := "rampWhole", fn := fun _ => fun
  | [d1, d2, d3] => { results := [.lit (.bool true)], args := [d1, d2, d3] }
  | _ => none }
def rampWholeRow : OpenClaim := { program := "ytngnplhdokboiaa", sum := "cd9baddec85770b0f677c9d2c7bb458a7197da73fec191dff08a4c4fbacefb68", func := "plenum/plenumlaw17.RampWhole", spec := "rampWhole", inPlace := ["internal/bytealg.Compare"], unfollowed := true, recurses := true, apart := false }
def RampWholeSaid : Prop := rampWholeRow.holds Try.pinned (OpenSpec.ofChange rampWholeSpec)

/-- ITS FALSE NEIGHBOUR: 'it returns false'. Refute it at one input. -/
def rampWholeWrong : ChangeSpec := { name := "rampWhole", fn := fun _ => fun
  | [d1, d2, d3] => { results := [.lit (.bool false)], args := [d1, d2, d3] }
  | _ => none }
def RampWholeWrongFalsely : Prop := rampWholeRow.holds Try.pinned (OpenSpec.ofChange rampWholeWrong)

/- THE SECOND FORM. 'bulk': how many values and letters a reading holds, each counted each time it is reached (what is shared counts as often as it is met; a slice's spare places count too). A statement '..UptoSaid' is the law's where the arguments, and the package variables that the reading takes, are together of bulk at most 1048576: NARROWER than '..Said'. Prove '..Said' where nothing that the law and all that it calls make is longer than what came in: it says more and counts as full. Else prove '..UptoSaid'. A law counts once. -/
mutual
def uptoBulk {H : Type} : DataW H → Nat
  | .lit (.string bytes) => bytes.length + 1
  | .lit _ => 1
  | .nil => 1
  | .ptr d => uptoBulk d + 1
  | .slice elems spare => uptoBulkAll elems + uptoBulkAll spare + 1
  | .agg parts => uptoBulkAll parts + 1
  | .iface _ d => uptoBulk d + 1
  | .map entries => uptoBulkEntries entries + 1
  | .held _ => 1
def uptoBulkAll {H : Type} : List (DataW H) → Nat
  | [] => 0
  | d :: r => uptoBulk d + uptoBulkAll r
def uptoBulkEntries {H : Type} : List (Lit × DataW H) → Nat
  | [] => 0
  | x :: r => uptoBulkEntry x + uptoBulkEntries r
def uptoBulkEntry {H : Type} : Lit × DataW H → Nat
  | (.string bytes, d) => bytes.length + uptoBulk d + 1
  | (_, d) => uptoBulk d + 1
 end
def uptoSmall : (H : Type) → List (DataW H) → Bool := fun _ ds => decide (uptoBulkAll ds ≤ 1048576)
def OpenSpec.upto (s : _root_.Go.ChangeSpec) : _root_.Go.OpenSpec := { _root_.Go.OpenSpec.ofChange s with cond := some uptoSmall }

/-- 'plenumlaw17.RampLatest', WHERE WHAT IT READS IS OF BULK AT MOST 1048576: true; the input reads as it did. -/
def rampLatestUptoRow : OpenClaim := { program := "ytngnplhdokboiaa", sum := "cd9baddec85770b0f677c9d2c7bb458a7197da73fec191dff08a4c4fbacefb68", func := "plenum/plenumlaw17.RampLatest", spec := "rampLatest", inPlace := ["internal/bytealg.Compare"], unfollowed := true, recurses := true, apart := false, narrowed := true }
def RampLatestUptoSaid : Prop := rampLatestUptoRow.holds Try.pinned (OpenSpec.upto rampLatestSpec)

/-- 'plenumlaw17.RampBars', WHERE WHAT IT READS IS OF BULK AT MOST 1048576: true; the input reads as it did. -/
def rampBarsUptoRow : OpenClaim := { program := "ytngnplhdokboiaa", sum := "cd9baddec85770b0f677c9d2c7bb458a7197da73fec191dff08a4c4fbacefb68", func := "plenum/plenumlaw17.RampBars", spec := "rampBars", inPlace := ["internal/bytealg.Compare"], unfollowed := true, recurses := true, apart := false, narrowed := true }
def RampBarsUptoSaid : Prop := rampBarsUptoRow.holds Try.pinned (OpenSpec.upto rampBarsSpec)

/-- 'plenumlaw17.RampWhole', WHERE WHAT IT READS IS OF BULK AT MOST 1048576: true; the input reads as it did. -/
def rampWholeUptoRow : OpenClaim := { program := "ytngnplhdokboiaa", sum := "cd9baddec85770b0f677c9d2c7bb458a7197da73fec191dff08a4c4fbacefb68", func := "plenum/plenumlaw17.RampWhole", spec := "rampWhole", inPlace := ["internal/bytealg.Compare"], unfollowed := true, recurses := true, apart := false, narrowed := true }
def RampWholeUptoSaid : Prop := rampWholeUptoRow.holds Try.pinned (OpenSpec.upto rampWholeSpec)

end Rows
end Go.Proofs.Ytngnplhdokboiaa
