/-
  No cell of these rows narrows 'for every input' (looked for: loops, veiled, ifaces, maps, wideKeys, modest, calm, conditions, laid).
  DERIVED. THE GIVEN ROWS OF THIS SEAT. 4 by the template 'for every input the law returns true; each argument reads behind the call as it read before'; 0 by the template 'total and deterministic' (their statements: YtelgegodeifbiaaTotals.lean).
  GIVEN WITH THE SEED: the statements are not yours to turn. If you find one false, say at which input.
  Laid BY PROGRAM, IN A SANDBOX (cutbox-rows.mjs): the forced cells as the released guide's own fill.sh prints them over the translation a82e242e486ea3d9… (all of the seat's roots in one cut). By AI agents, Wed Nov 11 2026. No macro, syntax, notation, axiom, sorry.
-/
import Derived.Test.YtelgegodeifbiaaChecked
import GoSem.Claim
import GoSem.ClaimJoined
import GoSem.ClaimMapViews
import Derived.JoinedTies
import Derived.KernelRfl
namespace Go.Proofs.Ytelgegodeifbiaa
/- THE CELL 'sum', in the pinned program and in every row, IS THE sha256 OF THE DUMP (.gsa) THAT YtelgegodeifbiaaProg.lean LOADS. Nothing in Lean hashes anything: it is a label: what it is worth is what the hold of that sum in a sandbox is worth. -/
noncomputable def Try.pinned : Pinned := { name := "ytelgegodeifbiaa", sum := "a82e242e486ea3d96a295ba78503671edb6681b5cba68c74929889632dc62153", checked := Try.checked }
namespace Rows
def none {H : Type} : Left H := { results := [], args := [] }

/-- 'plenumlaw28.HistBegins': WHATEVER THE INPUT: true; the input reads as it did. -/
def histBeginsSpec : ChangeSpec := { name := "histBegins", fn := fun _ => fun
  | [d1, d2] => { results := [.lit (.bool true)], args := [d1, d2] }
  | _ => none }
def histBeginsRow : OpenClaim := { program := "ytelgegodeifbiaa", sum := "a82e242e486ea3d96a295ba78503671edb6681b5cba68c74929889632dc62153", func := "plenum/plenumlaw28.HistBegins", spec := "histBegins", apart := false }
def HistBeginsSaid : Prop := histBeginsRow.holds Try.pinned (OpenSpec.ofChange histBeginsSpec)

/-- ITS FALSE NEIGHBOUR: 'it returns false'. Refute it at one input. -/
def histBeginsWrong : ChangeSpec := { name := "histBegins", fn := fun _ => fun
  | [d1, d2] => { results := [.lit (.bool false)], args := [d1, d2] }
  | _ => none }
def HistBeginsWrongFalsely : Prop := histBeginsRow.holds Try.pinned (OpenSpec.ofChange histBeginsWrong)

/-- 'plenumlaw28.HistRuns': WHATEVER THE INPUT: true; the input reads as it did. -/
def histRunsSpec : ChangeSpec := { name := "histRuns", fn := fun _ => fun
  | [d1, d2] => { results := [.lit (.bool true)], args := [d1, d2] }
  | _ => none }
def histRunsRow : OpenClaim := { program := "ytelgegodeifbiaa", sum := "a82e242e486ea3d96a295ba78503671edb6681b5cba68c74929889632dc62153", func := "plenum/plenumlaw28.HistRuns", spec := "histRuns", unfollowed := true, recurses := true, apart := false }
def HistRunsSaid : Prop := histRunsRow.holds Try.pinned (OpenSpec.ofChange histRunsSpec)

/-- ITS FALSE NEIGHBOUR: 'it returns false'. Refute it at one input. -/
def histRunsWrong : ChangeSpec := { name := "histRuns", fn := fun _ => fun
  | [d1, d2] => { results := [.lit (.bool false)], args := [d1, d2] }
  | _ => none }
def HistRunsWrongFalsely : Prop := histRunsRow.holds Try.pinned (OpenSpec.ofChange histRunsWrong)

/-- 'plenumlaw28.HistOrders': WHATEVER THE INPUT: true; the input reads as it did. -/
def histOrdersSpec : ChangeSpec := { name := "histOrders", fn := fun _ => fun
  | [d1, d2] => { results := [.lit (.bool true)], args := [d1, d2] }
  | _ => none }
def histOrdersRow : OpenClaim := { program := "ytelgegodeifbiaa", sum := "a82e242e486ea3d96a295ba78503671edb6681b5cba68c74929889632dc62153", func := "plenum/plenumlaw28.HistOrders", spec := "histOrders", unfollowed := true, recurses := true, apart := false }
def HistOrdersSaid : Prop := histOrdersRow.holds Try.pinned (OpenSpec.ofChange histOrdersSpec)

/-- ITS FALSE NEIGHBOUR: 'it returns false'. Refute it at one input. -/
def histOrdersWrong : ChangeSpec := { name := "histOrders", fn := fun _ => fun
  | [d1, d2] => { results := [.lit (.bool false)], args := [d1, d2] }
  | _ => none }
def HistOrdersWrongFalsely : Prop := histOrdersRow.holds Try.pinned (OpenSpec.ofChange histOrdersWrong)

/-- 'plenumlaw28.HistKeys': WHATEVER THE INPUT: true; the input reads as it did. -/
def histKeysSpec : ChangeSpec := { name := "histKeys", fn := fun _ => fun
  | [d1, d2] => { results := [.lit (.bool true)], args := [d1, d2] }
  | _ => none }
def histKeysRow : OpenClaim := { program := "ytelgegodeifbiaa", sum := "a82e242e486ea3d96a295ba78503671edb6681b5cba68c74929889632dc62153", func := "plenum/plenumlaw28.HistKeys", spec := "histKeys", unfollowed := true, recurses := true, apart := false }
def HistKeysSaid : Prop := histKeysRow.holds Try.pinned (OpenSpec.ofChange histKeysSpec)

/-- ITS FALSE NEIGHBOUR: 'it returns false'. Refute it at one input. -/
def histKeysWrong : ChangeSpec := { name := "histKeys", fn := fun _ => fun
  | [d1, d2] => { results := [.lit (.bool false)], args := [d1, d2] }
  | _ => none }
def HistKeysWrongFalsely : Prop := histKeysRow.holds Try.pinned (OpenSpec.ofChange histKeysWrong)

/- THE SECOND FORM. 'bulk': how many values and letters a reading holds, each counted each time it is reached (what is shared counts as often as it is met; a slice's spare places count too). A statement '..UptoSaid' is the law's where the arguments, and the package variables that the reading takes, are together of bulk at most 1048576: NARROWER than '..Said'. Prove '..Said' where nothing that the law and all that it calls make is longer than what came in: it says more and counts as full. Else prove '..UptoSaid'. A law counts once. -/
mutual
def uptoBulk {H : Type} : DataW H → Nat
  | .lit (.string bytes) => bytes.length + 1
  | .lit _ => 1
  | .nil => 1
  | .ptr d => uptoBulk d + 1
  | .slice elems spare => uptoBulkAll elems + uptoBulkAll spare + 1
  | .agg parts => uptoBulkAll parts + 1
  | .iface _ d => uptoBulk d + 1
  | .map entries => uptoBulkEntries entries + 1
  | .held _ => 1
def uptoBulkAll {H : Type} : List (DataW H) → Nat
  | [] => 0
  | d :: r => uptoBulk d + uptoBulkAll r
def uptoBulkEntries {H : Type} : List (Lit × DataW H) → Nat
  | [] => 0
  | x :: r => uptoBulkEntry x + uptoBulkEntries r
def uptoBulkEntry {H : Type} : Lit × DataW H → Nat
  | (.string bytes, d) => bytes.length + uptoBulk d + 1
  | (_, d) => uptoBulk d + 1
 end
def uptoSmall : (H : Type) → List (DataW H) → Bool := fun _ ds => decide (uptoBulkAll ds ≤ 1048576)
def OpenSpec.upto (s : _root_.Go.ChangeSpec) : _root_.Go.OpenSpec := { _root_.Go.OpenSpec.ofChange s with cond := some uptoSmall }

/-- 'plenumlaw28.HistBegins', WHERE WHAT IT READS IS OF BULK AT MOST 1048576: true; the input reads as it did. -/
def histBeginsUptoRow : OpenClaim := { program := "ytelgegodeifbiaa", sum := "a82e242e486ea3d96a295ba78503671edb6681b5cba68c74929889632dc62153", func := "plenum/plenumlaw28.HistBegins", spec := "histBegins", apart := false, narrowed := true }
def HistBeginsUptoSaid : Prop := histBeginsUptoRow.holds Try.pinned (OpenSpec.upto histBeginsSpec)

/-- 'plenumlaw28.HistRuns', WHERE WHAT IT READS IS OF BULK AT MOST 1048576: true; the input reads as it did. -/
def histRunsUptoRow : OpenClaim := { program := "ytelgegodeifbiaa", sum := "a82e242e486ea3d96a295ba78503671edb6681b5cba68c74929889632dc62153", func := "plenum/plenumlaw28.HistRuns", spec := "histRuns", unfollowed := true, recurses := true, apart := false, narrowed := true }
def HistRunsUptoSaid : Prop := histRunsUptoRow.holds Try.pinned (OpenSpec.upto histRunsSpec)

/-- 'plenumlaw28.HistOrders', WHERE WHAT IT READS IS OF BULK AT MOST 1048576: true; the input reads as it did. -/
def histOrdersUptoRow : OpenClaim := { program := "ytelgegodeifbiaa", sum := "a82e242e486ea3d96a295ba78503671edb6681b5cba68c74929889632dc62153", func := "plenum/plenumlaw28.HistOrders", spec := "histOrders", unfollowed := true, recurses := true, apart := false, narrowed := true }
def HistOrdersUptoSaid : Prop := histOrdersUptoRow.holds Try.pinned (OpenSpec.upto histOrdersSpec)

/-- 'plenumlaw28.HistKeys', WHERE WHAT IT READS IS OF BULK AT MOST 1048576: true; the input reads as it did. -/
def histKeysUptoRow : OpenClaim := { program := "ytelgegodeifbiaa", sum := "a82e242e486ea3d96a295ba78503671edb6681b5cba68c74929889632dc62153", func := "plenum/plenumlaw28.HistKeys", spec := "histKeys", unfollowed := true, recurses := true, apart := false, narrowed := true }
def HistKeysUptoSaid : Prop := histKeysUptoRow.holds Try.pinned (OpenSpec.upto histKeysSpec)

end Rows
end Go.Proofs.Ytelgegodeifbiaa
