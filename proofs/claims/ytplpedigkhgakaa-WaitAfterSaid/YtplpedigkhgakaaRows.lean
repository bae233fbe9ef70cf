/-
  No cell of these rows narrows 'for every input' (looked for: loops, veiled, ifaces, maps, wideKeys, modest, calm, conditions, laid).
  DERIVED. THE GIVEN ROWS OF THIS SEAT. 4 by the template 'for every input the law returns true; each argument reads behind the call as it read before'; 0 by the template 'total and deterministic' (their statements: YtplpedigkhgakaaTotals.lean).
  GIVEN WITH THE SEED: the statements are not yours to turn. If you find one false, say at which input.
  Laid BY PROGRAM, IN A SANDBOX (cutbox-rows.mjs): the forced cells as the released guide's own fill.sh prints them over the translation dc3d1c6d325cb7c3… (all of the seat's roots in one cut). By AI agents, Wed Nov 11 2026. No macro, syntax, notation, axiom, sorry.
-/
import Derived.Test.YtplpedigkhgakaaChecked
import GoSem.Claim
import GoSem.ClaimJoined
import GoSem.ClaimMapViews
import Derived.JoinedTies
import Derived.KernelRfl
namespace Go.Proofs.Ytplpedigkhgakaa
/- THE CELL 'sum', in the pinned program and in every row, IS THE sha256 OF THE DUMP (.gsa) THAT YtplpedigkhgakaaProg.lean LOADS. Nothing in Lean hashes anything: it is a label: what it is worth is what the hold of that sum in a sandbox is worth. -/
noncomputable def Try.pinned : Pinned := { name := "ytplpedigkhgakaa", sum := "dc3d1c6d325cb7c3401a1575ae45f0bb01e18e5e273648d58869dcfc3bb32ad4", checked := Try.checked }
namespace Rows
def none {H : Type} : Left H := { results := [], args := [] }

/-- 'plenumlaw13.WaitCycles': WHATEVER THE INPUT: true; the input reads as it did. -/
def waitCyclesSpec : ChangeSpec := { name := "waitCycles", fn := fun _ => fun
  | [d1, d2] => { results := [.lit (.bool true)], args := [d1, d2] }
  | _ => none }
def waitCyclesRow : OpenClaim := { program := "ytplpedigkhgakaa", sum := "dc3d1c6d325cb7c3401a1575ae45f0bb01e18e5e273648d58869dcfc3bb32ad4", func := "plenum/plenumlaw13.WaitCycles", spec := "waitCycles", unfollowed := true, recurses := true, apart := false }
def WaitCyclesSaid : Prop := waitCyclesRow.holds Try.pinned (OpenSpec.ofChange waitCyclesSpec)

/-- ITS FALSE NEIGHBOUR: 'it returns false'. Refute it at one input. -/
def waitCyclesWrong : ChangeSpec := { name := "waitCycles", fn := fun _ => fun
  | [d1, d2] => { results := [.lit (.bool false)], args := [d1, d2] }
  | _ => none }
def WaitCyclesWrongFalsely : Prop := waitCyclesRow.holds Try.pinned (OpenSpec.ofChange waitCyclesWrong)

/-- 'plenumlaw13.WaitShort': WHATEVER THE INPUT: true; the input reads as it did. -/
def waitShortSpec : ChangeSpec := { name := "waitShort", fn := fun _ => fun
  | [d1, d2] => { results := [.lit (.bool true)], args := [d1, d2] }
  | _ => none }
def waitShortRow : OpenClaim := { program := "ytplpedigkhgakaa", sum := "dc3d1c6d325cb7c3401a1575ae45f0bb01e18e5e273648d58869dcfc3bb32ad4", func := "plenum/plenumlaw13.WaitShort", spec := "waitShort", unfollowed := true, recurses := true, apart := false }
def WaitShortSaid : Prop := waitShortRow.holds Try.pinned (OpenSpec.ofChange waitShortSpec)

/-- ITS FALSE NEIGHBOUR: 'it returns false'. Refute it at one input. -/
def waitShortWrong : ChangeSpec := { name := "waitShort", fn := fun _ => fun
  | [d1, d2] => { results := [.lit (.bool false)], args := [d1, d2] }
  | _ => none }
def WaitShortWrongFalsely : Prop := waitShortRow.holds Try.pinned (OpenSpec.ofChange waitShortWrong)

/-- 'plenumlaw13.WaitAfter': WHATEVER THE INPUT: true; the input reads as it did. -/
def waitAfterSpec : ChangeSpec := { name := "waitAfter", fn := fun _ => fun
  | [d1, d2, d3, d4] => { results := [.lit (.bool true)], args := [d1, d2, d3, d4] }
  | _ => none }
def waitAfterRow : OpenClaim := { program := "ytplpedigkhgakaa", sum := "dc3d1c6d325cb7c3401a1575ae45f0bb01e18e5e273648d58869dcfc3bb32ad4", func := "plenum/plenumlaw13.WaitAfter", spec := "waitAfter", unfollowed := true, recurses := true, apart := false }
def WaitAfterSaid : Prop := waitAfterRow.holds Try.pinned (OpenSpec.ofChange waitAfterSpec)

/-- ITS FALSE NEIGHBOUR: 'it returns false'. Refute it at one input. -/
def waitAfterWrong : ChangeSpec := { name := "waitAfter", fn := fun _ => fun
  | [d1, d2, d3, d4] => { results := [.lit (.bool false)], args := [d1, d2, d3, d4] }
  | _ => none }
def WaitAfterWrongFalsely : Prop := waitAfterRow.holds Try.pinned (OpenSpec.ofChange waitAfterWrong)

/-- 'plenumlaw13.WaitJust': WHATEVER THE INPUT: true; the input reads as it did. -/
def waitJustSpec : ChangeSpec := { name := "waitJust", fn := fun _ => fun
  | [d1, d2] => { results := [.lit (.bool true)], args := [d1, d2] }
  | _ => none }
def waitJustRow : OpenClaim := { program := "ytplpedigkhgakaa", sum := "dc3d1c6d325cb7c3401a1575ae45f0bb01e18e5e273648d58869dcfc3bb32ad4", func := "plenum/plenumlaw13.WaitJust", spec := "waitJust", unfollowed := true, recurses := true, apart := false }
def WaitJustSaid : Prop := waitJustRow.holds Try.pinned (OpenSpec.ofChange waitJustSpec)

/-- ITS FALSE NEIGHBOUR: 'it returns false'. Refute it at one input. -/
def waitJustWrong : ChangeSpec := { name := "waitJust", fn := fun _ => fun
  | [d1, d2] => { results := [.lit (.bool false)], args := [d1, d2] }
  | _ => none }
def WaitJustWrongFalsely : Prop := waitJustRow.holds Try.pinned (OpenSpec.ofChange waitJustWrong)

/- THE SECOND FORM. 'bulk': how many values and letters a reading holds, each counted each time it is reached (what is shared counts as often as it is met; a slice's spare places count too). A statement '..UptoSaid' is the law's where the arguments, and the package variables that the reading takes, are together of bulk at most 1048576: NARROWER than '..Said'. Prove '..Said' where nothing that the law and all that it calls make is longer than what came in: it says more and counts as full. Else prove '..UptoSaid'. A law counts once. -/
mutual
def uptoBulk {H : Type} : DataW H → Nat
  | .lit (.string bytes) => bytes.length + 1
  | .lit _ => 1
  | .nil => 1
  | .ptr d => uptoBulk d + 1
  | .slice elems spare => uptoBulkAll elems + uptoBulkAll spare + 1
  | .agg parts => uptoBulkAll parts + 1
  | .iface _ d => uptoBulk d + 1
  | .map entries => uptoBulkEntries entries + 1
  | .held _ => 1
def uptoBulkAll {H : Type} : List (DataW H) → Nat
  | [] => 0
  | d :: r => uptoBulk d + uptoBulkAll r
def uptoBulkEntries {H : Type} : List (Lit × DataW H) → Nat
  | [] => 0
  | x :: r => uptoBulkEntry x + uptoBulkEntries r
def uptoBulkEntry {H : Type} : Lit × DataW H → Nat
  | (.string bytes, d) => bytes.length + uptoBulk d + 1
  | (_, d) => uptoBulk d + 1
 end
def uptoSmall : (H : Type) → List (DataW H) → Bool := fun _ ds => decide (uptoBulkAll ds ≤ 1048576)
def OpenSpec.upto (s : _root_.Go.ChangeSpec) : _root_.Go.OpenSpec := { _root_.Go.OpenSpec.ofChange s with cond := some uptoSmall }

/-- 'plenumlaw13.WaitCycles', WHERE WHAT IT READS IS OF BULK AT MOST 1048576: true; the input reads as it did. -/
def waitCyclesUptoRow : OpenClaim := { program := "ytplpedigkhgakaa", sum := "dc3d1c6d325cb7c3401a1575ae45f0bb01e18e5e273648d58869dcfc3bb32ad4", func := "plenum/plenumlaw13.WaitCycles", spec := "waitCycles", unfollowed := true, recurses := true, apart := false, narrowed := true }
def WaitCyclesUptoSaid : Prop := waitCyclesUptoRow.holds Try.pinned (OpenSpec.upto waitCyclesSpec)

/-- 'plenumlaw13.WaitShort', WHERE WHAT IT READS IS OF BULK AT MOST 1048576: true; the input reads as it did. -/
def waitShortUptoRow : OpenClaim := { program := "ytplpedigkhgakaa", sum := "dc3d1c6d325cb7c3401a1575ae45f0bb01e18e5e273648d58869dcfc3bb32ad4", func := "plenum/plenumlaw13.WaitShort", spec := "waitShort", unfollowed := true, recurses := true, apart := false, narrowed := true }
def WaitShortUptoSaid : Prop := waitShortUptoRow.holds Try.pinned (OpenSpec.upto waitShortSpec)

/-- 'plenumlaw13.WaitAfter', WHERE WHAT IT READS IS OF BULK AT MOST 1048576: true; the input reads as it did. -/
def waitAfterUptoRow : OpenClaim := { program := "ytplpedigkhgakaa", sum := "dc3d1c6d325cb7c3401a1575ae45f0bb01e18e5e273648d58869dcfc3bb32ad4", func := "plenum/plenumlaw13.WaitAfter", spec := "waitAfter", unfollowed := true, recurses := true, apart := false, narrowed := true }
def WaitAfterUptoSaid : Prop := waitAfterUptoRow.holds Try.pinned (OpenSpec.upto waitAfterSpec)

/-- 'plenumlaw13.WaitJust', WHERE WHAT IT READS IS OF BULK AT MOST 1048576: true; the input reads as it did. -/
def waitJustUptoRow : OpenClaim := { program := "ytplpedigkhgakaa", sum := "dc3d1c6d325cb7c3401a1575ae45f0bb01e18e5e273648d58869dcfc3bb32ad4", func := "plenum/plenumlaw13.WaitJust", spec := "waitJust", unfollowed := true, recurses := true, apart := false, narrowed := true }
def WaitJustUptoSaid : Prop := waitJustUptoRow.holds Try.pinned (OpenSpec.upto waitJustSpec)

end Rows
end Go.Proofs.Ytplpedigkhgakaa
