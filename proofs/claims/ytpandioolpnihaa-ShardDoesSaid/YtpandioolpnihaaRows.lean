/-
  No cell of these rows narrows 'for every input' (looked for: loops, veiled, ifaces, maps, wideKeys, modest, calm, conditions, laid).
  DERIVED. THE GIVEN ROWS OF THIS SEAT. 8 by the template 'for every input the law returns true; each argument reads behind the call as it read before'; 0 by the template 'total and deterministic' (their statements: YtpandioolpnihaaTotals.lean).
  GIVEN WITH THE SEED: the statements are not yours to turn. If you find one false, say at which input.
  Laid BY PROGRAM, IN A SANDBOX (cutbox-rows.mjs): the forced cells as the released guide's own fill.sh prints them over the translation 3d2903420a01a281… (all of the seat's roots in one cut). By AI agents, Wed Nov 11 2026. No macro, syntax, notation, axiom, sorry.
-/
import Derived.Test.YtpandioolpnihaaChecked
import GoSem.Claim
import GoSem.ClaimJoined
import GoSem.ClaimMapViews
import Derived.JoinedTies
import Derived.KernelRfl
namespace Go.Proofs.Ytpandioolpnihaa
/- THE CELL 'sum', in the pinned program and in every row, IS THE sha256 OF THE DUMP (.gsa) THAT YtpandioolpnihaaProg.lean LOADS. Nothing in Lean hashes anything: it is a label: what it is worth is what the hold of that sum in a sandbox is worth. -/
noncomputable def Try.pinned : Pinned := { name := "ytpandioolpnihaa", sum := "3d2903420a01a28118ef7e6a144edb8bf0eb7fb5cf432ce82b5d5bd318861c40", checked := Try.checked }
namespace Rows
def none {H : Type} : Left H := { results := [], args := [] }

/-- 'plenumlaw12.MvccTells': WHATEVER THE INPUT: true; the input reads as it did. -/
def mvccTellsSpec : ChangeSpec := { name := "mvccTells", fn := fun _ => fun
  | [d1, d2, d3, d4, d5] => { results := [.lit (.bool true)], args := [d1, d2, d3, d4, d5] }
  | _ => none }
def mvccTellsRow : OpenClaim := { program := "ytpandioolpnihaa", sum := "3d2903420a01a28118ef7e6a144edb8bf0eb7fb5cf432ce82b5d5bd318861c40", func := "plenum/plenumlaw12.MvccTells", spec := "mvccTells", inPlace := ["slices.overlaps[plenum/api.Version]"], unfollowed := true, recurses := true, apart := false }
def MvccTellsSaid : Prop := mvccTellsRow.holds Try.pinned (OpenSpec.ofChange mvccTellsSpec)

/-- ITS FALSE NEIGHBOUR: 'it returns false'. Refute it at one input. -/
def mvccTellsWrong : ChangeSpec := { name := "mvccTells", fn := fun _ => fun
  | [d1, d2, d3, d4, d5] => { results := [.lit (.bool false)], args := [d1, d2, d3, d4, d5] }
  | _ => none }
def MvccTellsWrongFalsely : Prop := mvccTellsRow.holds Try.pinned (OpenSpec.ofChange mvccTellsWrong)

/-- 'plenumlaw12.MvccStays': WHATEVER THE INPUT: true; the input reads as it did. -/
def mvccStaysSpec : ChangeSpec := { name := "mvccStays", fn := fun _ => fun
  | [d1, d2, d3, d4] => { results := [.lit (.bool true)], args := [d1, d2, d3, d4] }
  | _ => none }
def mvccStaysRow : OpenClaim := { program := "ytpandioolpnihaa", sum := "3d2903420a01a28118ef7e6a144edb8bf0eb7fb5cf432ce82b5d5bd318861c40", func := "plenum/plenumlaw12.MvccStays", spec := "mvccStays", inPlace := ["slices.overlaps[plenum/api.Version]"], unfollowed := true, recurses := true, apart := false }
def MvccStaysSaid : Prop := mvccStaysRow.holds Try.pinned (OpenSpec.ofChange mvccStaysSpec)

/-- ITS FALSE NEIGHBOUR: 'it returns false'. Refute it at one input. -/
def mvccStaysWrong : ChangeSpec := { name := "mvccStays", fn := fun _ => fun
  | [d1, d2, d3, d4] => { results := [.lit (.bool false)], args := [d1, d2, d3, d4] }
  | _ => none }
def MvccStaysWrongFalsely : Prop := mvccStaysRow.holds Try.pinned (OpenSpec.ofChange mvccStaysWrong)

/-- 'plenumlaw12.MvccPuts': WHATEVER THE INPUT: true; the input reads as it did. -/
def mvccPutsSpec : ChangeSpec := { name := "mvccPuts", fn := fun _ => fun
  | [d1, d2, d3, d4] => { results := [.lit (.bool true)], args := [d1, d2, d3, d4] }
  | _ => none }
def mvccPutsRow : OpenClaim := { program := "ytpandioolpnihaa", sum := "3d2903420a01a28118ef7e6a144edb8bf0eb7fb5cf432ce82b5d5bd318861c40", func := "plenum/plenumlaw12.MvccPuts", spec := "mvccPuts", inPlace := ["slices.overlaps[plenum/api.Version]"], unfollowed := true, recurses := true, apart := false }
def MvccPutsSaid : Prop := mvccPutsRow.holds Try.pinned (OpenSpec.ofChange mvccPutsSpec)

/-- ITS FALSE NEIGHBOUR: 'it returns false'. Refute it at one input. -/
def mvccPutsWrong : ChangeSpec := { name := "mvccPuts", fn := fun _ => fun
  | [d1, d2, d3, d4] => { results := [.lit (.bool false)], args := [d1, d2, d3, d4] }
  | _ => none }
def MvccPutsWrongFalsely : Prop := mvccPutsRow.holds Try.pinned (OpenSpec.ofChange mvccPutsWrong)

/-- 'plenumlaw12.MvccDoes': WHATEVER THE INPUT: true; the input reads as it did. -/
def mvccDoesSpec : ChangeSpec := { name := "mvccDoes", fn := fun _ => fun
  | [d1, d2, d3, d4] => { results := [.lit (.bool true)], args := [d1, d2, d3, d4] }
  | _ => none }
def mvccDoesRow : OpenClaim := { program := "ytpandioolpnihaa", sum := "3d2903420a01a28118ef7e6a144edb8bf0eb7fb5cf432ce82b5d5bd318861c40", func := "plenum/plenumlaw12.MvccDoes", spec := "mvccDoes", inPlace := ["slices.overlaps[plenum/api.Version]", "internal/bytealg.Compare"], unfollowed := true, recurses := true, apart := false }
def MvccDoesSaid : Prop := mvccDoesRow.holds Try.pinned (OpenSpec.ofChange mvccDoesSpec)

/-- ITS FALSE NEIGHBOUR: 'it returns false'. Refute it at one input. -/
def mvccDoesWrong : ChangeSpec := { name := "mvccDoes", fn := fun _ => fun
  | [d1, d2, d3, d4] => { results := [.lit (.bool false)], args := [d1, d2, d3, d4] }
  | _ => none }
def MvccDoesWrongFalsely : Prop := mvccDoesRow.holds Try.pinned (OpenSpec.ofChange mvccDoesWrong)

/-- 'plenumlaw12.MvccTurns': WHATEVER THE INPUT: true; the input reads as it did. -/
def mvccTurnsSpec : ChangeSpec := { name := "mvccTurns", fn := fun _ => fun
  | [d1, d2, d3] => { results := [.lit (.bool true)], args := [d1, d2, d3] }
  | _ => none }
def mvccTurnsRow : OpenClaim := { program := "ytpandioolpnihaa", sum := "3d2903420a01a28118ef7e6a144edb8bf0eb7fb5cf432ce82b5d5bd318861c40", func := "plenum/plenumlaw12.MvccTurns", spec := "mvccTurns", inPlace := ["slices.overlaps[plenum/api.Version]", "internal/bytealg.Compare"], unfollowed := true, recurses := true, apart := false }
def MvccTurnsSaid : Prop := mvccTurnsRow.holds Try.pinned (OpenSpec.ofChange mvccTurnsSpec)

/-- ITS FALSE NEIGHBOUR: 'it returns false'. Refute it at one input. -/
def mvccTurnsWrong : ChangeSpec := { name := "mvccTurns", fn := fun _ => fun
  | [d1, d2, d3] => { results := [.lit (.bool false)], args := [d1, d2, d3] }
  | _ => none }
def MvccTurnsWrongFalsely : Prop := mvccTurnsRow.holds Try.pinned (OpenSpec.ofChange mvccTurnsWrong)

/-- 'plenumlaw16.ShardDoes': WHATEVER THE INPUT: true; the input reads as it did. -/
def shardDoesSpec : ChangeSpec := { name := "shardDoes", fn := fun _ => fun
  | [d] => { results := [.lit (.bool true)], args := [d] }
  | _ => none }
def shardDoesRow : OpenClaim := { program := "ytpandioolpnihaa", sum := "3d2903420a01a28118ef7e6a144edb8bf0eb7fb5cf432ce82b5d5bd318861c40", func := "plenum/plenumlaw16.ShardDoes", spec := "shardDoes", inPlace := ["internal/bytealg.Compare", "slices.overlaps[plenum/api.Version]"], unfollowed := true, recurses := true, apart := false }
def ShardDoesSaid : Prop := shardDoesRow.holds Try.pinned (OpenSpec.ofChange shardDoesSpec)

/-- ITS FALSE NEIGHBOUR: 'it returns false'. Refute it at one input. -/
def shardDoesWrong : ChangeSpec := { name := "shardDoes", fn := fun _ => fun
  | [d] => { results := [.lit (.bool false)], args := [d] }
  | _ => none }
def ShardDoesWrongFalsely : Prop := shardDoesRow.holds Try.pinned (OpenSpec.ofChange shardDoesWrong)

/-- 'plenumlaw16.ShardAgain': WHATEVER THE INPUT: true; the input reads as it did. -/
def shardAgainSpec : ChangeSpec := { name := "shardAgain", fn := fun _ => fun
  | [d1, d2] => { results := [.lit (.bool true)], args := [d1, d2] }
  | _ => none }
def shardAgainRow : OpenClaim := { program := "ytpandioolpnihaa", sum := "3d2903420a01a28118ef7e6a144edb8bf0eb7fb5cf432ce82b5d5bd318861c40", func := "plenum/plenumlaw16.ShardAgain", spec := "shardAgain", inPlace := ["internal/bytealg.Compare", "slices.overlaps[plenum/api.Version]"], unfollowed := true, recurses := true, apart := false }
def ShardAgainSaid : Prop := shardAgainRow.holds Try.pinned (OpenSpec.ofChange shardAgainSpec)

/-- ITS FALSE NEIGHBOUR: 'it returns false'. Refute it at one input. -/
def shardAgainWrong : ChangeSpec := { name := "shardAgain", fn := fun _ => fun
  | [d1, d2] => { results := [.lit (.bool false)], args := [d1, d2] }
  | _ => none }
def ShardAgainWrongFalsely : Prop := shardAgainRow.holds Try.pinned (OpenSpec.ofChange shardAgainWrong)

/-- 'plenumlaw16.ShardWhole': WHATEVER THE INPUT: true; the input reads as it did. -/
def shardWholeSpec : ChangeSpec := { name := "shardWhole", fn := fun _ => fun
  | [d1, d2, d3] => { results := [.lit (.bool true)], args := [d1, d2, d3] }
  | _ => none }
def shardWholeRow : OpenClaim := { program := "ytpandioolpnihaa", sum := "3d2903420a01a28118ef7e6a144edb8bf0eb7fb5cf432ce82b5d5bd318861c40", func := "plenum/plenumlaw16.ShardWhole", spec := "shardWhole", inPlace := ["internal/bytealg.Compare", "slices.overlaps[plenum/api.Version]"], unfollowed := true, recurses := true, apart := false }
def ShardWholeSaid : Prop := shardWholeRow.holds Try.pinned (OpenSpec.ofChange shardWholeSpec)

/-- ITS FALSE NEIGHBOUR: 'it returns false'. Refute it at one input. -/
def shardWholeWrong : ChangeSpec := { name := "shardWhole", fn := fun _ => fun
  | [d1, d2, d3] => { results := [.lit (.bool false)], args := [d1, d2, d3] }
  | _ => none }
def ShardWholeWrongFalsely : Prop := shardWholeRow.holds Try.pinned (OpenSpec.ofChange shardWholeWrong)

/- THE SECOND FORM. 'bulk': how many values and letters a reading holds, each counted each time it is reached (what is shared counts as often as it is met; a slice's spare places count too). A statement '..UptoSaid' is the law's where the arguments, and the package variables that the reading takes, are together of bulk at most 1048576: NARROWER than '..Said'. Prove '..Said' where nothing that the law and all that it calls make is longer than what came in: it says more and counts as full. Else prove '..UptoSaid'. A law counts once. -/
mutual
def uptoBulk {H : Type} : DataW H → Nat
  | .lit (.string bytes) => bytes.length + 1
  | .lit _ => 1
  | .nil => 1
  | .ptr d => uptoBulk d + 1
  | .slice elems spare => uptoBulkAll elems + uptoBulkAll spare + 1
  | .agg parts => uptoBulkAll parts + 1
  | .iface _ d => uptoBulk d + 1
  | .map entries => uptoBulkEntries entries + 1
  | .held _ => 1
def uptoBulkAll {H : Type} : List (DataW H) → Nat
  | [] => 0
  | d :: r => uptoBulk d + uptoBulkAll r
def uptoBulkEntries {H : Type} : List (Lit × DataW H) → Nat
  | [] => 0
  | x :: r => uptoBulkEntry x + uptoBulkEntries r
def uptoBulkEntry {H : Type} : Lit × DataW H → Nat
  | (.string bytes, d) => bytes.length + uptoBulk d + 1
  | (_, d) => uptoBulk d + 1
 end
def uptoSmall : (H : Type) → List (DataW H) → Bool := fun _ ds => decide (uptoBulkAll ds ≤ 1048576)
def OpenSpec.upto (s : _root_.Go.ChangeSpec) : _root_.Go.OpenSpec := { _root_.Go.OpenSpec.ofChange s with cond := some uptoSmall }

/-- 'plenumlaw12.MvccTells', WHERE WHAT IT READS IS OF BULK AT MOST 1048576: true; the input reads as it did. -/
def mvccTellsUptoRow : OpenClaim := { program := "ytpandioolpnihaa", sum := "3d2903420a01a28118ef7e6a144edb8bf0eb7fb5cf432ce82b5d5bd318861c40", func := "plenum/plenumlaw12.MvccTells", spec := "mvccTells", inPlace := ["slices.overlaps[plenum/api.Version]"], unfollowed := true, recurses := true, apart := false, narrowed := true }
def MvccTellsUptoSaid : Prop := mvccTellsUptoRow.holds Try.pinned (OpenSpec.upto mvccTellsSpec)

/-- 'plenumlaw12.MvccStays', WHERE WHAT IT READS IS OF BULK AT MOST 1048576: true; the input reads as it did. -/
def mvccStaysUptoRow : OpenClaim := { program := "ytpandioolpnihaa", sum := "3d2903420a01a28118ef7e6a144edb8bf0eb7fb5cf432ce82b5d5bd318861c40", func := "plenum/plenumlaw12.MvccStays", spec := "mvccStays", inPlace := ["slices.overlaps[plenum/api.Version]"], unfollowed := true, recurses := true, apart := false, narrowed := true }
def MvccStaysUptoSaid : Prop := mvccStaysUptoRow.holds Try.pinned (OpenSpec.upto mvccStaysSpec)

/-- 'plenumlaw12.MvccPuts', WHERE WHAT IT READS IS OF BULK AT MOST 1048576: true; the input reads as it did. -/
def mvccPutsUptoRow : OpenClaim := { program := "ytpandioolpnihaa", sum := "3d2903420a01a28118ef7e6a144edb8bf0eb7fb5cf432ce82b5d5bd318861c40", func := "plenum/plenumlaw12.MvccPuts", spec := "mvccPuts", inPlace := ["slices.overlaps[plenum/api.Version]"], unfollowed := true, recurses := true, apart := false, narrowed := true }
def MvccPutsUptoSaid : Prop := mvccPutsUptoRow.holds Try.pinned (OpenSpec.upto mvccPutsSpec)

/-- 'plenumlaw12.MvccDoes', WHERE WHAT IT READS IS OF BULK AT MOST 1048576: true; the input reads as it did. -/
def mvccDoesUptoRow : OpenClaim := { program := "ytpandioolpnihaa", sum := "3d2903420a01a28118ef7e6a144edb8bf0eb7fb5cf432ce82b5d5bd318861c40", func := "plenum/plenumlaw12.MvccDoes", spec := "mvccDoes", inPlace := ["slices.overlaps[plenum/api.Version]", "internal/bytealg.Compare"], unfollowed := true, recurses := true, apart := false, narrowed := true }
def MvccDoesUptoSaid : Prop := mvccDoesUptoRow.holds Try.pinned (OpenSpec.upto mvccDoesSpec)

/-- 'plenumlaw12.MvccTurns', WHERE WHAT IT READS IS OF BULK AT MOST 1048576: true; the input reads as it did. -/
def mvccTurnsUptoRow : OpenClaim := { program := "ytpandioolpnihaa", sum := "3d2903420a01a28118ef7e6a144edb8bf0eb7fb5cf432ce82b5d5bd318861c40", func := "plenum/plenumlaw12.MvccTurns", spec := "mvccTurns", inPlace := ["slices.overlaps[plenum/api.Version]", "internal/bytealg.Compare"], unfollowed := true, recurses := true, apart := false, narrowed := true }
def MvccTurnsUptoSaid : Prop := mvccTurnsUptoRow.holds Try.pinned (OpenSpec.upto mvccTurnsSpec)

/-- 'plenumlaw16.ShardDoes', WHERE WHAT IT READS IS OF BULK AT MOST 1048576: true; the input reads as it did. -/
def shardDoesUptoRow : OpenClaim := { program := "ytpandioolpnihaa", sum := "3d2903420a01a28118ef7e6a144edb8bf0eb7fb5cf432ce82b5d5bd318861c40", func := "plenum/plenumlaw16.ShardDoes", spec := "shardDoes", inPlace := ["internal/bytealg.Compare", "slices.overlaps[plenum/api.Version]"], unfollowed := true, recurses := true, apart := false, narrowed := true }
def ShardDoesUptoSaid : Prop := shardDoesUptoRow.holds Try.pinned (OpenSpec.upto shardDoesSpec)

/-- 'plenumlaw16.ShardAgain', WHERE WHAT IT READS IS OF BULK AT MOST 1048576: true; the input reads as it did. -/
def shardAgainUptoRow : OpenClaim := { program := "ytpandioolpnihaa", sum := "3d2903420a01a28118ef7e6a144edb8bf0eb7fb5cf432ce82b5d5bd318861c40", func := "plenum/plenumlaw16.ShardAgain", spec := "shardAgain", inPlace := ["internal/bytealg.Compare", "slices.overlaps[plenum/api.Version]"], unfollowed := true, recurses := true, apart := false, narrowed := true }
def ShardAgainUptoSaid : Prop := shardAgainUptoRow.holds Try.pinned (OpenSpec.upto shardAgainSpec)

/-- 'plenumlaw16.ShardWhole', WHERE WHAT IT READS IS OF BULK AT MOST 1048576: true; the input reads as it did. -/
def shardWholeUptoRow : OpenClaim := { program := "ytpandioolpnihaa", sum := "3d2903420a01a28118ef7e6a144edb8bf0eb7fb5cf432ce82b5d5bd318861c40", func := "plenum/plenumlaw16.ShardWhole", spec := "shardWhole", inPlace := ["internal/bytealg.Compare", "slices.overlaps[plenum/api.Version]"], unfollowed := true, recurses := true, apart := false, narrowed := true }
def ShardWholeUptoSaid : Prop := shardWholeUptoRow.holds Try.pinned (OpenSpec.upto shardWholeSpec)

end Rows
end Go.Proofs.Ytpandioolpnihaa
