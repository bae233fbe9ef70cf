/- THE GROUND OF THE WALKS, 13: what a call has made, shared from there on. -/
import Derived.Test.YtngnplhdokboiaaWkc
namespace Go.Wk
open Go
set_option linter.unusedVariables false

/-- What a call has made. -/
theorem Holds.addNew {w w1 : World} {L : List Atom} (H : Holds w L) (e : Ext none' w w1) : Holds w1 (shr (fun k => w.heap.size ≤ k ∧ k < w1.heap.size) w1 :: L) :=
  H.new e ⟨⟨Nat.le_refl _, rfl, rfl, rfl, fun _ _ => rfl⟩, fun _ h => h.2, shr_stable fun _ h => h.2⟩ fun _ h => h.1
theorem Holds.keepsNew {w w1 : World} {L : List Atom} (H : Holds w L) {n0 : Nat} (i : Nat) (hi : L[i]? = some (shr (fun k => n0 ≤ k ∧ k < w1.heap.size) w1)) : Keeps (fun k => n0 ≤ k) w1 w := by
  obtain ⟨a, _, _, _, e⟩ := H.get hi
  exact ⟨a, fun k hz hk => e k ⟨hz, hk⟩⟩
/-- What a call has made, on the way of one who sees the old blocks too. -/
theorem Holds.keepsBoth {w w0 w1 : World} {L : List Atom} (H : Holds w L) {n0 : Nat} (i j : Nat) (hi : L[i]? = some (shr (fun k => n0 ≤ k ∧ k < w1.heap.size) w1)) (hj : L[j]? = some (shr (fun k => k < w0.heap.size) w0)) (e : Ext none' w0 w1) : Keeps (fun k => k < w0.heap.size ∨ n0 ≤ k) w1 w := by
  obtain ⟨a, _, _, _, e1⟩ := H.get hi
  obtain ⟨_, _, _, _, e2⟩ := H.get hj
  refine ⟨a, fun k hz hk => ?_⟩
  rcases hz with hz | hz
  · exact (e2 k hz).trans (e.blk k hz (fun h => h)).symm
  · exact e1 k ⟨hz, hk⟩
/-- A cut: behind c (where it ends normally) A holds; the rest goes on from A. -/
theorem W_cut {P : Program} {l : Option Nat} {n : Nat} {c : Code} {K : PK} {Q : PQ} {f : Fr} {ds : List Deferred} {w : World} (A : PK) (h : W P l n c (thenQ A Q) f ds w) (k : ∀ f ds w, A f ds w → K f ds w) : W P l n c (thenQ K Q) f ds w :=
  W_mono h fun e f ds w q => by
    cases e with
    | normal => exact k _ _ _ q
    | _ => exact q
end Go.Wk
