/- Over all commands, the law ShardDoes returns and answers true: whatever the machine is asked, its answers and what it has are what the reference tells. Conditions: those of the given row; no other. -/
import Derived.Test.YtpandioolpnihaaRows
import Derived.Test.YtpandioolpnihaaDoe6
import Derived.WalkKit
import Derived.ProofKit
import Derived.OpenShut
import Derived.ShutString
import Derived.ChangeOld
import Derived.Below
import Derived.SizedLaws
namespace Go.Proofs.Ytpandioolpnihaa.shardDoes
open Go Go.Wk Go.ChangeShapes Go.WideShapes Go.ChangeAt Go.RowKit
open Go.ChangeMaps (open_string shut_string)
set_option linter.unusedVariables false
theorem own : ownKnob Try.prog.godebug = none := by kernel_rfl
theorem laidOut : laidOutB Try.prog = true := by kernel_rfl
set_option maxRecDepth 100000 in
theorem lifted (os : Os) (started : os.Started) (H : Type) (enc : TypeId × Value → H) :
    ReturnsInHanded {} Try.checked os 8 .any (Rows.shardDoesSpec.pre6 enc Try.prog Try.f8 Rows.shardDoesRow.domain false) (Rows.shardDoesSpec.post enc Try.prog Try.f8 false true false false) := by
  refine returnsInHanded_of_change_sized (C := Try.checked) own started (by kernel_rfl) Try.func8
    (ChangeSpec.witness6 (enc := enc) (C := Try.checked) false ⟨#[], #[.slice none 0 0], []⟩ 8 (by kernel_rfl) (by kernel_rfl) (by kernel_rfl) (by kernel_rfl)) ?_
  intro W base args ds gs before hval0 hW hcnd hsz0 _
  have hsz : (DataW.weightsEach Try.prog (Try.f8.params.toList ++ Rows.shardDoesSpec.plain.varTypes Try.prog) (ds ++ gs)).all (· ≤ reachBytes) = true := hsz0
  have hval : ∀ (j : Nat) t v, Try.f8.params[j]? = some t → args[j]? = some v → Value.okWide Try.prog W .any base t v := hval0
  have hW' := hW
  obtain ⟨p, q, hA0, hV, rfl, hfz, hnd⟩ := hW
  have hA : DataW.TrodAll enc Try.prog W 0 (fun _ => true) true Try.f8.params.toList args.toList ds p := hA0
  rw [Try.params8] at hA hval hsz
  obtain ⟨v0, vs0, d0, ds0, p0, q0, hargs, rfl, rfl, h0, r0⟩ := trodAll_cons hA
  obtain ⟨rfl, rfl, rfl⟩ := trodAll_nil r0
  obtain rfl : args = #[v0] := by cases args; simp_all
  obtain ⟨rfl, rfl⟩ := trodVars_none hV
  obtain ⟨a0, len0, cap0, rfl⟩ := okWide_slice Try.underlying57 (hval 0 57 v0 rfl rfl)
  have k0 := h0
  have lt0 : ∀ x ∈ p0, x.block < W.heap.size := by obtain ⟨m, hm⟩ := k0; exact DataW.trod_lt m _ _ _ hm
  obtain ⟨xs0, y0⟩ := Opens.slice ((opens_slice Try.underlying57 (by kernel_rfl) (by kernel_rfl) (by decide) (opens_map (fun x => ⟨x.1, x.2.1, x.2.2.1, x.2.2.2.1, x.2.2.2.2.1, x.2.2.2.2.2.1, x.2.2.2.2.2.2.1, x.2.2.2.2.2.2.2.1, x.2.2.2.2.2.2.2.2.1, x.2.2.2.2.2.2.2.2.2.1, x.2.2.2.2.2.2.2.2.2.2.1, x.2.2.2.2.2.2.2.2.2.2.2.1, x.2.2.2.2.2.2.2.2.2.2.2.2⟩) (fun _ => rfl) (opens_struct Try.underlying78 (by kernel_rfl) (opensF_cons rfl (by kernel_rfl) ((opens_int Try.underlying24)) (opensF_cons rfl (by kernel_rfl) ((opens_int Try.underlying24)) (opensF_cons rfl (by kernel_rfl) ((opens_int Try.underlying3)) (opensF_cons rfl (by kernel_rfl) ((opens_int Try.underlying24)) (opensF_cons rfl (by kernel_rfl) ((opens_int Try.underlying24)) (opensF_cons rfl (by kernel_rfl) ((opens_bool Try.underlying4)) (opensF_cons rfl (by kernel_rfl) (opens_map (fun x => ⟨x.1, x.2.1, x.2.2.1, x.2.2.2.1, x.2.2.2.2⟩) (fun _ => rfl) (opens_struct Try.underlying70 (by kernel_rfl) (opensF_cons rfl (by kernel_rfl) ((opens_int Try.underlying24)) (opensF_cons rfl (by kernel_rfl) ((opens_int Try.underlying3)) (opensF_cons rfl (by kernel_rfl) ((opens_int Try.underlying3)) (opensF_cons rfl (by kernel_rfl) (opens_slice Try.underlying23 (by kernel_rfl) (by kernel_rfl) (by decide) (opens_int Try.underlying5)) (opensF_one rfl (by kernel_rfl) (opens_slice Try.underlying23 (by kernel_rfl) (by kernel_rfl) (by decide) (opens_int Try.underlying5))))))))) (opensF_cons rfl (by kernel_rfl) (opens_slice Try.underlying23 (by kernel_rfl) (by kernel_rfl) (by decide) (opens_int Try.underlying5)) (opensF_cons rfl (by kernel_rfl) (opens_slice Try.underlying23 (by kernel_rfl) (by kernel_rfl) (by decide) (opens_int Try.underlying5)) (opensF_cons rfl (by kernel_rfl) (opens_slice Try.underlying71 (by kernel_rfl) (by kernel_rfl) (by decide) ((opens_int Try.underlying24))) (opensF_cons rfl (by kernel_rfl) (opens_slice Try.underlying72 (by kernel_rfl) (by kernel_rfl) (by decide) (opens_map (fun x => ⟨x.1, x.2.1, x.2.2⟩) (fun _ => rfl) (opens_struct Try.underlying89 (by kernel_rfl) (opensF_cons rfl (by kernel_rfl) (opens_slice Try.underlying23 (by kernel_rfl) (by kernel_rfl) (by decide) (opens_int Try.underlying5)) (opensF_cons rfl (by kernel_rfl) ((opens_bool Try.underlying4)) (opensF_one rfl (by kernel_rfl) (opens_slice Try.underlying23 (by kernel_rfl) (by kernel_rfl) (by decide) (opens_int Try.underlying5)))))))) (opensF_cons rfl (by kernel_rfl) (opens_slice Try.underlying30 (by kernel_rfl) (by kernel_rfl) (by decide) (opens_slice Try.underlying23 (by kernel_rfl) (by kernel_rfl) (by decide) (opens_int Try.underlying5))) (opensF_one rfl (by kernel_rfl) (opens_map (fun x => ⟨x.1, x.2.1, x.2.2.1, x.2.2.2.1, x.2.2.2.2⟩) (fun _ => rfl) (opens_struct Try.underlying76 (by kernel_rfl) (opensF_cons rfl (by kernel_rfl) (opens_int Try.underlying2) (opensF_cons rfl (by kernel_rfl) ((opens_str Try.underlying9)) (opensF_cons rfl (by kernel_rfl) (opens_slice Try.underlying73 (by kernel_rfl) (by kernel_rfl) (by decide) (opens_map (fun x => ⟨x.1, x.2.1, x.2.2⟩) (fun _ => rfl) (opens_struct Try.underlying120 (by kernel_rfl) (opensF_cons rfl (by kernel_rfl) ((opens_str Try.underlying9)) (opensF_cons rfl (by kernel_rfl) ((opens_int Try.underlying3)) (opensF_one rfl (by kernel_rfl) ((opens_bool Try.underlying4)))))))) (opensF_cons rfl (by kernel_rfl) ((opens_int Try.underlying3)) (opensF_one rfl (by kernel_rfl) (opens_slice Try.underlying74 (by kernel_rfl) (by kernel_rfl) (by decide) ((opens_int Try.underlying3))))))))))))))))))))))))) : Opens Try.prog W 57 (tSlice tCmd 320))) k0 (List.all_eq_true.2 fun n hn => List.all_eq_true.1 hsz _ (DataW.weights_mem_each (j := 0) rfl rfl n hn))
  refine (f8_calls y0).mono fun e W' ⟨he, hE⟩ => ?_
  have bel := Ext.below hE
  subst he
  exact ⟨_, rfl, _, _, _, [], _, [], hW', trodAll_mk1 (shut_bool Try.underlying4 _), (trodAll_cons_mk (Below.trod laidOut (by kernel_rfl) (of_decide_eq_true (by kernel_rfl)) k0 bel lt0) trodAll_mk0), rfl, bel.frame _, fun h => by cases h⟩
theorem over : Rows.shardDoesRow.holds Try.pinned (OpenSpec.ofChange Rows.shardDoesSpec) :=
  OpenClaim.holds_of_wide 8 Try.f8 rfl rfl rfl rfl rfl rfl rfl ⟨rfl, rfl, rfl, rfl, rfl⟩ rfl rfl rfl rfl rfl (by kernel_rfl) Try.func8 (by kernel_rfl)
    (of_decide_eq_true (by kernel_rfl)) (by unfold Func.isWrapper; first | (rw [if_pos (by decide +kernel)]; kernel_rfl) | (rw [if_neg (by decide +kernel)]; exact ⟨rfl, rfl⟩))
    (fun os started H enc _ => lifted os started H enc)
end Go.Proofs.Ytpandioolpnihaa.shardDoes
namespace Go.Proofs.Ytpandioolpnihaa
theorem shardDoes_holds : Rows.ShardDoesSaid := shardDoes.over
#print axioms shardDoes_holds
end Go.Proofs.Ytpandioolpnihaa
