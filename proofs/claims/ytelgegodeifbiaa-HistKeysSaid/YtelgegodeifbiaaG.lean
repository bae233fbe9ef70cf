/- The reference's comparisons answer yes on what is alike. -/
import Derived.Test.YtelgegodeifbiaaX
import Derived.Test.YtelgegodeifbiaaWkh
namespace Go.Proofs.Ytelgegodeifbiaa
open Go Go.Wk Pl
set_option linter.unusedVariables false

set_option maxHeartbeats 1000000 in
theorem f17_same {Z Z' : Nat → Prop} {w : World} {a b : Value} {xs : List Key} (hx : SlR tKey 24 Z w a xs) (hy : SlR tKey 24 Z' w b xs) :
    Calls Try.prog 17 [a, b].toArray w fun e w' => e = .returned (.bool true) ∧ Ext none' w w' := by
  have H := Holds.start w
  have hN := hx.len1 (by decide)
  obtain ⟨a0, c0, rfl, hl0, hm0⟩ := hx.len
  obtain ⟨a1, c1, rfl, hl1, hm1⟩ := hy.len
  refine calls_of_W' Try.func17 rfl Try.ntmps17 rfl ?_
  refine W_seq ?_
  refine W_region ?_
  refine OL_y (y_assign rfl) (by decide) ?_
  refine OL_nil ?_
  refine W_seq ?_
  refine W_seq ?_
  refine W_region ?_
  refine OL_y (y_move rfl) (by decide) ?_
  refine OL_y (y_len rfl ti29 rfl) (by decide) ?_
  refine OL_y (y_move rfl) (by decide) ?_
  refine OL_y (y_len rfl ti29 rfl) (by decide) ?_
  refine OL_y (y_neq0 rfl rfl) (by decide) ?_
  refine OL_nil ?_
  refine W_condf rfl ?_
  refine W_skip ?_
  refine W_seq ?_
  refine W_seq ?_
  refine W_region ?_
  refine OL_y (y_move rfl) (by decide) ?_
  refine OL_y (y_len rfl ti29 rfl) (by decide) ?_
  refine OL_y (y_move rfl) (by decide) ?_
  refine OL_nil ?_
  refine W_range (N := xs.length) (by omega) (fun k f ds w' => f 0 = .slice a0 xs.length c0 ∧ f 1 = .slice a1 xs.length c1 ∧ ds = [] ∧ Holds w' [shr (fun k => k < w.heap.size) w]) ⟨rfl, rfl, rfl, H⟩ rfl rfl (by decide) (by decide) (by decide) rfl rfl ?_ rfl rfl ?_
  · rintro k f ds w1 hk ⟨h0, h1, rfl, H⟩ hti htn
    have hxk := List.getElem?_eq_getElem hk
    refine W_block ?_
    refine W_seq ?_
    refine W_region ?_
    refine OL_y (y_move hti) (by decide) ?_
    refine OL_y (y_assign rfl) (by decide) ?_
    refine OL_nil ?_
    refine W_seq ?_
    refine W_drawQ H mixed (by kernel_rfl) (by kernel_rfl) fun w2 H => ?_
    obtain ⟨b1, o1, cs1, e1, _, hc1, v1, rfl, hr1⟩ := (hx.keeps (H.keepsAll 0 rfl _)).at hxk
    obtain ⟨b2, o2, cs2, e2, _, hc2, v2, rfl, hr2⟩ := (hy.keeps (H.keepsAll 0 rfl _)).at hxk
    refine QL_y (y_move h0) (by decide) ?_
    refine QL_y (y_move rfl) (by decide) ?_
    refine QL_y (y_indexAddr ti29 ti38 (congrArg (Value.slice · _ _) e1) rfl (by omega) (by omega)) (by decide) ?_
    refine QL_y (y_loadS ti38 rfl rfl hc1) (by decide) ?_
    refine QL_y (y_toStr Try.underlying38 Try.underlying5 Try.underlying9 rfl hr1) (by decide) ?_
    refine QL_y (y_move h1) (by decide) ?_
    refine QL_y (y_move rfl) (by decide) ?_
    refine QL_y (y_indexAddr ti29 ti38 (congrArg (Value.slice · _ _) e2) rfl (by omega) (by omega)) (by decide) ?_
    refine QL_y (y_loadS ti38 rfl rfl hc2) (by decide) ?_
    refine QL_y (y_toStr Try.underlying38 Try.underlying5 Try.underlying9 rfl hr2) (by decide) ?_
    refine QL_y (y_neqS0 rfl rfl) (by decide) ?_
    refine QL_nil ?_
    refine W_condf rfl ?_
    refine W_skip ?_
    exact ⟨hti, htn, h0, h1, rfl, H⟩
  · rintro f ds w1 ⟨h0, h1, rfl, H⟩ hti htn
    refine W_seq ?_
    refine W_region ?_
    refine OL_y (y_assign rfl) (by decide) ?_
    refine OL_nil ?_
    refine W_ret ?_
    show RetOK _ _ _ _ _ _
    exact ret1 (v := .bool true) Try.results17 rfl ⟨rfl, H.ext_of 0 rfl⟩
end Go.Proofs.Ytelgegodeifbiaa
