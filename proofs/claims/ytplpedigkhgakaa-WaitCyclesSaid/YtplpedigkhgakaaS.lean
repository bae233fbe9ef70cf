/- The law WaitCycles: the program's Cycle and the reference's answer alike. -/
import Derived.Test.YtplpedigkhgakaaH
import Derived.Test.YtplpedigkhgakaaA
namespace Go.Proofs.Ytplpedigkhgakaa
open Go Go.Wk Pl
set_option linter.unusedVariables false

set_option maxHeartbeats 1000000 in
theorem f3_calls {Z : Nat → Prop} {w : World} {a : Value} {xs : List E} {fr : Int} (hx : SlR tE 16 Z w a xs) (hfr : InK .u64 fr) :
    Calls Try.prog 3 [a, .int .u64 fr].toArray w fun e w' => e = .returned (.bool true) ∧ Ext none' w w' := by
  have H := Holds.start w
  obtain ⟨a0, c0, rfl, hl0, hm0⟩ := hx.len
  refine calls_of_W' Try.func3 rfl Try.ntmps3 rfl ?_
  refine W_seq ?_
  refine W_region ?_
  refine OL_y (y_assign rfl) (by decide) ?_
  refine OL_nil ?_
  refine W_seq ?_
  refine W_seq ?_
  refine W_region ?_
  refine OL_c (op_call 7 en7 rfl [] rfl (by decide) (f7_calls.mono ?_))
  rintro e w1 ⟨rfl, hE1⟩
  refine ⟨_, rfl, ?_⟩
  refine OL_y (y_not rfl) (by decide) ?_
  refine OL_nil ?_
  refine W_condf rfl ?_
  refine W_skip ?_
  have H := H.ext0 hE1
  have hx := hx.keeps (H.keepsAll 0 rfl _)
  refine W_seq ?_
  refine W_region ?_
  refine OL_y (y_move rfl) (by decide) ?_
  refine OL_y (y_len rfl ti22 rfl) (by decide) ?_
  refine OL_y (y_gtr rfl rfl) (by decide) ?_
  refine OL_y (y_move rfl) (by decide) ?_
  by_cases h40 : xs.length ≤ 40
  · have hb : decide ((xs.length : Int) > 40) = false := by simp; omega
    refine OL_yg rfl (by decide) (show _ = Value.bool false by simp only [hb]; rfl) (y_move rfl) (by decide) ?_
    refine OL_yg rfl (by decide) (show _ = Value.bool false by simp only [hb]; rfl) (y_move rfl) (by decide) ?_
    refine OL_g rfl (by decide) (show _ = Value.bool false by simp only [hb]; rfl) (op_call 9 en9 rfl [.slice a0 xs.length c0, .int .u64 fr] rfl (by decide) ((f9_calls hx hfr h40).mono ?_))
    rintro e w2 ⟨v2, rfl, hv2, hE2⟩
    refine ⟨_, rfl, ?_⟩
    have H := H.addNew hE2
    have hx := hx.keeps hE2.keeps0
    refine OL_yg rfl (by decide) (show _ = Value.bool false by simp only [hb]; rfl) (y_move rfl) (by decide) ?_
    refine OL_yg rfl (by decide) (show _ = Value.bool false by simp only [hb]; rfl) (y_move rfl) (by decide) ?_
    refine OL_g rfl (by decide) (show _ = Value.bool false by simp only [hb]; rfl) (op_call 10 en10 rfl [.slice a0 xs.length c0, .int .u64 fr] rfl (by decide) ((f10_calls hx hfr h40).mono ?_))
    rintro e w3 ⟨v3, rfl, hv3, hE3⟩
    refine ⟨_, rfl, ?_⟩
    have hv2 := (hv2.keeps hE3.keeps0).mono (Z' := fun _ => True) fun _ _ _ => trivial
    have hv3 := hv3.mono (Z' := fun _ => True) fun _ _ _ => trivial
    refine OL_g rfl (by decide) (show _ = Value.bool false by simp only [hb]; rfl) (op_call 8 en8 rfl [v2, v3] rfl (by decide) ((f8_calls hv2 hv3).mono ?_))
    rintro e w4 ⟨rfl, hE4⟩
    rw [decide_eq_true (rfl : refCycle xs fr = refCycle xs fr)]
    refine ⟨_, rfl, ?_⟩
    refine OL_y (y_pick (b := false) (show _ = Value.bool false by simp only [hb]; rfl) rfl) (by decide) ?_
    refine OL_y (y_assign rfl) (by decide) ?_
    refine OL_nil ?_
    refine W_ret ?_
    show RetOK _ _ _ _ _ _
    have H := ((H.ext0 hE3).ext0 hE4)
    exact ret1 (v := .bool true) Try.results3 rfl ⟨rfl, H.ext_of 1 rfl⟩
  · have hb : decide ((xs.length : Int) > 40) = true := by simp; omega
    refine OL_s rfl (by decide) (show _ = Value.bool true by simp only [hb]; rfl) rfl (by simp) ?_
    refine OL_s rfl (by decide) (show _ = Value.bool true by simp only [hb]; rfl) rfl (by simp) ?_
    refine OL_s rfl (by decide) (show _ = Value.bool true by simp only [hb]; rfl) rfl (by simp) ?_
    refine OL_s rfl (by decide) (show _ = Value.bool true by simp only [hb]; rfl) rfl (by simp) ?_
    refine OL_s rfl (by decide) (show _ = Value.bool true by simp only [hb]; rfl) rfl (by simp) ?_
    refine OL_s rfl (by decide) (show _ = Value.bool true by simp only [hb]; rfl) rfl (by simp) ?_
    refine OL_s rfl (by decide) (show _ = Value.bool true by simp only [hb]; rfl) rfl (by simp) ?_
    refine OL_y (y_pick (b := true) (show _ = Value.bool true by simp only [hb]; rfl) rfl) (by decide) ?_
    refine OL_y (y_assign rfl) (by decide) ?_
    refine OL_nil ?_
    refine W_ret ?_
    show RetOK _ _ _ _ _ _
    exact ret1 (v := .bool true) Try.results3 rfl ⟨rfl, H.ext_of 0 rfl⟩
end Go.Proofs.Ytplpedigkhgakaa
