/- The law WaitShort: nobody stands twice in the cycle that is told, and it is no longer than the edges. -/
import Derived.Test.YtplpedigkhgakaaH
namespace Go.Proofs.Ytplpedigkhgakaa
open Go Go.Wk Pl
set_option linter.unusedVariables false

theorem cycle_nd (xs : List E) (fr : Int) : (refCycle xs fr).Nodup := by
  by_cases h : fr ∈ (refWalk xs fr).map (·.1)
  · exact (cycle_way h).1.nd
  · rw [cycle_nil h]; exact List.nodup_nil

set_option maxHeartbeats 1000000 in
theorem f4_calls {Z : Nat → Prop} {w : World} {a : Value} {xs : List E} {fr : Int} (hx : SlR tE 16 Z w a xs) (hfr : InK .u64 fr) :
    Calls Try.prog 4 [a, .int .u64 fr].toArray w fun e w' => e = .returned (.bool true) ∧ Ext none' w w' := by
  have H := Holds.start w
  obtain ⟨a0, c0, rfl, hl0, hm0⟩ := hx.len
  refine calls_of_W' Try.func4 rfl Try.ntmps4 rfl ?_
  refine W_seq ?_
  refine W_region ?_
  refine OL_y (y_assign rfl) (by decide) ?_
  refine OL_nil ?_
  refine W_seq ?_
  refine W_seq ?_
  refine W_region ?_
  refine OL_c (op_call 7 en7 rfl [] rfl (by decide) (f7_calls.mono ?_))
  rintro e w1 ⟨rfl, hE1⟩
  refine ⟨_, rfl, ?_⟩
  refine OL_y (y_not rfl) (by decide) ?_
  refine OL_nil ?_
  refine W_condf rfl ?_
  refine W_skip ?_
  have H := H.ext0 hE1
  have hx := hx.keeps (H.keepsAll 0 rfl _)
  refine W_seq ?_
  refine W_seq ?_
  refine W_region ?_
  refine OL_y (y_move rfl) (by decide) ?_
  refine OL_y (y_len rfl ti22 rfl) (by decide) ?_
  refine OL_y (y_gtr rfl rfl) (by decide) ?_
  refine OL_nil ?_
  refine W_cond rfl (fun hc => ?_) (fun hc => ?_)
  · refine W_seq ?_
    refine W_region ?_
    refine OL_y (y_assign rfl) (by decide) ?_
    refine OL_nil ?_
    refine W_ret ?_
    show RetOK _ _ _ _ _ _
    exact ret1 (v := .bool true) Try.results4 rfl ⟨rfl, H.ext_of 0 rfl⟩
  have h40 : xs.length ≤ 40 := by simp at hc; omega
  refine W_skip ?_
  refine W_seq ?_
  refine W_region ?_
  refine OL_y (y_move rfl) (by decide) ?_
  refine OL_y (y_move rfl) (by decide) ?_
  refine OL_c (op_call 9 en9 rfl [.slice a0 xs.length c0, .int .u64 fr] rfl (by decide) ((f9_calls hx hfr h40).mono ?_))
  rintro e w2 ⟨v2, rfl, hv2, hE2⟩
  refine ⟨_, rfl, ?_⟩
  have H := H.addNew hE2
  obtain ⟨a2, c2, rfl, hl2, hm2⟩ := hv2.len
  have hnd := cycle_nd xs fr
  have hcl := cycle_len xs fr
  refine OL_y (y_assign rfl) (by decide) ?_
  refine OL_nil ?_
  refine W_seq ?_
  refine W_seq ?_
  refine W_region ?_
  refine OL_y (y_move rfl) (by decide) ?_
  refine OL_y (y_len rfl ti26 rfl) (by decide) ?_
  refine OL_y (y_move rfl) (by decide) ?_
  refine OL_nil ?_
  refine W_range (N := (refCycle xs fr).length) (by simp [maxLen]; omega) (fun k f ds w' => f 0 = .slice a0 xs.length c0 ∧ f 5 = .slice a2 (refCycle xs fr).length c2 ∧ ds = [] ∧ Holds w' [shr (fun k => w1.heap.size ≤ k ∧ k < w2.heap.size) w2, shr (fun k => k < w.heap.size) w])
    ⟨rfl, rfl, rfl, H⟩ rfl rfl (by decide) (by decide) (by decide) rfl rfl ?_ rfl rfl ?_
  · rintro k f ds w' hk ⟨h0, h5, rfl, H⟩ hti htn
    have hik := List.getElem?_eq_getElem hk
    refine W_block ?_
    refine W_seq ?_
    refine W_region ?_
    refine OL_y (y_move hti) (by decide) ?_
    refine OL_y (y_assign rfl) (by decide) ?_
    refine OL_nil ?_
    refine W_seq ?_
    refine W_region ?_
    refine OL_y (y_move h5) (by decide) ?_
    refine OL_y (y_move rfl) (by decide) ?_
    refine OL_y (y_sliceH ti26 ti23 rfl rfl (by omega) (by omega)) (by decide) ?_
    refine OL_y (y_len rfl ti26 rfl) (by decide) ?_
    refine OL_y (y_move rfl) (by decide) ?_
    refine OL_nil ?_
    refine W_range (N := k) (by simp [maxLen]; omega) (fun j f ds w' => f 0 = .slice a0 xs.length c0 ∧ f 5 = .slice a2 (refCycle xs fr).length c2 ∧ f 6 = .int .i64 k ∧ f 18 = .int .i64 k ∧ f 17 = .int .i64 (refCycle xs fr).length ∧ ds = [] ∧ Holds w' [shr (fun k => w1.heap.size ≤ k ∧ k < w2.heap.size) w2, shr (fun k => k < w.heap.size) w])
      ⟨h0, h5, rfl, hti, htn, rfl, H⟩ rfl rfl (by decide) (by decide) (by decide) rfl rfl ?_ rfl rfl ?_
    · rintro j f ds w' hj ⟨h0, h5, h6, h18, h17, rfl, H⟩ htj htm
      have hjl : j < (refCycle xs fr).length := by omega
      have hjk := List.getElem?_eq_getElem hjl
      refine W_block ?_
      refine W_seq ?_
      refine W_region ?_
      refine OL_y (y_move htj) (by decide) ?_
      refine OL_y (y_assign rfl) (by decide) ?_
      refine OL_nil ?_
      refine W_seq ?_
      refine W_drawQ H mixed (by kernel_rfl) (by kernel_rfl) fun w' H => ?_
      have hv := hv2.keeps (H.keepsNew 0 rfl)
      obtain ⟨b1, o1, cs1, e1, _, hc1, rfl, _⟩ := hv.at hik
      obtain ⟨b2, o2, cs2, e2, _, hc2, rfl, _⟩ := hv.at hjk
      subst e1; injection e2 with e2; injection e2 with e2 e3 _; subst e2 e3
      refine QL_y (y_move h5) (by decide) ?_
      refine QL_y (y_move h6) (by decide) ?_
      refine QL_y (y_indexAddr ti26 ti23 rfl rfl (by omega) (by omega)) (by decide) ?_
      refine QL_y (y_loadS ti23 rfl rfl hc1) (by decide) ?_
      refine QL_y (y_move h5) (by decide) ?_
      refine QL_y (y_move rfl) (by decide) ?_
      refine QL_y (y_indexAddr ti26 ti23 rfl rfl (by omega) (by omega)) (by decide) ?_
      refine QL_y (y_loadS ti23 rfl rfl hc2) (by decide) ?_
      refine QL_y (y_eql rfl rfl) (by decide) ?_
      refine QL_nil ?_
      have hne : (refCycle xs fr)[k] ≠ (refCycle xs fr)[j] := fun h => by
        have := (List.nodup_iff_pairwise_ne.1 hnd)
        rw [List.pairwise_iff_getElem] at this
        exact this j k hjl hk hj h.symm
      refine W_condf (by show Value.bool (decide _) = _; rw [decide_eq_false hne]) ?_
      refine W_skip ?_
      exact ⟨htj, htm, h0, h5, h6, h18, h17, rfl, H⟩
    · rintro f ds w' ⟨h0, h5, h6, h18, h17, rfl, H⟩ htj htm
      exact ⟨h18, h17, h0, h5, rfl, H⟩
  · rintro f ds w' ⟨h0, h5, rfl, H⟩ hti htn
    refine W_seq ?_
    refine W_region ?_
    refine OL_y (y_move h5) (by decide) ?_
    refine OL_y (y_len rfl ti26 rfl) (by decide) ?_
    refine OL_y (y_move h0) (by decide) ?_
    refine OL_y (y_len rfl ti22 rfl) (by decide) ?_
    refine OL_y (y_leq rfl rfl) (by decide) ?_
    rw [decide_eq_true (show ((refCycle xs fr).length : Int) ≤ (xs.length : Int) by omega)]
    refine OL_y (y_assign rfl) (by decide) ?_
    refine OL_nil ?_
    refine W_ret ?_
    show RetOK _ _ _ _ _ _
    exact ret1 (v := .bool true) Try.results4 rfl ⟨rfl, H.ext_of 1 rfl⟩
end Go.Proofs.Ytplpedigkhgakaa
