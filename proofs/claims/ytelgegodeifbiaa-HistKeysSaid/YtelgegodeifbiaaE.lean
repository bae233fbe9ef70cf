/- The wake-up check: a history of one transaction. -/
import Derived.Test.YtelgegodeifbiaaD
namespace Go.Proofs.Ytelgegodeifbiaa
open Go Go.Wk Pl
set_option linter.unusedVariables false

abbrev ev0 (kind txn level ts : Int) : Ev := ⟨kind, txn, level, ts, ⟨[], []⟩, [], []⟩
abbrev ev0C (kind txn level ts : Int) : List Value := [.int .i64 kind, .int .u64 txn, .int .i64 level, .int .u64 ts, nilV, nilV, nilV, nilV]
theorem ev0_R {Z : Nat → Prop} {w : World} {kind txn level ts : Int} (h1 : InK .i64 kind) (h2 : InK .u64 txn) (h3 : InK .i64 level) (h4 : InK .u64 ts) : tEv.R Z w (ev0C kind txn level ts) (ev0 kind txn level ts) :=
  ev_cells.2 ⟨nilV, nilV, nilV, nilV, rfl, h1, h2, h3, h4, SlR.nil _ _ _ _, SlR.nil _ _ _ _, SlR.nil _ _ _ _, SlR.nil _ _ _ _⟩

set_option maxHeartbeats 1000000 in
theorem f7_calls {w : World} : Calls Try.prog 7 #[] w fun e w' => e = .returned (.bool true) ∧ Ext none' w w' := by
  have H := Holds.start w
  refine calls_of_W' Try.func7 rfl Try.ntmps7 rfl ?_
  refine W_seq ?_
  refine W_region ?_
  refine OL_y (y_assign rfl) (by decide) ?_
  refine OL_nil ?_
  refine W_seq ?_
  refine W_region ?_
  refine OL_y (y_build (cells := (ev0C 1 1 2 0).toArray) ti48 pl48 rfl) (by decide) ?_
  refine OL_y (y_build (cells := (ev0C 3 1 2 3).toArray) ti48 pl48 rfl) (by decide) ?_
  refine OL_c (op_buildSlice H [.agg (ev0C 1 1 2 0).toArray, .agg (ev0C 3 1 2 3).toArray] ti22 ti48 rfl rfl rfl (by simp [Value.cells]) rfl rfl (by decide) fun b w1 H => ?_)
  have he : Els tEv none' w1 ([Value.agg (ev0C 1 1 2 0).toArray, .agg (ev0C 3 1 2 3).toArray].flatMap fun v => v.cells.toList) [ev0 1 1 2 0, ev0 3 1 2 3] := by
    have h0 := Els.nil tEv none' w1
    have h1 := h0.snoc (ev0_R (kind := 1) (txn := 1) (level := 2) (ts := 0) rfl rfl rfl rfl)
    exact h1.snoc (ev0_R (kind := 3) (txn := 1) (level := 2) (ts := 3) rfl rfl rfl rfl)
  have hs : SlR tEv 128 (fun k => w.heap.size ≤ k) w1 (.slice (some ⟨b, 0, none⟩) 2 2) [ev0 1 1 2 0, ev0 3 1 2 3] :=
    SlR.ofRow (H.getRow 0 rfl) (by decide) (he.mono fun _ _ h => h.elim) (H.fresh 0 1 rfl rfl) (by simp)
  refine OL_c (op_call 10 en10 rfl [_] rfl (by decide) ((f10_calls hs (by simp) (by simp)).mono ?_))
  rintro e w2 ⟨v, rfl, hv, hE⟩
  refine ⟨_, rfl, ?_⟩
  have hr : runs [ev0 1 1 2 0, ev0 3 1 2 3] = [⟨1, 2, 1, 0, 3, [], [], []⟩] := by decide
  rw [hr] at hv
  obtain ⟨a1, c1, rfl, hl1, hm1⟩ := hv.len
  obtain ⟨b1, o1, cs1, e1, _, hc1, hr1⟩ := hv.at (i := 0) rfl
  obtain ⟨vk, vs, vp, rfl, -⟩ := rn_cells.1 hr1
  subst e1
  have H := H.ext0 hE
  refine OL_y (y_assign rfl) (by decide) ?_
  refine OL_nil ?_
  refine W_seq ?_
  refine W_region ?_
  refine OL_y (y_move rfl) (by decide) ?_
  refine OL_y (y_len rfl ti27 rfl) (by decide) ?_
  refine OL_y (y_eql rfl rfl) (by decide) ?_
  refine OL_y (y_move rfl) (by decide) ?_
  refine OL_yg rfl (by decide) rfl (y_move rfl) (by decide) ?_
  refine OL_yg rfl (by decide) rfl (y_indexAddr ti27 ti33 rfl rfl (by decide) (by decide)) (by decide) ?_
  refine OL_yg rfl (by decide) rfl (y_fieldAddr ti33 rfl ti26 rfl rfl) (by decide) ?_
  refine OL_yg rfl (by decide) rfl (y_loadS (v := .int .u64 3) ti26 rfl rfl (Cells.take hc1 4 rfl)) (by decide) ?_
  refine OL_yg rfl (by decide) rfl (y_eql rfl rfl) (by decide) ?_
  refine OL_y (y_pick rfl rfl) (by decide) ?_
  refine OL_y (y_move rfl) (by decide) ?_
  refine OL_yg rfl (by decide) rfl (y_build (cells := (ev0C 3 1 0 0).toArray) ti48 pl48 rfl) (by decide) ?_
  refine OL_g rfl (by decide) rfl (op_buildSlice H [.agg (ev0C 3 1 0 0).toArray] ti22 ti48 rfl rfl rfl (by simp [Value.cells]) rfl rfl (by decide) fun b3 w3 H => ?_)
  have he3 : Els tEv none' w3 ([Value.agg (ev0C 3 1 0 0).toArray].flatMap fun v => v.cells.toList) [ev0 3 1 0 0] :=
    (Els.nil tEv none' w3).snoc (ev0_R (kind := 3) (txn := 1) (level := 0) (ts := 0) rfl rfl rfl rfl)
  have hs3 : SlR tEv 128 (fun k => w.heap.size ≤ k) w3 (.slice (some ⟨b3, 0, none⟩) 1 1) [ev0 3 1 0 0] :=
    SlR.ofRow (H.getRow 0 rfl) (by decide) (he3.mono fun _ _ h => h.elim) (H.fresh 0 2 rfl rfl) (by simp)
  refine OL_g rfl (by decide) rfl (op_call 9 en9 rfl [_] rfl (by decide) ((f9_calls hs3).mono ?_))
  rintro e w4 ⟨rfl, hE4⟩
  refine ⟨_, rfl, ?_⟩
  have hff : formed [ev0 3 1 0 0] = false := by decide
  rw [hff]
  refine OL_yg rfl (by decide) rfl (y_not rfl) (by decide) ?_
  refine OL_y (y_pick rfl rfl) (by decide) ?_
  refine OL_y (y_assign rfl) (by decide) ?_
  refine OL_nil ?_
  refine W_ret ?_
  show RetOK _ _ _ _ _ _
  have H := H.ext0 hE4
  exact ret1 (v := .bool true) Try.results7 rfl ⟨rfl, H.ext_of 2 rfl⟩
end Go.Proofs.Ytelgegodeifbiaa
