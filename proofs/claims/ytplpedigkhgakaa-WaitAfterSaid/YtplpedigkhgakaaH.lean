/- The wake-up check: a ring of two. -/
import Derived.Test.YtplpedigkhgakaaG
namespace Go.Proofs.Ytplpedigkhgakaa
open Go Go.Wk Pl
set_option linter.unusedVariables false

set_option maxHeartbeats 1000000 in
theorem f7_calls {w : World} : Calls Try.prog 7 #[] w fun e w' => e = .returned (.bool true) ∧ Ext none' w w' := by
  have H := Holds.start w
  refine calls_of_W' Try.func7 rfl Try.ntmps7 rfl ?_
  refine W_seq ?_
  refine W_region ?_
  refine OL_y (y_assign rfl) (by decide) ?_
  refine OL_nil ?_
  refine W_seq ?_
  refine W_region ?_
  refine OL_y (y_build (cells := #[.int .u64 1, .int .u64 2]) ti35 pl35 rfl) (by decide) ?_
  refine OL_y (y_build (cells := #[.int .u64 2, .int .u64 1]) ti35 pl35 rfl) (by decide) ?_
  refine OL_c (op_buildSlice H [.agg #[.int .u64 1, .int .u64 2], .agg #[.int .u64 2, .int .u64 1]] ti22 ti35 rfl rfl rfl (by simp [Value.cells]) rfl rfl (by decide) fun b w1 H => ?_)
  have he : Els tE none' w ([Value.agg #[.int .u64 1, .int .u64 2], .agg #[.int .u64 2, .int .u64 1]].flatMap fun v => v.cells.toList) [((1, 2) : E), ((2, 1) : E)] := by
    have h0 := Els.nil tE none' w
    have h1 := h0.snoc (c := [.int .u64 1, .int .u64 2]) (x := ((1, 2) : E)) ⟨[.int .u64 1], [.int .u64 2], rfl, ⟨rfl, by rfl⟩, ⟨rfl, by rfl⟩⟩
    exact h1.snoc (c := [.int .u64 2, .int .u64 1]) (x := ((2, 1) : E)) ⟨[.int .u64 2], [.int .u64 1], rfl, ⟨rfl, by rfl⟩, ⟨rfl, by rfl⟩⟩
  have hs : SlR tE 16 (fun k => w.heap.size ≤ k) w1 (.slice (some ⟨b, 0, none⟩) 2 2) [((1, 2) : E), ((2, 1) : E)] :=
    SlR.ofRow (H.getRow 0 rfl) (by decide) ((he.keeps (H.keepsAll 1 rfl _)).mono fun _ _ h => h.elim) (H.fresh 0 1 rfl rfl) (by simp)
  refine OL_c (op_call 9 en9 rfl [_, .int .u64 1] rfl (by decide) ((f9_calls hs (by rfl) (by simp)).mono ?_))
  rintro e w2 ⟨v, rfl, hv, hE⟩
  refine ⟨_, rfl, ?_⟩
  have hcy : refCycle [((1, 2) : E), ((2, 1) : E)] 1 = [1, 2] := by decide
  rw [hcy] at hv
  obtain ⟨a1, c1, rfl, hl1, hm1⟩ := hv.len
  obtain ⟨b1, o1, cs1, e1, _, hc1, rfl, _⟩ := hv.at (i := 0) rfl
  obtain ⟨b2, o2, cs2, e2, _, hc2, rfl, _⟩ := hv.at (i := 1) rfl
  subst e1; injection e2 with e2; injection e2 with e2 e3 _; subst e2 e3
  have H := H.ext0 hE
  refine OL_y (y_assign rfl) (by decide) ?_
  refine OL_nil ?_
  refine W_seq ?_
  refine W_region ?_
  refine OL_y (y_move rfl) (by decide) ?_
  refine OL_y (y_len rfl ti26 rfl) (by decide) ?_
  refine OL_y (y_eql rfl rfl) (by decide) ?_
  refine OL_y (y_move rfl) (by decide) ?_
  refine OL_yg rfl (by decide) rfl (y_move rfl) (by decide) ?_
  refine OL_yg rfl (by decide) rfl (y_indexAddr ti26 ti23 rfl rfl (by decide) (by decide)) (by decide) ?_
  refine OL_yg rfl (by decide) rfl (y_loadS (v := .int .u64 1) ti23 rfl rfl hc1) (by decide) ?_
  refine OL_yg rfl (by decide) rfl (y_eql rfl rfl) (by decide) ?_
  refine OL_y (y_pick rfl rfl) (by decide) ?_
  refine OL_y (y_move rfl) (by decide) ?_
  refine OL_yg rfl (by decide) rfl (y_move rfl) (by decide) ?_
  refine OL_yg rfl (by decide) rfl (y_indexAddr ti26 ti23 rfl rfl (by decide) (by decide)) (by decide) ?_
  refine OL_yg rfl (by decide) rfl (y_loadS (v := .int .u64 2) ti23 rfl rfl hc2) (by decide) ?_
  refine OL_yg rfl (by decide) rfl (y_eql rfl rfl) (by decide) ?_
  refine OL_y (y_pick rfl rfl) (by decide) ?_
  refine OL_y (y_assign rfl) (by decide) ?_
  refine OL_nil ?_
  refine W_ret ?_
  show RetOK _ _ _ _ _ _
  exact ret1 (v := .bool true) Try.results7 rfl ⟨rfl, H.ext_of 1 rfl⟩
end Go.Proofs.Ytplpedigkhgakaa
