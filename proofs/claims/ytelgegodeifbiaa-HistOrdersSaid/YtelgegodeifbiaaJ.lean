/- SameRuns answers yes on what is alike. -/
import Derived.Test.YtelgegodeifbiaaI
namespace Go.Proofs.Ytelgegodeifbiaa
open Go Go.Wk Pl
set_option linter.unusedVariables false

set_option maxHeartbeats 4000000 in
theorem f14_same {Z Z' : Nat → Prop} {w : World} {a b : Value} {xs : List Rn} (hx : SlR tRn 112 Z w a xs) (hy : SlR tRn 112 Z' w b xs) :
    Calls Try.prog 14 [a, b].toArray w fun e w' => e = .returned (.bool true) ∧ Ext none' w w' := by
  have H := Holds.start w
  have hN := hx.len1 (by decide)
  obtain ⟨a0, c0, rfl, hl0, hm0⟩ := hx.len
  obtain ⟨a1, c1, rfl, hl1, hm1⟩ := hy.len
  refine calls_of_W' Try.func14 rfl Try.ntmps14 rfl ?_
  refine W_seq ?_
  refine W_region ?_
  refine OL_y (y_assign rfl) (by decide) ?_
  refine OL_nil ?_
  refine W_seq ?_
  refine W_seq ?_
  refine W_region ?_
  refine OL_y (y_move rfl) (by decide) ?_
  refine OL_y (y_len rfl ti27 rfl) (by decide) ?_
  refine OL_y (y_move rfl) (by decide) ?_
  refine OL_y (y_len rfl ti27 rfl) (by decide) ?_
  refine OL_y (y_neq0 rfl rfl) (by decide) ?_
  refine OL_nil ?_
  refine W_condf rfl ?_
  refine W_skip ?_
  refine W_seq ?_
  refine W_seq ?_
  refine W_region ?_
  refine OL_y (y_move rfl) (by decide) ?_
  refine OL_y (y_len rfl ti27 rfl) (by decide) ?_
  refine OL_y (y_move rfl) (by decide) ?_
  refine OL_nil ?_
  refine W_range (N := xs.length) (by omega) (fun k f ds w' => f 0 = .slice a0 xs.length c0 ∧ f 1 = .slice a1 xs.length c1 ∧ ds = [] ∧ Holds w' [shr (fun k => k < w.heap.size) w]) ⟨rfl, rfl, rfl, H⟩ rfl rfl (by decide) (by decide) (by decide) rfl rfl ?_ rfl rfl ?_
  · rintro k f ds w1 hk ⟨h0, h1, rfl, H⟩ hti htn
    have hxk := List.getElem?_eq_getElem hk
    obtain ⟨b1, o1, cs1, e1, hz1, hc1, hr1⟩ := hx.at hxk
    obtain ⟨b2, o2, cs2, e2, hz2, hc2, hr2⟩ := hy.at hxk
    generalize xs[k] = r at hxk hr1 hr2
    have hone1 := tRn.one hr1
    have hone2 := tRn.one hr2
    obtain ⟨vk1, vs1, vp1, rfl, -, -, -, -, -, hk1, hs1, hp1⟩ := rn_cells.1 hr1
    obtain ⟨vk2, vs2, vp2, rfl, -, -, -, -, -, hk2, hs2, hp2⟩ := rn_cells.1 hr2
    have hpl := hp1.len1 (by decide)
    obtain ⟨ap1, cp1, hvp1, _, _⟩ := hp1.len
    obtain ⟨ap2, cp2, hvp2, _, _⟩ := hp2.len
    refine W_block ?_
    refine W_seq ?_
    refine W_region ?_
    refine OL_y (y_move hti) (by decide) ?_
    refine OL_y (y_assign rfl) (by decide) ?_
    refine OL_nil ?_
    have c1' : ∀ {w' : World}, Ext none' w w' → Cells w' b1 (o1 + k * 8) [.int .u64 r.txn, .int .i64 r.level, .int .i64 r.state, .int .u64 r.start, .int .u64 r.ts, vk1, vs1, vp1] := fun h => hc1.ext (h.blk _ hc1.lt fun h => h)
    have c2' : ∀ {w' : World}, Ext none' w w' → Cells w' b2 (o2 + k * 8) [.int .u64 r.txn, .int .i64 r.level, .int .i64 r.state, .int .u64 r.start, .int .u64 r.ts, vk2, vs2, vp2] := fun h => hc2.ext (h.blk _ hc2.lt fun h => h)
    refine W_seq (W_cut (fun f ds w' => ∃ b6 b7, f 6 = .pointer (some ⟨b6, 0, none⟩) ∧ f 7 = .pointer (some ⟨b7, 0, none⟩) ∧ f 0 = .slice a0 xs.length c0 ∧ f 1 = .slice a1 xs.length c1 ∧ f 16 = .int .i64 k ∧ f 15 = .int .i64 xs.length ∧ ds = [] ∧
      Holds w' [own b7 (.cells #[.int .u64 r.txn, .int .i64 r.level, .int .i64 r.state, .int .u64 r.start, .int .u64 r.ts, vk2, vs2, vp2] 33), own b6 (.cells #[.int .u64 r.txn, .int .i64 r.level, .int .i64 r.state, .int .u64 r.start, .int .u64 r.ts, vk1, vs1, vp1] 33), shr (fun k => k < w.heap.size) w]) ?_ ?_)
    · refine W_drawD H mixed (by kernel_rfl) [] (fun w0 w' => Ext none' w w') fun w2 H hE => ?_
      have hS : Sx [] (fun w' => Ext none' w w') (List.replicate 12 false).toArray w2 := fun _ => H.ext_of 0 rfl
      refine DA_p 0 rfl (by kernel_rfl) rfl (fun _ => y_move h0) hS (by decide) fun hS => ?_
      refine DA_p 1 rfl (by kernel_rfl) rfl (fun _ => y_move rfl) hS (by decide) fun hS => ?_
      refine DA_p 2 rfl (by kernel_rfl) rfl (fun _ => y_indexAddr ti27 ti33 (congrArg (Value.slice · _ _) e1) rfl (by omega) (by omega)) hS (by decide) fun hS => ?_
      refine DA_y 3 rfl (by kernel_rfl) rfl (by kernel_rfl) (fun w' h => y_loadA ti33 rfl rfl (c1' h) rfl) hS (by decide) fun hS => ?_
      refine DA_p 4 rfl (by kernel_rfl) rfl (fun _ => y_move h1) hS (by decide) fun hS => ?_
      refine DA_p 5 rfl (by kernel_rfl) rfl (fun _ => y_move rfl) hS (by decide) fun hS => ?_
      refine DA_p 6 rfl (by kernel_rfl) rfl (fun _ => y_indexAddr ti27 ti33 (congrArg (Value.slice · _ _) e2) rfl (by omega) (by omega)) hS (by decide) fun hS => ?_
      refine DA_y 7 rfl (by kernel_rfl) rfl (by kernel_rfl) (fun w' h => y_loadA ti33 rfl rfl (c2' h) rfl) hS (by decide) fun hS => ?_
      refine DA_pair 8 9 (by kernel_rfl) (by kernel_rfl) (by kernel_rfl) (by decide) rfl rfl
        (fun f ds w' => ∃ b6 b7, f 6 = .pointer (some ⟨b6, 0, none⟩) ∧ f 7 = .pointer (some ⟨b7, 0, none⟩) ∧ f 22 = .agg #[.int .u64 r.txn, .int .i64 r.level, .int .i64 r.state, .int .u64 r.start, .int .u64 r.ts, vk1, vs1, vp1] ∧ f 26 = .agg #[.int .u64 r.txn, .int .i64 r.level, .int .i64 r.state, .int .u64 r.start, .int .u64 r.ts, vk2, vs2, vp2] ∧ f 0 = .slice a0 xs.length c0 ∧ f 1 = .slice a1 xs.length c1 ∧ f 16 = .int .i64 k ∧ f 15 = .int .i64 xs.length ∧ ds = [] ∧
          Holds w' [own b7 (.cells #[.int .u64 0, .int .i64 0, .int .i64 0, .int .u64 0, .int .u64 0, .slice none 0 0, .slice none 0 0, .slice none 0 0] 33), own b6 (.cells #[.int .u64 0, .int .i64 0, .int .i64 0, .int .u64 0, .int .u64 0, .slice none 0 0, .slice none 0 0, .slice none 0 0] 33), shr (fun k => k < w.heap.size) w]) ?_ ?_ ?_
      · refine op_alloc H ti33 (by decide) fun b6 w3 H => ⟨fun _ => H.ext_of 1 rfl, ?_⟩
        refine op_alloc H ti33 (by decide) fun b7 w4 H => ⟨fun _ => H.ext_of 2 rfl, ?_⟩
        exact ⟨b6, b7, rfl, rfl, rfl, rfl, h0, h1, hti, htn, rfl, H⟩
      · refine op_alloc H ti33 (by decide) fun b7 w3 H => ⟨fun _ => H.ext_of 1 rfl, ?_⟩
        refine op_alloc H ti33 (by decide) fun b6 w4 H => ⟨fun _ => H.ext_of 2 rfl, ?_⟩
        exact ⟨b6, b7, rfl, rfl, rfl, rfl, h0, h1, hti, htn, rfl, H.perm (List.Perm.swap _ _ _)⟩
      rintro f ds w4 hS ⟨b6, b7, h6, h7, h22, h26, h0, h1, h16, h15, rfl, H⟩
      refine DA_one 10 (by kernel_rfl) rfl (op_store (v := .agg #[.int .u64 r.txn, .int .i64 r.level, .int .i64 r.state, .int .u64 r.start, .int .u64 r.ts, vk1, vs1, vp1]) H 1 rfl ti33 h6 h22 rfl (by decide) hone1 fun w5 H => ⟨fun _ => H.ext_of 2 rfl, ?_⟩)
      refine DA_one 11 (by kernel_rfl) rfl (op_store (v := .agg #[.int .u64 r.txn, .int .i64 r.level, .int .i64 r.state, .int .u64 r.start, .int .u64 r.ts, vk2, vs2, vp2]) H 0 rfl ti33 h7 h26 rfl (by decide) hone2 fun w6 H => ⟨fun _ => H.ext_of 2 rfl, ?_⟩)
      refine DA_done (by kernel_rfl) ?_
      exact ⟨b6, b7, h6, h7, h0, h1, h16, h15, rfl, H⟩
    rintro f ds w2 ⟨b6, b7, h6, h7, h0, h1, h16, h15, rfl, H⟩
    refine W_seq ?_
    refine W_seq ?_
    refine W_region ?_
    refine OL_y (y_fieldAddr ti33 rfl ti26 rfl h6) (by decide) ?_
    refine OL_y (y_loadS (v := .int .u64 r.txn) ti26 rfl rfl (Cells.unit (H.getOwn 1 rfl) rfl)) (by decide) ?_
    refine OL_y (y_fieldAddr ti33 rfl ti26 rfl h7) (by decide) ?_
    refine OL_y (y_loadS (v := .int .u64 r.txn) ti26 rfl rfl (Cells.unit (H.getOwn 0 rfl) rfl)) (by decide) ?_
    refine OL_y (y_neq0 rfl rfl) (by decide) ?_
    refine OL_y (y_move rfl) (by decide) ?_
    refine OL_yg rfl (by decide) rfl (y_fieldAddr ti33 rfl ti3 rfl h6) (by decide) ?_
    refine OL_yg rfl (by decide) rfl (y_loadS (v := .int .i64 r.level) ti3 rfl rfl (Cells.unit (H.getOwn 1 rfl) rfl)) (by decide) ?_
    refine OL_yg rfl (by decide) rfl (y_fieldAddr ti33 rfl ti3 rfl h7) (by decide) ?_
    refine OL_yg rfl (by decide) rfl (y_loadS (v := .int .i64 r.level) ti3 rfl rfl (Cells.unit (H.getOwn 0 rfl) rfl)) (by decide) ?_
    refine OL_yg rfl (by decide) rfl (y_neq0 rfl rfl) (by decide) ?_
    refine OL_y (y_pick (b := false) (v := .bool false) rfl rfl) (by decide) ?_
    refine OL_y (y_move rfl) (by decide) ?_
    refine OL_yg rfl (by decide) rfl (y_fieldAddr ti33 rfl ti3 rfl h6) (by decide) ?_
    refine OL_yg rfl (by decide) rfl (y_loadS (v := .int .i64 r.state) ti3 rfl rfl (Cells.unit (H.getOwn 1 rfl) rfl)) (by decide) ?_
    refine OL_yg rfl (by decide) rfl (y_fieldAddr ti33 rfl ti3 rfl h7) (by decide) ?_
    refine OL_yg rfl (by decide) rfl (y_loadS (v := .int .i64 r.state) ti3 rfl rfl (Cells.unit (H.getOwn 0 rfl) rfl)) (by decide) ?_
    refine OL_yg rfl (by decide) rfl (y_neq0 rfl rfl) (by decide) ?_
    refine OL_y (y_pick (b := false) (v := .bool false) rfl rfl) (by decide) ?_
    refine OL_y (y_move rfl) (by decide) ?_
    refine OL_yg rfl (by decide) rfl (y_fieldAddr ti33 rfl ti26 rfl h6) (by decide) ?_
    refine OL_yg rfl (by decide) rfl (y_loadS (v := .int .u64 r.start) ti26 rfl rfl (Cells.unit (H.getOwn 1 rfl) rfl)) (by decide) ?_
    refine OL_yg rfl (by decide) rfl (y_fieldAddr ti33 rfl ti26 rfl h7) (by decide) ?_
    refine OL_yg rfl (by decide) rfl (y_loadS (v := .int .u64 r.start) ti26 rfl rfl (Cells.unit (H.getOwn 0 rfl) rfl)) (by decide) ?_
    refine OL_yg rfl (by decide) rfl (y_neq0 rfl rfl) (by decide) ?_
    refine OL_y (y_pick (b := false) (v := .bool false) rfl rfl) (by decide) ?_
    refine OL_y (y_move rfl) (by decide) ?_
    refine OL_yg rfl (by decide) rfl (y_fieldAddr ti33 rfl ti26 rfl h6) (by decide) ?_
    refine OL_yg rfl (by decide) rfl (y_loadS (v := .int .u64 r.ts) ti26 rfl rfl (Cells.unit (H.getOwn 1 rfl) rfl)) (by decide) ?_
    refine OL_yg rfl (by decide) rfl (y_fieldAddr ti33 rfl ti26 rfl h7) (by decide) ?_
    refine OL_yg rfl (by decide) rfl (y_loadS (v := .int .u64 r.ts) ti26 rfl rfl (Cells.unit (H.getOwn 0 rfl) rfl)) (by decide) ?_
    refine OL_yg rfl (by decide) rfl (y_neq0 rfl rfl) (by decide) ?_
    refine OL_y (y_pick (b := false) (v := .bool false) rfl rfl) (by decide) ?_
    refine OL_y (y_move rfl) (by decide) ?_
    refine OL_yg rfl (by decide) rfl (y_fieldAddr ti33 rfl ti31 rfl h6) (by decide) ?_
    refine OL_yg rfl (by decide) rfl (y_loadS (v := vp1) ti31 rfl rfl (Cells.unit (H.getOwn 1 rfl) rfl)) (by decide) ?_
    refine OL_yg rfl (by decide) rfl (y_len rfl ti31 hvp1) (by decide) ?_
    refine OL_yg rfl (by decide) rfl (y_fieldAddr ti33 rfl ti31 rfl h7) (by decide) ?_
    refine OL_yg rfl (by decide) rfl (y_loadS (v := vp2) ti31 rfl rfl (Cells.unit (H.getOwn 0 rfl) rfl)) (by decide) ?_
    refine OL_yg rfl (by decide) rfl (y_len rfl ti31 hvp2) (by decide) ?_
    refine OL_yg rfl (by decide) rfl (y_neq0 rfl rfl) (by decide) ?_
    refine OL_y (y_pick (b := false) (v := .bool false) rfl rfl) (by decide) ?_
    refine OL_nil ?_
    refine W_condf rfl ?_
    refine W_skip ?_
    refine W_seq ?_
    refine W_seq ?_
    refine W_region ?_
    refine OL_y (y_fieldAddr ti33 rfl ti31 rfl h6) (by decide) ?_
    refine OL_y (y_loadS (v := vp1) ti31 rfl rfl (Cells.unit (H.getOwn 1 rfl) rfl)) (by decide) ?_
    refine OL_y (y_len rfl ti31 hvp1) (by decide) ?_
    refine OL_y (y_move rfl) (by decide) ?_
    refine OL_nil ?_
    refine W_range (N := r.spans.length) (by omega) (fun j f ds w' => f 6 = .pointer (some ⟨b6, 0, none⟩) ∧ f 7 = .pointer (some ⟨b7, 0, none⟩) ∧ f 0 = .slice a0 xs.length c0 ∧ f 1 = .slice a1 xs.length c1 ∧ f 16 = .int .i64 k ∧ f 15 = .int .i64 xs.length ∧ ds = [] ∧
      Holds w' [own b7 (.cells #[.int .u64 r.txn, .int .i64 r.level, .int .i64 r.state, .int .u64 r.start, .int .u64 r.ts, vk2, vs2, vp2] 33), own b6 (.cells #[.int .u64 r.txn, .int .i64 r.level, .int .i64 r.state, .int .u64 r.start, .int .u64 r.ts, vk1, vs1, vp1] 33), shr (fun k => k < w.heap.size) w])
      ⟨h6, h7, h0, h1, h16, h15, rfl, H⟩ rfl rfl (by decide) (by decide) (by decide) rfl rfl ?_ rfl rfl ?_
    · rintro j f ds w3 hj ⟨h6, h7, h0, h1, h16, h15, rfl, H⟩ htj htm
      have hsj := List.getElem?_eq_getElem hj
      refine W_block ?_
      refine W_seq ?_
      refine W_region ?_
      refine OL_y (y_move htj) (by decide) ?_
      refine OL_y (y_assign rfl) (by decide) ?_
      refine OL_nil ?_
      refine W_seq ?_
      refine W_drawQ H mixed (by kernel_rfl) (by kernel_rfl) fun w4 H => ?_
      obtain ⟨b3, o3, cs3, e3, _, hc3, hr3⟩ := (hvp1 ▸ (hp1.keeps (H.keepsAll 2 rfl _)) : SlR tSp 48 Z w4 (.slice ap1 r.spans.length cp1) r.spans).at hsj
      obtain ⟨b4, o4, cs4, e4, _, hc4, hr4⟩ := (hvp2 ▸ (hp2.keeps (H.keepsAll 2 rfl _)) : SlR tSp 48 Z' w4 (.slice ap2 r.spans.length cp2) r.spans).at hsj
      obtain ⟨vl3, vh3, rfl, hl3, hh3⟩ := sp_cells.1 hr3
      obtain ⟨vl4, vh4, rfl, hl4, hh4⟩ := sp_cells.1 hr4
      refine QL_y (y_fieldAddr ti33 rfl ti31 rfl h6) (by decide) ?_
      refine QL_y (y_loadS (v := vp1) ti31 rfl rfl (Cells.unit (H.getOwn 1 rfl) rfl)) (by decide) ?_
      refine QL_y (y_move rfl) (by decide) ?_
      refine QL_y (y_indexAddr ti31 ti46 (hvp1.trans (congrArg (Value.slice · _ _) e3)) rfl (by omega) (by omega)) (by decide) ?_
      refine QL_y (y_fieldAddr ti46 rfl ti38 rfl rfl) (by decide) ?_
      refine QL_y (y_loadS (v := vl3) ti38 rfl rfl (Cells.take hc3 0 rfl)) (by decide) ?_
      refine QL_y (y_toStr Try.underlying38 Try.underlying5 Try.underlying9 rfl hl3) (by decide) ?_
      refine QL_y (y_fieldAddr ti33 rfl ti31 rfl h7) (by decide) ?_
      refine QL_y (y_loadS (v := vp2) ti31 rfl rfl (Cells.unit (H.getOwn 0 rfl) rfl)) (by decide) ?_
      refine QL_y (y_move rfl) (by decide) ?_
      refine QL_y (y_indexAddr ti31 ti46 (hvp2.trans (congrArg (Value.slice · _ _) e4)) rfl (by omega) (by omega)) (by decide) ?_
      refine QL_y (y_fieldAddr ti46 rfl ti38 rfl rfl) (by decide) ?_
      refine QL_y (y_loadS (v := vl4) ti38 rfl rfl (Cells.take hc4 0 rfl)) (by decide) ?_
      refine QL_y (y_toStr Try.underlying38 Try.underlying5 Try.underlying9 rfl hl4) (by decide) ?_
      refine QL_y (y_neqS0 rfl rfl) (by decide) ?_
      refine QL_y (y_move rfl) (by decide) ?_
      refine QL_yg rfl (by decide) rfl (y_fieldAddr ti33 rfl ti31 rfl h6) (by decide) ?_
      refine QL_yg rfl (by decide) rfl (y_loadS (v := vp1) ti31 rfl rfl (Cells.unit (H.getOwn 1 rfl) rfl)) (by decide) ?_
      refine QL_yg rfl (by decide) rfl (y_move rfl) (by decide) ?_
      refine QL_yg rfl (by decide) rfl (y_indexAddr ti31 ti46 (hvp1.trans (congrArg (Value.slice · _ _) e3)) rfl (by omega) (by omega)) (by decide) ?_
      refine QL_yg rfl (by decide) rfl (y_fieldAddr ti46 rfl ti38 rfl rfl) (by decide) ?_
      refine QL_yg rfl (by decide) rfl (y_loadS (v := vh3) ti38 rfl rfl (Cells.take hc3 1 rfl)) (by decide) ?_
      refine QL_yg rfl (by decide) rfl (y_toStr Try.underlying38 Try.underlying5 Try.underlying9 rfl hh3) (by decide) ?_
      refine QL_yg rfl (by decide) rfl (y_fieldAddr ti33 rfl ti31 rfl h7) (by decide) ?_
      refine QL_yg rfl (by decide) rfl (y_loadS (v := vp2) ti31 rfl rfl (Cells.unit (H.getOwn 0 rfl) rfl)) (by decide) ?_
      refine QL_yg rfl (by decide) rfl (y_move rfl) (by decide) ?_
      refine QL_yg rfl (by decide) rfl (y_indexAddr ti31 ti46 (hvp2.trans (congrArg (Value.slice · _ _) e4)) rfl (by omega) (by omega)) (by decide) ?_
      refine QL_yg rfl (by decide) rfl (y_fieldAddr ti46 rfl ti38 rfl rfl) (by decide) ?_
      refine QL_yg rfl (by decide) rfl (y_loadS (v := vh4) ti38 rfl rfl (Cells.take hc4 1 rfl)) (by decide) ?_
      refine QL_yg rfl (by decide) rfl (y_toStr Try.underlying38 Try.underlying5 Try.underlying9 rfl hh4) (by decide) ?_
      refine QL_yg rfl (by decide) rfl (y_neqS0 rfl rfl) (by decide) ?_
      refine QL_y (y_pick (b := false) (v := .bool false) rfl rfl) (by decide) ?_
      refine QL_nil ?_
      refine W_condf rfl ?_
      refine W_skip ?_
      exact ⟨htj, htm, h6, h7, h0, h1, h16, h15, rfl, H⟩
    · rintro f ds w3 ⟨h6, h7, h0, h1, h16, h15, rfl, H⟩ htj htm
      have hE := H.ext_of 2 rfl
      refine W_seq ?_
      refine W_region ?_
      refine OL_y (y_fieldAddr ti33 rfl ti29 rfl h6) (by decide) ?_
      refine OL_y (y_loadS (v := vk1) ti29 rfl rfl (Cells.unit (H.getOwn 1 rfl) rfl)) (by decide) ?_
      refine OL_y (y_fieldAddr ti33 rfl ti29 rfl h7) (by decide) ?_
      refine OL_y (y_loadS (v := vk2) ti29 rfl rfl (Cells.unit (H.getOwn 0 rfl) rfl)) (by decide) ?_
      refine OL_c (op_call 17 en17 rfl [vk1, vk2] rfl (by decide) ((f17_same (hk1.keeps hE.keeps0) (hk2.keeps hE.keeps0)).mono ?_))
      rintro e w4 ⟨rfl, hE4⟩
      refine ⟨_, rfl, ?_⟩
      have H := H.ext0 hE4
      have hE := H.ext_of 2 rfl
      refine OL_y (y_not rfl) (by decide) ?_
      refine OL_y (y_move rfl) (by decide) ?_
      refine OL_yg rfl (by decide) rfl (y_fieldAddr ti33 rfl ti30 rfl h6) (by decide) ?_
      refine OL_yg rfl (by decide) rfl (y_loadS (v := vs1) ti30 rfl rfl (Cells.unit (H.getOwn 1 rfl) rfl)) (by decide) ?_
      refine OL_yg rfl (by decide) rfl (y_fieldAddr ti33 rfl ti30 rfl h7) (by decide) ?_
      refine OL_yg rfl (by decide) rfl (y_loadS (v := vs2) ti30 rfl rfl (Cells.unit (H.getOwn 0 rfl) rfl)) (by decide) ?_
      refine OL_g rfl (by decide) rfl (op_call 25 en25 rfl [vs1, vs2] rfl (by decide) ((f25_same (hs1.keeps hE.keeps0) (hs2.keeps hE.keeps0)).mono ?_))
      rintro e w5 ⟨rfl, hE5⟩
      refine ⟨_, rfl, ?_⟩
      have H := H.ext0 hE5
      refine OL_yg rfl (by decide) rfl (y_not rfl) (by decide) ?_
      refine OL_y (y_pick (b := false) (v := .bool false) rfl rfl) (by decide) ?_
      refine OL_nil ?_
      refine W_condf rfl ?_
      refine W_skip ?_
      exact ⟨h16, h15, h0, h1, rfl, H.tail.tail⟩
  · rintro f ds w1 ⟨h0, h1, rfl, H⟩ hti htn
    refine W_seq ?_
    refine W_region ?_
    refine OL_y (y_assign rfl) (by decide) ?_
    refine OL_nil ?_
    refine W_ret ?_
    show RetOK _ _ _ _ _ _
    exact ret1 (v := .bool true) Try.results14 rfl ⟨rfl, H.ext_of 0 rfl⟩
end Go.Proofs.Ytelgegodeifbiaa
