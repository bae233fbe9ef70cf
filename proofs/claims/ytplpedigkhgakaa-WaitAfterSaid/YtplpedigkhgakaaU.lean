/- The law WaitJust: a cycle is told just where the begin comes back to itself; it begins there; each step is an edge. -/
import Derived.Test.YtplpedigkhgakaaH
import Derived.Test.YtplpedigkhgakaaQ
import Derived.Test.YtplpedigkhgakaaWkf
namespace Go.Proofs.Ytplpedigkhgakaa
open Go Go.Wk Pl
set_option linter.unusedVariables false

theorem reach_iff (xs : List E) (fr to : Int) : to ∈ (walkE xs fr).map (·.2) ↔ to ∈ (refWalk xs fr).map (·.1) := by
  have : (walkE xs fr).map (·.2) = (refWalk xs fr).map (·.1) := by simp [walkE, ed]
  rw [this]
theorem cycle_pos {xs : List E} {fr : Int} (h : fr ∈ (refWalk xs fr).map (·.1)) : 0 < (refCycle xs fr).length := by
  have := (cycle_way h).2
  cases hc : refCycle xs fr with
  | nil => rw [hc] at this; simp at this
  | cons a l => simp
theorem cycle_mem {xs : List E} {fr : Int} (h : 0 < (refCycle xs fr).length) : fr ∈ (refWalk xs fr).map (·.1) := by
  by_cases hm : fr ∈ (refWalk xs fr).map (·.1)
  · exact hm
  · rw [cycle_nil hm] at h; simp at h
theorem cycle_head {xs : List E} {fr : Int} (h : 0 < (refCycle xs fr).length) : (refCycle xs fr)[0]? = some fr := by
  have := (cycle_way (cycle_mem h)).2
  rwa [List.head?_eq_getElem?] at this
theorem cycle_edge {xs : List E} {fr : Int} {i : Nat} {x y : Int} (hx : (refCycle xs fr)[i]? = some x) (hy : (refCycle xs fr)[(i + 1) % (refCycle xs fr).length]? = some y) : (x, y) ∈ xs := by
  have hi := (List.getElem?_eq_some_iff.1 hx).1
  have hw := (cycle_way (cycle_mem (show 0 < (refCycle xs fr).length by omega))).1
  by_cases hl : i + 1 < (refCycle xs fr).length
  · rw [Nat.mod_eq_of_lt hl] at hy
    exact hw.step i x y hx hy
  · have he : i + 1 = (refCycle xs fr).length := by omega
    rw [he, Nat.mod_self, cycle_head (by omega)] at hy
    injection hy with hy; subst hy
    refine hw.last x ?_
    rw [List.getLast?_eq_getElem?, ← he]
    exact hx

theorem y_neq_same {f : Fr} {w : World} {d t' ty : Nat} {p : String} {af : Array Edge} {g : Option (Nat × Bool)} {x y : Operand} (b : Bool) (hx : ev f x = .bool b) (hy : ev f y = .bool b) : Yd Try.prog ⟨some d, .binOp .neq 4 x y t', ty, p, af, g⟩ f w (.bool false) := by
  have := y_neqB (P := Try.prog) (w := w) (d := d) (t' := t') (ty := ty) (p := p) (af := af) (g := g) Try.underlying4 hx hy
  rwa [bne_self_eq_false] at this

set_option maxHeartbeats 2000000 in
theorem f6_calls {Z : Nat → Prop} {w : World} {a : Value} {xs : List E} {fr : Int} (hx : SlR tE 16 Z w a xs) (hfr : InK .u64 fr) :
    Calls Try.prog 6 [a, .int .u64 fr].toArray w fun e w' => e = .returned (.bool true) ∧ Ext none' w w' := by
  have H := Holds.start w
  obtain ⟨a0, c0, rfl, hl0, hm0⟩ := hx.len
  refine calls_of_W' Try.func6 rfl Try.ntmps6 rfl ?_
  refine W_seq ?_
  refine W_region ?_
  refine OL_y (y_assign rfl) (by decide) ?_
  refine OL_nil ?_
  refine W_seq ?_
  refine W_seq ?_
  refine W_region ?_
  refine OL_c (op_call 7 en7 rfl [] rfl (by decide) (f7_calls.mono ?_))
  rintro e w1 ⟨rfl, hE1⟩
  refine ⟨_, rfl, ?_⟩
  refine OL_y (y_not rfl) (by decide) ?_
  refine OL_nil ?_
  refine W_condf rfl ?_
  refine W_skip ?_
  have H := H.ext0 hE1
  have hx1 := hx.keeps (H.keepsAll 0 rfl _)
  refine W_seq ?_
  refine W_seq ?_
  refine W_region ?_
  refine OL_y (y_move rfl) (by decide) ?_
  refine OL_y (y_len rfl ti22 rfl) (by decide) ?_
  refine OL_y (y_gtr rfl rfl) (by decide) ?_
  refine OL_nil ?_
  refine W_cond rfl (fun hc => ?_) (fun hc => ?_)
  · refine W_seq ?_
    refine W_region ?_
    refine OL_y (y_assign rfl) (by decide) ?_
    refine OL_nil ?_
    refine W_ret ?_
    show RetOK _ _ _ _ _ _
    exact ret1 (v := .bool true) Try.results6 rfl ⟨rfl, H.ext_of 0 rfl⟩
  have h40 : xs.length ≤ 40 := by simp at hc; omega
  refine W_skip ?_
  refine W_seq ?_
  refine W_region ?_
  refine OL_y (y_move rfl) (by decide) ?_
  refine OL_y (y_move rfl) (by decide) ?_
  refine OL_c (op_call 9 en9 rfl [.slice a0 xs.length c0, .int .u64 fr] rfl (by decide) ((f9_calls hx1 hfr h40).mono ?_))
  rintro e w2 ⟨v2, rfl, hv2, hE2⟩
  refine ⟨_, rfl, ?_⟩
  have H := H.addNew hE2
  have hx2 := hx1.keeps hE2.keeps0
  obtain ⟨a2, c2, rfl, hl2, hm2⟩ := hv2.len
  have hcl := cycle_len xs fr
  refine OL_y (y_assign rfl) (by decide) ?_
  refine OL_nil ?_
  refine W_seq ?_
  refine W_seq (W_cut (fun f ds w' => f 0 = .slice a0 xs.length c0 ∧ f 5 = .slice a2 (refCycle xs fr).length c2 ∧ f 38 = .bool false ∧ ds = [] ∧ Holds w' [shr (fun k => w1.heap.size ≤ k ∧ k < w2.heap.size) w2, shr (fun k => k < w.heap.size) w]) ?_ ?_)
  · refine W_region ?_
    refine OL_y (y_move rfl) (by decide) ?_
    refine OL_y (y_len rfl ti26 rfl) (by decide) ?_
    refine OL_y (y_gtr rfl rfl) (by decide) ?_
    refine OL_y (y_move rfl) (by decide) ?_
    refine OL_y (y_move rfl) (by decide) ?_
    refine OL_y (y_move rfl) (by decide) ?_
    refine OL_c (op_call 12 en12 rfl [.slice a0 xs.length c0, .int .u64 fr, .int .u64 fr] rfl (by decide) ((f12_calls hx2 hfr h40).mono ?_))
    rintro e w3 ⟨rfl, hE3⟩
    refine ⟨_, rfl, ?_⟩
    have H := H.ext0 hE3
    by_cases hm : fr ∈ (refWalk xs fr).map (·.1)
    · have hp := cycle_pos hm
      have hb : decide (((refCycle xs fr).length : Int) > 0) = true := decide_eq_true (by omega)
      rw [decide_eq_true ((reach_iff xs fr fr).2 hm)]
      refine OL_y (y_neq_same true (show _ = Value.bool true by rw [← hb]; rfl) rfl) (by decide) ?_
      refine OL_y (y_move rfl) (by decide) ?_
      refine OL_yg rfl (by decide) rfl (y_move rfl) (by decide) ?_
      refine OL_yg rfl (by decide) rfl (y_len rfl ti26 rfl) (by decide) ?_
      refine OL_yg rfl (by decide) rfl (y_gtr rfl rfl) (by decide) ?_
      refine OL_yg rfl (by decide) rfl (y_move rfl) (by decide) ?_
      obtain ⟨b1, o1, cs1, rfl, hz1, hc1, rfl, _⟩ := (hv2.keeps hE3.keeps0).at (cycle_head hp)
      refine OL_yg rfl (by decide) (show _ = Value.bool true by simp only [← hb]; rfl) (y_move rfl) (by decide) ?_
      refine OL_yg rfl (by decide) (show _ = Value.bool true by simp only [← hb]; rfl) (y_indexAddr ti26 ti23 rfl rfl (by decide) (by omega)) (by decide) ?_
      refine OL_yg rfl (by decide) (show _ = Value.bool true by simp only [← hb]; rfl) (y_loadS (v := .int .u64 fr) ti23 rfl rfl hc1) (by decide) ?_
      refine OL_yg rfl (by decide) (show _ = Value.bool true by simp only [← hb]; rfl) (y_move rfl) (by decide) ?_
      refine OL_yg rfl (by decide) (show _ = Value.bool true by simp only [← hb]; rfl) (y_neq rfl rfl) (by decide) ?_
      rw [decide_eq_false (show ¬ (fr ≠ fr) from fun h => h rfl)]
      refine OL_yg rfl (by decide) rfl (y_pick (b := true) (v := .bool false) (show _ = Value.bool true by simp only [← hb]; rfl) rfl) (by decide) ?_
      refine OL_y (y_pick (b := false) (v := .bool false) rfl rfl) (by decide) ?_
      refine OL_nil ?_
      exact ⟨rfl, rfl, rfl, rfl, H⟩
    · have hn := cycle_nil hm
      have hb : decide (((refCycle xs fr).length : Int) > 0) = false := by rw [hn]; rfl
      rw [decide_eq_false (fun h => hm ((reach_iff xs fr fr).1 h))]
      refine OL_y (y_neq_same false (show _ = Value.bool false by rw [← hb]; rfl) rfl) (by decide) ?_
      refine OL_y (y_move rfl) (by decide) ?_
      refine OL_yg rfl (by decide) rfl (y_move rfl) (by decide) ?_
      refine OL_yg rfl (by decide) rfl (y_len rfl ti26 rfl) (by decide) ?_
      refine OL_yg rfl (by decide) rfl (y_gtr rfl rfl) (by decide) ?_
      refine OL_yg rfl (by decide) rfl (y_move rfl) (by decide) ?_
      refine OL_s rfl (by decide) (show _ = Value.bool false by simp only [← hb]; rfl) rfl (by simp) ?_
      refine OL_s rfl (by decide) (show _ = Value.bool false by simp only [← hb]; rfl) rfl (by simp) ?_
      refine OL_s rfl (by decide) (show _ = Value.bool false by simp only [← hb]; rfl) rfl (by simp) ?_
      refine OL_s rfl (by decide) (show _ = Value.bool false by simp only [← hb]; rfl) rfl (by simp) ?_
      refine OL_s rfl (by decide) (show _ = Value.bool false by simp only [← hb]; rfl) rfl (by simp) ?_
      refine OL_yg rfl (by decide) rfl (y_pick (b := false) (v := .bool false) (show _ = Value.bool false by simp only [← hb]; rfl) rfl) (by decide) ?_
      refine OL_y (y_pick (b := false) (v := .bool false) rfl rfl) (by decide) ?_
      refine OL_nil ?_
      exact ⟨rfl, rfl, rfl, rfl, H⟩
  rintro f ds w3 ⟨h0, h5, h38, rfl, H⟩
  refine W_condf h38 ?_
  refine W_skip ?_
  refine W_seq ?_
  refine W_seq ?_
  refine W_region ?_
  refine OL_y (y_move h5) (by decide) ?_
  refine OL_y (y_len rfl ti26 rfl) (by decide) ?_
  refine OL_y (y_move rfl) (by decide) ?_
  refine OL_nil ?_
  refine W_range (N := (refCycle xs fr).length) (by simp [maxLen]; omega) (fun k f ds w' => f 0 = .slice a0 xs.length c0 ∧ f 5 = .slice a2 (refCycle xs fr).length c2 ∧ ds = [] ∧ Holds w' [shr (fun k => w1.heap.size ≤ k ∧ k < w2.heap.size) w2, shr (fun k => k < w.heap.size) w])
    ⟨h0, h5, rfl, H⟩ rfl rfl (by decide) (by decide) (by decide) rfl rfl ?_ rfl rfl ?_
  · rintro k f ds w3 hk ⟨h0, h5, rfl, H⟩ hti htn
    have hik := List.getElem?_eq_getElem hk
    have hkm : (k + 1) % (refCycle xs fr).length < (refCycle xs fr).length := Nat.mod_lt _ (by omega)
    have hjk := List.getElem?_eq_getElem hkm
    generalize hX : (refCycle xs fr)[k] = x1 at hik
    generalize hY : (refCycle xs fr)[(k + 1) % (refCycle xs fr).length] = y1 at hjk
    have hedge := cycle_edge hik hjk
    obtain ⟨b1, o1, cs1, e1, hz1, hc1, rfl, _⟩ := (hv2.mono (Z' := fun k => w1.heap.size ≤ k ∧ k < w2.heap.size) fun k h1 h2 => ⟨h2, h1⟩).at hik
    obtain ⟨b2, o2, cs2, e2, hz2, hc2, rfl, _⟩ := (hv2.mono (Z' := fun k => w1.heap.size ≤ k ∧ k < w2.heap.size) fun k h1 h2 => ⟨h2, h1⟩).at hjk
    subst e1; injection e2 with e2; injection e2 with e2 e3 _; subst e2 e3
    refine W_block ?_
    refine W_seq ?_
    refine W_region ?_
    refine OL_y (y_move hti) (by decide) ?_
    refine OL_y (y_assign rfl) (by decide) ?_
    refine OL_nil ?_
    refine W_seq ?_
    refine W_drawD H mixed (by kernel_rfl) [] (fun w0 w' => Keeps (fun k => w1.heap.size ≤ k ∧ k < w2.heap.size) w2 w') fun w4 H hE => ?_
    have hS : Sx [] (fun w' => Keeps (fun k => w1.heap.size ≤ k ∧ k < w2.heap.size) w2 w') (List.replicate 15 false).toArray w4 := fun _ => H.keeps (i := 0) rfl
    refine DA_p 0 rfl (by kernel_rfl) rfl (fun _ => y_move h5) hS (by decide) fun hS => ?_
    refine DA_p 1 rfl (by kernel_rfl) rfl (fun _ => y_move rfl) hS (by decide) fun hS => ?_
    refine DA_p 2 rfl (by kernel_rfl) rfl (fun _ => y_indexAddr ti26 ti23 rfl rfl (by omega) (by omega)) hS (by decide) fun hS => ?_
    refine DA_y (v := .int .u64 x1) 3 rfl (by kernel_rfl) rfl (by kernel_rfl) (fun w' h => y_loadS ti23 rfl rfl (hc1.ext (h.2 _ hz1 hc1.lt))) hS (by decide) fun hS => ?_
    refine DA_p 4 rfl (by kernel_rfl) rfl (fun _ => y_move h5) hS (by decide) fun hS => ?_
    refine DA_p 5 rfl (by kernel_rfl) rfl (fun _ => y_move rfl) hS (by decide) fun hS => ?_
    refine DA_p 6 rfl (by kernel_rfl) rfl (fun _ => y_add64 (a := k) (b := 1) rfl rfl (by omega) (by omega)) hS (by decide) fun hS => ?_
    refine DA_p 7 rfl (by kernel_rfl) rfl (fun _ => y_move h5) hS (by decide) fun hS => ?_
    refine DA_p 8 rfl (by kernel_rfl) rfl (fun _ => y_len rfl ti26 rfl) hS (by decide) fun hS => ?_
    refine DA_p (v := .int .i64 (((k + 1) % (refCycle xs fr).length : Nat) : Int)) 9 rfl (by kernel_rfl) rfl (fun _ => y_rem64 (a := (k : Int) + 1) (b := (refCycle xs fr).length) rfl rfl (by omega) (by omega)) hS (by decide) fun hS => ?_
    refine DA_p 10 rfl (by kernel_rfl) rfl (fun _ => y_indexAddr ti26 ti23 rfl rfl (by omega) (by omega)) hS (by decide) fun hS => ?_
    refine DA_y (v := .int .u64 y1) 11 rfl (by kernel_rfl) rfl (by kernel_rfl) (fun w' h => y_loadS ti23 rfl rfl (hc2.ext (h.2 _ hz2 hc2.lt))) hS (by decide) fun hS => ?_
    refine DA_p 12 rfl (by kernel_rfl) rfl (fun _ => y_build (cells := #[.int .u64 x1, .int .u64 y1]) ti35 pl35 rfl) hS (by decide) fun hS => ?_
    refine DA_one 13 (by kernel_rfl) rfl (op_alloc H ti35 (by decide) fun b7 w5 H => ⟨fun _ => H.keeps (i := 1) rfl, ?_⟩)
    refine DA_one 14 (by kernel_rfl) rfl (op_store (v := .agg #[.int .u64 x1, .int .u64 y1]) H 0 rfl ti35 rfl rfl rfl (by decide) (by simp [Value.cells, Value.oneCell']) fun w6 H => ⟨fun _ => H.keeps (i := 1) rfl, ?_⟩)
    refine DA_done (by kernel_rfl) ?_
    have H : Holds w6 [own b7 (.cells #[.int .u64 x1, .int .u64 y1] 35), shr (fun k => w1.heap.size ≤ k ∧ k < w2.heap.size) w2, shr (fun k => k < w.heap.size) w] := H
    refine W_seq ?_
    refine W_region ?_
    refine OL_y (y_assign rfl) (by decide) ?_
    refine OL_nil ?_
    refine W_seq ?_
    refine W_seq ?_
    refine W_region ?_
    refine OL_y (y_move h0) (by decide) ?_
    refine OL_y (y_len rfl ti22 rfl) (by decide) ?_
    refine OL_y (y_move rfl) (by decide) ?_
    refine OL_nil ?_
    refine W_range (N := xs.length) (by omega) (fun j f ds w' => f 0 = .slice a0 xs.length c0 ∧ f 5 = .slice (some ⟨b1, o1, none⟩) (refCycle xs fr).length c2 ∧ f 7 = .pointer (some ⟨b7, 0, none⟩) ∧ f 8 = .bool (decide ((x1, y1) ∈ xs.take j)) ∧ f 57 = .slice a0 xs.length c0 ∧ f 41 = .int .i64 k ∧ f 40 = .int .i64 (refCycle xs fr).length ∧ ds = [] ∧ Holds w' [own b7 (.cells #[.int .u64 x1, .int .u64 y1] 35), shr (fun k => w1.heap.size ≤ k ∧ k < w2.heap.size) w2, shr (fun k => k < w.heap.size) w])
      ⟨h0, h5, rfl, rfl, rfl, hti, htn, rfl, H⟩ rfl rfl (by decide) (by decide) (by decide) rfl rfl ?_ rfl rfl ?_
    · rintro j f ds w7 hj ⟨h0, h5, h7, h8, h57, h41, h40', rfl, H⟩ htj htm
      have hxj := List.getElem?_eq_getElem hj
      obtain ⟨b3, o3, cs3, e3, hz3, hc3, hr3⟩ := (hx.keeps (H.keepsAll 2 rfl _)).at hxj
      obtain ⟨rfl, _⟩ := pair_cells hr3
      subst e3
      generalize xs[j] = e3 at hxj hc3
      obtain ⟨x3, y3⟩ := e3
      refine W_block ?_
      refine W_seq ?_
      refine W_region ?_
      refine OL_y (y_indexAddr ti22 ti35 h57 htj (by omega) (by omega)) (by decide) ?_
      refine OL_y (y_loadA ti35 rfl rfl hc3 rfl) (by decide) ?_
      refine OL_var H ti35 rfl (by decide) (fun _ => rfl) rfl (by simp [Value.cells, Value.oneCell']) fun b10 w8 H => ?_
      refine OL_nil ?_
      have htk : xs.take (j + 1) = xs.take j ++ [(x3, y3)] := by rw [List.take_add_one, hxj]; rfl
      by_cases hin : (x1, y1) ∈ xs.take j
      · rw [decide_eq_true hin] at h8
        refine W_region ?_
        refine OL_y (y_move h8) (by decide) ?_
        refine OL_y (y_move rfl) (by decide) ?_
        refine OL_s rfl (by decide) rfl rfl (by simp) ?_
        refine OL_s rfl (by decide) rfl rfl (by simp) ?_
        refine OL_s rfl (by decide) rfl rfl (by simp) ?_
        refine OL_y (y_pick (b := true) rfl rfl) (by decide) ?_
        refine OL_y (y_assign rfl) (by decide) ?_
        refine OL_nil ?_
        exact ⟨htj, htm, h0, h5, h7, by rw [decide_eq_true (show (x1, y1) ∈ xs.take (j + 1) by rw [htk]; exact List.mem_append_left _ hin)]; rfl, h57, h41, h40', rfl, H.tail⟩
      · rw [decide_eq_false hin] at h8
        refine W_region ?_
        refine OL_y (y_move h8) (by decide) ?_
        refine OL_y (y_move rfl) (by decide) ?_
        refine OL_yg rfl (by decide) rfl (y_loadA (cs := [.int .u64 x3, .int .u64 y3]) ti35 rfl rfl (Cells.of (H.getOwn 0 rfl) rfl) rfl) (by decide) ?_
        refine OL_yg rfl (by decide) rfl (y_loadA (cs := [.int .u64 x1, .int .u64 y1]) ti35 rfl h7 (Cells.of (H.getOwn 1 rfl) rfl) rfl) (by decide) ?_
        refine OL_yg rfl (by decide) rfl (y_eqlE rfl rfl) (by decide) ?_
        refine OL_y (y_pick (b := false) rfl rfl) (by decide) ?_
        refine OL_y (y_assign rfl) (by decide) ?_
        refine OL_nil ?_
        have hd : decide ((x1, y1) ∈ xs.take (j + 1)) = decide (x3 = x1 ∧ y3 = y1) := by
          rw [decide_eq_decide, htk, List.mem_append, List.mem_singleton, Prod.mk.injEq]
          exact ⟨fun h => (h.resolve_left hin).imp Eq.symm Eq.symm, fun h => .inr (h.imp Eq.symm Eq.symm)⟩
        exact ⟨htj, htm, h0, h5, h7, by rw [hd]; rfl, h57, h41, h40', rfl, H.tail⟩
    · rintro f ds w7 ⟨h0, h5, h7, h8, h57, h41, h40', rfl, H⟩ htj htm
      rw [List.take_length, decide_eq_true hedge] at h8
      refine W_seq ?_
      refine W_region ?_
      refine OL_y (y_move h8) (by decide) ?_
      refine OL_y (y_not rfl) (by decide) ?_
      refine OL_nil ?_
      refine W_condf rfl ?_
      refine W_skip ?_
      exact ⟨h41, h40', h0, h5, rfl, H.tail⟩
  · rintro f ds w' ⟨h0, h5, rfl, H⟩ hti htn
    refine W_seq ?_
    refine W_region ?_
    refine OL_y (y_assign rfl) (by decide) ?_
    refine OL_nil ?_
    refine W_ret ?_
    show RetOK _ _ _ _ _ _
    exact ret1 (v := .bool true) Try.results6 rfl ⟨rfl, H.ext_of 1 rfl⟩
end Go.Proofs.Ytplpedigkhgakaa
