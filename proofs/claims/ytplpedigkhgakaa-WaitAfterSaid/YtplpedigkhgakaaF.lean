/- The reference's After and Cycle. -/
import Derived.Test.YtplpedigkhgakaaB
namespace Go.Proofs.Ytplpedigkhgakaa
open Go Go.Wk Pl
set_option linter.unusedVariables false

theorem refWalk_len (xs : List E) (fr : Int) : (refWalk xs fr).length ≤ xs.length := by
  have hg := refWalk_good xs fr
  have := length_le_of_nodup _ _ hg.nd hg.sub
  simpa using this

set_option maxHeartbeats 1000000 in
theorem f11_calls {Z : Nat → Prop} {w : World} {a : Value} {xs : List E} {fr : Int} (hx : SlR tE 16 Z w a xs) (hfr : InK .u64 fr) (h40 : xs.length ≤ 40) :
    Calls Try.prog 11 [a, .int .u64 fr].toArray w fun e w' => ∃ v, e = .returned v ∧ SlR (tInt .u64) 8 (fun k => w.heap.size ≤ k) w' v ((refWalk xs fr).map (·.1)) ∧ Ext none' w w' := by
  have H := Holds.start w
  have hlen := refWalk_len xs fr
  refine calls_of_W' Try.func11 rfl Try.ntmps11 rfl ?_
  refine W_seq ?_
  refine W_region ?_
  refine OL_y (y_assign rfl) (by decide) ?_
  refine OL_nil ?_
  refine W_seq ?_
  refine W_region ?_
  refine OL_y (y_assign rfl) (by decide) ?_
  refine OL_nil ?_
  refine W_seq ?_
  refine W_seq ?_
  refine W_region ?_
  refine OL_y (y_move rfl) (by decide) ?_
  refine OL_y (y_move rfl) (by decide) ?_
  refine OL_c (op_call 16 en16 rfl [a, .int .u64 fr] rfl (by decide) ((f16_calls hx hfr h40).mono ?_))
  rintro e w1 ⟨v, rfl, hv, hE⟩
  refine ⟨_, rfl, ?_⟩
  obtain ⟨a1, c1, rfl, hl1, hm1⟩ := hv.len
  refine OL_y (y_len rfl ti41 rfl) (by decide) ?_
  refine OL_y (y_move rfl) (by decide) ?_
  refine OL_nil ?_
  have H := (H.addNew hE).rowNil 23 1
  refine W_range (N := (refWalk xs fr).length) (by simp [maxLen]; omega) (fun k f ds w' => ∃ v5 cs, f 5 = v5 ∧ f 10 = .slice a1 (refWalk xs fr).length c1 ∧ ds = [] ∧ Holds w' [row 23 1 v5 k cs, shr (fun k => w.heap.size ≤ k ∧ k < w1.heap.size) w1, shr (fun k => k < w.heap.size) w] ∧
    Els (tInt .u64) none' w cs (((refWalk xs fr).take k).map (·.1))) ⟨_, [], rfl, rfl, rfl, H, by simpa using Els.nil _ _ _⟩ rfl rfl (by decide) (by decide) (by decide) rfl rfl ?_ rfl rfl ?_
  · rintro k f ds w' hk ⟨v5, cs, h5, h10, rfl, H, he⟩ hti htn
    have hxk := List.getElem?_eq_getElem hk
    obtain ⟨b0, o0, cs0, e0, _, hc0, hr0⟩ := (hv.keeps (H.keepsNew 1 rfl)).at hxk
    obtain ⟨rfl, hr1, hr2⟩ := pair_cells hr0
    subst e0
    generalize hxs : (refWalk xs fr)[k] = x at hxk hc0 hr0 hr1 hr2
    obtain ⟨x1, x2⟩ := x
    refine W_block ?_
    refine W_seq ?_
    refine W_region ?_
    refine OL_y (y_indexAddr ti41 ti44 h10 hti (by omega) (by omega)) (by decide) ?_
    refine OL_y (y_loadA ti44 rfl rfl hc0 rfl) (by decide) ?_
    refine OL_var H ti44 rfl (by decide) (fun _ => rfl) rfl (by simp [Value.cells, Value.oneCell']) fun be w2 H => ?_
    refine OL_nil ?_
    refine W_region ?_
    refine OL_y (y_move h5) (by decide) ?_
    refine OL_y (y_fieldAddr ti44 rfl ti23 rfl rfl) (by decide) ?_
    refine OL_y (y_loadS ti23 rfl rfl (Cells.unit (H.getOwn 0 rfl) rfl)) (by decide) ?_
    refine OL_c (op_buildSlice H [.int .u64 x1] ti26 ti23 rfl rfl rfl (by simp [Value.cells]) rfl rfl (by decide) fun b w3 H => ?_)
    refine OL_c (op_append H 2 rfl rfl ti26 ti23 rfl rfl rfl rfl (Src.row (H.getRow 0 rfl)) rfl (by simp [Value.cells, Value.oneCell']) (by omega) (by simp [maxLen]; omega) (by decide) fun v5' w4 H => ?_)
    refine OL_y (y_assign rfl) (by decide) ?_
    refine OL_nil ?_
    have he2 : Els (tInt .u64) none' w (cs ++ [Value.int .u64 x1].flatMap fun v => v.cells.toList) (((refWalk xs fr).take k).map (·.1) ++ [x1]) := he.snoc ⟨rfl, hr1⟩
    exact ⟨hti, htn, v5', _, rfl, h10, rfl, H.tail.tail, by rw [List.take_add_one, hxk]; simpa using he2⟩
  · rintro f ds w' ⟨v5, cs, h5, h10, rfl, H, he⟩ hti htn
    rw [List.take_length] at he
    refine W_seq ?_
    refine W_region ?_
    refine OL_y (y_move h5) (by decide) ?_
    refine OL_y (y_assign rfl) (by decide) ?_
    refine OL_nil ?_
    refine W_ret ?_
    show RetOK _ _ _ _ _ _
    refine ret1 (v := v5) Try.results11 rfl ⟨v5, rfl, ?_, H.ext_of 2 rfl⟩
    exact SlR.ofRow (H.getRow 0 rfl) (by decide) (he.flat (tInt_flat _)) (H.fresh 0 2 rfl rfl) (by simp; omega)

set_option maxHeartbeats 1000000 in
theorem f10_calls {Z : Nat → Prop} {w : World} {a : Value} {xs : List E} {fr : Int} (hx : SlR tE 16 Z w a xs) (hfr : InK .u64 fr) (h40 : xs.length ≤ 40) :
    Calls Try.prog 10 [a, .int .u64 fr].toArray w fun e w' => ∃ v, e = .returned v ∧ SlR (tInt .u64) 8 (fun k => w.heap.size ≤ k) w' v (refCycle xs fr) ∧ Ext none' w w' := by
  have H := Holds.start w
  have hlen := refWalk_len xs fr
  refine calls_of_W' Try.func10 rfl Try.ntmps10 rfl ?_
  refine W_seq ?_
  refine W_region ?_
  refine OL_y (y_assign rfl) (by decide) ?_
  refine OL_nil ?_
  refine W_seq ?_
  refine W_region ?_
  refine OL_y (y_move rfl) (by decide) ?_
  refine OL_y (y_move rfl) (by decide) ?_
  refine OL_c (op_call 16 en16 rfl [a, .int .u64 fr] rfl (by decide) ((f16_calls hx hfr h40).mono ?_))
  rintro e w1 ⟨v, rfl, hv, hE⟩
  refine ⟨_, rfl, ?_⟩
  obtain ⟨a1, c1, rfl, hl1, hm1⟩ := hv.len
  refine OL_y (y_assign rfl) (by decide) ?_
  refine OL_nil ?_
  refine W_seq ?_
  refine W_region ?_
  refine OL_y (y_assign rfl) (by decide) ?_
  refine OL_nil ?_
  refine W_seq ?_
  refine W_region ?_
  refine OL_y (y_move rfl) (by decide) ?_
  refine OL_y (y_assign rfl) (by decide) ?_
  refine OL_nil ?_
  refine W_seq ?_
  refine W_seq ?_
  refine W_region ?_
  refine OL_y (y_move rfl) (by decide) ?_
  refine OL_y (y_len rfl ti41 rfl) (by decide) ?_
  refine OL_y (y_sub64 (a := (refWalk xs fr).length) (b := 1) rfl rfl (by omega) (by omega)) (by decide) ?_
  refine OL_y (y_assign rfl) (by decide) ?_
  refine OL_nil ?_
  have H := (H.addNew hE).rowNil 23 1
  refine W_block (W_loopN (fun j f ds w' => ∃ n v6 cs acc, f 1 = .int .u64 fr ∧ f 5 = .slice a1 (refWalk xs fr).length c1 ∧ f 6 = v6 ∧ f 7 = .int .u64 n ∧ f 8 = .int .i64 ((j : Int) - 1) ∧ ds = [] ∧ Holds w' [row 23 1 v6 acc.length cs, shr (fun k => w.heap.size ≤ k ∧ k < w1.heap.size) w1, shr (fun k => k < w.heap.size) w] ∧
    Els (tInt .u64) none' w cs acc ∧ j ≤ (refWalk xs fr).length ∧ scan fr ((refWalk xs fr).take j).reverse n acc = scan fr (refWalk xs fr).reverse fr [] ∧ acc.length + j ≤ (refWalk xs fr).length) (refWalk xs fr).length
    ⟨fr, .slice none 0 0, [], [], rfl, rfl, rfl, rfl, rfl, rfl, H, Els.nil _ _ _, Nat.le_refl _, by rw [List.take_length], by simp⟩ ?_)
  rintro j f ds w' ⟨n, v6, cs, acc, h1, h5, h6, h7, h8, rfl, H, he, hj, hs, hal⟩
  refine W_seq ?_
  refine W_seq ?_
  refine W_region ?_
  refine OL_y (y_move h8) (by decide) ?_
  refine OL_y (y_geq rfl rfl) (by decide) ?_
  refine OL_nil ?_
  refine W_cond rfl (fun hc => ?_) (fun hc => ?_)
  rotate_left
  · have hc := of_decide_eq_false hc
    obtain rfl : j = 0 := by omega
    refine W_exit ?_
    refine W_seq ?_
    refine W_region ?_
    refine OL_y (y_assign rfl) (by decide) ?_
    refine OL_nil ?_
    refine W_ret ?_
    show RetOK _ _ _ _ _ _
    have hnil : refCycle xs fr = [] := by unfold refCycle; rw [← hs]; rfl
    exact ret1 (v := .slice none 0 0) Try.results10 rfl ⟨_, rfl, by rw [hnil]; exact SlR.nil _ _ _ _, H.ext_of 2 rfl⟩
  have hc := of_decide_eq_true hc
  obtain ⟨j, rfl⟩ : ∃ j', j = j' + 1 := ⟨j - 1, by omega⟩
  have hjl : j < (refWalk xs fr).length := by omega
  have e8 : ((j + 1 : Nat) : Int) - 1 = (j : Int) := by omega
  rw [e8] at h8
  rw [take_succ' _ _ hjl] at hs
  simp only [scan] at hs
  have hxk := List.getElem?_eq_getElem hjl
  obtain ⟨b0, o0, cs0, e0, _, hc0, hr0⟩ := (hv.keeps (H.keepsNew 1 rfl)).at hxk
  obtain ⟨rfl, hr1, hr2⟩ := pair_cells hr0
  subst e0
  generalize hxs : (refWalk xs fr)[j] = x at hxk hc0 hr0 hr1 hr2 hs
  obtain ⟨x1, x2⟩ := x
  have fin : ∀ (f : Fr) (w' : World) (n : Int) (v6 : Value) (cs : List Value) (acc : List Int), f 1 = .int .u64 fr → f 5 = .slice (some ⟨b0, o0, none⟩) (refWalk xs fr).length c1 → f 6 = v6 → f 7 = .int .u64 n → f 8 = .int .i64 (j : Int) → Holds w' [row 23 1 v6 acc.length cs, shr (fun k => w.heap.size ≤ k ∧ k < w1.heap.size) w1, shr (fun k => k < w.heap.size) w] →
      Els (tInt .u64) none' w cs acc → scan fr ((refWalk xs fr).take j).reverse n acc = scan fr (refWalk xs fr).reverse fr [] → acc.length + j ≤ (refWalk xs fr).length →
      W Try.prog none 40 (.region 6 #[⟨some 18, .move (.tmp 8), 3, "ref.go:232", #[], none⟩, ⟨some 19, .binOp .sub 3 (.tmp 18) (.const (.int .i64 1)) 3, 3, "ref.go:232", #[{ on := 0, ground := .data }], none⟩, ⟨some 8, .assign (.tmp 19), 3, "ref.go:232", #[{ on := 1, ground := .data }, { on := 0, ground := .phase }, { on := 1, ground := .phase }], none⟩] false)
        (thenQ (fun f ds w' => ∃ j', j' < j + 1 ∧ ∃ n v6 cs acc, f 1 = .int .u64 fr ∧ f 5 = .slice (some ⟨b0, o0, none⟩) (refWalk xs fr).length c1 ∧ f 6 = v6 ∧ f 7 = .int .u64 n ∧ f 8 = .int .i64 ((j' : Int) - 1) ∧ ds = [] ∧ Holds w' [row 23 1 v6 acc.length cs, shr (fun k => w.heap.size ≤ k ∧ k < w1.heap.size) w1, shr (fun k => k < w.heap.size) w] ∧
          Els (tInt .u64) none' w cs acc ∧ j' ≤ (refWalk xs fr).length ∧ scan fr ((refWalk xs fr).take j').reverse n acc = scan fr (refWalk xs fr).reverse fr [] ∧ acc.length + j' ≤ (refWalk xs fr).length) (fun _ _ _ _ => False)) f [] w' := by
    intro f w' n v6 cs acc h1 h5 h6 h7 h8 H he hs hal
    refine W_region ?_
    refine OL_y (y_move h8) (by decide) ?_
    refine OL_y (y_sub64 (a := (j : Int)) (b := 1) rfl rfl (by omega) (by omega)) (by decide) ?_
    refine OL_y (y_assign rfl) (by decide) ?_
    refine OL_nil ?_
    exact ⟨j, by omega, n, v6, cs, acc, h1, h5, h6, h7, rfl, rfl, H, he, by omega, hs, hal⟩
  have toQ : ∀ {Q : PQ} {f : Fr} {w' : World} {K : PK}, W Try.prog none 40 (.region 6 #[⟨some 18, .move (.tmp 8), 3, "ref.go:232", #[], none⟩, ⟨some 19, .binOp .sub 3 (.tmp 18) (.const (.int .i64 1)) 3, 3, "ref.go:232", #[{ on := 0, ground := .data }], none⟩, ⟨some 8, .assign (.tmp 19), 3, "ref.go:232", #[{ on := 1, ground := .data }, { on := 0, ground := .phase }, { on := 1, ground := .phase }], none⟩] false)
      (thenQ K (fun _ _ _ _ => False)) f [] w' → W Try.prog none 40 (.region 6 #[⟨some 18, .move (.tmp 8), 3, "ref.go:232", #[], none⟩, ⟨some 19, .binOp .sub 3 (.tmp 18) (.const (.int .i64 1)) 3, 3, "ref.go:232", #[{ on := 0, ground := .data }], none⟩, ⟨some 8, .assign (.tmp 19), 3, "ref.go:232", #[{ on := 1, ground := .data }, { on := 0, ground := .phase }, { on := 1, ground := .phase }], none⟩] false)
      (thenQ K Q) f [] w' := fun h => W_mono h fun e f ds w q => by cases e <;> first | exact q | exact q.elim
  refine W_skip ?_
  refine W_seq ?_
  refine W_block ?_
  refine W_seq ?_
  refine W_region ?_
  refine OL_y (y_move h5) (by decide) ?_
  refine OL_y (y_move h8) (by decide) ?_
  refine OL_y (y_indexAddr ti41 ti44 rfl rfl (by omega) (by omega)) (by decide) ?_
  refine OL_y (y_fieldAddr ti44 rfl ti23 rfl rfl) (by decide) ?_
  refine OL_y (y_loadS (v := .int .u64 x1) ti23 rfl rfl (hc0.take 0 rfl)) (by decide) ?_
  refine OL_y (y_move h7) (by decide) ?_
  refine OL_y (y_eql rfl rfl) (by decide) ?_
  refine OL_nil ?_
  refine W_cond rfl (fun hc2 => ?_) (fun hc2 => ?_)
  rotate_left
  · have hne : x1 ≠ n := of_decide_eq_false hc2
    rw [if_neg hne] at hs
    refine W_skip ?_
    exact toQ (fin _ _ n v6 cs acc h1 h5 h6 h7 h8 H he hs (by omega))
  have hne : x1 = n := of_decide_eq_true hc2
  rw [if_pos hne] at hs
  refine W_seq ?_
  refine W_region ?_
  refine OL_y (y_move h5) (by decide) ?_
  refine OL_y (y_move h8) (by decide) ?_
  refine OL_y (y_indexAddr ti41 ti44 rfl rfl (by omega) (by omega)) (by decide) ?_
  refine OL_y (y_fieldAddr ti44 rfl ti23 rfl rfl) (by decide) ?_
  refine OL_y (y_loadS (v := .int .u64 x2) ti23 rfl rfl (by exact hc0.take 1 rfl)) (by decide) ?_
  refine OL_y (y_assign rfl) (by decide) ?_
  refine OL_nil ?_
  refine W_seq ?_
  refine W_region ?_
  refine OL_y (y_move rfl) (by decide) ?_
  refine OL_c (op_buildSlice H [.int .u64 x2] ti26 ti23 rfl rfl rfl (by simp [Value.cells]) rfl rfl (by decide) fun b w3 H => ?_)
  refine OL_y (y_move h6) (by decide) ?_
  refine OL_c (op_append H 0 rfl rfl ti26 ti23 rfl rfl rfl rfl (Src.row (H.getRow 1 rfl)) ?_ ?_ (by omega) (by simp [maxLen]; omega) (by decide) fun v6' w4 H => ?_)
  · exact (H.getRow 1 rfl).1
  · exact he.one (by decide)
  refine OL_y (y_assign rfl) (by decide) ?_
  refine OL_nil ?_
  have he2 : Els (tInt .u64) none' w ([Value.int .u64 x2] ++ cs) ([x2] ++ acc) := (show Els (tInt .u64) none' w [Value.int .u64 x2] [x2] from (Els.nil (tInt .u64) none' w).snoc ⟨rfl, hr2⟩).append he
  have H2 : Holds w4 [row 23 1 v6' ([x2] ++ acc).length ([Value.int .u64 x2] ++ cs), shr (fun k => w.heap.size ≤ k ∧ k < w1.heap.size) w1, shr (fun k => k < w.heap.size) w] := by
    have := H.sub (L' := [row 23 1 v6' (1 + acc.length) ([Value.int .u64 x2] ++ cs), shr (fun k => w.heap.size ≤ k ∧ k < w1.heap.size) w1, shr (fun k => k < w.heap.size) w]) (.cons_cons _ (.cons _ (.refl _)))
    rw [List.length_append]; exact this
  refine W_seq ?_
  refine W_region ?_
  refine OL_y (y_move rfl) (by decide) ?_
  refine OL_y (y_move h1) (by decide) ?_
  refine OL_y (y_eql rfl rfl) (by decide) ?_
  refine OL_nil ?_
  refine W_cond rfl (fun hc3 => ?_) (fun hc3 => ?_)
  · have hf : x2 = fr := of_decide_eq_true hc3
    rw [if_pos hf] at hs
    have hcy : refCycle xs fr = [x2] ++ acc := by unfold refCycle; rw [← hs]; rfl
    refine W_seq ?_
    refine W_region ?_
    refine OL_y (y_move rfl) (by decide) ?_
    refine OL_y (y_assign rfl) (by decide) ?_
    refine OL_nil ?_
    refine W_ret ?_
    show RetOK _ _ _ _ _ _
    refine ret1 (v := v6') Try.results10 rfl ⟨v6', rfl, ?_, H2.ext_of 2 rfl⟩
    rw [hcy]
    exact SlR.ofRow (H2.getRow 0 rfl) (by decide) (he2.flat (tInt_flat _)) (H2.fresh 0 2 rfl rfl) (by simp; omega)
  · have hf : x2 ≠ fr := of_decide_eq_false hc3
    rw [if_neg hf] at hs
    refine W_skip ?_
    exact toQ (fin _ _ x2 v6' _ ([x2] ++ acc) h1 h5 rfl rfl h8 H2 he2 hs (by simp; omega))
end Go.Proofs.Ytplpedigkhgakaa
