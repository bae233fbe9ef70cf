/- Two runs held against each other, by the times of their commits, then by their numbers. -/
import Derived.Test.YtelgegodeifbiaaC
import Derived.Test.YtelgegodeifbiaaWkj
namespace Go.Proofs.Ytelgegodeifbiaa
open Go Go.Wk Pl
set_option linter.unusedVariables false

def cmp2 (a b : Int) : Int := if a < b then -1 else if a > b then 1 else 0
def cmpR (x y : Rn) : Int := if cmp2 x.ts y.ts ≠ 0 then cmp2 x.ts y.ts else cmp2 x.txn y.txn

theorem f39_calls {w : World} {a : Int} : Calls Try.prog 39 [.int .u64 a].toArray w fun e w' => e = .returned (.bool false) ∧ Ext none' w w' := by
  have H := Holds.start w
  refine calls_of_W' Try.func39 rfl Try.ntmps39 rfl ?_
  refine W_seq ?_
  refine W_region ?_
  refine OL_y (v := .bool false) (y_assign rfl) (by decide) ?_
  refine OL_nil ?_
  refine W_seq ?_
  refine W_region ?_
  refine OL_y (y_move rfl) (by decide) ?_
  refine OL_y (y_move rfl) (by decide) ?_
  refine OL_y (v := .bool false) (y_neqF (rfl : a = a) rfl rfl) (by decide) ?_
  refine OL_y (v := .bool false) (y_assign rfl) (by decide) ?_
  refine OL_nil ?_
  refine W_ret ?_
  show RetOK _ _ _ _ _ _
  exact ret1 (v := .bool false) Try.results39 rfl ⟨rfl, H.ext_of 0 rfl⟩
theorem f32_calls {w : World} {a b : Int} : Calls Try.prog 32 [.int .u64 a, .int .u64 b].toArray w fun e w' => e = .returned (.int .i64 (cmp2 a b)) ∧ Ext none' w w' := by
  have H := Holds.start w
  refine calls_of_W' Try.func32 rfl Try.ntmps32 rfl ?_
  refine W_seq ?_
  refine W_region ?_
  refine OL_y (y_assign rfl) (by decide) ?_
  refine OL_nil ?_
  refine W_seq ?_
  refine W_region ?_
  refine OL_y (y_move rfl) (by decide) ?_
  refine OL_c (op_call 39 en39 rfl [.int .u64 a] rfl (by decide) ((f39_calls).mono ?_))
  rintro e w1_1 ⟨rfl, hE⟩
  refine ⟨_, rfl, ?_⟩
  have H := H.ext0 hE
  refine OL_y (v := .bool false) (y_assign rfl) (by decide) ?_
  refine OL_nil ?_
  refine W_seq ?_
  refine W_region ?_
  refine OL_y (y_move rfl) (by decide) ?_
  refine OL_c (op_call 39 en39 rfl [.int .u64 b] rfl (by decide) ((f39_calls).mono ?_))
  rintro e w2_1 ⟨rfl, hE⟩
  refine ⟨_, rfl, ?_⟩
  have H := H.ext0 hE
  refine OL_y (v := .bool false) (y_assign rfl) (by decide) ?_
  refine OL_nil ?_
  refine W_seq ?_
  refine W_seq ?_
  refine W_region ?_
  refine OL_y (v := .bool false) (y_move rfl) (by decide) ?_
  refine OL_nil ?_
  refine W_condf rfl ?_
  refine W_skip ?_
  refine W_seq ?_
  refine W_seq ?_
  refine W_region ?_
  refine OL_y (v := .bool false) (y_move rfl) (by decide) ?_
  refine OL_nil ?_
  refine W_condf rfl ?_
  refine W_skip ?_
  refine W_seq ?_
  refine W_seq ?_
  refine W_region ?_
  refine OL_y (y_move rfl) (by decide) ?_
  refine OL_y (y_move rfl) (by decide) ?_
  refine OL_y (y_lss rfl rfl) (by decide) ?_
  refine OL_nil ?_
  refine W_cond rfl (fun hc => ?_) (fun hc => ?_)
  · have hc := of_decide_eq_true hc
    refine W_seq ?_
    refine W_region ?_
    refine OL_y (y_assign rfl) (by decide) ?_
    refine OL_nil ?_
    refine W_ret ?_
    show RetOK _ _ _ _ _ _
    exact ret1 (v := .int .i64 (-1)) Try.results32 rfl ⟨by unfold cmp2; rw [if_pos hc], H.ext_of 0 rfl⟩
  · have hc := of_decide_eq_false hc
    refine W_skip ?_
    refine W_seq ?_
    refine W_seq ?_
    refine W_region ?_
    refine OL_y (y_move rfl) (by decide) ?_
    refine OL_y (y_move rfl) (by decide) ?_
    refine OL_y (y_gtr rfl rfl) (by decide) ?_
    refine OL_nil ?_
    refine W_cond rfl (fun hc => ?_) (fun hc => ?_)
    · have hc4 := of_decide_eq_true hc
      refine W_seq ?_
      refine W_region ?_
      refine OL_y (y_assign rfl) (by decide) ?_
      refine OL_nil ?_
      refine W_ret ?_
      show RetOK _ _ _ _ _ _
      exact ret1 (v := .int .i64 1) Try.results32 rfl ⟨by unfold cmp2; rw [if_neg (by omega), if_pos hc4], H.ext_of 0 rfl⟩
    · have hc4 := of_decide_eq_false hc
      refine W_skip ?_
      refine W_seq ?_
      refine W_region ?_
      refine OL_y (y_assign rfl) (by decide) ?_
      refine OL_nil ?_
      refine W_ret ?_
      show RetOK _ _ _ _ _ _
      exact ret1 (v := .int .i64 0) Try.results32 rfl ⟨by unfold cmp2; rw [if_neg (by omega), if_neg (by omega)], H.ext_of 0 rfl⟩
def orI : List Int → Int
  | [] => 0
  | x :: l => if x ≠ 0 then x else orI l
theorem f31_calls {Z : Nat → Prop} {w : World} {v : Value} {xs : List Int} (hx : SlR (tInt .i64) 8 Z w v xs) : Calls Try.prog 31 [v].toArray w fun e w' => e = .returned (.int .i64 (orI xs)) ∧ Ext none' w w' := by
  have H := Holds.start w
  have hN := hx.len1 (by decide)
  obtain ⟨a0, c0, rfl, hl0, hm0⟩ := hx.len
  refine calls_of_W' Try.func31 rfl Try.ntmps31 rfl ?_
  refine W_seq ?_
  refine W_region ?_
  refine OL_y (y_assign rfl) (by decide) ?_
  refine OL_nil ?_
  refine W_seq ?_
  refine W_region ?_
  refine OL_y (y_assign rfl) (by decide) ?_
  refine OL_nil ?_
  refine W_seq ?_
  refine W_seq ?_
  refine W_region ?_
  refine OL_y (y_move rfl) (by decide) ?_
  refine OL_y (y_len rfl ti80 rfl) (by decide) ?_
  refine OL_y (y_move rfl) (by decide) ?_
  refine OL_nil ?_
  refine W_range (N := xs.length) (by omega) (fun k f ds w' => f 3 = .int .i64 0 ∧ f 6 = .slice a0 xs.length c0 ∧ ds = [] ∧ orI xs = orI (xs.drop k) ∧ Holds w' [shr (fun k => k < w.heap.size) w])
      ⟨rfl, rfl, rfl, rfl, H⟩
      rfl rfl (by decide) (by decide) (by decide) rfl rfl ?_ rfl rfl ?_
  · rintro k f ds w1 hk ⟨h3, h6, rfl, ho, H⟩ hti htn
    have hxk := List.getElem?_eq_getElem hk
    obtain ⟨b1, o1, cs1, e1, hz1, hc1, hr1⟩ := (hx.keeps (H.keepsAll 0 rfl _)).at hxk
    obtain ⟨rfl, hin⟩ := hr1
    have hd : xs.drop k = xs[k] :: xs.drop (k + 1) := List.drop_eq_getElem_cons hk
    generalize xs[k] = x at *
    refine W_block ?_
    refine W_seq ?_
    refine W_region ?_
    refine OL_y (y_indexAddr ti80 ti3 (h6.trans (congrArg (Value.slice · _ _) e1)) hti (by omega) (by omega)) (by decide) ?_
    refine OL_y (y_loadS (v := .int .i64 x) ti3 rfl rfl hc1) (by decide) ?_
    refine OL_y (y_assign rfl) (by decide) ?_
    refine OL_nil ?_
    refine W_seq ?_
    refine W_region ?_
    refine OL_y (y_move rfl) (by decide) ?_
    refine OL_y (y_move h3) (by decide) ?_
    refine OL_y (y_neq rfl rfl) (by decide) ?_
    refine OL_nil ?_
    refine W_cond rfl (fun hc => ?_) (fun hc => ?_)
    · have hc := of_decide_eq_true hc
      refine W_seq ?_
      refine W_region ?_
      refine OL_y (y_move rfl) (by decide) ?_
      refine OL_y (y_assign rfl) (by decide) ?_
      refine OL_nil ?_
      refine W_ret ?_
      show RetOK _ _ _ _ _ _
      exact ret1 (v := .int .i64 x) Try.results31 rfl ⟨by rw [ho, hd]; simp [orI, hc], H.ext_of 0 rfl⟩
    · have hc : x = 0 := by simpa using of_decide_eq_false hc
      refine W_skip ?_
      exact ⟨hti, htn, h3, h6, rfl, by rw [ho, hd]; simp [orI, hc], H⟩
  · rintro f ds w1 ⟨h3, h6, rfl, ho, H⟩ hti htn
    refine W_seq ?_
    refine W_region ?_
    refine OL_y (y_move h3) (by decide) ?_
    refine OL_y (y_assign rfl) (by decide) ?_
    refine OL_nil ?_
    refine W_ret ?_
    show RetOK _ _ _ _ _ _
    exact ret1 (v := .int .i64 0) Try.results31 rfl ⟨by rw [ho]; simp [orI], H.ext_of 0 rfl⟩
theorem inI64 {x : Int} (h1 : -9223372036854775808 ≤ x) (h2 : x ≤ 9223372036854775807) : InK .i64 x := by
  unfold InK Lit.wf
  rw [Bool.and_eq_true, decide_eq_true_iff, decide_eq_true_iff]
  exact ⟨h1, h2⟩
theorem cmp2_in (a b : Int) : InK .i64 (cmp2 a b) := by
  unfold cmp2; split
  · exact inI64 (by decide) (by decide)
  · split <;> exact inI64 (by decide) (by decide)

theorem or_cmp (x y : Rn) : orI [cmp2 x.ts y.ts, cmp2 x.txn y.txn] = cmpR x y := by
  unfold cmpR
  by_cases h : cmp2 x.ts y.ts = 0
  · by_cases h2 : cmp2 x.txn y.txn = 0
    · simp [orI, h, h2]
    · simp [orI, h, h2]
  · simp [orI, h]
theorem twoInts {w : World} (a b : Int) (ha : InK .i64 a := by exact cmp2_in _ _) (hb : InK .i64 b := by exact cmp2_in _ _) : Els (tInt .i64) (fun _ => True) w [.int .i64 a, .int .i64 b] [a, b] := by
  have h := ((Els.nil (tInt .i64) (fun _ => True) w).snoc (c := [.int .i64 a]) ⟨rfl, ha⟩).snoc (c := [.int .i64 b]) ⟨rfl, hb⟩
  exact h
set_option maxHeartbeats 2000000 in
theorem f30_calls {w : World} (x y : RR) : Calls Try.prog 30 [.agg x.cells.toArray, .agg y.cells.toArray].toArray w fun e w' => e = .returned (.int .i64 (cmpR x.r y.r)) ∧ Ext none' w w' := by
  have H := Holds.start w
  refine calls_of_W' Try.func30 rfl Try.ntmps30 rfl ?_
  refine W_seq ?_
  refine W_region ?_
  refine OL_c (op_box (v := .agg x.cells.toArray) H rfl (by decide) fun b2 w0_0 H => ?_)
  refine OL_c (op_box (v := .agg y.cells.toArray) H rfl (by decide) fun b3 w0_1 H => ?_)
  refine OL_y (y_assign rfl) (by decide) ?_
  refine OL_nil ?_
  refine W_seq ?_
  refine W_drawD H mixed (by kernel_rfl) [] (fun w0 w' => w'.heap[b2]? = some (.cells x.cells.toArray 33) ∧ w'.heap[b3]? = some (.cells y.cells.toArray 33)) fun wd1 H hEd => ?_
  have hS : ∀ ls, Sx [] (fun w' => w'.heap[b2]? = some (.cells x.cells.toArray 33) ∧ w'.heap[b3]? = some (.cells y.cells.toArray 33)) ls wd1 := fun _ _ => ⟨H.getOwn 1 rfl, H.getOwn 0 rfl⟩
  have hS := hS (List.replicate 13 false).toArray
  refine DA_p 0 rfl (by kernel_rfl) rfl (fun _ => y_fieldAddr ti33 rfl ti26 rfl rfl) hS (by decide) fun hS => ?_
  refine DA_y 1 rfl (by kernel_rfl) rfl (by kernel_rfl) (fun w' h => y_loadS (v := .int .u64 x.r.ts) ti26 rfl rfl (Cells.unit h.1 rfl)) hS (by decide) fun hS => ?_
  refine DA_p 2 rfl (by kernel_rfl) rfl (fun _ => y_fieldAddr ti33 rfl ti26 rfl rfl) hS (by decide) fun hS => ?_
  refine DA_y 3 rfl (by kernel_rfl) rfl (by kernel_rfl) (fun w' h => y_loadS (v := .int .u64 y.r.ts) ti26 rfl rfl (Cells.unit h.2 rfl)) hS (by decide) fun hS => ?_
  refine DA_p 5 rfl (by kernel_rfl) rfl (fun _ => y_fieldAddr ti33 rfl ti26 rfl rfl) hS (by decide) fun hS => ?_
  refine DA_y 6 rfl (by kernel_rfl) rfl (by kernel_rfl) (fun w' h => y_loadS (v := .int .u64 x.r.txn) ti26 rfl rfl (Cells.unit h.1 rfl)) hS (by decide) fun hS => ?_
  refine DA_p 7 rfl (by kernel_rfl) rfl (fun _ => y_fieldAddr ti33 rfl ti26 rfl rfl) hS (by decide) fun hS => ?_
  refine DA_y 8 rfl (by kernel_rfl) rfl (by kernel_rfl) (fun w' h => y_loadS (v := .int .u64 y.r.txn) ti26 rfl rfl (Cells.unit h.2 rfl)) hS (by decide) fun hS => ?_
  refine DA_one 4 (by kernel_rfl) rfl (op_call 32 en32 rfl [.int .u64 x.r.ts, .int .u64 y.r.ts] rfl (by decide) ((f32_calls).mono ?_))
  rintro e w1_4 ⟨rfl, hE⟩
  refine ⟨_, rfl, fun _ => ⟨(H.ext0 hE).getOwn 1 rfl, (H.ext0 hE).getOwn 0 rfl⟩, ?_⟩
  have H := H.ext0 hE
  refine DA_one 9 (by kernel_rfl) rfl (op_call 32 en32 rfl [.int .u64 x.r.txn, .int .u64 y.r.txn] rfl (by decide) ((f32_calls).mono ?_))
  rintro e w1_9 ⟨rfl, hE⟩
  refine ⟨_, rfl, fun _ => ⟨(H.ext0 hE).getOwn 1 rfl, (H.ext0 hE).getOwn 0 rfl⟩, ?_⟩
  have H := H.ext0 hE
  refine DA_one 10 (by kernel_rfl) rfl (op_buildSlice H [.int .i64 (cmp2 x.r.ts y.r.ts), .int .i64 (cmp2 x.r.txn y.r.txn)] ti80 ti3 rfl rfl rfl (by simp [Value.cells]) rfl rfl (by decide) fun b15 w1_10 H => ⟨fun _ => ⟨H.getOwn 2 rfl, H.getOwn 1 rfl⟩, ?_⟩)
  refine DA_one 11 (by kernel_rfl) rfl (op_call 31 en31 rfl [.slice (some ⟨b15, 0, none⟩) 2 2] rfl (by decide) ((f31_calls (Z := fun _ => True) (xs := [cmp2 x.r.ts y.r.ts, cmp2 x.r.txn y.r.txn]) (SlR.ofRow (T := tInt .i64) (H.getRow 0 rfl) (by decide) (twoInts _ _) (fun _ _ => trivial) (by simp))).mono ?_))
  rintro e w1_11 ⟨rfl, hE⟩
  refine ⟨_, rfl, fun _ => ⟨(H.ext0 hE).getOwn 2 rfl, (H.ext0 hE).getOwn 1 rfl⟩, ?_⟩
  have H := H.ext0 hE
  have hS : ∀ ls, Sx [] (fun w' => w'.heap[b2]? = some (.cells x.cells.toArray 33) ∧ w'.heap[b3]? = some (.cells y.cells.toArray 33)) ls w1_11 := fun _ _ => ⟨H.getOwn 2 rfl, H.getOwn 1 rfl⟩
  have hS := hS [true, true, true, true, true, true, true, true, true, true, true, true, false].toArray
  refine DA_p 12 rfl (by kernel_rfl) rfl (fun _ => y_assign rfl) hS (by decide) fun hS => ?_
  refine DA_done (by kernel_rfl) ?_
  refine W_ret ?_
  show RetOK _ _ _ _ _ _
  refine ret1 (v := .int .i64 (cmpR x.r y.r)) Try.results30 ?_ ⟨rfl, H.ext_of 3 rfl⟩
  show Value.int .i64 (orI [cmp2 x.r.ts y.r.ts, cmp2 x.r.txn y.r.txn]) = _
  congr 1
  exact or_cmp x.r y.r
end Go.Proofs.Ytelgegodeifbiaa
