/- Find, the program's and the reference's. -/
import Derived.Test.YtelgegodeifbiaaX
import Derived.Test.YtelgegodeifbiaaWki
namespace Go.Proofs.Ytelgegodeifbiaa
open Go Go.Wk Pl
set_option linter.unusedVariables false

def zeroRn : Rn := ⟨0, 0, 0, 0, 0, [], [], []⟩
def findR (l : List Rn) (txn : Int) : Option Rn := l.find? fun r => decide (r.txn = txn)
abbrev zeroC : List Value := [.int .u64 0, .int .i64 0, .int .i64 0, .int .u64 0, .int .u64 0, .slice none 0 0, .slice none 0 0, .slice none 0 0]
abbrev rnC (r : Rn) (vk vs vp : Value) : List Value := [.int .u64 r.txn, .int .i64 r.level, .int .i64 r.state, .int .u64 r.start, .int .u64 r.ts, vk, vs, vp]
theorem zeroC_R (Z : Nat → Prop) (w : World) : tRn.R Z w zeroC zeroRn :=
  rn_cells.2 ⟨_, _, _, rfl, rfl, rfl, rfl, rfl, rfl, SlR.nil _ _ _ _, SlR.nil _ _ _ _, SlR.nil _ _ _ _⟩
theorem findR_at {xs : List Rn} {txn : Int} {k : Nat} {r : Rn} (hk : xs[k]? = some r) (hp : ∀ x ∈ xs.take k, x.txn ≠ txn) (hr : r.txn = txn) : findR xs txn = some r := by
  unfold findR
  rw [← List.take_append_drop k xs, List.find?_append]
  have h1 : (xs.take k).find? (fun r => decide (r.txn = txn)) = none := by
    rw [List.find?_eq_none]; intro x hx; simpa using hp x hx
  have h2 : (xs.drop k)[0]? = some r := by simpa using hk
  rw [h1]
  cases hd : xs.drop k with
  | nil => rw [hd] at h2; simp at h2
  | cons y l =>
    rw [hd] at h2
    simp at h2; subst h2
    simp [hr]
theorem findR_none {xs : List Rn} {txn : Int} (hp : ∀ x ∈ xs, x.txn ≠ txn) : findR xs txn = none := by
  unfold findR; rw [List.find?_eq_none]; intro x hx; simpa using hp x hx

set_option maxHeartbeats 1000000 in
theorem f24_calls {w : World} {bt : Nat} {txn x0 : Int} {l : List Value} (hl : l.length = 7) (hb : w.heap[bt]? = some (.cells #[.int .u64 txn] 26)) :
    Calls Try.prog 24 [.agg (Value.int .u64 x0 :: l).toArray, .pointer (some ⟨bt, 0, none⟩)].toArray w fun e w' => e = .returned (.bool (decide (x0 = txn))) ∧ Ext none' w w' := by
  have H := Holds.start w
  refine calls_of_W' Try.func24 rfl Try.ntmps24 rfl ?_
  refine W_seq ?_
  refine W_region ?_
  refine OL_c (op_box (v := .agg (Value.int .u64 x0 :: l).toArray) H rfl (by decide) fun b2 w1 H => ?_)
  refine OL_y (y_assign rfl) (by decide) ?_
  refine OL_nil ?_
  refine W_seq ?_
  refine W_region ?_
  refine OL_y (y_fieldAddr ti33 rfl ti26 rfl rfl) (by decide) ?_
  refine OL_y (y_loadS (v := .int .u64 x0) ti26 rfl rfl (Cells.unit (H.getOwn 0 rfl) (by simp [Value.cells]))) (by decide) ?_
  refine OL_y (y_loadS (v := .int .u64 txn) ti26 rfl rfl (Cells.unit (o := 0) ((H.keepsAll 1 rfl (fun _ => True)).2 bt trivial (own_lt hb) |>.trans hb) rfl)) (by decide) ?_
  refine OL_y (y_eql rfl rfl) (by decide) ?_
  refine OL_y (y_assign rfl) (by decide) ?_
  refine OL_nil ?_
  refine W_ret ?_
  show RetOK _ _ _ _ _ _
  exact ret1 Try.results24 rfl ⟨rfl, H.ext_of 1 rfl⟩

set_option maxHeartbeats 1000000 in
theorem f23_calls {Z : Nat → Prop} {w : World} {a : Value} {xs : List Rn} {bt : Nat} {txn : Int} (hx : SlR tRn 112 Z w a xs) (hb : w.heap[bt]? = some (.cells #[.int .u64 txn] 26)) :
    Calls Try.prog 23 [a, .func (.func 24) #[] #[.pointer (some ⟨bt, 0, none⟩)]].toArray w fun e w' => ∃ i : Int, e = .returned (.int .i64 i) ∧ Ext none' w w' ∧
      ((i < 0 ∧ ∀ x ∈ xs, x.txn ≠ txn) ∨ ∃ (k : Nat) (r : Rn), i = k ∧ xs[k]? = some r ∧ (∀ x ∈ xs.take k, x.txn ≠ txn) ∧ r.txn = txn) := by
  have H := Holds.start w
  have hN := hx.len1 (by decide)
  obtain ⟨a0, c0, rfl, hl0, hm0⟩ := hx.len
  refine calls_of_W' Try.func23 rfl Try.ntmps23 rfl ?_
  refine W_seq ?_
  refine W_region ?_
  refine OL_y (y_assign rfl) (by decide) ?_
  refine OL_nil ?_
  refine W_seq ?_
  refine W_seq ?_
  refine W_region ?_
  refine OL_y (y_move rfl) (by decide) ?_
  refine OL_y (y_len rfl ti27 rfl) (by decide) ?_
  refine OL_y (y_move rfl) (by decide) ?_
  refine OL_nil ?_
  refine W_range (N := xs.length) (by omega) (fun k f ds w' => f 0 = .slice a0 xs.length c0 ∧ f 1 = .func (.func 24) #[] #[.pointer (some ⟨bt, 0, none⟩)] ∧ ds = [] ∧ Holds w' [shr (fun k => k < w.heap.size) w] ∧ ∀ x ∈ xs.take k, x.txn ≠ txn)
    ⟨rfl, rfl, rfl, H, by simp⟩ rfl rfl (by decide) (by decide) (by decide) rfl rfl ?_ rfl rfl ?_
  · rintro k f ds w1 hk ⟨h0, h1, rfl, H, hp⟩ hti htn
    have hxk := List.getElem?_eq_getElem hk
    obtain ⟨b1, o1, cs1, e1, hz1, hc1, hr1⟩ := (hx.keeps (H.keepsAll 0 rfl _)).at hxk
    generalize xs[k] = r at hxk hr1
    obtain ⟨vk, vs, vp, rfl, -⟩ := rn_cells.1 hr1
    refine W_block ?_
    refine W_seq ?_
    refine W_region ?_
    refine OL_y (y_move hti) (by decide) ?_
    refine OL_y (y_assign rfl) (by decide) ?_
    refine OL_nil ?_
    refine W_seq ?_
    refine W_region ?_
    refine OL_y (y_move h1) (by decide) ?_
    refine OL_y (y_move h0) (by decide) ?_
    refine OL_y (y_move rfl) (by decide) ?_
    refine OL_y (y_indexAddr ti27 ti33 (congrArg (Value.slice · _ _) e1) rfl (by omega) (by omega)) (by decide) ?_
    refine OL_y (y_loadA ti33 rfl rfl hc1 rfl) (by decide) ?_
    refine OL_c (op_call 24 en24 rfl [.agg (rnC r vk vs vp).toArray, .pointer (some ⟨bt, 0, none⟩)] rfl (by decide) ((f24_calls (x0 := r.txn) (l := [.int .i64 r.level, .int .i64 r.state, .int .u64 r.start, .int .u64 r.ts, vk, vs, vp]) rfl ((H.keepsAll 0 rfl (fun _ => True)).2 bt trivial (own_lt hb) |>.trans hb)).mono ?_))
    rintro e w2 ⟨rfl, hE⟩
    refine ⟨_, rfl, ?_⟩
    have H := H.ext0 hE
    refine OL_nil ?_
    refine W_cond rfl (fun hc => ?_) (fun hc => ?_)
    · have hc := of_decide_eq_true hc
      refine W_seq ?_
      refine W_region ?_
      refine OL_y (y_move rfl) (by decide) ?_
      refine OL_y (y_assign rfl) (by decide) ?_
      refine OL_nil ?_
      refine W_ret ?_
      show RetOK _ _ _ _ _ _
      exact ret1 (v := .int .i64 k) Try.results23 rfl ⟨k, rfl, H.ext_of 0 rfl, .inr ⟨k, r, rfl, hxk, hp, hc⟩⟩
    · have hc := of_decide_eq_false hc
      refine W_skip ?_
      refine ⟨hti, htn, h0, h1, rfl, H, fun x hx => ?_⟩
      rw [List.take_add_one, hxk] at hx
      rcases List.mem_append.1 hx with hx | hx
      · exact hp x hx
      · simp at hx; subst hx; exact hc
  · rintro f ds w1 ⟨h0, h1, rfl, H, hp⟩ hti htn
    rw [List.take_length] at hp
    refine W_seq ?_
    refine W_region ?_
    refine OL_y (y_assign rfl) (by decide) ?_
    refine OL_nil ?_
    refine W_ret ?_
    show RetOK _ _ _ _ _ _
    exact ret1 (v := .int .i64 (-1)) Try.results23 rfl ⟨-1, rfl, H.ext_of 0 rfl, .inl ⟨by decide, hp⟩⟩

set_option maxHeartbeats 1000000 in
theorem f12_calls {Z : Nat → Prop} {w : World} {a : Value} {xs : List Rn} {txn : Int} (hx : SlR tRn 112 Z w a xs) :
    Calls Try.prog 12 [a, .int .u64 txn].toArray w fun e w' => ∃ cs, e = .returned (.tuple #[.agg cs.toArray, .bool (findR xs txn).isSome]) ∧ tRn.R Z w cs ((findR xs txn).getD zeroRn) ∧ Ext none' w w' := by
  have H := Holds.start w
  have hN := hx.len1 (by decide)
  obtain ⟨a0, c0, rfl, hl0, hm0⟩ := hx.len
  refine calls_of_W' Try.func12 rfl Try.ntmps12 rfl ?_
  refine W_seq ?_
  refine W_region ?_
  refine OL_c (op_box (v := .int .u64 txn) H rfl (by decide) fun b3 w1 H => ?_)
  refine OL_c (op_alloc H ti33 (by decide) fun b4 w2 H => ?_)
  refine OL_y (y_assign rfl) (by decide) ?_
  refine OL_nil ?_
  refine W_seq ?_
  refine W_region ?_
  refine OL_y (y_move rfl) (by decide) ?_
  refine OL_y (y_makeFunc rfl) (by decide) ?_
  refine OL_c (op_call 23 en23 rfl [.slice a0 xs.length c0, .func (.func 24) #[] #[.pointer (some ⟨b3, 0, none⟩)]] rfl (by decide) ((f23_calls (hx.keeps (H.keepsAll 2 rfl _)) (H.getOwn 1 rfl)).mono ?_))
  rintro e w3 ⟨i, rfl, hE, hor⟩
  refine ⟨_, rfl, ?_⟩
  have H := H.ext0 hE
  refine OL_y (y_assign rfl) (by decide) ?_
  refine OL_nil ?_
  refine W_seq ?_
  refine W_seq ?_
  refine W_region ?_
  refine OL_y (y_move rfl) (by decide) ?_
  refine OL_y (y_lss rfl rfl) (by decide) ?_
  refine OL_nil ?_
  rcases hor with ⟨hi, hp⟩ | ⟨k, r, rfl, hxk, hp, hr⟩
  · refine W_condt (congrArg Value.bool (decide_eq_true hi)) ?_
    refine W_seq ?_
    refine W_region ?_
    refine OL_y (y_build (cells := zeroC.toArray) (parts := #[]) ti33 pl33 rfl) (by decide) ?_
    refine OL_c (op_store (v := .agg zeroC.toArray) H 0 rfl ti33 rfl rfl rfl (by decide) (tRn.one (zeroC_R (fun _ => True) w)) fun w4 H => ?_)
    refine OL_y (y_assign rfl) (by decide) ?_
    refine OL_nil ?_
    refine W_ret ?_
    show RetOK _ _ _ _ _ _
    have hf := findR_none hp
    exact ret2ct Try.results12 rfl (run_loadVarA (cs := zeroC) ti33 rfl (Cells.of (H.getOwn 0 rfl) rfl) rfl) rfl ⟨zeroC, by rw [hf]; rfl, by rw [hf]; exact zeroC_R _ _, H.ext_of 2 rfl⟩
  · obtain ⟨b1, o1, cs1, e1, hz1, hc1, hr1⟩ := hx.at hxk
    have hone := tRn.one hr1
    obtain ⟨vk, vs, vp, rfl, hrest⟩ := rn_cells.1 hr1
    have hone : ∀ u ∈ (Value.agg (rnC r vk vs vp).toArray).cells.toList, u.oneCell' = true := hone
    have hkl := (List.getElem?_eq_some_iff.1 hxk).1
    refine W_condf (congrArg Value.bool (decide_eq_false (by omega))) ?_
    refine W_skip ?_
    refine W_seq ?_
    refine W_region ?_
    refine OL_y (y_move rfl) (by decide) ?_
    refine OL_y (y_move rfl) (by decide) ?_
    refine OL_y (y_indexAddr ti27 ti33 (congrArg (Value.slice · _ _) e1) rfl (by omega) (by omega)) (by decide) ?_
    refine OL_y (y_loadA ti33 rfl rfl (hc1.ext ((H.keepsAll 2 rfl Z).2 _ hz1 hc1.lt)) rfl) (by decide) ?_
    refine OL_c (op_store (v := .agg (rnC r vk vs vp).toArray) H 0 rfl ti33 rfl rfl rfl (by decide) hone fun w4 H => ?_)
    refine OL_y (y_assign rfl) (by decide) ?_
    refine OL_nil ?_
    refine W_ret ?_
    show RetOK _ _ _ _ _ _
    have hf := findR_at hxk hp hr
    exact ret2ct Try.results12 rfl (run_loadVarA (cs := (rnC r vk vs vp)) ti33 rfl (Cells.of (H.getOwn 0 rfl) rfl) rfl) rfl ⟨_, by rw [hf]; rfl, by rw [hf]; exact hr1, H.ext_of 2 rfl⟩

set_option maxHeartbeats 1000000 in
theorem f13_calls {Z : Nat → Prop} {w : World} {a : Value} {xs : List Rn} {txn : Int} (hx : SlR tRn 112 Z w a xs) :
    Calls Try.prog 13 [a, .int .u64 txn].toArray w fun e w' => ∃ cs, e = .returned (.tuple #[.agg cs.toArray, .bool (findR xs txn).isSome]) ∧ tRn.R Z w cs ((findR xs txn).getD zeroRn) ∧ Ext none' w w' := by
  have H := Holds.start w
  have hN := hx.len1 (by decide)
  obtain ⟨a0, c0, rfl, hl0, hm0⟩ := hx.len
  refine calls_of_W' Try.func13 rfl Try.ntmps13 rfl ?_
  refine W_seq ?_
  refine W_region ?_
  refine OL_c (op_alloc H ti33 (by decide) fun b4 w2 H => ?_)
  refine OL_y (y_assign rfl) (by decide) ?_
  refine OL_nil ?_
  refine W_seq ?_
  refine W_seq ?_
  refine W_region ?_
  refine OL_y (y_move rfl) (by decide) ?_
  refine OL_y (y_len rfl ti27 rfl) (by decide) ?_
  refine OL_y (y_move rfl) (by decide) ?_
  refine OL_nil ?_
  have H : Holds w2 [own b4 (.cells zeroC.toArray 33), shr (fun k => k < w.heap.size) w] := H
  refine W_range (N := xs.length) (by omega) (fun k f ds w' => f 8 = .slice a0 xs.length c0 ∧ f 1 = .int .u64 txn ∧ f 4 = .pointer (some ⟨b4, 0, none⟩) ∧ ds = [] ∧ Holds w' [own b4 (.cells zeroC.toArray 33), shr (fun k => k < w.heap.size) w] ∧ ∀ x ∈ xs.take k, x.txn ≠ txn)
    ⟨rfl, rfl, rfl, rfl, H, by simp⟩ rfl rfl (by decide) (by decide) (by decide) rfl rfl ?_ rfl rfl ?_
  · rintro k f ds w1 hk ⟨h8, h1, h4, rfl, H, hp⟩ hti htn
    have hxk := List.getElem?_eq_getElem hk
    obtain ⟨b1, o1, cs1, e1, hz1, hc1, hr1⟩ := hx.at hxk
    generalize xs[k] = r at hxk hr1
    have hone := tRn.one hr1
    obtain ⟨vk, vs, vp, rfl, -⟩ := rn_cells.1 hr1
    have hone : ∀ u ∈ (Value.agg (rnC r vk vs vp).toArray).cells.toList, u.oneCell' = true := hone
    refine W_block ?_
    refine W_seq ?_
    refine W_region ?_
    refine OL_y (y_indexAddr ti27 ti33 (h8.trans (congrArg (Value.slice · _ _) e1)) hti (by omega) (by omega)) (by decide) ?_
    refine OL_y (y_loadA ti33 rfl rfl (hc1.ext ((H.keepsAll 1 rfl Z).2 _ hz1 hc1.lt)) rfl) (by decide) ?_
    refine OL_var H ti33 rfl (by decide) (fun _ => rfl) rfl hone fun b7 w3 H => ?_
    refine OL_nil ?_
    refine W_seq ?_
    refine W_region ?_
    refine OL_y (y_fieldAddr ti33 rfl ti26 rfl rfl) (by decide) ?_
    refine OL_y (y_loadS (v := .int .u64 r.txn) ti26 rfl rfl (Cells.unit (H.getOwn 0 rfl) rfl)) (by decide) ?_
    refine OL_y (y_move h1) (by decide) ?_
    refine OL_y (y_eql rfl rfl) (by decide) ?_
    refine OL_nil ?_
    refine W_cond rfl (fun hc => ?_) (fun hc => ?_)
    · have hc := of_decide_eq_true hc
      refine W_seq ?_
      refine W_region ?_
      refine OL_y (y_loadA (cs := (rnC r vk vs vp)) ti33 rfl rfl (Cells.of (H.getOwn 0 rfl) rfl) rfl) (by decide) ?_
      refine OL_c (op_store (v := .agg (rnC r vk vs vp).toArray) H 1 rfl ti33 h4 rfl rfl (by decide) hone fun w4 H => ?_)
      refine OL_y (y_assign rfl) (by decide) ?_
      refine OL_nil ?_
      refine W_ret ?_
      show RetOK _ _ _ _ _ _
      have hf := findR_at hxk hp hc
      exact ret2ct Try.results13 h4 (run_loadVarA (cs := (rnC r vk vs vp)) ti33 rfl (Cells.of (H.getOwn 1 rfl) rfl) rfl) rfl ⟨_, by rw [hf]; rfl, by rw [hf]; exact hr1, H.ext_of 2 rfl⟩
    · have hc := of_decide_eq_false hc
      refine W_skip ?_
      refine ⟨hti, htn, h8, h1, h4, rfl, H.tail, fun x hx => ?_⟩
      rw [List.take_add_one, hxk] at hx
      rcases List.mem_append.1 hx with hx | hx
      · exact hp x hx
      · simp at hx; subst hx; exact hc
  · rintro f ds w1 ⟨h8, h1, h4, rfl, H, hp⟩ hti htn
    rw [List.take_length] at hp
    refine W_seq ?_
    refine W_region ?_
    refine OL_y (y_build (cells := zeroC.toArray) (parts := #[]) ti33 pl33 rfl) (by decide) ?_
    refine OL_c (op_store (v := .agg zeroC.toArray) H 0 rfl ti33 h4 rfl rfl (by decide) (tRn.one (zeroC_R (fun _ => True) w)) fun w4 H => ?_)
    refine OL_y (y_assign rfl) (by decide) ?_
    refine OL_nil ?_
    refine W_ret ?_
    show RetOK _ _ _ _ _ _
    have hf := findR_none hp
    exact ret2ct Try.results13 h4 (run_loadVarA (cs := zeroC) ti33 rfl (Cells.of (H.getOwn 0 rfl) rfl) rfl) rfl ⟨zeroC, by rw [hf]; rfl, by rw [hf]; exact zeroC_R _ _, H.ext_of 1 rfl⟩
end Go.Proofs.Ytelgegodeifbiaa
