/- The law HistBegins: of a formed history each beginning is formed. -/
import Derived.Test.YtelgegodeifbiaaE
import Derived.Test.YtelgegodeifbiaaA
namespace Go.Proofs.Ytelgegodeifbiaa
open Go Go.Wk Pl
set_option linter.unusedVariables false

set_option maxHeartbeats 1000000 in
theorem f3_calls {Z : Nat → Prop} {w : World} {a : Value} {xs : List Ev} {n : Int} (hx : SlR tEv 128 Z w a xs) (hn : InK .i64 n) :
    Calls Try.prog 3 [a, .int .i64 n].toArray w fun e w' => e = .returned (.bool true) ∧ Ext none' w w' := by
  have H := Holds.start w
  have hN := hx.len1 (by decide)
  obtain ⟨a0, c0, rfl, hl0, hm0⟩ := hx.len
  refine calls_of_W' Try.func3 rfl Try.ntmps3 rfl ?_
  refine W_seq ?_
  refine W_region ?_
  refine OL_y (y_assign rfl) (by decide) ?_
  refine OL_nil ?_
  refine W_seq ?_
  refine W_seq ?_
  refine W_region ?_
  refine OL_c (op_call 7 en7 rfl [] rfl (by decide) (f7_calls.mono ?_))
  rintro e w1 ⟨rfl, hE1⟩
  refine ⟨_, rfl, ?_⟩
  refine OL_y (y_not rfl) (by decide) ?_
  refine OL_nil ?_
  refine W_condf rfl ?_
  refine W_skip ?_
  have H := H.ext0 hE1
  refine W_seq ?_
  refine W_seq (W_cut (fun f ds w' => ∃ b, f 0 = .slice a0 xs.length c0 ∧ f 1 = .int .i64 n ∧ f 24 = .bool b ∧ (b = false → 0 ≤ n ∧ n ≤ xs.length ∧ formed xs = true) ∧ ds = [] ∧ Holds w' [shr (fun k => k < w.heap.size) w]) ?_ ?_)
  · refine W_region ?_
    refine OL_y (y_move rfl) (by decide) ?_
    refine OL_c (op_call 8 en8 rfl [.slice a0 xs.length c0] rfl (by decide) ((f8_calls (hx.keeps (H.keepsAll 0 rfl _))).mono ?_))
    rintro e w2 ⟨rfl, hE2⟩
    refine ⟨_, rfl, ?_⟩
    have H := H.ext0 hE2
    refine OL_y (y_not rfl) (by decide) ?_
    refine OL_y (y_move rfl) (by decide) ?_
    cases hsm : small xs with
    | false =>
      refine OL_s rfl (by decide) rfl rfl (by simp) ?_
      refine OL_s rfl (by decide) rfl rfl (by simp) ?_
      refine OL_y (y_pick (b := true) (v := .bool true) rfl rfl) (by decide) ?_
      refine OL_y (y_move rfl) (by decide) ?_
      refine OL_s rfl (by decide) rfl rfl (by simp) ?_
      refine OL_s rfl (by decide) rfl rfl (by simp) ?_
      refine OL_s rfl (by decide) rfl rfl (by simp) ?_
      refine OL_s rfl (by decide) rfl rfl (by simp) ?_
      refine OL_y (y_pick (b := true) (v := .bool true) rfl rfl) (by decide) ?_
      refine OL_y (y_move rfl) (by decide) ?_
      refine OL_s rfl (by decide) rfl rfl (by simp) ?_
      refine OL_s rfl (by decide) rfl rfl (by simp) ?_
      refine OL_s rfl (by decide) rfl rfl (by simp) ?_
      refine OL_y (y_pick (b := true) (v := .bool true) rfl rfl) (by decide) ?_
      refine OL_nil ?_
      exact ⟨true, rfl, rfl, rfl, fun h => (by cases h), rfl, H⟩
    | true =>
      refine OL_yg rfl (by decide) rfl (y_move rfl) (by decide) ?_
      refine OL_yg rfl (by decide) rfl (y_lss rfl rfl) (by decide) ?_
      refine OL_y (y_pick (b := false) rfl rfl) (by decide) ?_
      refine OL_y (y_move rfl) (by decide) ?_
      by_cases h1 : n < 0
      · have hb := decide_eq_true h1
        refine OL_s rfl (by decide) (congrArg Value.bool hb) rfl (by simp) ?_
        refine OL_s rfl (by decide) (congrArg Value.bool hb) rfl (by simp) ?_
        refine OL_s rfl (by decide) (congrArg Value.bool hb) rfl (by simp) ?_
        refine OL_s rfl (by decide) (congrArg Value.bool hb) rfl (by simp) ?_
        refine OL_y (y_pick (b := true) (v := .bool true) (congrArg Value.bool hb) rfl) (by decide) ?_
        refine OL_y (y_move rfl) (by decide) ?_
        refine OL_s rfl (by decide) rfl rfl (by simp) ?_
        refine OL_s rfl (by decide) rfl rfl (by simp) ?_
        refine OL_s rfl (by decide) rfl rfl (by simp) ?_
        refine OL_y (y_pick (b := true) (v := .bool true) rfl rfl) (by decide) ?_
        refine OL_nil ?_
        exact ⟨true, rfl, rfl, rfl, fun h => (by cases h), rfl, H⟩
      · have hb := decide_eq_false h1
        refine OL_yg rfl (by decide) (congrArg Value.bool hb) (y_move rfl) (by decide) ?_
        refine OL_yg rfl (by decide) (congrArg Value.bool hb) (y_move rfl) (by decide) ?_
        refine OL_yg rfl (by decide) (congrArg Value.bool hb) (y_len rfl ti22 rfl) (by decide) ?_
        refine OL_yg rfl (by decide) (congrArg Value.bool hb) (y_gtr rfl rfl) (by decide) ?_
        refine OL_y (y_pick (b := false) (congrArg Value.bool hb) rfl) (by decide) ?_
        refine OL_y (y_move rfl) (by decide) ?_
        by_cases h2 : n > xs.length
        · have hb2 := decide_eq_true h2
          refine OL_s rfl (by decide) (congrArg Value.bool hb2) rfl (by simp) ?_
          refine OL_s rfl (by decide) (congrArg Value.bool hb2) rfl (by simp) ?_
          refine OL_s rfl (by decide) (congrArg Value.bool hb2) rfl (by simp) ?_
          refine OL_y (y_pick (b := true) (v := .bool true) (congrArg Value.bool hb2) rfl) (by decide) ?_
          refine OL_nil ?_
          exact ⟨true, rfl, rfl, rfl, fun h => (by cases h), rfl, H⟩
        · have hb2 := decide_eq_false h2
          refine OL_yg rfl (by decide) (congrArg Value.bool hb2) (y_move rfl) (by decide) ?_
          refine OL_g rfl (by decide) (congrArg Value.bool hb2) (op_call 9 en9 rfl [.slice a0 xs.length c0] rfl (by decide) ((f9_calls (hx.keeps (H.keepsAll 0 rfl _))).mono ?_))
          rintro e w3 ⟨rfl, hE3⟩
          refine ⟨_, rfl, ?_⟩
          have H := H.ext0 hE3
          refine OL_yg rfl (by decide) (congrArg Value.bool hb2) (y_not rfl) (by decide) ?_
          refine OL_y (y_pick (b := false) (congrArg Value.bool hb2) rfl) (by decide) ?_
          refine OL_nil ?_
          exact ⟨!formed xs, rfl, rfl, rfl, fun h => ⟨by omega, by omega, by simpa using h⟩, rfl, H⟩
  rintro f ds w2 ⟨b, h0, h1, h24, hb, rfl, H⟩
  refine W_cond h24 (fun hc => ?_) (fun hc => ?_)
  · refine W_seq ?_
    refine W_region ?_
    refine OL_y (y_assign rfl) (by decide) ?_
    refine OL_nil ?_
    refine W_ret ?_
    show RetOK _ _ _ _ _ _
    exact ret1 (v := .bool true) Try.results3 rfl ⟨rfl, H.ext_of 0 rfl⟩
  obtain ⟨hn0, hn1, hf⟩ := hb hc
  refine W_skip ?_
  refine W_seq ?_
  refine W_region ?_
  refine OL_y (y_move h0) (by decide) ?_
  refine OL_y (y_move h1) (by decide) ?_
  refine OL_y (y_sliceH ti22 ti48 rfl rfl hn0 (by omega)) (by decide) ?_
  refine OL_c (op_call 9 en9 rfl [.slice (cutA a0 c0 0 8) n.toNat c0] rfl (by decide) ((f9_calls ((hx.keeps (H.keepsAll 0 rfl _)).take n.toNat (by omega) _ _)).mono ?_))
  rintro e w3 ⟨rfl, hE3⟩
  refine ⟨_, rfl, ?_⟩
  rw [formed_take _ hf]
  refine OL_y (y_assign rfl) (by decide) ?_
  refine OL_nil ?_
  refine W_ret ?_
  show RetOK _ _ _ _ _ _
  have H := H.ext0 hE3
  exact ret1 (v := .bool true) Try.results3 rfl ⟨rfl, H.ext_of 0 rfl⟩
end Go.Proofs.Ytelgegodeifbiaa
