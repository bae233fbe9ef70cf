/- Small: whether a history is. -/
import Derived.Test.YtelgegodeifbiaaX
namespace Go.Proofs.Ytelgegodeifbiaa
open Go Go.Wk Pl
set_option linter.unusedVariables false

set_option maxHeartbeats 2000000 in
theorem f8_calls {Z : Nat → Prop} {w : World} {a : Value} {xs : List Ev} (hx : SlR tEv 128 Z w a xs) :
    Calls Try.prog 8 [a].toArray w fun e w' => e = .returned (.bool (small xs)) ∧ Ext none' w w' := by
  have H := Holds.start w
  have hN := hx.len1 (by decide)
  obtain ⟨a0, c0, rfl, hl0, hm0⟩ := hx.len
  refine calls_of_W' Try.func8 rfl Try.ntmps8 rfl ?_
  refine W_seq ?_
  refine W_region ?_
  refine OL_y (y_assign rfl) (by decide) ?_
  refine OL_nil ?_
  refine W_seq ?_
  refine W_seq ?_
  refine W_region ?_
  refine OL_y (y_move rfl) (by decide) ?_
  refine OL_y (y_len rfl ti22 rfl) (by decide) ?_
  refine OL_y (y_move rfl) (by decide) ?_
  refine OL_nil ?_
  refine W_range (N := xs.length) (by omega) (fun k f ds w' => f 0 = .slice a0 xs.length c0 ∧ f 7 = .slice a0 xs.length c0 ∧ ds = [] ∧ Holds w' [shr (fun k => k < w.heap.size) w] ∧ (xs.take k).any bigEv = false)
    ⟨rfl, rfl, rfl, H, by simp⟩ rfl rfl (by decide) (by decide) (by decide) rfl rfl ?_ rfl rfl ?_
  · rintro k f ds w1 hk ⟨h0, h7, rfl, H, hs⟩ hti htn
    have hxk := List.getElem?_eq_getElem hk
    have htk : xs.take (k + 1) = xs.take k ++ [xs[k]] := by rw [List.take_add_one, hxk]; rfl
    obtain ⟨b1, o1, cs1, e1, hz1, hc1, hr1⟩ := hx.at hxk
    obtain ⟨vl, vh, vs, vk, rfl, -, -, -, -, hlo, hhi, hse, hks⟩ := ev_cells.1 hr1
    subst e1
    generalize xs[k] = e at hxk htk hr1 hlo hhi hse hks hc1
    have hlo1 := hlo.len1 (by decide)
    have hhi1 := hhi.len1 (by decide)
    have hse1 := hse.len1 (by decide)
    have hks1 := hks.len1 (by decide)
    obtain ⟨al, cl, rfl, _, _⟩ := hlo.len
    obtain ⟨ah, ch, rfl, _, _⟩ := hhi.len
    obtain ⟨sa, sc, rfl, _, _⟩ := hse.len
    obtain ⟨ak, ck, rfl, _, _⟩ := hks.len
    refine W_block ?_
    refine W_seq ?_
    refine W_region ?_
    refine OL_y (y_indexAddr ti22 ti48 h7 hti (by omega) (by omega)) (by decide) ?_
    refine OL_y (y_loadA ti48 rfl rfl (hc1.ext ((H.keepsAll 0 rfl Z).2 _ hz1 hc1.lt)) rfl) (by decide) ?_
    refine OL_var H ti48 rfl (by decide) (fun _ => rfl) rfl (by simp [Value.cells, Value.oneCell']) fun be w2 H => ?_
    refine OL_nil ?_
    refine W_seq ?_
    refine W_seq (W_cut (fun f ds w' => f 0 = .slice (some ⟨b1, o1, none⟩) xs.length c0 ∧ f 7 = .slice (some ⟨b1, o1, none⟩) xs.length c0 ∧ f 9 = .int .i64 k ∧ f 8 = .int .i64 xs.length ∧ f 4 = .pointer (some ⟨be, 0, none⟩) ∧ f 34 = .bool (bigHead e) ∧ ds = [] ∧
      Holds w' [own be (.cells #[.int .i64 e.kind, .int .u64 e.txn, .int .i64 e.level, .int .u64 e.ts, .slice al e.span.lo.length cl, .slice ah e.span.hi.length ch, .slice sa e.seen.length sc, .slice ak e.keys.length ck] 48), shr (fun k => k < w.heap.size) w]) ?_ ?_)
    · refine W_region ?_
      refine OL_y (y_fieldAddr ti48 rfl ti30 rfl rfl) (by decide) ?_
      refine OL_y (y_loadS (v := .slice sa e.seen.length sc) ti30 rfl rfl (Cells.unit (H.getOwn 0 rfl) rfl)) (by decide) ?_
      refine OL_y (y_len rfl ti30 rfl) (by decide) ?_
      refine OL_y (y_gtr rfl rfl) (by decide) ?_
      refine OL_y (y_move rfl) (by decide) ?_
      by_cases h1 : 8 < e.seen.length
      · have hb1 : decide ((e.seen.length : Int) > 8) = true := decide_eq_true (by omega)
        refine OL_s rfl (by decide) (congrArg Value.bool hb1) rfl (by simp) ?_
        refine OL_s rfl (by decide) (congrArg Value.bool hb1) rfl (by simp) ?_
        refine OL_s rfl (by decide) (congrArg Value.bool hb1) rfl (by simp) ?_
        refine OL_s rfl (by decide) (congrArg Value.bool hb1) rfl (by simp) ?_
        refine OL_y (y_pick (b := true) (v := .bool true) (congrArg Value.bool hb1) rfl) (by decide) ?_
        refine OL_y (y_move rfl) (by decide) ?_
        refine OL_s rfl (by decide) rfl rfl (by simp) ?_
        refine OL_s rfl (by decide) rfl rfl (by simp) ?_
        refine OL_s rfl (by decide) rfl rfl (by simp) ?_
        refine OL_s rfl (by decide) rfl rfl (by simp) ?_
        refine OL_s rfl (by decide) rfl rfl (by simp) ?_
        refine OL_s rfl (by decide) rfl rfl (by simp) ?_
        refine OL_s rfl (by decide) rfl rfl (by simp) ?_
        refine OL_s rfl (by decide) rfl rfl (by simp) ?_
        refine OL_s rfl (by decide) rfl rfl (by simp) ?_
        refine OL_s rfl (by decide) rfl rfl (by simp) ?_
        refine OL_y (y_pick (b := true) (v := .bool true) rfl rfl) (by decide) ?_
        refine OL_nil ?_
        exact ⟨h0, h7, hti, htn, rfl, by simp [bigHead, h1]; rfl, rfl, H⟩
      · have hb1 : decide ((e.seen.length : Int) > 8) = false := decide_eq_false (by omega)
        refine OL_yg rfl (by decide) (congrArg Value.bool hb1) (y_fieldAddr ti48 rfl ti29 rfl rfl) (by decide) ?_
        refine OL_yg rfl (by decide) (congrArg Value.bool hb1) (y_loadS (v := .slice ak e.keys.length ck) ti29 rfl rfl (Cells.unit (H.getOwn 0 rfl) rfl)) (by decide) ?_
        refine OL_yg rfl (by decide) (congrArg Value.bool hb1) (y_len rfl ti29 rfl) (by decide) ?_
        refine OL_yg rfl (by decide) (congrArg Value.bool hb1) (y_gtr rfl rfl) (by decide) ?_
        refine OL_y (y_pick (b := false) (congrArg Value.bool hb1) rfl) (by decide) ?_
        refine OL_y (y_move rfl) (by decide) ?_
        by_cases h2 : 8 < e.keys.length
        · have hb2 : decide ((e.keys.length : Int) > 8) = true := decide_eq_true (by omega)
          refine OL_s rfl (by decide) (congrArg Value.bool hb2) rfl (by simp) ?_
          refine OL_s rfl (by decide) (congrArg Value.bool hb2) rfl (by simp) ?_
          refine OL_s rfl (by decide) (congrArg Value.bool hb2) rfl (by simp) ?_
          refine OL_s rfl (by decide) (congrArg Value.bool hb2) rfl (by simp) ?_
          refine OL_s rfl (by decide) (congrArg Value.bool hb2) rfl (by simp) ?_
          refine OL_s rfl (by decide) (congrArg Value.bool hb2) rfl (by simp) ?_
          refine OL_s rfl (by decide) (congrArg Value.bool hb2) rfl (by simp) ?_
          refine OL_s rfl (by decide) (congrArg Value.bool hb2) rfl (by simp) ?_
          refine OL_s rfl (by decide) (congrArg Value.bool hb2) rfl (by simp) ?_
          refine OL_s rfl (by decide) (congrArg Value.bool hb2) rfl (by simp) ?_
          refine OL_y (y_pick (b := true) (v := .bool true) (congrArg Value.bool hb2) rfl) (by decide) ?_
          refine OL_nil ?_
          exact ⟨h0, h7, hti, htn, rfl, by simp [bigHead, h2]; rfl, rfl, H⟩
        · have hb2 : decide ((e.keys.length : Int) > 8) = false := decide_eq_false (by omega)
          refine OL_yg rfl (by decide) (congrArg Value.bool hb2) (y_fieldAddr ti48 rfl ti46 rfl rfl) (by decide) ?_
          refine OL_yg rfl (by decide) (congrArg Value.bool hb2) (y_fieldAddr ti46 rfl ti38 rfl rfl) (by decide) ?_
          refine OL_yg rfl (by decide) (congrArg Value.bool hb2) (y_loadS (v := .slice al e.span.lo.length cl) ti38 rfl rfl (Cells.unit (H.getOwn 0 rfl) rfl)) (by decide) ?_
          refine OL_yg rfl (by decide) (congrArg Value.bool hb2) (y_len rfl ti38 rfl) (by decide) ?_
          refine OL_yg rfl (by decide) (congrArg Value.bool hb2) (y_fieldAddr ti48 rfl ti46 rfl rfl) (by decide) ?_
          refine OL_yg rfl (by decide) (congrArg Value.bool hb2) (y_fieldAddr ti46 rfl ti38 rfl rfl) (by decide) ?_
          refine OL_yg rfl (by decide) (congrArg Value.bool hb2) (y_loadS (v := .slice ah e.span.hi.length ch) ti38 rfl rfl (Cells.unit (H.getOwn 0 rfl) rfl)) (by decide) ?_
          refine OL_yg rfl (by decide) (congrArg Value.bool hb2) (y_len rfl ti38 rfl) (by decide) ?_
          refine OL_yg rfl (by decide) (congrArg Value.bool hb2) (y_add64 (a := e.span.lo.length) (b := e.span.hi.length) rfl rfl (by omega) (by omega)) (by decide) ?_
          refine OL_yg rfl (by decide) (congrArg Value.bool hb2) (y_gtr rfl rfl) (by decide) ?_
          refine OL_y (y_pick (b := false) (congrArg Value.bool hb2) rfl) (by decide) ?_
          refine OL_nil ?_
          refine ⟨h0, h7, hti, htn, rfl, ?_, rfl, H⟩
          have : bigHead e = decide (((e.span.lo.length : Int) + (e.span.hi.length : Int)) > 40) := by
            simp only [bigHead, decide_eq_false h1, decide_eq_false h2, Bool.false_or, decide_eq_decide]; omega
          rw [this]; rfl
    rintro f ds w3 ⟨h0, h7, h9, h8, h4, h34, rfl, H⟩
    refine W_cond h34 (fun hc => ?_) (fun hc => ?_)
    · refine W_seq ?_
      refine W_region ?_
      refine OL_y (y_assign rfl) (by decide) ?_
      refine OL_nil ?_
      refine W_ret ?_
      show RetOK _ _ _ _ _ _
      refine ret1 (v := .bool false) Try.results8 rfl ⟨?_, H.ext_of 1 rfl⟩
      have : small xs = false := by
        have hm : e ∈ xs := List.mem_of_getElem? hxk
        have : xs.any bigEv = true := List.any_eq_true.2 ⟨e, hm, by simp [bigEv, hc]⟩
        simp [small, this]
      rw [this]
    refine W_skip ?_
    refine W_seq ?_
    refine W_region ?_
    refine OL_y (y_fieldAddr ti48 rfl ti30 rfl h4) (by decide) ?_
    refine OL_y (y_loadS (v := .slice sa e.seen.length sc) ti30 rfl rfl (Cells.unit (H.getOwn 0 rfl) rfl)) (by decide) ?_
    refine OL_y (y_len rfl ti30 rfl) (by decide) ?_
    refine OL_y (y_move rfl) (by decide) ?_
    refine OL_nil ?_
    refine W_range (N := e.seen.length) (by omega) (fun j f ds w' => f 0 = .slice (some ⟨b1, o1, none⟩) xs.length c0 ∧ f 7 = .slice (some ⟨b1, o1, none⟩) xs.length c0 ∧ f 9 = .int .i64 k ∧ f 8 = .int .i64 xs.length ∧ f 36 = .slice sa e.seen.length sc ∧ ds = [] ∧ Holds w' [shr (fun k => k < w.heap.size) w] ∧ (e.seen.take j).any (fun s => decide (8 < s.keys.length)) = false)
      ⟨h0, h7, h9, h8, rfl, rfl, H.tail, by simp⟩ rfl rfl (by decide) (by decide) (by decide) rfl rfl ?_ rfl rfl ?_
    · rintro j f ds w4 hj ⟨h0, h7, h9, h8, h36, rfl, H4, hs2⟩ htj htm
      have hsj := List.getElem?_eq_getElem hj
      have htj2 : e.seen.take (j + 1) = e.seen.take j ++ [e.seen[j]] := by rw [List.take_add_one, hsj]; rfl
      obtain ⟨b3, o3, cs3, e3, hz3, hc3, hr3⟩ := (hse.keeps (H4.keepsAll 0 rfl _)).at hsj
      obtain ⟨vk3, vl3, rfl, hkk0, -, -, hkk⟩ := sn_cells.1 hr3
      obtain ⟨ak3, ck3, rfl, _, _⟩ := hkk0.len
      subst e3
      generalize e.seen[j] = s at hsj htj2 hkk hc3 hkk0
      have hkk1 := hkk.len1 (by decide)
      obtain ⟨a3, c3, rfl, _, _⟩ := hkk.len
      refine W_block ?_
      refine W_seq ?_
      refine W_region ?_
      refine OL_y (y_indexAddr ti30 ti50 h36 htj (by omega) (by omega)) (by decide) ?_
      refine OL_y (y_loadA ti50 rfl rfl hc3 rfl) (by decide) ?_
      refine OL_var H4 ti50 rfl (by decide) (fun _ => rfl) rfl (by simp [Value.cells, Value.oneCell']) fun b6 w5 H4 => ?_
      refine OL_nil ?_
      refine W_seq ?_
      refine W_region ?_
      refine OL_y (y_fieldAddr ti50 rfl ti29 rfl rfl) (by decide) ?_
      refine OL_y (y_loadS (v := .slice a3 s.keys.length c3) ti29 rfl rfl (Cells.unit (H4.getOwn 0 rfl) rfl)) (by decide) ?_
      refine OL_y (y_len rfl ti29 rfl) (by decide) ?_
      refine OL_y (y_gtr rfl rfl) (by decide) ?_
      refine OL_nil ?_
      refine W_cond rfl (fun hc4 => ?_) (fun hc4 => ?_)
      · refine W_seq ?_
        refine W_region ?_
        refine OL_y (y_assign rfl) (by decide) ?_
        refine OL_nil ?_
        refine W_ret ?_
        show RetOK _ _ _ _ _ _
        refine ret1 (v := .bool false) Try.results8 rfl ⟨?_, H4.ext_of 1 rfl⟩
        have : small xs = false := by
          have hm : e ∈ xs := List.mem_of_getElem? hxk
          have hm2 : s ∈ e.seen := List.mem_of_getElem? hsj
          have h8 : e.seen.any (fun s => decide (8 < s.keys.length)) = true := List.any_eq_true.2 ⟨s, hm2, by have := of_decide_eq_true hc4; exact decide_eq_true (by omega)⟩
          have : xs.any bigEv = true := List.any_eq_true.2 ⟨e, hm, by simp only [bigEv, h8, Bool.or_true]⟩
          simp [small, this]
        rw [this]
      · refine W_skip ?_
        have := of_decide_eq_false hc4
        exact ⟨htj, htm, h0, h7, h9, h8, h36, rfl, H4.tail, by rw [htj2, List.any_append, hs2]; simp; omega⟩
    · rintro f ds w4 ⟨h0, h7, h9, h8, h36, rfl, H, hs2⟩ htj htm
      rw [List.take_length] at hs2
      exact ⟨h9, h8, h0, h7, rfl, H, by rw [htk, List.any_append, hs]; simp only [List.any_cons, List.any_nil, bigEv, hc, hs2]; rfl⟩
  · rintro f ds w1 ⟨h0, h7, rfl, H, hs⟩ hti htn
    rw [List.take_length] at hs
    refine W_seq ?_
    refine W_region ?_
    refine OL_y (y_move h0) (by decide) ?_
    refine OL_y (y_len rfl ti22 rfl) (by decide) ?_
    refine OL_y (y_leq rfl rfl) (by decide) ?_
    refine OL_y (y_assign rfl) (by decide) ?_
    refine OL_nil ?_
    refine W_ret ?_
    show RetOK _ _ _ _ _ _
    refine ret1 (v := .bool (small xs)) Try.results8 ?_ ⟨rfl, H.ext_of 0 rfl⟩
    have : small xs = decide ((xs.length : Int) ≤ 30) := by
      simp only [small, hs, Bool.not_false, Bool.true_and, decide_eq_decide]; omega
    rw [this]; rfl
end Go.Proofs.Ytelgegodeifbiaa
