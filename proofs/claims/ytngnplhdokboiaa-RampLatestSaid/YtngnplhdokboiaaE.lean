/- Small versions; a few. -/
import Derived.Test.YtngnplhdokboiaaA
namespace Go.Proofs.Ytngnplhdokboiaa
open Go Go.Wk
set_option linter.unusedVariables false
set_option linter.unusedSimpArgs false

theorem all_take {α : Type} {l : List α} {j : Nat} {x : α} (h : l[j]? = some x) (q : α → Bool) : (l.take (j + 1)).all q = ((l.take j).all q && q x) := by
  rw [List.take_add_one, h, Option.toList_some, List.all_append]; simp
def smallB (v : Ver) : Bool := decide (v.val.length ≤ 100) && decide (v.keys.length ≤ 10)

set_option maxHeartbeats 2000000 in
theorem f9_calls {Z : Nat → Prop} {w : World} {cs : List Value} {v : Ver} (hv : tVer.R Z w cs v) :
    Calls Try.prog 9 [.agg cs.toArray].toArray w fun e w' => e = .returned (.bool (smallB v)) ∧ Ext none' w w' := by
  have H := Holds.start w
  obtain ⟨vv, vk, rfl, hi1, hi2, hv3, hv4⟩ := ver_cells.1 hv
  obtain ⟨a0, c0, rfl, hl0, hm0⟩ := hv3.len
  obtain ⟨a1, c1, rfl, hl1, hm1⟩ := hv4.len
  refine calls_of_W' Try.func9 rfl Try.ntmps9 rfl ?_
  refine W_seq ?_
  refine W_region ?_
  refine OL_c (op_box (v := .agg #[.int .u64 v.ts, .int .u64 v.txn, .bool v.dead, .slice a0 v.val.length c0, .slice a1 v.keys.length c1]) H rfl (by decide) fun b1 w0_0 H => ?_)
  refine OL_y (v := .bool false) (y_assign rfl) (by decide) ?_
  refine OL_nil ?_
  refine W_seq ?_
  by_cases hlt : (v.val.length : Int) ≤ 100
  · refine W_region ?_
    refine OL_y (y_fieldAddr ti32 rfl ti22 rfl rfl) (by decide) ?_
    refine OL_y (y_loadS (v := .slice a0 v.val.length c0) ti22 rfl rfl (Cells.unit (H.getOwn 0 rfl) rfl)) (by decide) ?_
    refine OL_y (y_len rfl ti22 rfl) (by decide) ?_
    refine OL_y (v := .bool true) (y_leqT hlt rfl rfl) (by decide) ?_
    refine OL_y (v := .bool true) (y_move rfl) (by decide) ?_
    refine OL_yg rfl (by decide) rfl (y_fieldAddr ti32 rfl ti30 rfl rfl) (by decide) ?_
    refine OL_yg rfl (by decide) rfl (y_loadS (v := .slice a1 v.keys.length c1) ti30 rfl rfl (Cells.unit (H.getOwn 0 rfl) rfl)) (by decide) ?_
    refine OL_yg rfl (by decide) rfl (y_len rfl ti30 rfl) (by decide) ?_
    refine OL_yg rfl (by decide) rfl (y_leq rfl rfl) (by decide) ?_
    refine OL_y (y_pick (b := true) rfl rfl) (by decide) ?_
    refine OL_y (y_assign rfl) (by decide) ?_
    refine OL_nil ?_
    refine W_ret ?_
    show RetOK _ _ _ _ _ _
    refine ret1 (v := .bool (decide ((v.keys.length : Int) ≤ 10))) Try.results9 rfl ⟨?_, H.ext_of 1 rfl⟩
    have h1 : v.val.length ≤ 100 := by omega
    rw [smallB, decide_eq_true h1, Bool.true_and, show decide ((v.keys.length : Int) ≤ 10) = decide (v.keys.length ≤ 10) from decide_eq_decide.2 (by omega)]
  · refine W_region ?_
    refine OL_y (y_fieldAddr ti32 rfl ti22 rfl rfl) (by decide) ?_
    refine OL_y (y_loadS (v := .slice a0 v.val.length c0) ti22 rfl rfl (Cells.unit (H.getOwn 0 rfl) rfl)) (by decide) ?_
    refine OL_y (y_len rfl ti22 rfl) (by decide) ?_
    refine OL_y (v := .bool false) (y_leqF hlt rfl rfl) (by decide) ?_
    refine OL_y (v := .bool false) (y_move rfl) (by decide) ?_
    refine OL_s rfl (by decide) rfl rfl (by simp) ?_
    refine OL_s rfl (by decide) rfl rfl (by simp) ?_
    refine OL_s rfl (by decide) rfl rfl (by simp) ?_
    refine OL_s rfl (by decide) rfl rfl (by simp) ?_
    refine OL_y (y_pick (b := false) (v := .bool false) rfl rfl) (by decide) ?_
    refine OL_y (v := .bool false) (y_assign rfl) (by decide) ?_
    refine OL_nil ?_
    refine W_ret ?_
    show RetOK _ _ _ _ _ _
    refine ret1 (v := .bool false) Try.results9 rfl ⟨?_, H.ext_of 1 rfl⟩
    simp [smallB, show ¬ v.val.length ≤ 100 by omega]

def fewB (xs : List Sn) (cs : List Cl) : Bool := (xs.all fun x => decide (x.keys.length ≤ 8)) && (cs.all fun c => decide (c.vers.length ≤ 8) && c.vers.all smallB) && (decide (xs.length ≤ 12) && decide (cs.length ≤ 12))

set_option maxHeartbeats 4000000 in
theorem f7_calls {Z : Nat → Prop} {w : World} {a b : Value} {xs : List Sn} {cs : List Cl} (hx : SlR tSn 64 Z w a xs) (hc : SlR tCl 120 Z w b cs) :
    Calls Try.prog 7 [a, b].toArray w fun e w' => e = .returned (.bool (fewB xs cs)) ∧ Ext none' w w' := by
  have H := Holds.start w
  have hN := hx.len1 (by decide)
  have hM := hc.len1 (by decide)
  obtain ⟨a0, c0, rfl, hl0, hm0⟩ := hx.len
  obtain ⟨a1, c1, rfl, hl1, hm1⟩ := hc.len
  refine calls_of_W' Try.func7 rfl Try.ntmps7 rfl ?_
  refine W_seq ?_
  refine W_region ?_
  refine OL_y (v := .bool false) (y_assign rfl) (by decide) ?_
  refine OL_nil ?_
  refine W_seq ?_
  refine W_seq ?_
  refine W_region ?_
  refine OL_y (y_move rfl) (by decide) ?_
  refine OL_y (y_len rfl ti35 rfl) (by decide) ?_
  refine OL_y (y_move rfl) (by decide) ?_
  refine OL_nil ?_
  refine W_range (N := xs.length) (by omega) (fun j f ds w' => f 0 = .slice a0 xs.length c0 ∧ f 1 = .slice a1 cs.length c1 ∧ f 11 = .slice a0 xs.length c0 ∧ ds = [] ∧ ((xs.take j).all fun x => decide (x.keys.length ≤ 8)) = true ∧ Holds w' [shr (fun k => k < w.heap.size) w])
      ⟨rfl, rfl, rfl, rfl, rfl, H⟩
      rfl rfl (by decide) (by decide) (by decide) rfl rfl ?_ rfl rfl ?_
  · rintro j f ds w2 hj ⟨h0, h1, h11, rfl, hb, H⟩ hti htn
    have hxj := List.getElem?_eq_getElem hj
    obtain ⟨b2, o2, cs2, e2, hz2, hc2, hr2⟩ := hx.at hxj
    have hc2' := hc2.ext ((H.keepsAll 0 rfl Z).2 _ hz2 hc2.lt)
    have htj2 : ((xs.take (j + 1)).all fun x => decide (x.keys.length ≤ 8)) = (((xs.take j).all fun x => decide (x.keys.length ≤ 8)) && decide (xs[j].keys.length ≤ 8)) := all_take hxj _
    have hmj := List.getElem_mem hj
    generalize xs[j] = s at *
    obtain ⟨wk, wl, rfl, hwk, hi1, hi2, hwl⟩ := sn_cells.1 hr2
    have hone := tSn.one hr2
    obtain ⟨al, cl, rfl, _⟩ := hwl.len
    have h11' := h11.trans (congrArg (Value.slice · _ _) e2)
    refine W_block ?_
    refine W_seq ?_
    refine W_region ?_
    refine OL_y (y_indexAddr ti35 ti39 h11' hti (by omega) (by omega)) (by decide) ?_
    refine OL_y (y_loadA ti39 rfl rfl hc2' rfl) (by decide) ?_
    refine OL_var (v := .agg #[wk, .int .u64 s.ts, .int .u64 s.txn, .slice al s.keys.length cl]) H ti39 rfl (by decide) (fun _ => rfl) rfl (hone) fun b6 w3_2 H => ?_
    refine OL_nil ?_
    refine W_seq ?_
    refine W_region ?_
    refine OL_y (y_fieldAddr ti39 rfl ti30 rfl rfl) (by decide) ?_
    refine OL_y (y_loadS (v := .slice al s.keys.length cl) ti30 rfl rfl (Cells.unit (H.getOwn 0 rfl) rfl)) (by decide) ?_
    refine OL_y (y_len rfl ti30 rfl) (by decide) ?_
    refine OL_y (y_gtr rfl rfl) (by decide) ?_
    refine OL_nil ?_
    refine W_cond rfl (fun hc => ?_) (fun hc => ?_)
    · refine W_seq ?_
      refine W_region ?_
      refine OL_y (v := .bool false) (y_assign rfl) (by decide) ?_
      refine OL_nil ?_
      refine W_ret ?_
      show RetOK _ _ _ _ _ _
      refine ret1 (v := .bool false) Try.results7 rfl ⟨?_, H.ext_of 1 rfl⟩
      have hc := of_decide_eq_true hc
      have : fewB xs cs = false := by
        have h1 : (xs.all fun x => decide (x.keys.length ≤ 8)) = false := by rw [List.all_eq_false]; exact ⟨s, hmj, by simp; omega⟩
        rw [fewB, h1]; rfl
      rw [this]
    · refine W_skip ?_
      have hc := of_decide_eq_false hc
      exact ⟨hti, htn, h0, h1, h11, rfl, by rw [htj2, hb, Bool.true_and]; exact decide_eq_true (by omega), H.tail⟩
  · rintro f ds w2 ⟨h0, h1, h11, rfl, hbx, H⟩ hti htn
    rw [List.take_length] at hbx
    refine W_seq ?_
    refine W_seq ?_
    refine W_region ?_
    refine OL_y (y_move h1) (by decide) ?_
    refine OL_y (y_len rfl ti25 rfl) (by decide) ?_
    refine OL_y (y_move rfl) (by decide) ?_
    refine OL_nil ?_
    refine W_range (N := cs.length) (by omega) (fun j f ds w' => f 0 = .slice a0 xs.length c0 ∧ f 1 = .slice a1 cs.length c1 ∧ f 22 = .slice a1 cs.length c1 ∧ ds = [] ∧ ((cs.take j).all fun c => decide (c.vers.length ≤ 8) && c.vers.all smallB) = true ∧ Holds w' [shr (fun k => k < w.heap.size) w])
        ⟨h0, h1, rfl, rfl, rfl, H⟩
        rfl rfl (by decide) (by decide) (by decide) rfl rfl ?_ rfl rfl ?_
    · rintro j f ds w2 hj ⟨h0, h1, h22, rfl, hb, H⟩ hti htn
      have hxj := List.getElem?_eq_getElem hj
      obtain ⟨b2, o2, cs2, e2, hz2, hc2, hr2⟩ := hc.at hxj
      have hc2' := hc2.ext ((H.keepsAll 0 rfl Z).2 _ hz2 hc2.lt)
      have htj2 : ((cs.take (j + 1)).all fun c => decide (c.vers.length ≤ 8) && c.vers.all smallB) = (((cs.take j).all fun c => decide (c.vers.length ≤ 8) && c.vers.all smallB) && (decide (cs[j].vers.length ≤ 8) && cs[j].vers.all smallB)) := all_take hxj _
      have hmj := List.getElem_mem hj
      generalize cs[j] = c at *
      obtain ⟨wk, wv, is, rfl, hwk, hwv, hci⟩ := cl_cells.1 hr2
      obtain ⟨iv, ik, rfl, -⟩ := ver_cells.1 hci
      have hone := tCl.one hr2
      have hV := hwv.len1 (by decide)
      obtain ⟨av, cv, rfl, _⟩ := hwv.len
      have h22' := h22.trans (congrArg (Value.slice · _ _) e2)
      refine W_block ?_
      refine W_seq ?_
      refine W_region ?_
      refine OL_y (y_indexAddr ti25 ti34 h22' hti (by omega) (by omega)) (by decide) ?_
      refine OL_y (y_loadA ti34 rfl rfl hc2' rfl) (by decide) ?_
      refine OL_var (v := .agg #[wk, .slice av c.vers.length cv, .int .u64 c.intent.ts, .int .u64 c.intent.txn, .bool c.intent.dead, iv, ik]) H ti34 rfl (by decide) (fun _ => rfl) rfl (hone) fun b8 w9_2 H => ?_
      refine OL_nil ?_
      refine W_seq ?_
      refine W_seq ?_
      refine W_region ?_
      refine OL_y (y_fieldAddr ti34 rfl ti28 rfl rfl) (by decide) ?_
      refine OL_y (y_loadS (v := .slice av c.vers.length cv) ti28 rfl rfl (Cells.unit (H.getOwn 0 rfl) rfl)) (by decide) ?_
      refine OL_y (y_len rfl ti28 rfl) (by decide) ?_
      refine OL_y (y_gtr rfl rfl) (by decide) ?_
      refine OL_nil ?_
      refine W_cond rfl (fun hc => ?_) (fun hc => ?_)
      · refine W_seq ?_
        refine W_region ?_
        refine OL_y (v := .bool false) (y_assign rfl) (by decide) ?_
        refine OL_nil ?_
        refine W_ret ?_
        show RetOK _ _ _ _ _ _
        refine ret1 (v := .bool false) Try.results7 rfl ⟨?_, H.ext_of 1 rfl⟩
        have hc := of_decide_eq_true hc
        have : fewB xs cs = false := by
          have h1 : (cs.all fun c => decide (c.vers.length ≤ 8) && c.vers.all smallB) = false := by rw [List.all_eq_false]; exact ⟨c, hmj, by simp; omega⟩
          rw [fewB, h1, Bool.and_false]; rfl
        rw [this]
      · refine W_skip ?_
        refine W_seq ?_
        have hc := of_decide_eq_false hc
        refine W_region ?_
        refine OL_y (y_fieldAddr ti34 rfl ti28 rfl rfl) (by decide) ?_
        refine OL_y (y_loadS (v := .slice av c.vers.length cv) ti28 rfl rfl (Cells.unit (H.getOwn 0 rfl) rfl)) (by decide) ?_
        refine OL_y (y_len rfl ti28 rfl) (by decide) ?_
        refine OL_y (y_move rfl) (by decide) ?_
        refine OL_nil ?_
        refine W_range (N := c.vers.length) (by omega) (fun i g ds w' => g 0 = .slice a0 xs.length c0 ∧ g 1 = .slice a1 cs.length c1 ∧ g 22 = .slice a1 cs.length c1 ∧ g 24 = f 24 ∧ g 23 = f 23 ∧ g 33 = .slice av c.vers.length cv ∧ ds = [] ∧ ((c.vers.take i).all smallB) = true ∧ Holds w' [shr (fun k => k < w.heap.size) w])
            ⟨h0, h1, h22, rfl, rfl, rfl, rfl, rfl, H.tail⟩
            rfl rfl (by decide) (by decide) (by decide) rfl rfl ?_ rfl rfl ?_
        · rintro i g ds w3 hi ⟨h0, h1, h22, h24, h23, h33, rfl, hb4, H⟩ hti4 htn4
          have hxi := List.getElem?_eq_getElem hi
          obtain ⟨b3, o3, cs3, e3, hz3, hc3, hr3⟩ := hwv.at hxi
          have hc3' := hc3.ext ((H.keepsAll 0 rfl Z).2 _ hz3 hc3.lt)
          have hti2 : ((c.vers.take (i + 1)).all smallB) = (((c.vers.take i).all smallB) && smallB c.vers[i]) := all_take hxi _
          have hmi := List.getElem_mem hi
          generalize c.vers[i] = v at *
          obtain ⟨vv, vk, rfl, hv1, hv2, hv3, hv4⟩ := ver_cells.1 hr3
          have hone := tVer.one hr3
          have h33' := h33.trans (congrArg (Value.slice · _ _) e3)
          refine W_block ?_
          refine W_seq ?_
          refine W_region ?_
          refine OL_y (y_indexAddr ti28 ti32 h33' hti4 (by omega) (by omega)) (by decide) ?_
          refine OL_y (y_loadA ti32 rfl rfl hc3' rfl) (by decide) ?_
          refine OL_var (v := .agg #[.int .u64 v.ts, .int .u64 v.txn, .bool v.dead, vv, vk]) H ti32 rfl (by decide) (fun _ => rfl) rfl (hone) fun b10 w14_2 H => ?_
          refine OL_nil ?_
          refine W_seq ?_
          have hkW := H.keepsAll 1 rfl Z
          refine W_region ?_
          refine OL_y (y_loadA (cs := [.int .u64 v.ts, .int .u64 v.txn, .bool v.dead, vv, vk]) ti32 rfl rfl (Cells.of (H.getOwn 0 rfl) rfl) rfl) (by decide) ?_
          refine OL_c (op_call 9 en9 rfl [.agg #[.int .u64 v.ts, .int .u64 v.txn, .bool v.dead, vv, vk]] rfl (by decide) ((f9_calls (ver_cells.2 ⟨_, _, rfl, hv1, hv2, hv3.keeps hkW, hv4.keeps hkW⟩)).mono ?_))
          rintro e w15_1 ⟨rfl, hE⟩
          refine ⟨_, rfl, ?_⟩
          have H := H.ext0 hE
          refine OL_y (y_not rfl) (by decide) ?_
          refine OL_nil ?_
          refine W_cond rfl (fun hc => ?_) (fun hc => ?_)
          · refine W_seq ?_
            refine W_region ?_
            refine OL_y (v := .bool false) (y_assign rfl) (by decide) ?_
            refine OL_nil ?_
            refine W_ret ?_
            show RetOK _ _ _ _ _ _
            refine ret1 (v := .bool false) Try.results7 rfl ⟨?_, H.ext_of 1 rfl⟩
            have : fewB xs cs = false := by
              have h1 : (cs.all fun c => decide (c.vers.length ≤ 8) && c.vers.all smallB) = false := by rw [List.all_eq_false]; exact ⟨c, hmj, by rw [Bool.and_eq_true, List.all_eq_true]; intro h; have := h.2 v hmi; simp_all⟩
              rw [fewB, h1, Bool.and_false]; rfl
            rw [this]
          · refine W_skip ?_
            exact ⟨hti4, htn4, h0, h1, h22, h24, h23, h33, rfl, by rw [hti2, hb4, Bool.true_and]; simpa using hc, H.tail⟩
        · rintro g ds w3 ⟨h0, h1, h22, h24, h23, h33, rfl, hb4, H⟩ hti4 htn4
          rw [List.take_length] at hb4
          have h24' := h24.trans hti
          have h23' := h23.trans htn
          exact ⟨h24', h23', h0, h1, h22, rfl, by rw [htj2, hb, hb4, Bool.true_and, Bool.and_true]; exact decide_eq_true (by omega), H⟩
    · rintro f ds w2 ⟨h0, h1, h22, rfl, hbc, H⟩ hti htn
      rw [List.take_length] at hbc
      refine W_seq ?_
      by_cases hlt : (xs.length : Int) ≤ 12
      · refine W_region ?_
        refine OL_y (y_move h0) (by decide) ?_
        refine OL_y (y_len rfl ti35 rfl) (by decide) ?_
        refine OL_y (v := .bool true) (y_leqT hlt rfl rfl) (by decide) ?_
        refine OL_y (v := .bool true) (y_move rfl) (by decide) ?_
        refine OL_yg rfl (by decide) rfl (y_move h1) (by decide) ?_
        refine OL_yg rfl (by decide) rfl (y_len rfl ti25 rfl) (by decide) ?_
        refine OL_yg rfl (by decide) rfl (y_leq rfl rfl) (by decide) ?_
        refine OL_y (y_pick (b := true) rfl rfl) (by decide) ?_
        refine OL_y (y_assign rfl) (by decide) ?_
        refine OL_nil ?_
        refine W_ret ?_
        show RetOK _ _ _ _ _ _
        refine ret1 (v := .bool (decide ((cs.length : Int) ≤ 12))) Try.results7 rfl ⟨?_, H.ext_of 0 rfl⟩
        rw [fewB, hbx, hbc, Bool.true_and, Bool.true_and, decide_eq_true (show xs.length ≤ 12 by omega), Bool.true_and]
        rw [show decide ((cs.length : Int) ≤ 12) = decide (cs.length ≤ 12) from decide_eq_decide.2 (by omega)]
      · refine W_region ?_
        refine OL_y (y_move h0) (by decide) ?_
        refine OL_y (y_len rfl ti35 rfl) (by decide) ?_
        refine OL_y (v := .bool false) (y_leqF hlt rfl rfl) (by decide) ?_
        refine OL_y (v := .bool false) (y_move rfl) (by decide) ?_
        refine OL_s rfl (by decide) rfl rfl (by simp) ?_
        refine OL_s rfl (by decide) rfl rfl (by simp) ?_
        refine OL_s rfl (by decide) rfl rfl (by simp) ?_
        refine OL_y (y_pick (b := false) (v := .bool false) rfl rfl) (by decide) ?_
        refine OL_y (v := .bool false) (y_assign rfl) (by decide) ?_
        refine OL_nil ?_
        refine W_ret ?_
        show RetOK _ _ _ _ _ _
        refine ret1 (v := .bool false) Try.results7 rfl ⟨?_, H.ext_of 0 rfl⟩
        rw [fewB, decide_eq_false (show ¬ xs.length ≤ 12 by omega), Bool.false_and, Bool.and_false]
end Go.Proofs.Ytngnplhdokboiaa
