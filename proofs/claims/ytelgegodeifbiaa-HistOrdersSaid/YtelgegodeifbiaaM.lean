/- The reference's Formed. -/
import Derived.Test.YtelgegodeifbiaaX
import Derived.Test.YtelgegodeifbiaaPF
import Derived.Test.YtelgegodeifbiaaWkj
namespace Go.Proofs.Ytelgegodeifbiaa
open Go Go.Wk Pl
set_option linter.unusedVariables false

def ovO : Option St → Bool | none => false | some s => s.over
def lvO : Option St → Int | none => 0 | some s => s.level
def stO' : Option St → Int | none => 0 | some s => s.start
theorem scanS_other {txn : Int} {s : Option St} {x : Ev} (h : x.txn ≠ txn) : scanS txn s x = s := if_neg h
theorem scanS_ov {txn : Int} {s : Option St} {x : Ev} (h : x.txn = txn) : (scanS txn s x).isSome = true ∧ ovO (scanS txn s x) = (ovO s || isEnd x) ∧ lvO (scanS txn s x) = (if s.isSome then lvO s else x.level) ∧ stO' (scanS txn s x) = (if s.isSome then stO' s else x.ts) := by
  unfold scanS; rw [if_pos h]
  cases s with
  | none => exact ⟨rfl, by simp [ovO], rfl, rfl⟩
  | some s => exact ⟨rfl, rfl, rfl, rfl⟩

set_option maxHeartbeats 4000000 in
theorem f15_calls {Z : Nat → Prop} {w : World} {a : Value} {xs : List Ev} (hx : SlR tEv 128 Z w a xs) :
    Calls Try.prog 15 [a].toArray w fun e w' => e = .returned (.bool (formed xs)) ∧ Ext none' w w' := by
  have H := Holds.start w
  have hN := hx.len1 (by decide)
  obtain ⟨a0, c0, rfl, hl0, hm0⟩ := hx.len
  refine calls_of_W' Try.func15 rfl Try.ntmps15 rfl ?_
  refine W_seq ?_
  refine W_region ?_
  refine OL_y (y_assign rfl) (by decide) ?_
  refine OL_nil ?_
  refine W_seq ?_
  refine W_seq ?_
  refine W_region ?_
  refine OL_y (y_move rfl) (by decide) ?_
  refine OL_y (y_len rfl ti22 rfl) (by decide) ?_
  refine OL_y (y_move rfl) (by decide) ?_
  refine OL_nil ?_
  refine W_range (N := xs.length) (by omega) (fun k f ds w' => ∃ s, f 0 = .slice a0 xs.length c0 ∧ f 11 = .slice a0 xs.length c0 ∧ ds = [] ∧ formedFrom ([], []) (xs.take k) = some s ∧ Holds w' [shr (fun k => k < w.heap.size) w])
    ⟨_, rfl, rfl, rfl, rfl, H⟩ rfl rfl (by decide) (by decide) (by decide) rfl rfl ?_ rfl rfl ?_
  · rintro k f ds w1 hk ⟨s, h0, h11, rfl, hF, H⟩ hti htn
    have hxk := List.getElem?_eq_getElem hk
    obtain ⟨b1, o1, cs1, e1, hz1, hc1, hr1⟩ := hx.at hxk
    obtain ⟨vl, vh, vs, vk, rfl, -⟩ := ev_cells.1 hr1
    generalize xs[k] = e at hxk hr1 hc1
    have hone := tEv.one hr1
    have hnx := formed_next hxk hF
    have hsp := fun h => formed_stop hxk hF h
    have htl := tells_of k (by omega) hF
    have hstep := step_tells (e := e) htl
    refine W_block ?_
    refine W_seq ?_
    refine W_region ?_
    refine OL_y (y_move hti) (by decide) ?_
    refine OL_y (y_indexAddr ti22 ti48 (h11.trans (congrArg (Value.slice · _ _) e1)) hti (by omega) (by omega)) (by decide) ?_
    refine OL_y (y_loadA ti48 rfl rfl (hc1.ext ((H.keepsAll 0 rfl Z).2 _ hz1 hc1.lt)) rfl) (by decide) ?_
    refine OL_c (op_alloc H ti48 (by decide) fun be w2 H => ?_)
    refine OL_y (y_assign rfl) (by decide) ?_
    refine OL_c (op_store (v := .agg #[.int .i64 e.kind, .int .u64 e.txn, .int .i64 e.level, .int .u64 e.ts, vl, vh, vs, vk]) H 0 rfl ti48 rfl rfl rfl (by decide) hone fun w3 H => ?_)
    refine OL_nil ?_
    have H : Holds w3 [own be (.cells #[.int .i64 e.kind, .int .u64 e.txn, .int .i64 e.level, .int .u64 e.ts, vl, vh, vs, vk] 48), shr (fun k => k < w.heap.size) w] := H
    refine W_seq ?_
    refine W_region ?_
    refine OL_y (y_assign rfl) (by decide) ?_
    refine OL_y (y_assign rfl) (by decide) ?_
    refine OL_nil ?_
    refine W_seq ?_
    refine W_region ?_
    refine OL_y (y_assign rfl) (by decide) ?_
    refine OL_nil ?_
    refine W_seq ?_
    refine W_region ?_
    refine OL_y (y_assign rfl) (by decide) ?_
    refine OL_nil ?_
    refine W_seq ?_
    refine W_seq ?_
    refine W_region ?_
    refine OL_y (y_move h0) (by decide) ?_
    refine OL_y (y_move rfl) (by decide) ?_
    refine OL_y (y_sliceH ti22 ti48 rfl rfl (by omega) (by omega)) (by decide) ?_
    refine OL_y (y_len rfl ti22 rfl) (by decide) ?_
    refine OL_y (y_move rfl) (by decide) ?_
    refine OL_nil ?_
    have hxt := hx.take k (by omega) c0 8
    have hlt : (xs.take k).length = k := by rw [List.length_take]; omega
    refine W_range (N := k) (by omega) (fun j f ds w' => f 0 = .slice a0 xs.length c0 ∧ f 11 = .slice a0 xs.length c0 ∧ f 13 = .int .i64 k ∧ f 12 = .int .i64 xs.length ∧ f 4 = .pointer (some ⟨be, 0, none⟩) ∧ f 20 = .slice (cutA a0 c0 0 8) k c0 ∧
        f 5 = .bool (scanT ((xs.take k).take j) e.txn).isSome ∧ f 6 = .bool (ovO (scanT ((xs.take k).take j) e.txn)) ∧ f 7 = .int .i64 (lvO (scanT ((xs.take k).take j) e.txn)) ∧ f 8 = .int .u64 (stO' (scanT ((xs.take k).take j) e.txn)) ∧
        (∀ x ∈ (xs.take k).take j, ¬ (x.kind = 3 ∧ e.kind = 3 ∧ x.ts = e.ts)) ∧ ds = [] ∧ Holds w' [own be (.cells #[.int .i64 e.kind, .int .u64 e.txn, .int .i64 e.level, .int .u64 e.ts, vl, vh, vs, vk] 48), shr (fun k => k < w.heap.size) w])
      ⟨h0, h11, hti, htn, rfl, rfl, rfl, rfl, rfl, rfl, by simp, rfl, H⟩ rfl rfl (by decide) (by decide) (by decide) rfl rfl ?_ rfl rfl ?_
    · rintro j f ds w4 hj ⟨h0, h11, h13, h12, h4, h20, h5, h6, h7, h8, hnd, rfl, H⟩ htj htm
      have hxj := List.getElem?_eq_getElem (l := xs.take k) (i := j) (by omega)
      obtain ⟨b2, o2, cs2, e2, hz2, hc2, hr2⟩ := (hxt.keeps (H.keepsAll 1 rfl _)).at hxj
      obtain ⟨ul, uh, us, uk, rfl, -⟩ := ev_cells.1 hr2
      generalize (xs.take k)[j]'(by omega) = x at hxj hr2 hc2
      have hone2 := tEv.one hr2
      have htk : (xs.take k).take (j + 1) = (xs.take k).take j ++ [x] := by rw [List.take_add_one, hxj]; rfl
      have hmem : x ∈ xs.take k := List.mem_of_getElem? hxj
      have hsc : scanT ((xs.take k).take (j + 1)) e.txn = scanS e.txn (scanT ((xs.take k).take j) e.txn) x := by rw [htk, scanT_snoc]
      generalize hoo : scanT ((xs.take k).take j) e.txn = oo at h5 h6 h7 h8 hsc
      refine W_block ?_
      refine W_seq ?_
      refine W_region ?_
      refine OL_y (y_indexAddr ti22 ti48 (h20.trans (congrArg (Value.slice · _ _) e2)) htj (by omega) (by omega)) (by decide) ?_
      refine OL_y (y_loadA ti48 rfl rfl hc2 rfl) (by decide) ?_
      refine OL_var H ti48 rfl (by decide) (fun _ => rfl) rfl hone2 fun bx w5 H => ?_
      refine OL_nil ?_
      have H : Holds w5 [own bx (.cells #[.int .i64 x.kind, .int .u64 x.txn, .int .i64 x.level, .int .u64 x.ts, ul, uh, us, uk] 48), own be (.cells #[.int .i64 e.kind, .int .u64 e.txn, .int .i64 e.level, .int .u64 e.ts, vl, vh, vs, vk] 48), shr (fun k => k < w.heap.size) w] := H
      refine W_seq ?_
      refine W_seq (W_cut (fun f ds w' => f 0 = .slice a0 xs.length c0 ∧ f 11 = .slice a0 xs.length c0 ∧ f 13 = .int .i64 k ∧ f 12 = .int .i64 xs.length ∧ f 4 = .pointer (some ⟨be, 0, none⟩) ∧ f 10 = .pointer (some ⟨bx, 0, none⟩) ∧ f 20 = .slice (cutA a0 c0 0 8) k c0 ∧ f 22 = .int .i64 j ∧ f 21 = .int .i64 k ∧
        f 5 = .bool oo.isSome ∧ f 6 = .bool (ovO oo) ∧ f 7 = .int .i64 (lvO oo) ∧ f 8 = .int .u64 (stO' oo) ∧ f 40 = .bool (decide (x.kind = 3 ∧ e.kind = 3 ∧ x.ts = e.ts)) ∧ ds = [] ∧
        Holds w' [own bx (.cells #[.int .i64 x.kind, .int .u64 x.txn, .int .i64 x.level, .int .u64 x.ts, ul, uh, us, uk] 48), own be (.cells #[.int .i64 e.kind, .int .u64 e.txn, .int .i64 e.level, .int .u64 e.ts, vl, vh, vs, vk] 48), shr (fun k => k < w.heap.size) w]) ?_ ?_)
      · refine W_region ?_
        by_cases c1 : x.kind = 3
        · by_cases c2 : e.kind = 3
          · by_cases c3 : x.ts = e.ts
            · refine OL_y (y_fieldAddr ti48 rfl ti3 rfl rfl) (by decide) ?_
              refine OL_y (y_loadS (v := .int .i64 x.kind) ti3 rfl rfl (Cells.unit (H.getOwn 0 rfl) rfl)) (by decide) ?_
              refine OL_y (v := .bool true) (y_eqlT c1 rfl rfl) (by decide) ?_
              refine OL_y (v := .bool true) (y_move rfl) (by decide) ?_
              refine OL_yg rfl (by decide) rfl (y_fieldAddr ti48 rfl ti3 rfl h4) (by decide) ?_
              refine OL_yg rfl (by decide) rfl (y_loadS (v := .int .i64 e.kind) ti3 rfl rfl (Cells.unit (H.getOwn 1 rfl) rfl)) (by decide) ?_
              refine OL_yg (v := .bool true) rfl (by decide) rfl (y_eqlT c2 rfl rfl) (by decide) ?_
              refine OL_y (y_pick (b := true) (v := .bool true) rfl rfl) (by decide) ?_
              refine OL_y (v := .bool true) (y_move rfl) (by decide) ?_
              refine OL_yg rfl (by decide) rfl (y_fieldAddr ti48 rfl ti26 rfl rfl) (by decide) ?_
              refine OL_yg rfl (by decide) rfl (y_loadS (v := .int .u64 x.ts) ti26 rfl rfl (Cells.unit (H.getOwn 0 rfl) rfl)) (by decide) ?_
              refine OL_yg rfl (by decide) rfl (y_fieldAddr ti48 rfl ti26 rfl h4) (by decide) ?_
              refine OL_yg rfl (by decide) rfl (y_loadS (v := .int .u64 e.ts) ti26 rfl rfl (Cells.unit (H.getOwn 1 rfl) rfl)) (by decide) ?_
              refine OL_yg (v := .bool true) rfl (by decide) rfl (y_eqlT c3 rfl rfl) (by decide) ?_
              refine OL_y (y_pick (b := true) (v := .bool true) rfl rfl) (by decide) ?_
              refine OL_nil ?_
              exact ⟨h0, h11, h13, h12, h4, rfl, h20, htj, htm, h5, h6, h7, h8, by rw [decide_eq_true (show (x.kind = 3 ∧ e.kind = 3 ∧ x.ts = e.ts) from ⟨c1, c2, c3⟩)]; rfl, rfl, H⟩
            · refine OL_y (y_fieldAddr ti48 rfl ti3 rfl rfl) (by decide) ?_
              refine OL_y (y_loadS (v := .int .i64 x.kind) ti3 rfl rfl (Cells.unit (H.getOwn 0 rfl) rfl)) (by decide) ?_
              refine OL_y (v := .bool true) (y_eqlT c1 rfl rfl) (by decide) ?_
              refine OL_y (v := .bool true) (y_move rfl) (by decide) ?_
              refine OL_yg rfl (by decide) rfl (y_fieldAddr ti48 rfl ti3 rfl h4) (by decide) ?_
              refine OL_yg rfl (by decide) rfl (y_loadS (v := .int .i64 e.kind) ti3 rfl rfl (Cells.unit (H.getOwn 1 rfl) rfl)) (by decide) ?_
              refine OL_yg (v := .bool true) rfl (by decide) rfl (y_eqlT c2 rfl rfl) (by decide) ?_
              refine OL_y (y_pick (b := true) (v := .bool true) rfl rfl) (by decide) ?_
              refine OL_y (v := .bool true) (y_move rfl) (by decide) ?_
              refine OL_yg rfl (by decide) rfl (y_fieldAddr ti48 rfl ti26 rfl rfl) (by decide) ?_
              refine OL_yg rfl (by decide) rfl (y_loadS (v := .int .u64 x.ts) ti26 rfl rfl (Cells.unit (H.getOwn 0 rfl) rfl)) (by decide) ?_
              refine OL_yg rfl (by decide) rfl (y_fieldAddr ti48 rfl ti26 rfl h4) (by decide) ?_
              refine OL_yg rfl (by decide) rfl (y_loadS (v := .int .u64 e.ts) ti26 rfl rfl (Cells.unit (H.getOwn 1 rfl) rfl)) (by decide) ?_
              refine OL_yg (v := .bool false) rfl (by decide) rfl (y_eqlF c3 rfl rfl) (by decide) ?_
              refine OL_y (y_pick (b := true) (v := .bool false) rfl rfl) (by decide) ?_
              refine OL_nil ?_
              exact ⟨h0, h11, h13, h12, h4, rfl, h20, htj, htm, h5, h6, h7, h8, by rw [decide_eq_false (show ¬ (x.kind = 3 ∧ e.kind = 3 ∧ x.ts = e.ts) from fun h => c3 h.2.2)]; rfl, rfl, H⟩
          · refine OL_y (y_fieldAddr ti48 rfl ti3 rfl rfl) (by decide) ?_
            refine OL_y (y_loadS (v := .int .i64 x.kind) ti3 rfl rfl (Cells.unit (H.getOwn 0 rfl) rfl)) (by decide) ?_
            refine OL_y (v := .bool true) (y_eqlT c1 rfl rfl) (by decide) ?_
            refine OL_y (v := .bool true) (y_move rfl) (by decide) ?_
            refine OL_yg rfl (by decide) rfl (y_fieldAddr ti48 rfl ti3 rfl h4) (by decide) ?_
            refine OL_yg rfl (by decide) rfl (y_loadS (v := .int .i64 e.kind) ti3 rfl rfl (Cells.unit (H.getOwn 1 rfl) rfl)) (by decide) ?_
            refine OL_yg (v := .bool false) rfl (by decide) rfl (y_eqlF c2 rfl rfl) (by decide) ?_
            refine OL_y (y_pick (b := true) (v := .bool false) rfl rfl) (by decide) ?_
            refine OL_y (v := .bool false) (y_move rfl) (by decide) ?_
            refine OL_s rfl (by decide) rfl rfl (by simp) ?_
            refine OL_s rfl (by decide) rfl rfl (by simp) ?_
            refine OL_s rfl (by decide) rfl rfl (by simp) ?_
            refine OL_s rfl (by decide) rfl rfl (by simp) ?_
            refine OL_s rfl (by decide) rfl rfl (by simp) ?_
            refine OL_y (y_pick (b := false) (v := .bool false) rfl rfl) (by decide) ?_
            refine OL_nil ?_
            exact ⟨h0, h11, h13, h12, h4, rfl, h20, htj, htm, h5, h6, h7, h8, by rw [decide_eq_false (show ¬ (x.kind = 3 ∧ e.kind = 3 ∧ x.ts = e.ts) from fun h => c2 h.2.1)]; rfl, rfl, H⟩
        · refine OL_y (y_fieldAddr ti48 rfl ti3 rfl rfl) (by decide) ?_
          refine OL_y (y_loadS (v := .int .i64 x.kind) ti3 rfl rfl (Cells.unit (H.getOwn 0 rfl) rfl)) (by decide) ?_
          refine OL_y (v := .bool false) (y_eqlF c1 rfl rfl) (by decide) ?_
          refine OL_y (v := .bool false) (y_move rfl) (by decide) ?_
          refine OL_s rfl (by decide) rfl rfl (by simp) ?_
          refine OL_s rfl (by decide) rfl rfl (by simp) ?_
          refine OL_s rfl (by decide) rfl rfl (by simp) ?_
          refine OL_y (y_pick (b := false) (v := .bool false) rfl rfl) (by decide) ?_
          refine OL_y (v := .bool false) (y_move rfl) (by decide) ?_
          refine OL_s rfl (by decide) rfl rfl (by simp) ?_
          refine OL_s rfl (by decide) rfl rfl (by simp) ?_
          refine OL_s rfl (by decide) rfl rfl (by simp) ?_
          refine OL_s rfl (by decide) rfl rfl (by simp) ?_
          refine OL_s rfl (by decide) rfl rfl (by simp) ?_
          refine OL_y (y_pick (b := false) (v := .bool false) rfl rfl) (by decide) ?_
          refine OL_nil ?_
          exact ⟨h0, h11, h13, h12, h4, rfl, h20, htj, htm, h5, h6, h7, h8, by rw [decide_eq_false (show ¬ (x.kind = 3 ∧ e.kind = 3 ∧ x.ts = e.ts) from fun h => c1 h.1)]; rfl, rfl, H⟩
      rintro f ds w6 ⟨h0, h11, h13, h12, h4, h10, h20, htj, htm, h5, h6, h7, h8, h40, rfl, H⟩
      refine W_cond h40 (fun hc => ?_) (fun hc => ?_)
      · have hc := of_decide_eq_true hc
        refine W_seq ?_
        refine W_region ?_
        refine OL_y (y_assign rfl) (by decide) ?_
        refine OL_nil ?_
        refine W_ret ?_
        show RetOK _ _ _ _ _ _
        have hno : stepF s e = none := by
          cases hq : stepF s e with
          | none => rfl
          | some s' => exact absurd ⟨x, hmem, hc⟩ (hstep.1 s' hq).2.2
        exact ret1 (v := .bool false) Try.results15 rfl ⟨by rw [hsp hno], H.ext_of 2 rfl⟩
      have hc := of_decide_eq_false hc
      have hnd' : ∀ y ∈ (xs.take k).take (j + 1), ¬ (y.kind = 3 ∧ e.kind = 3 ∧ y.ts = e.ts) := fun y hy => by
        rw [htk] at hy
        rcases List.mem_append.1 hy with hy | hy
        · exact hnd y hy
        · simp at hy; subst hy; exact hc
      refine W_skip ?_
      refine W_seq ?_
      refine W_seq ?_
      refine W_region ?_
      refine OL_y (y_fieldAddr ti48 rfl ti26 rfl h10) (by decide) ?_
      refine OL_y (y_loadS (v := .int .u64 x.txn) ti26 rfl rfl (Cells.unit (H.getOwn 0 rfl) rfl)) (by decide) ?_
      refine OL_y (y_fieldAddr ti48 rfl ti26 rfl h4) (by decide) ?_
      refine OL_y (y_loadS (v := .int .u64 e.txn) ti26 rfl rfl (Cells.unit (H.getOwn 1 rfl) rfl)) (by decide) ?_
      refine OL_y (y_neq rfl rfl) (by decide) ?_
      refine OL_nil ?_
      refine W_cond rfl (fun hc5 => ?_) (fun hc5 => ?_)
      · have hc5 := of_decide_eq_true hc5
        refine W_exit ?_
        rw [scanS_other hc5] at hsc
        exact ⟨htj, htm, h0, h11, h13, h12, h4, h20, by rw [hsc]; exact h5, by rw [hsc]; exact h6, by rw [hsc]; exact h7, by rw [hsc]; exact h8, hnd', rfl, H.tail⟩
      have hc5 : x.txn = e.txn := by simpa using of_decide_eq_false hc5
      obtain ⟨q1, q2, q3, q4⟩ := scanS_ov (s := oo) hc5
      rw [← hsc] at q1 q2 q3 q4
      refine W_skip ?_
      refine W_seq ?_
      refine W_seq ?_
      refine W_region ?_
      refine OL_y (y_move h5) (by decide) ?_
      refine OL_y (y_not rfl) (by decide) ?_
      refine OL_nil ?_
      refine W_cut (fun f ds w' => f 0 = .slice a0 xs.length c0 ∧ f 11 = .slice a0 xs.length c0 ∧ f 13 = .int .i64 k ∧ f 12 = .int .i64 xs.length ∧ f 4 = .pointer (some ⟨be, 0, none⟩) ∧ f 10 = .pointer (some ⟨bx, 0, none⟩) ∧ f 20 = .slice (cutA a0 c0 0 8) k c0 ∧ f 22 = .int .i64 j ∧ f 21 = .int .i64 k ∧
        f 6 = .bool (ovO oo) ∧ f 7 = .int .i64 (if oo.isSome then lvO oo else x.level) ∧ f 8 = .int .u64 (if oo.isSome then stO' oo else x.ts) ∧ ds = [] ∧
        Holds w' [own bx (.cells #[.int .i64 x.kind, .int .u64 x.txn, .int .i64 x.level, .int .u64 x.ts, ul, uh, us, uk] 48), own be (.cells #[.int .i64 e.kind, .int .u64 e.txn, .int .i64 e.level, .int .u64 e.ts, vl, vh, vs, vk] 48), shr (fun k => k < w.heap.size) w]) ?_ ?_
      · cases ho : oo.isSome with
        | true =>
          refine W_condf rfl ?_
          refine W_skip ?_
          exact ⟨h0, h11, h13, h12, h4, h10, h20, htj, htm, h6, h7, h8, rfl, H⟩
        | false =>
          refine W_condt rfl ?_
          refine W_drawQ H mixed (by kernel_rfl) (by kernel_rfl) fun w7 H => ?_
          refine QL_y (y_fieldAddr ti48 rfl ti3 rfl h10) (by decide) ?_
          refine QL_y (y_loadS (v := .int .i64 x.level) ti3 rfl rfl (Cells.unit (H.getOwn 0 rfl) rfl)) (by decide) ?_
          refine QL_y (y_fieldAddr ti48 rfl ti26 rfl h10) (by decide) ?_
          refine QL_y (y_loadS (v := .int .u64 x.ts) ti26 rfl rfl (Cells.unit (H.getOwn 0 rfl) rfl)) (by decide) ?_
          refine QL_y (y_assign rfl) (by decide) ?_
          refine QL_y (y_assign rfl) (by decide) ?_
          refine QL_nil ?_
          exact ⟨h0, h11, h13, h12, h4, h10, h20, htj, htm, h6, rfl, rfl, rfl, H⟩
      rintro f ds w7 ⟨h0, h11, h13, h12, h4, h10, h20, htj, htm, h6, h7, h8, rfl, H⟩
      refine W_seq ?_
      refine W_region ?_
      refine OL_y (y_assign rfl) (by decide) ?_
      refine OL_nil ?_
      rw [← q3] at h7
      rw [← q4] at h8
      cases hov : ovO oo with
      | true =>
        rw [hov] at h6
        refine W_region ?_
        refine OL_y (v := .bool true) (y_move h6) (by decide) ?_
        refine OL_y (v := .bool true) (y_move rfl) (by decide) ?_
        refine OL_s rfl (by decide) rfl rfl (by simp) ?_
        refine OL_s rfl (by decide) rfl rfl (by simp) ?_
        refine OL_s rfl (by decide) rfl rfl (by simp) ?_
        refine OL_y (y_pick (b := true) (v := .bool true) rfl rfl) (by decide) ?_
        refine OL_y (v := .bool true) (y_move rfl) (by decide) ?_
        refine OL_s rfl (by decide) rfl rfl (by simp) ?_
        refine OL_s rfl (by decide) rfl rfl (by simp) ?_
        refine OL_s rfl (by decide) rfl rfl (by simp) ?_
        refine OL_y (y_pick (b := true) (v := .bool true) rfl rfl) (by decide) ?_
        refine OL_y (v := .bool true) (y_assign rfl) (by decide) ?_
        refine OL_nil ?_
        exact ⟨htj, htm, h0, h11, h13, h12, h4, h20, by rw [q1]; rfl, by rw [q2, hov]; rfl, h7, h8, hnd', rfl, H.tail⟩
      | false =>
        rw [hov] at h6
        by_cases d3 : x.kind = 3
        · refine W_region ?_
          refine OL_y (v := .bool false) (y_move h6) (by decide) ?_
          refine OL_y (v := .bool false) (y_move rfl) (by decide) ?_
          refine OL_yg rfl (by decide) rfl (y_fieldAddr ti48 rfl ti3 rfl h10) (by decide) ?_
          refine OL_yg rfl (by decide) rfl (y_loadS (v := .int .i64 x.kind) ti3 rfl rfl (Cells.unit (H.getOwn 0 rfl) rfl)) (by decide) ?_
          refine OL_yg (v := .bool true) rfl (by decide) rfl (y_eqlT d3 rfl rfl) (by decide) ?_
          refine OL_y (y_pick (b := false) (v := .bool true) rfl rfl) (by decide) ?_
          refine OL_y (v := .bool true) (y_move rfl) (by decide) ?_
          refine OL_s rfl (by decide) rfl rfl (by simp) ?_
          refine OL_s rfl (by decide) rfl rfl (by simp) ?_
          refine OL_s rfl (by decide) rfl rfl (by simp) ?_
          refine OL_y (y_pick (b := true) (v := .bool true) rfl rfl) (by decide) ?_
          refine OL_y (v := .bool true) (y_assign rfl) (by decide) ?_
          refine OL_nil ?_
          exact ⟨htj, htm, h0, h11, h13, h12, h4, h20, by rw [q1]; rfl, by rw [q2, hov, show isEnd x = true from decide_eq_true (.inl d3)]; rfl, h7, h8, hnd', rfl, H.tail⟩
        by_cases d4 : x.kind = 4
        · refine W_region ?_
          refine OL_y (v := .bool false) (y_move h6) (by decide) ?_
          refine OL_y (v := .bool false) (y_move rfl) (by decide) ?_
          refine OL_yg rfl (by decide) rfl (y_fieldAddr ti48 rfl ti3 rfl h10) (by decide) ?_
          refine OL_yg rfl (by decide) rfl (y_loadS (v := .int .i64 x.kind) ti3 rfl rfl (Cells.unit (H.getOwn 0 rfl) rfl)) (by decide) ?_
          refine OL_yg (v := .bool false) rfl (by decide) rfl (y_eqlF d3 rfl rfl) (by decide) ?_
          refine OL_y (y_pick (b := false) (v := .bool false) rfl rfl) (by decide) ?_
          refine OL_y (v := .bool false) (y_move rfl) (by decide) ?_
          refine OL_yg rfl (by decide) rfl (y_fieldAddr ti48 rfl ti3 rfl h10) (by decide) ?_
          refine OL_yg rfl (by decide) rfl (y_loadS (v := .int .i64 x.kind) ti3 rfl rfl (Cells.unit (H.getOwn 0 rfl) rfl)) (by decide) ?_
          refine OL_yg (v := .bool true) rfl (by decide) rfl (y_eqlT d4 rfl rfl) (by decide) ?_
          refine OL_y (y_pick (b := false) (v := .bool true) rfl rfl) (by decide) ?_
          refine OL_y (v := .bool true) (y_assign rfl) (by decide) ?_
          refine OL_nil ?_
          exact ⟨htj, htm, h0, h11, h13, h12, h4, h20, by rw [q1]; rfl, by rw [q2, hov, show isEnd x = true from decide_eq_true (.inr d4)]; rfl, h7, h8, hnd', rfl, H.tail⟩
        · refine W_region ?_
          refine OL_y (v := .bool false) (y_move h6) (by decide) ?_
          refine OL_y (v := .bool false) (y_move rfl) (by decide) ?_
          refine OL_yg rfl (by decide) rfl (y_fieldAddr ti48 rfl ti3 rfl h10) (by decide) ?_
          refine OL_yg rfl (by decide) rfl (y_loadS (v := .int .i64 x.kind) ti3 rfl rfl (Cells.unit (H.getOwn 0 rfl) rfl)) (by decide) ?_
          refine OL_yg (v := .bool false) rfl (by decide) rfl (y_eqlF d3 rfl rfl) (by decide) ?_
          refine OL_y (y_pick (b := false) (v := .bool false) rfl rfl) (by decide) ?_
          refine OL_y (v := .bool false) (y_move rfl) (by decide) ?_
          refine OL_yg rfl (by decide) rfl (y_fieldAddr ti48 rfl ti3 rfl h10) (by decide) ?_
          refine OL_yg rfl (by decide) rfl (y_loadS (v := .int .i64 x.kind) ti3 rfl rfl (Cells.unit (H.getOwn 0 rfl) rfl)) (by decide) ?_
          refine OL_yg (v := .bool false) rfl (by decide) rfl (y_eqlF d4 rfl rfl) (by decide) ?_
          refine OL_y (y_pick (b := false) (v := .bool false) rfl rfl) (by decide) ?_
          refine OL_y (v := .bool false) (y_assign rfl) (by decide) ?_
          refine OL_nil ?_
          exact ⟨htj, htm, h0, h11, h13, h12, h4, h20, by rw [q1]; rfl, by rw [q2, hov, show isEnd x = false from decide_eq_false (fun h => h.elim d3 d4)]; rfl, h7, h8, hnd', rfl, H.tail⟩
    rintro f ds w4 ⟨h0, h11, h13, h12, h4, h20, h5, h6, h7, h8, hnd, rfl, H⟩ htj htm
    have htt : (xs.take k).take k = xs.take k := by rw [List.take_take, Nat.min_self]
    rw [htt] at h5 h6 h7 h8 hnd
    have hndup : ¬ dup (xs.take k) e := fun ⟨x, hx, h⟩ => hnd x hx h
    have hyes : ¬ bad (xs.take k) e → ∃ s', stepF s e = some s' := fun hb => by
      cases hq : stepF s e with
      | none => exact ((hstep.2 hq).elim hb hndup).elim
      | some s' => exact ⟨s', rfl⟩
    have hnot : bad (xs.take k) e → stepF s e = none := fun hb => by
      cases hq : stepF s e with
      | none => rfl
      | some s' => exact absurd hb (hstep.1 s' hq).2.1
    refine W_seq (W_cut (fun f ds w' => ∃ b, f 0 = .slice a0 xs.length c0 ∧ f 11 = .slice a0 xs.length c0 ∧ f 13 = .int .i64 k ∧ f 12 = .int .i64 xs.length ∧ f 94 = .bool b ∧ (b = true → bad (xs.take k) e) ∧ (b = false → ¬ bad (xs.take k) e) ∧ ds = [] ∧ Holds w' [own be (.cells #[.int .i64 e.kind, .int .u64 e.txn, .int .i64 e.level, .int .u64 e.ts, vl, vh, vs, vk] 48), shr (fun k => k < w.heap.size) w]) ?_ ?_)
    · refine W_region ?_
      unfold bad
      cases hs : scanT (xs.take k) e.txn with
      | none =>
        rw [hs] at h5 h6 h7 h8
        have h5 : f 5 = .bool false := h5
        have h6 : f 6 = .bool false := h6
        by_cases c1 : e.kind = 1
        · refine OL_y (v := .bool false) (y_move h5) (by decide) ?_
          refine OL_y (y_fieldAddr ti48 rfl ti3 rfl h4) (by decide) ?_
          refine OL_y (y_loadS (v := .int .i64 e.kind) ti3 rfl rfl (Cells.unit (H.getOwn 0 rfl) rfl)) (by decide) ?_
          refine OL_y (v := .bool true) (y_eqlT c1 rfl rfl) (by decide) ?_
          refine OL_y (v := .bool false) (y_eqlB Try.underlying4 (a := false) (b := true) rfl rfl) (by decide) ?_
          refine OL_y (v := .bool false) (y_move rfl) (by decide) ?_
          refine OL_yg (v := .bool false) rfl (by decide) rfl (y_move h6) (by decide) ?_
          refine OL_y (y_pick (b := false) (v := .bool false) rfl rfl) (by decide) ?_
          refine OL_y (v := .bool false) (y_move rfl) (by decide) ?_
          refine OL_yg (v := .bool false) rfl (by decide) rfl (y_move h5) (by decide) ?_
          refine OL_yg (v := .bool false) rfl (by decide) rfl (y_move rfl) (by decide) ?_
          refine OL_s rfl (by decide) rfl rfl (by simp) ?_
          refine OL_s rfl (by decide) rfl rfl (by simp) ?_
          refine OL_s rfl (by decide) rfl rfl (by simp) ?_
          refine OL_s rfl (by decide) rfl rfl (by simp) ?_
          refine OL_yg rfl (by decide) rfl (y_pick (b := false) (v := .bool false) rfl rfl) (by decide) ?_
          refine OL_y (y_pick (b := false) (v := .bool false) rfl rfl) (by decide) ?_
          refine OL_y (v := .bool false) (y_move rfl) (by decide) ?_
          refine OL_yg (v := .bool false) rfl (by decide) rfl (y_move h5) (by decide) ?_
          refine OL_yg (v := .bool false) rfl (by decide) rfl (y_move rfl) (by decide) ?_
          refine OL_s rfl (by decide) rfl rfl (by simp) ?_
          refine OL_s rfl (by decide) rfl rfl (by simp) ?_
          refine OL_s rfl (by decide) rfl rfl (by simp) ?_
          refine OL_yg rfl (by decide) rfl (y_pick (b := false) (v := .bool false) rfl rfl) (by decide) ?_
          refine OL_yg (v := .bool false) rfl (by decide) rfl (y_move rfl) (by decide) ?_
          refine OL_s rfl (by decide) rfl rfl (by simp) ?_
          refine OL_s rfl (by decide) rfl rfl (by simp) ?_
          refine OL_s rfl (by decide) rfl rfl (by simp) ?_
          refine OL_s rfl (by decide) rfl rfl (by simp) ?_
          refine OL_yg rfl (by decide) rfl (y_pick (b := false) (v := .bool false) rfl rfl) (by decide) ?_
          refine OL_y (y_pick (b := false) (v := .bool false) rfl rfl) (by decide) ?_
          refine OL_nil ?_
          exact ⟨false, h0, h11, h13, h12, rfl, fun h => (by cases h), fun _ => fun h => h c1, rfl, H⟩
        · refine OL_y (v := .bool false) (y_move h5) (by decide) ?_
          refine OL_y (y_fieldAddr ti48 rfl ti3 rfl h4) (by decide) ?_
          refine OL_y (y_loadS (v := .int .i64 e.kind) ti3 rfl rfl (Cells.unit (H.getOwn 0 rfl) rfl)) (by decide) ?_
          refine OL_y (v := .bool false) (y_eqlF c1 rfl rfl) (by decide) ?_
          refine OL_y (v := .bool true) (y_eqlB Try.underlying4 (a := false) (b := false) rfl rfl) (by decide) ?_
          refine OL_y (v := .bool true) (y_move rfl) (by decide) ?_
          refine OL_s rfl (by decide) rfl rfl (by simp) ?_
          refine OL_y (y_pick (b := true) (v := .bool true) rfl rfl) (by decide) ?_
          refine OL_y (v := .bool true) (y_move rfl) (by decide) ?_
          refine OL_s rfl (by decide) rfl rfl (by simp) ?_
          refine OL_s rfl (by decide) rfl rfl (by simp) ?_
          refine OL_u rfl (by decide) rfl (by simp) ?_
          refine OL_u rfl (by decide) rfl (by simp) ?_
          refine OL_u rfl (by decide) rfl (by simp) ?_
          refine OL_u rfl (by decide) rfl (by simp) ?_
          refine OL_s rfl (by decide) rfl rfl (by simp) ?_
          refine OL_y (y_pick (b := true) (v := .bool true) rfl rfl) (by decide) ?_
          refine OL_y (v := .bool true) (y_move rfl) (by decide) ?_
          refine OL_s rfl (by decide) rfl rfl (by simp) ?_
          refine OL_s rfl (by decide) rfl rfl (by simp) ?_
          refine OL_u rfl (by decide) rfl (by simp) ?_
          refine OL_u rfl (by decide) rfl (by simp) ?_
          refine OL_u rfl (by decide) rfl (by simp) ?_
          refine OL_s rfl (by decide) rfl rfl (by simp) ?_
          refine OL_s rfl (by decide) rfl rfl (by simp) ?_
          refine OL_u rfl (by decide) rfl (by simp) ?_
          refine OL_u rfl (by decide) rfl (by simp) ?_
          refine OL_u rfl (by decide) rfl (by simp) ?_
          refine OL_u rfl (by decide) rfl (by simp) ?_
          refine OL_s rfl (by decide) rfl rfl (by simp) ?_
          refine OL_y (y_pick (b := true) (v := .bool true) rfl rfl) (by decide) ?_
          refine OL_nil ?_
          exact ⟨true, h0, h11, h13, h12, rfl, fun _ => c1, fun h => (by cases h), rfl, H⟩
      | some st =>
        rw [hs] at h5 h6 h7 h8
        have h5 : f 5 = .bool true := h5
        have h7 : f 7 = .int .i64 st.level := h7
        have h8 : f 8 = .int .u64 st.start := h8
        cases hov : st.over with
        | true =>
          have h6 : f 6 = .bool true := h6.trans (congrArg Value.bool hov)
          by_cases c1 : e.kind = 1
          · refine OL_y (v := .bool true) (y_move h5) (by decide) ?_
            refine OL_y (y_fieldAddr ti48 rfl ti3 rfl h4) (by decide) ?_
            refine OL_y (y_loadS (v := .int .i64 e.kind) ti3 rfl rfl (Cells.unit (H.getOwn 0 rfl) rfl)) (by decide) ?_
            refine OL_y (v := .bool true) (y_eqlT c1 rfl rfl) (by decide) ?_
            refine OL_y (v := .bool true) (y_eqlB Try.underlying4 (a := true) (b := true) rfl rfl) (by decide) ?_
            refine OL_y (v := .bool true) (y_move rfl) (by decide) ?_
            refine OL_s rfl (by decide) rfl rfl (by simp) ?_
            refine OL_y (y_pick (b := true) (v := .bool true) rfl rfl) (by decide) ?_
            refine OL_y (v := .bool true) (y_move rfl) (by decide) ?_
            refine OL_s rfl (by decide) rfl rfl (by simp) ?_
            refine OL_s rfl (by decide) rfl rfl (by simp) ?_
            refine OL_u rfl (by decide) rfl (by simp) ?_
            refine OL_u rfl (by decide) rfl (by simp) ?_
            refine OL_u rfl (by decide) rfl (by simp) ?_
            refine OL_u rfl (by decide) rfl (by simp) ?_
            refine OL_s rfl (by decide) rfl rfl (by simp) ?_
            refine OL_y (y_pick (b := true) (v := .bool true) rfl rfl) (by decide) ?_
            refine OL_y (v := .bool true) (y_move rfl) (by decide) ?_
            refine OL_s rfl (by decide) rfl rfl (by simp) ?_
            refine OL_s rfl (by decide) rfl rfl (by simp) ?_
            refine OL_u rfl (by decide) rfl (by simp) ?_
            refine OL_u rfl (by decide) rfl (by simp) ?_
            refine OL_u rfl (by decide) rfl (by simp) ?_
            refine OL_s rfl (by decide) rfl rfl (by simp) ?_
            refine OL_s rfl (by decide) rfl rfl (by simp) ?_
            refine OL_u rfl (by decide) rfl (by simp) ?_
            refine OL_u rfl (by decide) rfl (by simp) ?_
            refine OL_u rfl (by decide) rfl (by simp) ?_
            refine OL_u rfl (by decide) rfl (by simp) ?_
            refine OL_s rfl (by decide) rfl rfl (by simp) ?_
            refine OL_y (y_pick (b := true) (v := .bool true) rfl rfl) (by decide) ?_
            refine OL_nil ?_
            exact ⟨true, h0, h11, h13, h12, rfl, fun _ => .inl c1, fun h => (by cases h), rfl, H⟩
          · refine OL_y (v := .bool true) (y_move h5) (by decide) ?_
            refine OL_y (y_fieldAddr ti48 rfl ti3 rfl h4) (by decide) ?_
            refine OL_y (y_loadS (v := .int .i64 e.kind) ti3 rfl rfl (Cells.unit (H.getOwn 0 rfl) rfl)) (by decide) ?_
            refine OL_y (v := .bool false) (y_eqlF c1 rfl rfl) (by decide) ?_
            refine OL_y (v := .bool false) (y_eqlB Try.underlying4 (a := true) (b := false) rfl rfl) (by decide) ?_
            refine OL_y (v := .bool false) (y_move rfl) (by decide) ?_
            refine OL_yg (v := .bool true) rfl (by decide) rfl (y_move h6) (by decide) ?_
            refine OL_y (y_pick (b := false) (v := .bool true) rfl rfl) (by decide) ?_
            refine OL_y (v := .bool true) (y_move rfl) (by decide) ?_
            refine OL_s rfl (by decide) rfl rfl (by simp) ?_
            refine OL_s rfl (by decide) rfl rfl (by simp) ?_
            refine OL_u rfl (by decide) rfl (by simp) ?_
            refine OL_u rfl (by decide) rfl (by simp) ?_
            refine OL_u rfl (by decide) rfl (by simp) ?_
            refine OL_u rfl (by decide) rfl (by simp) ?_
            refine OL_s rfl (by decide) rfl rfl (by simp) ?_
            refine OL_y (y_pick (b := true) (v := .bool true) rfl rfl) (by decide) ?_
            refine OL_y (v := .bool true) (y_move rfl) (by decide) ?_
            refine OL_s rfl (by decide) rfl rfl (by simp) ?_
            refine OL_s rfl (by decide) rfl rfl (by simp) ?_
            refine OL_u rfl (by decide) rfl (by simp) ?_
            refine OL_u rfl (by decide) rfl (by simp) ?_
            refine OL_u rfl (by decide) rfl (by simp) ?_
            refine OL_s rfl (by decide) rfl rfl (by simp) ?_
            refine OL_s rfl (by decide) rfl rfl (by simp) ?_
            refine OL_u rfl (by decide) rfl (by simp) ?_
            refine OL_u rfl (by decide) rfl (by simp) ?_
            refine OL_u rfl (by decide) rfl (by simp) ?_
            refine OL_u rfl (by decide) rfl (by simp) ?_
            refine OL_s rfl (by decide) rfl rfl (by simp) ?_
            refine OL_y (y_pick (b := true) (v := .bool true) rfl rfl) (by decide) ?_
            refine OL_nil ?_
            exact ⟨true, h0, h11, h13, h12, rfl, fun _ => .inr (.inl hov), fun h => (by cases h), rfl, H⟩
        | false =>
          have h6 : f 6 = .bool false := h6.trans (congrArg Value.bool hov)
          by_cases c1 : e.kind = 1
          · refine OL_y (v := .bool true) (y_move h5) (by decide) ?_
            refine OL_y (y_fieldAddr ti48 rfl ti3 rfl h4) (by decide) ?_
            refine OL_y (y_loadS (v := .int .i64 e.kind) ti3 rfl rfl (Cells.unit (H.getOwn 0 rfl) rfl)) (by decide) ?_
            refine OL_y (v := .bool true) (y_eqlT c1 rfl rfl) (by decide) ?_
            refine OL_y (v := .bool true) (y_eqlB Try.underlying4 (a := true) (b := true) rfl rfl) (by decide) ?_
            refine OL_y (v := .bool true) (y_move rfl) (by decide) ?_
            refine OL_s rfl (by decide) rfl rfl (by simp) ?_
            refine OL_y (y_pick (b := true) (v := .bool true) rfl rfl) (by decide) ?_
            refine OL_y (v := .bool true) (y_move rfl) (by decide) ?_
            refine OL_s rfl (by decide) rfl rfl (by simp) ?_
            refine OL_s rfl (by decide) rfl rfl (by simp) ?_
            refine OL_u rfl (by decide) rfl (by simp) ?_
            refine OL_u rfl (by decide) rfl (by simp) ?_
            refine OL_u rfl (by decide) rfl (by simp) ?_
            refine OL_u rfl (by decide) rfl (by simp) ?_
            refine OL_s rfl (by decide) rfl rfl (by simp) ?_
            refine OL_y (y_pick (b := true) (v := .bool true) rfl rfl) (by decide) ?_
            refine OL_y (v := .bool true) (y_move rfl) (by decide) ?_
            refine OL_s rfl (by decide) rfl rfl (by simp) ?_
            refine OL_s rfl (by decide) rfl rfl (by simp) ?_
            refine OL_u rfl (by decide) rfl (by simp) ?_
            refine OL_u rfl (by decide) rfl (by simp) ?_
            refine OL_u rfl (by decide) rfl (by simp) ?_
            refine OL_s rfl (by decide) rfl rfl (by simp) ?_
            refine OL_s rfl (by decide) rfl rfl (by simp) ?_
            refine OL_u rfl (by decide) rfl (by simp) ?_
            refine OL_u rfl (by decide) rfl (by simp) ?_
            refine OL_u rfl (by decide) rfl (by simp) ?_
            refine OL_u rfl (by decide) rfl (by simp) ?_
            refine OL_s rfl (by decide) rfl rfl (by simp) ?_
            refine OL_y (y_pick (b := true) (v := .bool true) rfl rfl) (by decide) ?_
            refine OL_nil ?_
            exact ⟨true, h0, h11, h13, h12, rfl, fun _ => .inl c1, fun h => (by cases h), rfl, H⟩
          by_cases c2 : st.level = e.level
          · by_cases c3 : e.kind = 3
            · by_cases c4 : e.ts ≤ st.start
              · refine OL_y (v := .bool true) (y_move h5) (by decide) ?_
                refine OL_y (y_fieldAddr ti48 rfl ti3 rfl h4) (by decide) ?_
                refine OL_y (y_loadS (v := .int .i64 e.kind) ti3 rfl rfl (Cells.unit (H.getOwn 0 rfl) rfl)) (by decide) ?_
                refine OL_y (v := .bool false) (y_eqlF c1 rfl rfl) (by decide) ?_
                refine OL_y (v := .bool false) (y_eqlB Try.underlying4 (a := true) (b := false) rfl rfl) (by decide) ?_
                refine OL_y (v := .bool false) (y_move rfl) (by decide) ?_
                refine OL_yg (v := .bool false) rfl (by decide) rfl (y_move h6) (by decide) ?_
                refine OL_y (y_pick (b := false) (v := .bool false) rfl rfl) (by decide) ?_
                refine OL_y (v := .bool false) (y_move rfl) (by decide) ?_
                refine OL_yg (v := .bool true) rfl (by decide) rfl (y_move h5) (by decide) ?_
                refine OL_yg (v := .bool true) rfl (by decide) rfl (y_move rfl) (by decide) ?_
                refine OL_yg rfl (by decide) rfl (y_move h7) (by decide) ?_
                refine OL_yg rfl (by decide) rfl (y_fieldAddr ti48 rfl ti3 rfl h4) (by decide) ?_
                refine OL_yg rfl (by decide) rfl (y_loadS (v := .int .i64 e.level) ti3 rfl rfl (Cells.unit (H.getOwn 0 rfl) rfl)) (by decide) ?_
                refine OL_yg (v := .bool false) rfl (by decide) rfl (y_neqF c2 rfl rfl) (by decide) ?_
                refine OL_yg rfl (by decide) rfl (y_pick (b := true) (v := .bool false) rfl rfl) (by decide) ?_
                refine OL_y (y_pick (b := false) (v := .bool false) rfl rfl) (by decide) ?_
                refine OL_y (v := .bool false) (y_move rfl) (by decide) ?_
                refine OL_yg (v := .bool true) rfl (by decide) rfl (y_move h5) (by decide) ?_
                refine OL_yg (v := .bool true) rfl (by decide) rfl (y_move rfl) (by decide) ?_
                refine OL_yg rfl (by decide) rfl (y_fieldAddr ti48 rfl ti3 rfl h4) (by decide) ?_
                refine OL_yg rfl (by decide) rfl (y_loadS (v := .int .i64 e.kind) ti3 rfl rfl (Cells.unit (H.getOwn 0 rfl) rfl)) (by decide) ?_
                refine OL_yg (v := .bool true) rfl (by decide) rfl (y_eqlT c3 rfl rfl) (by decide) ?_
                refine OL_yg rfl (by decide) rfl (y_pick (b := true) (v := .bool true) rfl rfl) (by decide) ?_
                refine OL_yg (v := .bool true) rfl (by decide) rfl (y_move rfl) (by decide) ?_
                refine OL_yg rfl (by decide) rfl (y_fieldAddr ti48 rfl ti26 rfl h4) (by decide) ?_
                refine OL_yg rfl (by decide) rfl (y_loadS (v := .int .u64 e.ts) ti26 rfl rfl (Cells.unit (H.getOwn 0 rfl) rfl)) (by decide) ?_
                refine OL_yg rfl (by decide) rfl (y_move h8) (by decide) ?_
                refine OL_yg (v := .bool true) rfl (by decide) rfl (y_leqT c4 rfl rfl) (by decide) ?_
                refine OL_yg rfl (by decide) rfl (y_pick (b := true) (v := .bool true) rfl rfl) (by decide) ?_
                refine OL_y (y_pick (b := false) (v := .bool true) rfl rfl) (by decide) ?_
                refine OL_nil ?_
                exact ⟨true, h0, h11, h13, h12, rfl, fun _ => .inr (.inr (.inr ⟨c3, c4⟩)), fun h => (by cases h), rfl, H⟩
              · refine OL_y (v := .bool true) (y_move h5) (by decide) ?_
                refine OL_y (y_fieldAddr ti48 rfl ti3 rfl h4) (by decide) ?_
                refine OL_y (y_loadS (v := .int .i64 e.kind) ti3 rfl rfl (Cells.unit (H.getOwn 0 rfl) rfl)) (by decide) ?_
                refine OL_y (v := .bool false) (y_eqlF c1 rfl rfl) (by decide) ?_
                refine OL_y (v := .bool false) (y_eqlB Try.underlying4 (a := true) (b := false) rfl rfl) (by decide) ?_
                refine OL_y (v := .bool false) (y_move rfl) (by decide) ?_
                refine OL_yg (v := .bool false) rfl (by decide) rfl (y_move h6) (by decide) ?_
                refine OL_y (y_pick (b := false) (v := .bool false) rfl rfl) (by decide) ?_
                refine OL_y (v := .bool false) (y_move rfl) (by decide) ?_
                refine OL_yg (v := .bool true) rfl (by decide) rfl (y_move h5) (by decide) ?_
                refine OL_yg (v := .bool true) rfl (by decide) rfl (y_move rfl) (by decide) ?_
                refine OL_yg rfl (by decide) rfl (y_move h7) (by decide) ?_
                refine OL_yg rfl (by decide) rfl (y_fieldAddr ti48 rfl ti3 rfl h4) (by decide) ?_
                refine OL_yg rfl (by decide) rfl (y_loadS (v := .int .i64 e.level) ti3 rfl rfl (Cells.unit (H.getOwn 0 rfl) rfl)) (by decide) ?_
                refine OL_yg (v := .bool false) rfl (by decide) rfl (y_neqF c2 rfl rfl) (by decide) ?_
                refine OL_yg rfl (by decide) rfl (y_pick (b := true) (v := .bool false) rfl rfl) (by decide) ?_
                refine OL_y (y_pick (b := false) (v := .bool false) rfl rfl) (by decide) ?_
                refine OL_y (v := .bool false) (y_move rfl) (by decide) ?_
                refine OL_yg (v := .bool true) rfl (by decide) rfl (y_move h5) (by decide) ?_
                refine OL_yg (v := .bool true) rfl (by decide) rfl (y_move rfl) (by decide) ?_
                refine OL_yg rfl (by decide) rfl (y_fieldAddr ti48 rfl ti3 rfl h4) (by decide) ?_
                refine OL_yg rfl (by decide) rfl (y_loadS (v := .int .i64 e.kind) ti3 rfl rfl (Cells.unit (H.getOwn 0 rfl) rfl)) (by decide) ?_
                refine OL_yg (v := .bool true) rfl (by decide) rfl (y_eqlT c3 rfl rfl) (by decide) ?_
                refine OL_yg rfl (by decide) rfl (y_pick (b := true) (v := .bool true) rfl rfl) (by decide) ?_
                refine OL_yg (v := .bool true) rfl (by decide) rfl (y_move rfl) (by decide) ?_
                refine OL_yg rfl (by decide) rfl (y_fieldAddr ti48 rfl ti26 rfl h4) (by decide) ?_
                refine OL_yg rfl (by decide) rfl (y_loadS (v := .int .u64 e.ts) ti26 rfl rfl (Cells.unit (H.getOwn 0 rfl) rfl)) (by decide) ?_
                refine OL_yg rfl (by decide) rfl (y_move h8) (by decide) ?_
                refine OL_yg (v := .bool false) rfl (by decide) rfl (y_leqF c4 rfl rfl) (by decide) ?_
                refine OL_yg rfl (by decide) rfl (y_pick (b := true) (v := .bool false) rfl rfl) (by decide) ?_
                refine OL_y (y_pick (b := false) (v := .bool false) rfl rfl) (by decide) ?_
                refine OL_nil ?_
                exact ⟨false, h0, h11, h13, h12, rfl, fun h => (by cases h), fun _ => fun h => by rcases h with h | h | h | h; exact c1 h; exact absurd (hov.symm.trans h) (by decide); exact h c2; exact c4 h.2, rfl, H⟩
            · refine OL_y (v := .bool true) (y_move h5) (by decide) ?_
              refine OL_y (y_fieldAddr ti48 rfl ti3 rfl h4) (by decide) ?_
              refine OL_y (y_loadS (v := .int .i64 e.kind) ti3 rfl rfl (Cells.unit (H.getOwn 0 rfl) rfl)) (by decide) ?_
              refine OL_y (v := .bool false) (y_eqlF c1 rfl rfl) (by decide) ?_
              refine OL_y (v := .bool false) (y_eqlB Try.underlying4 (a := true) (b := false) rfl rfl) (by decide) ?_
              refine OL_y (v := .bool false) (y_move rfl) (by decide) ?_
              refine OL_yg (v := .bool false) rfl (by decide) rfl (y_move h6) (by decide) ?_
              refine OL_y (y_pick (b := false) (v := .bool false) rfl rfl) (by decide) ?_
              refine OL_y (v := .bool false) (y_move rfl) (by decide) ?_
              refine OL_yg (v := .bool true) rfl (by decide) rfl (y_move h5) (by decide) ?_
              refine OL_yg (v := .bool true) rfl (by decide) rfl (y_move rfl) (by decide) ?_
              refine OL_yg rfl (by decide) rfl (y_move h7) (by decide) ?_
              refine OL_yg rfl (by decide) rfl (y_fieldAddr ti48 rfl ti3 rfl h4) (by decide) ?_
              refine OL_yg rfl (by decide) rfl (y_loadS (v := .int .i64 e.level) ti3 rfl rfl (Cells.unit (H.getOwn 0 rfl) rfl)) (by decide) ?_
              refine OL_yg (v := .bool false) rfl (by decide) rfl (y_neqF c2 rfl rfl) (by decide) ?_
              refine OL_yg rfl (by decide) rfl (y_pick (b := true) (v := .bool false) rfl rfl) (by decide) ?_
              refine OL_y (y_pick (b := false) (v := .bool false) rfl rfl) (by decide) ?_
              refine OL_y (v := .bool false) (y_move rfl) (by decide) ?_
              refine OL_yg (v := .bool true) rfl (by decide) rfl (y_move h5) (by decide) ?_
              refine OL_yg (v := .bool true) rfl (by decide) rfl (y_move rfl) (by decide) ?_
              refine OL_yg rfl (by decide) rfl (y_fieldAddr ti48 rfl ti3 rfl h4) (by decide) ?_
              refine OL_yg rfl (by decide) rfl (y_loadS (v := .int .i64 e.kind) ti3 rfl rfl (Cells.unit (H.getOwn 0 rfl) rfl)) (by decide) ?_
              refine OL_yg (v := .bool false) rfl (by decide) rfl (y_eqlF c3 rfl rfl) (by decide) ?_
              refine OL_yg rfl (by decide) rfl (y_pick (b := true) (v := .bool false) rfl rfl) (by decide) ?_
              refine OL_yg (v := .bool false) rfl (by decide) rfl (y_move rfl) (by decide) ?_
              refine OL_s rfl (by decide) rfl rfl (by simp) ?_
              refine OL_s rfl (by decide) rfl rfl (by simp) ?_
              refine OL_s rfl (by decide) rfl rfl (by simp) ?_
              refine OL_s rfl (by decide) rfl rfl (by simp) ?_
              refine OL_yg rfl (by decide) rfl (y_pick (b := false) (v := .bool false) rfl rfl) (by decide) ?_
              refine OL_y (y_pick (b := false) (v := .bool false) rfl rfl) (by decide) ?_
              refine OL_nil ?_
              exact ⟨false, h0, h11, h13, h12, rfl, fun h => (by cases h), fun _ => fun h => by rcases h with h | h | h | h; exact c1 h; exact absurd (hov.symm.trans h) (by decide); exact h c2; exact c3 h.1, rfl, H⟩
          · refine OL_y (v := .bool true) (y_move h5) (by decide) ?_
            refine OL_y (y_fieldAddr ti48 rfl ti3 rfl h4) (by decide) ?_
            refine OL_y (y_loadS (v := .int .i64 e.kind) ti3 rfl rfl (Cells.unit (H.getOwn 0 rfl) rfl)) (by decide) ?_
            refine OL_y (v := .bool false) (y_eqlF c1 rfl rfl) (by decide) ?_
            refine OL_y (v := .bool false) (y_eqlB Try.underlying4 (a := true) (b := false) rfl rfl) (by decide) ?_
            refine OL_y (v := .bool false) (y_move rfl) (by decide) ?_
            refine OL_yg (v := .bool false) rfl (by decide) rfl (y_move h6) (by decide) ?_
            refine OL_y (y_pick (b := false) (v := .bool false) rfl rfl) (by decide) ?_
            refine OL_y (v := .bool false) (y_move rfl) (by decide) ?_
            refine OL_yg (v := .bool true) rfl (by decide) rfl (y_move h5) (by decide) ?_
            refine OL_yg (v := .bool true) rfl (by decide) rfl (y_move rfl) (by decide) ?_
            refine OL_yg rfl (by decide) rfl (y_move h7) (by decide) ?_
            refine OL_yg rfl (by decide) rfl (y_fieldAddr ti48 rfl ti3 rfl h4) (by decide) ?_
            refine OL_yg rfl (by decide) rfl (y_loadS (v := .int .i64 e.level) ti3 rfl rfl (Cells.unit (H.getOwn 0 rfl) rfl)) (by decide) ?_
            refine OL_yg (v := .bool true) rfl (by decide) rfl (y_neqT c2 rfl rfl) (by decide) ?_
            refine OL_yg rfl (by decide) rfl (y_pick (b := true) (v := .bool true) rfl rfl) (by decide) ?_
            refine OL_y (y_pick (b := false) (v := .bool true) rfl rfl) (by decide) ?_
            refine OL_y (v := .bool true) (y_move rfl) (by decide) ?_
            refine OL_s rfl (by decide) rfl rfl (by simp) ?_
            refine OL_s rfl (by decide) rfl rfl (by simp) ?_
            refine OL_u rfl (by decide) rfl (by simp) ?_
            refine OL_u rfl (by decide) rfl (by simp) ?_
            refine OL_u rfl (by decide) rfl (by simp) ?_
            refine OL_s rfl (by decide) rfl rfl (by simp) ?_
            refine OL_s rfl (by decide) rfl rfl (by simp) ?_
            refine OL_u rfl (by decide) rfl (by simp) ?_
            refine OL_u rfl (by decide) rfl (by simp) ?_
            refine OL_u rfl (by decide) rfl (by simp) ?_
            refine OL_u rfl (by decide) rfl (by simp) ?_
            refine OL_s rfl (by decide) rfl rfl (by simp) ?_
            refine OL_y (y_pick (b := true) (v := .bool true) rfl rfl) (by decide) ?_
            refine OL_nil ?_
            exact ⟨true, h0, h11, h13, h12, rfl, fun _ => .inr (.inr (.inl c2)), fun h => (by cases h), rfl, H⟩
    rintro f ds w5 ⟨b, h0, h11, h13, h12, h94, hb1, hb2, rfl, H⟩
    refine W_cond h94 (fun hc => ?_) (fun hc => ?_)
    · refine W_seq ?_
      refine W_region ?_
      refine OL_y (y_assign rfl) (by decide) ?_
      refine OL_nil ?_
      refine W_ret ?_
      show RetOK _ _ _ _ _ _
      exact ret1 (v := .bool false) Try.results15 rfl ⟨by rw [hsp (hnot (hb1 hc))], H.ext_of 1 rfl⟩
    · refine W_skip ?_
      obtain ⟨s', hs'⟩ := hyes (hb2 hc)
      exact ⟨h13, h12, s', h0, h11, rfl, by rw [hnx, hs'], H.tail⟩
  · rintro f ds w1 ⟨s, h0, h11, rfl, hF, H⟩ hti htn
    rw [List.take_length] at hF
    refine W_seq ?_
    refine W_region ?_
    refine OL_y (y_assign rfl) (by decide) ?_
    refine OL_nil ?_
    refine W_ret ?_
    show RetOK _ _ _ _ _ _
    exact ret1 (v := .bool true) Try.results15 rfl ⟨by unfold formed; rw [hF]; rfl, H.ext_of 0 rfl⟩
end Go.Proofs.Ytelgegodeifbiaa
