/- The reference's walk, step by step. -/
import Derived.Test.YtplpedigkhgakaaWt
import Derived.Test.YtplpedigkhgakaaP
namespace Go.Proofs.Ytplpedigkhgakaa
open Go Go.Wk Pl
set_option linter.unusedVariables false

abbrev tE := tPair (tInt .u64) (tInt .u64)
theorem tE_flat : tE.flat := tPair_flat (tInt_flat _) (tInt_flat _)

set_option maxHeartbeats 1000000 in
theorem f16_calls {Z : Nat → Prop} {w : World} {a : Value} {xs : List E} {fr : Int} (hx : SlR tE 16 Z w a xs) (hfr : InK .u64 fr) (h40 : xs.length ≤ 40) :
    Calls Try.prog 16 [a, .int .u64 fr].toArray w fun e w' => ∃ v, e = .returned v ∧ SlR tE 16 (fun k => w.heap.size ≤ k) w' v (refWalk xs fr) ∧ Ext none' w w' := by
  obtain ⟨a0, c0, rfl, hl0, hm0⟩ := hx.len
  have H := Holds.start w
  refine calls_of_W' Try.func16 rfl Try.ntmps16 rfl ?_
  refine W_seq ?_
  refine W_region ?_   -- region 0
  refine OL_y (y_assign rfl) (by decide) ?_   -- 0: t4 := assign c(slice(none, 0, 0))  <41>
  refine OL_nil ?_
  refine W_seq ?_
  refine W_region ?_   -- region 1
  refine OL_y (y_assign rfl) (by decide) ?_   -- 0: t5 := assign c(slice(none, 0, 0))  <41>
  refine OL_nil ?_
  refine W_seq ?_
  refine W_region ?_   -- region 2
  refine OL_y (y_move rfl) (by decide) ?_   -- 0: t13 := move t1  <23>
  refine OL_c (op_buildSlice H [.int .u64 fr] ti26 ti23 rfl rfl rfl (by simp [Value.cells]) rfl rfl (by decide) fun b w1 H => ?_)   -- 1: t14 := buildSlice 26 1 [(0, t13)]  <26>
  refine OL_y (y_assign rfl) (by decide) ?_   -- 2: t6 := assign t14  <26>
  refine OL_nil ?_
  refine W_seq ?_
  refine W_seq ?_
  refine W_region ?_   -- region 3
  refine OL_y (y_assign rfl) (by decide) ?_   -- 0: t7 := assign c(0:i64)  <3>
  refine OL_nil ?_
  have H := H.rowNil 44 2
  refine W_block (W_loopN (fun j f ds w' => ∃ i s v5 v6 cs cq, f 0 = .slice a0 xs.length c0 ∧ f 1 = .int .u64 fr ∧ f 5 = v5 ∧ f 6 = v6 ∧ f 7 = .int .i64 (i : Nat) ∧ ds = [] ∧ Holds w' [row 44 2 v5 s.1.length cs, row 23 1 v6 s.2.length cq, shr (fun k => k < w.heap.size) w] ∧
    Els tE none' w cs s.1 ∧ Els (tInt .u64) none' w cq s.2 ∧ Inv xs s ∧ bfs xs fr j i s = refWalk xs fr ∧ i ≤ s.2.length ∧ j + i = xs.length + 2) (xs.length + 2)
    ⟨0, ([], [fr]), _, _, _, _, rfl, rfl, rfl, rfl, rfl, rfl, H, Els.nil _ _ _, (Els.nil _ _ _).snoc ⟨rfl, hfr⟩, Inv.init _ _, rfl, by simp, by simp⟩ ?_)
  rintro j f ds w' ⟨i, s, v5, v6, cs, cq, h0, h1, h5, h6, h7, rfl, H, he, heq, hinv, hb, hi, hj⟩
  have hlen := hinv.len
  have hql := hinv.q
  obtain ⟨a6, c6, rfl, hc6, hm6⟩ := H.rowLen 1 rfl
  refine W_seq ?_
  refine W_seq ?_
  refine W_region ?_   -- region 4
  refine OL_y (y_move h7) (by decide) ?_   -- 0: t15 := move t7  <3>
  refine OL_y (y_move h6) (by decide) ?_   -- 1: t16 := move t6  <26>
  refine OL_y (y_len rfl ti26 rfl) (by decide) ?_   -- 2: t17 := CALL len [t16] :[26]  <3>
  refine OL_y (y_lss rfl rfl) (by decide) ?_   -- 3: t18 := lss t15 t17 :3  <4>
  refine OL_nil ?_
  refine W_cond rfl (fun hc => ?_) (fun hc => ?_)   -- t18
  rotate_left
  · refine W_exit ?_   -- exit 0
    have hdone : s.1 = refWalk xs fr := by
      rw [← hb]
      cases j with
      | zero => rfl
      | succ j => simp only [bfs]; rw [List.getElem?_eq_none (by simp at hc; omega)]
    refine W_seq ?_
    refine W_region ?_   -- region 21
    refine OL_y (y_move h5) (by decide) ?_
    refine OL_y (y_assign rfl) (by decide) ?_
    refine OL_nil ?_
    refine W_ret ?_
    show RetOK _ _ _ _ _ _
    refine ret1 (v := v5) Try.results16 rfl ⟨v5, rfl, ?_, H.ext_of 2 rfl⟩
    rw [← hdone]
    refine SlR.ofRow (H.getRow 0 rfl) (by decide) (he.flat tE_flat) (H.fresh 0 2 rfl rfl) (by omega)
  · have hlt : i < s.2.length := by simp at hc; omega
    have hqi := List.getElem?_eq_getElem hlt
    obtain ⟨j, rfl⟩ : ∃ j', j = j' + 1 := ⟨j - 1, by omega⟩
    have hb' : bfs xs fr j (i + 1) (inner xs fr s.2[i] s) = refWalk xs fr := by rw [← hb]; simp only [bfs, hqi]
    refine W_skip ?_
    refine W_seq ?_
    refine W_block ?_   -- block 1
    refine W_seq ?_
    refine W_region ?_   -- region 6
    refine OL_y (y_move h0) (by decide) ?_   -- 0: t21 := move t0  <22>
    refine OL_y (y_len rfl ti22 rfl) (by decide) ?_   -- 1: t22 := CALL len [t21] :[22]  <3>
    refine OL_y (y_move rfl) (by decide) ?_   -- 2: t23 := move c(0:i64)  <3>
    refine OL_nil ?_
    refine W_range (N := xs.length) (by simp [maxLen]; omega) (fun k f ds w' => ∃ s' v5 v6 cs cq, f 0 = .slice a0 xs.length c0 ∧ f 1 = .int .u64 fr ∧ f 5 = v5 ∧ f 6 = v6 ∧ f 7 = .int .i64 (i : Nat) ∧ f 21 = .slice a0 xs.length c0 ∧ ds = [] ∧
      Holds w' [row 44 2 v5 s'.1.length cs, row 23 1 v6 s'.2.length cq, shr (fun k => k < w.heap.size) w] ∧ Els tE none' w cs s'.1 ∧ Els (tInt .u64) none' w cq s'.2 ∧ Inv xs s' ∧ s' = inner (xs.take k) fr s.2[i] s ∧ s'.2[i]? = some s.2[i] ∧ i < s'.2.length)
      ⟨s, _, _, cs, cq, h0, h1, h5, h6, h7, rfl, rfl, H, he, heq, hinv, by simp [inner], hqi, hlt⟩ rfl rfl (by decide) (by decide) (by decide) rfl rfl ?_ rfl rfl ?_
    rotate_left
    · rintro f ds w' ⟨s', v5, v6, cs, cq, h0, h1, h5, h6, h7, h21, rfl, H, he, heq, hinv, hs', _, hlt'⟩ hti htn
      rw [List.take_length] at hs'
      refine W_region ?_
      refine OL_y (y_move h7) (by decide) ?_
      refine OL_y (y_add64 (a := i) (b := 1) rfl rfl (by omega) (by omega)) (by decide) ?_
      refine OL_y (y_assign rfl) (by decide) ?_
      refine OL_nil ?_
      exact ⟨j, by omega, i + 1, s', v5, v6, cs, cq, h0, h1, h5, h6, rfl, rfl, H, he, heq, hinv, by rw [hs']; exact hb', hlt', by omega⟩
    · rintro k f ds w' hk ⟨s', v5, v6, cs, cq, h0, h1, h5, h6, h7, h21, rfl, H, he, heq, hinv, hs', hqi', hlt'⟩ hti htn
      have hlen' := hinv.len
      have hql' := hinv.q
      have hxk := List.getElem?_eq_getElem hk
      obtain ⟨b0, o0, cs0, e0, _, hc0, hr0⟩ := (hx.keeps (H.keepsAll 2 rfl _)).at hxk
      obtain ⟨rfl, hr1, hr2⟩ := pair_cells hr0
      subst e0
      generalize hxs : xs[k] = x at hxk hc0 hr0 hr1 hr2
      obtain ⟨x1, x2⟩ := x
      refine W_block ?_   -- block 3
      refine W_seq ?_
      refine W_region ?_   -- region 8
      refine OL_y (y_indexAddr ti22 ti35 h21 hti (by omega) (by omega)) (by decide) ?_   -- 0: t25 := indexAddr 22 t21 t23  <0>
      refine OL_y (y_loadA ti35 rfl rfl hc0 rfl) (by decide) ?_   -- 1: t26 := load 35 t25  <35>
      refine OL_var H ti35 rfl (by decide) (fun _ => rfl) rfl (by simp [Value.cells, Value.oneCell']) fun be w1 H => ?_
      refine OL_nil ?_
      refine W_seq ?_
      refine W_seq ?_
      refine W_drawQ H mixed (by kernel_rfl) (by kernel_rfl) fun w2 H => ?_   -- region 9
      obtain ⟨b6, c6, cs6, rfl, hc6, hr6⟩ := H.rowAt (T := tInt .u64) (Z := none') 2 rfl heq hqi' rfl
      obtain ⟨rfl, _⟩ := hr6
      refine QL_y (y_fieldAddr ti35 rfl ti23 rfl rfl) (by decide) ?_   -- 0: t27 := fieldAddr 35 t9 0  <0>  after[]
      refine QL_y (y_loadS ti23 rfl rfl (Cells.unit (H.getOwn 0 rfl) rfl)) (by decide) ?_   -- 1: t28 := load 23 t27  <23>  after[0]
      refine QL_y (y_move h6) (by decide) ?_   -- 2: t29 := move t6  <26>  after[]
      refine QL_y (y_move h7) (by decide) ?_   -- 3: t30 := move t7  <3>  after[]
      refine QL_y (y_indexAddr ti26 ti23 rfl rfl (by omega) (by omega)) (by decide) ?_   -- 4: t31 := indexAddr 26 t29 t30  <0>  after[2, 3]
      refine QL_y (y_loadS ti23 rfl rfl hc6) (by decide) ?_   -- 5: t32 := load 23 t31  <23>  after[4]
      refine QL_y (y_neq rfl rfl) (by decide) ?_   -- 6: t33 := neq t28 t32 :23  <4>  after[1, 5]
      refine QL_nil ?_
      have htake : xs.take (k + 1) = xs.take k ++ [(x1, x2)] := by rw [List.take_add_one, hxk]; rfl
      have hin : inner (xs.take (k + 1)) fr s.2[i] s = stepE fr s.2[i] s' (x1, x2) := by rw [htake, inner_snoc, hs']
      refine W_cond rfl (fun hc => ?_) (fun hc => ?_)   -- t33
      · refine W_exit ?_   -- exit 3
        have hst : stepE fr s.2[i] s' (x1, x2) = s' := by simp at hc; simp [stepE, hc]
        exact ⟨hti, htn, s', _, _, cs, cq, h0, h1, h5, h6, h7, h21, rfl, H.tail, he, heq, hinv, by rw [hin, hst], hqi', hlt'⟩
      refine W_skip ?_
      refine W_seq ?_
      refine W_region ?_   -- region 10
      refine OL_y (y_assign rfl) (by decide) ?_   -- 0: t10 := assign c(bool(false))  <4>
      refine OL_nil ?_
      refine W_seq ?_
      refine W_seq ?_
      refine W_region ?_   -- region 11
      refine OL_y (y_move h5) (by decide) ?_   -- 0: t34 := move t5  <41>
      obtain ⟨a5, c5, rfl, hc5, hm5⟩ := H.rowLen 1 rfl
      refine OL_y (y_len rfl ti41 rfl) (by decide) ?_   -- 1: t35 := CALL len [t34] :[41]  <3>
      refine OL_y (y_move rfl) (by decide) ?_   -- 2: t36 := move c(0:i64)  <3>
      refine OL_nil ?_
      refine W_range (N := s'.1.length) (by simp [maxLen]; omega) (fun m f ds w' => f 0 = .slice (some ⟨b0, o0, none⟩) xs.length c0 ∧ f 1 = .int .u64 fr ∧ f 5 = .slice a5 s'.1.length c5 ∧ f 6 = .slice (some ⟨b6, 0, none⟩) s'.2.length c6 ∧ f 7 = .int .i64 (i : Nat) ∧ f 9 = .pointer (some ⟨be, 0, none⟩) ∧
        f 21 = .slice (some ⟨b0, o0, none⟩) xs.length c0 ∧ f 22 = .int .i64 xs.length ∧ f 23 = .int .i64 k ∧ f 34 = .slice a5 s'.1.length c5 ∧ ds = [] ∧ f 10 = .bool (decide (x2 ∈ (s'.1.take m).map (·.1))) ∧
        Holds w' [own be (.cells #[.int .u64 x1, .int .u64 x2] 35), row 44 2 (.slice a5 s'.1.length c5) s'.1.length cs, row 23 1 (.slice (some ⟨b6, 0, none⟩) s'.2.length c6) s'.2.length cq, shr (fun k => k < w.heap.size) w])
        ⟨h0, h1, h5, h6, h7, rfl, h21, htn, hti, rfl, rfl, rfl, H⟩ rfl rfl (by decide) (by decide) (by decide) rfl rfl ?_ rfl rfl ?_
      · rintro m f ds w' hm ⟨h0, h1, h5, h6, h7, h9, h21, h22, h23, h34, rfl, h10, H⟩ hti2 htn2
        have hsm := List.getElem?_eq_getElem hm
        obtain ⟨b5, c5', cs5, e5, hC5, hr5⟩ := H.rowAt (T := tE) (Z := none') 1 rfl he hsm rfl
        obtain ⟨rfl, hr51, hr52⟩ := pair_cells hr5
        injection e5 with e5 _ e6
        subst e5 e6
        generalize hss : s'.1[m] = y at hsm hC5 hr51 hr52
        obtain ⟨y1, y2⟩ := y
        have htk : (s'.1.take (m + 1)).map (·.1) = (s'.1.take m).map (·.1) ++ [y1] := by rw [List.take_add_one, hsm]; simp
        refine W_block ?_   -- block 5
        refine W_seq ?_
        refine W_region ?_   -- region 13
        refine OL_y (y_indexAddr ti41 ti44 h34 hti2 (by omega) (by omega)) (by decide) ?_   -- 0: t38 := indexAddr 41 t34 t36  <0>
        refine OL_y (y_loadA ti44 rfl rfl hC5 rfl) (by decide) ?_   -- 1: t39 := load 44 t38  <44>
        refine OL_var H ti44 rfl (by decide) (fun _ => rfl) rfl (by simp [Value.cells, Value.oneCell']) fun bs w1 H => ?_
        refine OL_nil ?_
        refine W_region ?_   -- region 14
        refine OL_y (y_move h10) (by decide) ?_   -- 0: t40 := move t10  <4>
        refine OL_y (y_move rfl) (by decide) ?_   -- 1: t41 := move t40  <4>
        by_cases hin : x2 ∈ (s'.1.take m).map (·.1)
        · refine OL_s rfl (by decide) (show _ = Value.bool true by simp only [decide_eq_true hin]; rfl) rfl (by simp) ?_
          refine OL_s rfl (by decide) (show _ = Value.bool true by simp only [decide_eq_true hin]; rfl) rfl (by simp) ?_
          refine OL_s rfl (by decide) (show _ = Value.bool true by simp only [decide_eq_true hin]; rfl) rfl (by simp) ?_
          refine OL_s rfl (by decide) (show _ = Value.bool true by simp only [decide_eq_true hin]; rfl) rfl (by simp) ?_
          refine OL_s rfl (by decide) (show _ = Value.bool true by simp only [decide_eq_true hin]; rfl) rfl (by simp) ?_
          refine OL_y (y_pick (b := true) (v := .bool true) (by simp only [decide_eq_true hin]; rfl) rfl) (by decide) ?_
          refine OL_y (y_assign rfl) (by decide) ?_
          refine OL_nil ?_
          refine ⟨hti2, htn2, h0, h1, h5, h6, h7, h9, h21, h22, h23, h34, rfl, ?_, H.tail⟩
          show Value.bool true = _
          rw [htk]; simp at hin; simp [hin]
        · refine OL_yg rfl (by decide) (show _ = Value.bool false by simp only [decide_eq_false hin]; rfl) (y_fieldAddr ti44 rfl ti23 rfl rfl) (by decide) ?_
          refine OL_yg rfl (by decide) (show _ = Value.bool false by simp only [decide_eq_false hin]; rfl) (y_loadS ti23 rfl rfl (Cells.unit (H.getOwn 0 rfl) rfl)) (by decide) ?_
          refine OL_yg rfl (by decide) (show _ = Value.bool false by simp only [decide_eq_false hin]; rfl) (y_fieldAddr ti35 rfl ti23 rfl h9) (by decide) ?_
          refine OL_yg rfl (by decide) (show _ = Value.bool false by simp only [decide_eq_false hin]; rfl) (y_loadS ti23 rfl rfl (Cells.unit (H.getOwn 1 rfl) rfl)) (by decide) ?_
          refine OL_yg rfl (by decide) (show _ = Value.bool false by simp only [decide_eq_false hin]; rfl) (y_eql rfl rfl) (by decide) ?_
          refine OL_y (y_pick (b := false) (by simp only [decide_eq_false hin]; rfl) rfl) (by decide) ?_
          refine OL_y (y_assign rfl) (by decide) ?_
          refine OL_nil ?_
          refine ⟨hti2, htn2, h0, h1, h5, h6, h7, h9, h21, h22, h23, h34, rfl, ?_, H.tail⟩
          show Value.bool (decide (y1 = x2)) = _
          have hiff : (y1 = x2) ↔ x2 ∈ (s'.1.take (m + 1)).map (·.1) := by
            rw [htk, List.mem_append, List.mem_singleton]
            exact ⟨fun h => .inr h.symm, fun h => h.elim (fun h => (hin h).elim) (fun h => h.symm)⟩
          rw [decide_eq_decide.2 hiff]
      · rintro f ds w' ⟨h0, h1, h5, h6, h7, h9, h21, h22, h23, h34, rfl, h10, H⟩ hti2 htn2
        rw [List.take_length] at h10
        refine W_seq ?_
        refine W_seq ?_
        refine W_region ?_   -- region 16
        refine OL_y (y_move h10) (by decide) ?_   -- 0: t49 := move t10  <4>
        refine OL_nil ?_
        refine W_cond rfl (fun hc' => ?_) (fun hc' => ?_)   -- t49
        · refine W_exit ?_   -- exit 3
          have hst : stepE fr s.2[i] s' (x1, x2) = s' := by
            have := of_decide_eq_true hc'
            unfold stepE; rw [if_neg]; rintro ⟨_, h⟩; exact h this
          exact ⟨h23, h22, s', _, _, cs, cq, h0, h1, h5, h6, h7, h21, rfl, H.tail, he, heq, hinv, by rw [hin, hst], hqi', hlt'⟩
        have hnin := of_decide_eq_false hc'
        have hq1 : x1 = s.2[i] := by simp at hc; exact hc
        have hinv2 : Inv xs (stepE fr s.2[i] s' (x1, x2)) := hinv.step (List.mem_of_getElem? hxk)
        have hst : stepE fr s.2[i] s' (x1, x2) = (s'.1 ++ [(x2, x1)], if x2 = fr then s'.2 else s'.2 ++ [x2]) := by unfold stepE; rw [if_pos ⟨hq1, hnin⟩]
        have hlen2 := hinv2.len
        have hq2 := hinv2.q
        rw [hst] at hlen2 hq2 hinv2 hin
        simp only [List.length_append, List.length_cons, List.length_nil] at hlen2 hq2
        refine W_skip ?_
        refine W_seq ?_
        refine W_region ?_   -- region 17
        refine OL_y (y_move h5) (by decide) ?_   -- 0: t50 := move t5  <41>
        refine OL_y (y_fieldAddr ti35 rfl ti23 rfl h9) (by decide) ?_   -- 1: t51 := fieldAddr 35 t9 1  <0>
        refine OL_y (y_loadS ti23 rfl rfl (Cells.unit (H.getOwn 0 rfl) rfl)) (by decide) ?_   -- 2: t52 := load 23 t51  <23>
        refine OL_y (y_fieldAddr ti35 rfl ti23 rfl h9) (by decide) ?_   -- 3: t53 := fieldAddr 35 t9 0  <0>
        refine OL_y (y_loadS ti23 rfl rfl (Cells.unit (H.getOwn 0 rfl) rfl)) (by decide) ?_   -- 4: t54 := load 23 t53  <23>
        refine OL_y (y_build (cells := #[.int .u64 x2, .int .u64 x1]) ti44 pl44 rfl) (by decide) ?_   -- 5: t55 := build 44 [(0, t52), (1, t54)]  <44>
        refine OL_c (op_buildSlice H [.agg #[.int .u64 x2, .int .u64 x1]] ti41 ti44 rfl rfl rfl (by simp [Value.cells]) rfl rfl (by decide) fun b w1 H => ?_)   -- 6: t56 := buildSlice 41 1 [(0, t55)]  <41>
        refine OL_c (op_append H 2 rfl rfl ti41 ti44 rfl rfl rfl rfl (Src.row (H.getRow 0 rfl)) rfl (by simp [Value.cells, Value.oneCell']) (by omega) (by simp [maxLen]; omega) (by decide) fun v5' w2 H => ?_)   -- 7
        refine OL_y (y_assign rfl) (by decide) ?_   -- 8: t5 := assign t57  <41>
        refine OL_nil ?_
        have he2 : Els tE none' w ((cs ++ [Value.agg #[.int .u64 x2, .int .u64 x1]].flatMap fun v => v.cells.toList)) (s'.1 ++ [(x2, x1)]) := he.snoc ⟨[.int .u64 x2], [.int .u64 x1], rfl, ⟨rfl, hr2⟩, ⟨rfl, hr1⟩⟩
        have H := H.tail
        refine W_seq ?_
        refine W_region ?_   -- region 18
        refine OL_y (y_fieldAddr ti35 rfl ti23 rfl h9) (by decide) ?_   -- 0: t58 := fieldAddr 35 t9 1  <0>
        refine OL_y (y_loadS ti23 rfl rfl (Cells.unit (H.getOwn 0 rfl) rfl)) (by decide) ?_   -- 1: t59 := load 23 t58  <23>
        refine OL_y (y_move h1) (by decide) ?_   -- 2: t60 := move t1  <26>
        refine OL_y (y_neq rfl rfl) (by decide) ?_   -- 3: t61 := neq t59 t60 :23  <4>
        refine OL_nil ?_
        refine W_cond rfl (fun hc2 => ?_) (fun hc2 => ?_)   -- t61
        · have hne : x2 ≠ fr := of_decide_eq_true hc2
          rw [if_neg hne] at hin hinv2 hq2
          simp only [List.length_append, List.length_cons, List.length_nil] at hq2
          refine W_region ?_   -- region 19
          refine OL_y (y_move h6) (by decide) ?_   -- 0: t62 := move t6  <26>
          refine OL_y (y_fieldAddr ti35 rfl ti23 rfl h9) (by decide) ?_   -- 1: t63 := fieldAddr 35 t9 1  <0>
          refine OL_y (y_loadS ti23 rfl rfl (Cells.unit (H.getOwn 0 rfl) rfl)) (by decide) ?_   -- 2: t64 := load 23 t63  <23>
          refine OL_c (op_buildSlice H [.int .u64 x2] ti26 ti23 rfl rfl rfl (by simp [Value.cells]) rfl rfl (by decide) fun b w3 H => ?_)   -- 3
          refine OL_c (op_append H 3 rfl rfl ti26 ti23 rfl rfl rfl rfl (Src.row (H.getRow 0 rfl)) rfl (by simp [Value.cells, Value.oneCell']) (by omega) (by simp [maxLen]; omega) (by decide) fun v6' w4 H => ?_)   -- 4
          refine OL_y (y_assign rfl) (by decide) ?_   -- 5
          refine OL_nil ?_
          have heq2 : Els (tInt .u64) none' w (cq ++ [Value.int .u64 x2].flatMap fun v => v.cells.toList) (s'.2 ++ [x2]) := heq.snoc ⟨rfl, hr2⟩
          exact ⟨h23, h22, (s'.1 ++ [(x2, x1)], s'.2 ++ [x2]), v5', v6', _, _, h0, h1, rfl, rfl, h7, h21, rfl, by rw [List.length_append, List.length_append]; exact H.tail.tail, he2, heq2, hinv2, hin.symm, by rw [List.getElem?_append_left hlt']; exact hqi', by simp; omega⟩
        · have heq' : x2 = fr := by simpa using hc2
          rw [if_pos heq'] at hin hinv2
          refine W_skip ?_
          exact ⟨h23, h22, (s'.1 ++ [(x2, x1)], s'.2), v5', _, _, cq, h0, h1, rfl, h6, h7, h21, rfl, by rw [List.length_append]; exact H.tail, he2, heq, hinv2, hin.symm, hqi', hlt'⟩
end Go.Proofs.Ytplpedigkhgakaa
