/- The reference's Order; numbers held against each other. -/
import Derived.Test.YtelgegodeifbiaaT1
import Derived.Test.YtelgegodeifbiaaO8
namespace Go.Proofs.Ytelgegodeifbiaa
open Go Go.Wk Pl
set_option linter.unusedVariables false

theorem perm_mid {α : Type} (l : List α) (i : Nat) (x : α) : (l.take i ++ ([x] ++ l.drop i)).Perm (l ++ [x]) := by
  have := List.perm_middle (a := x) (l₁ := l.take i) (l₂ := l.drop i)
  rw [List.take_append_drop] at this
  exact this.trans (List.perm_append_singleton x l).symm

set_option maxHeartbeats 4000000 in
theorem f36_calls {Z : Nat → Prop} {w : World} {a ky : Value} {xs : List Rn} {key : Key} (hx : SlR tRn 112 Z w a xs) (hk : SlR (tInt .u8) 1 Z w ky key) (h30 : xs.length ≤ 30) :
    Calls Try.prog 36 [a, ky].toArray w fun e w' => ∃ (v : Value) (rs : List RR), e = .returned v ∧ (rs.map (·.r)).Perm (xs.filter (picks key)) ∧ Srt rs ∧ (∀ x ∈ rs, tRn.R Z w x.cells x.r) ∧ (∀ k, v.ownBlock = some k → w.heap.size ≤ k) ∧ w'.ownsRow 0 33 8 v rs.length (rs.flatMap RR.cells) ∧ Ext none' w w' := by
  have H := Holds.start w
  obtain ⟨a0, c0, rfl, hl0, hm0⟩ := hx.len
  refine calls_of_W' Try.func36 rfl Try.ntmps36 rfl ?_
  refine W_seq ?_
  refine W_region ?_
  refine OL_y (y_assign rfl) (by decide) ?_
  refine OL_nil ?_
  refine W_seq ?_
  refine W_region ?_
  refine OL_y (y_assign rfl) (by decide) ?_
  refine OL_nil ?_
  refine W_seq ?_
  refine W_seq ?_
  refine W_region ?_
  refine OL_y (y_move rfl) (by decide) ?_
  refine OL_y (y_len rfl ti27 rfl) (by decide) ?_
  refine OL_y (y_move rfl) (by decide) ?_
  refine OL_nil ?_
  have H := H.rowNil 33 8
  refine W_range (N := xs.length) (by omega) (fun k f ds w' => ∃ (rs : List RR) (v5 : Value), f 9 = .slice a0 xs.length c0 ∧ f 1 = ky ∧ f 5 = v5 ∧ ds = [] ∧ (rs.map (·.r)).Perm ((xs.take k).filter (picks key)) ∧ Srt rs ∧ rs.length ≤ k ∧ (∀ x ∈ rs, tRn.R Z w x.cells x.r) ∧
      Holds w' [row 33 8 v5 rs.length (rs.flatMap RR.cells), shr (fun k => k < w.heap.size) w])
      ⟨[], .slice none 0 0, rfl, rfl, rfl, rfl, by simp, List.Pairwise.nil, by simp, by simp, H⟩
      rfl rfl (by decide) (by decide) (by decide) rfl rfl ?_ rfl rfl ?_
  · rintro k f ds w1 hk' ⟨rs, v5, h9, hh1, h5, rfl, hp, hs, hrl, hG, H⟩ hti htn
    have hxk := List.getElem?_eq_getElem hk'
    have htk : xs.take (k + 1) = xs.take k ++ [xs[k]] := by rw [List.take_add_one, hxk]; rfl
    obtain ⟨b1, o1, cs1, e1, hz1, hc1, hr1⟩ := hx.at hxk
    have hc1' := hc1.ext ((H.keepsAll 1 rfl Z).2 _ hz1 hc1.lt)
    generalize xs[k] = r at *
    obtain ⟨vk, vs, vp, rfl, -, -, -, -, -, hkeys, -⟩ := rn_cells.1 hr1
    have hone := tRn.one hr1
    obtain ⟨x, hxr, hxc⟩ : ∃ x : RR, x.r = r ∧ x.cells = [.int .u64 r.txn, .int .i64 r.level, .int .i64 r.state, .int .u64 r.start, .int .u64 r.ts, vk, vs, vp] := ⟨⟨r, vk, vs, vp, [], []⟩, rfl, rfl⟩
    obtain ⟨a5, c5, rfl, hc5, hm5⟩ := H.rowLen 0 rfl
    have h9' := h9.trans (congrArg (Value.slice · _ _) e1)
    refine W_block ?_
    refine W_seq ?_
    refine W_region ?_
    refine OL_y (y_indexAddr ti27 ti33 h9' hti (by omega) (by omega)) (by decide) ?_
    refine OL_y (y_loadA ti33 rfl rfl hc1' rfl) (by decide) ?_
    refine OL_var (v := .agg #[.int .u64 r.txn, .int .i64 r.level, .int .i64 r.state, .int .u64 r.start, .int .u64 r.ts, vk, vs, vp]) H ti33 rfl (by decide) (fun _ => rfl) rfl (hone) fun b7 w4_2 H => ?_
    refine OL_nil ?_
    refine W_seq ?_
    refine W_seq ?_
    by_cases hst : r.state = 1
    · refine W_region ?_
      refine OL_y (y_fieldAddr ti33 rfl ti3 rfl rfl) (by decide) ?_
      refine OL_y (y_loadS (v := .int .i64 r.state) ti3 rfl rfl (Cells.unit (H.getOwn 0 rfl) rfl)) (by decide) ?_
      refine OL_y (v := .bool false) (y_neqF hst rfl rfl) (by decide) ?_
      refine OL_y (v := .bool false) (y_move rfl) (by decide) ?_
      refine OL_yg rfl (by decide) rfl (y_fieldAddr ti33 rfl ti29 rfl rfl) (by decide) ?_
      refine OL_yg rfl (by decide) rfl (y_loadS (v := vk) ti29 rfl rfl (Cells.unit (H.getOwn 0 rfl) rfl)) (by decide) ?_
      refine OL_yg rfl (by decide) rfl (y_move hh1) (by decide) ?_
      refine OL_g rfl (by decide) rfl (op_call 35 en35 rfl [vk, ky] rfl (by decide) ((f35_calls (hkeys.keeps (H.keepsAll 2 rfl _)) (hk.keeps (H.keepsAll 2 rfl _))).mono ?_))
      rintro e w5_7 ⟨rfl, hE35⟩
      refine ⟨_, rfl, ?_⟩
      have H := H.ext0 hE35
      refine OL_yg rfl (by decide) rfl (y_not rfl) (by decide) ?_
      refine OL_y (y_pick (b := false) rfl rfl) (by decide) ?_
      refine OL_nil ?_
      refine W_cond rfl (fun hc => ?_) (fun hc => ?_)
      · have hnk : key ∉ r.keys := by simpa using hc
        refine W_exit ?_
        exact ⟨hti, htn, rs, _, h9, hh1, h5, rfl, by rw [htk, List.filter_append]; simpa [picks, hnk] using hp, hs, by omega, hG, H.tail⟩
      · have hik : key ∈ r.keys := by simpa using hc
        refine W_skip ?_
        refine W_seq ?_
        refine W_region ?_
        refine OL_y (y_move h5) (by decide) ?_
        refine OL_y (y_len rfl ti27 rfl) (by decide) ?_
        refine OL_y (y_assign rfl) (by decide) ?_
        refine OL_nil ?_
        refine W_seq ?_
        refine W_block (W_loopN (fun g f ds w' => ∃ i, g = i ∧ i ≤ rs.length ∧ (∀ y ∈ rs.drop i, cmpR x.r y.r < 0) ∧ f 9 = .slice a0 xs.length c0 ∧ f 1 = ky ∧ f 5 = .slice a5 rs.length c5 ∧ f 7 = .pointer (some ⟨b7, 0, none⟩) ∧ f 11 = .int .i64 k ∧ f 10 = .int .i64 xs.length ∧ f 8 = .int .i64 (i : Nat) ∧ ds = [] ∧
            Holds w' [own b7 (.cells #[.int .u64 r.txn, .int .i64 r.level, .int .i64 r.state, .int .u64 r.start, .int .u64 r.ts, vk, vs, vp] 33), row 33 8 (.slice a5 rs.length c5) rs.length (rs.flatMap RR.cells), shr (fun k => k < w.heap.size) w])
            rs.length ⟨rs.length, rfl, Nat.le_refl _, by simp, h9, hh1, h5, rfl, hti, htn, rfl, rfl, H⟩
            ?_)
        rintro g f ds w4 ⟨i, rfl, hil, hhi, h9, hh1, h5, h7, h11, h10, h8, rfl, H⟩
        refine W_seq ?_
        refine W_seq ?_
        rcases Nat.eq_zero_or_pos g with h0 | h0
        · refine W_drawQ H mixed (by kernel_rfl) (by kernel_rfl) fun wd7 H => ?_
          refine QL_y (y_move h8) (by decide) ?_
          refine QL_y (v := .bool false) (y_gtrF (by omega) rfl rfl) (by decide) ?_
          refine QL_y (v := .bool false) (y_move rfl) (by decide) ?_
          refine QL_s rfl (by decide) rfl rfl (by simp) ?_
          refine QL_s rfl (by decide) rfl rfl (by simp) ?_
          refine QL_s rfl (by decide) rfl rfl (by simp) ?_
          refine QL_s rfl (by decide) rfl rfl (by simp) ?_
          refine QL_s rfl (by decide) rfl rfl (by simp) ?_
          refine QL_s rfl (by decide) rfl rfl (by simp) ?_
          refine QL_s rfl (by decide) rfl rfl (by simp) ?_
          refine QL_s rfl (by decide) rfl rfl (by simp) ?_
          refine QL_s rfl (by decide) rfl rfl (by simp) ?_
          refine QL_s rfl (by decide) rfl rfl (by simp) ?_
          refine QL_u rfl (by decide) rfl (by simp) ?_
          refine QL_u rfl (by decide) rfl (by simp) ?_
          refine QL_u rfl (by decide) rfl (by simp) ?_
          refine QL_u rfl (by decide) rfl (by simp) ?_
          refine QL_u rfl (by decide) rfl (by simp) ?_
          refine QL_u rfl (by decide) rfl (by simp) ?_
          refine QL_u rfl (by decide) rfl (by simp) ?_
          refine QL_u rfl (by decide) rfl (by simp) ?_
          refine QL_u rfl (by decide) rfl (by simp) ?_
          refine QL_u rfl (by decide) rfl (by simp) ?_
          refine QL_u rfl (by decide) rfl (by simp) ?_
          refine QL_u rfl (by decide) rfl (by simp) ?_
          refine QL_u rfl (by decide) rfl (by simp) ?_
          refine QL_u rfl (by decide) rfl (by simp) ?_
          refine QL_u rfl (by decide) rfl (by simp) ?_
          refine QL_u rfl (by decide) rfl (by simp) ?_
          refine QL_u rfl (by decide) rfl (by simp) ?_
          refine QL_u rfl (by decide) rfl (by simp) ?_
          refine QL_u rfl (by decide) rfl (by simp) ?_
          refine QL_u rfl (by decide) rfl (by simp) ?_
          refine QL_s rfl (by decide) rfl rfl (by simp) ?_
          refine QL_y (y_pick (b := false) (v := .bool false) rfl rfl) (by decide) ?_
          refine QL_nil ?_
          refine W_condf rfl ?_
          refine W_exit ?_
          obtain rfl : g = 0 := h0
          have hS1 : rs.take 0 = [] ∨ ∃ S z, rs.take 0 = S ++ [z] ∧ ¬ cmpR x.r z.r < 0 := .inl rfl
          obtain ⟨i, hi⟩ : ∃ i, i = 0 := ⟨0, rfl⟩
          rw [← hi] at hS1 hhi hil h8
          refine W_drawD H mixed (by kernel_rfl) [] (fun w0 w' => w'.heap[b7]? = some (.cells #[.int .u64 r.txn, .int .i64 r.level, .int .i64 r.state, .int .u64 r.start, .int .u64 r.ts, vk, vs, vp] 33)) fun wd9 H hEd => ?_
          have hS : Sx [] (fun w' => w'.heap[b7]? = some (.cells #[.int .u64 r.txn, .int .i64 r.level, .int .i64 r.state, .int .u64 r.start, .int .u64 r.ts, vk, vs, vp] 33)) (List.replicate 12 false).toArray wd9 := fun _ => H.getOwn 0 rfl
          have hcl : (rs.flatMap RR.cells).length = rs.length * 8 := flat_len RR.len rs
          have hdl : ((rs.flatMap RR.cells).drop (i * 8)).length = (rs.length - i) * 8 := by rw [List.length_drop, hcl, Nat.sub_mul]
          have htl : ((rs.flatMap RR.cells).take (i * 8)).length = i * 8 := by rw [List.length_take, hcl]; omega
          have hdr : (rs.flatMap RR.cells).drop (i * 8) = (rs.drop i).flatMap RR.cells := flat_drop RR.len rs i
          have htr : (rs.flatMap RR.cells).take (i * 8) = (rs.take i).flatMap RR.cells := flat_take RR.len rs i
          have hone' : ∀ u ∈ (rs.flatMap RR.cells).drop (i * 8), u.oneCell' = true := fun u hu => by
            obtain ⟨y, hy, hu⟩ := List.mem_flatMap.1 (List.mem_of_mem_drop hu)
            exact tRn.one (hG y hy) u hu
          have hnew1 : ∀ u ∈ x.cells ++ (rs.flatMap RR.cells).drop (i * 8), u.oneCell' = true := fun u hu => (List.mem_append.1 hu).elim (fun h => hone u (hxc ▸ h)) (hone' u)
          refine DA_p 0 rfl (by kernel_rfl) rfl (fun _ => y_move h5) hS (by decide) fun hS => ?_
          refine DA_p 1 rfl (by kernel_rfl) rfl (fun _ => y_move h8) hS (by decide) fun hS => ?_
          refine DA_p 2 rfl (by kernel_rfl) rfl (fun _ => y_move h8) hS (by decide) fun hS => ?_
          refine DA_p 3 rfl (by kernel_rfl) rfl (fun _ => y_sliceHM ti27 ti33 rfl rfl rfl (by omega) (by omega) (by omega)) hS (by decide) fun hS => ?_
          refine DA_y 4 rfl (by kernel_rfl) rfl (by kernel_rfl) (fun w' h => y_loadA (cs := x.cells) ti33 rfl h7 (Cells.of h (by rw [hxc]; rfl)) rfl) hS (by decide) fun hS => ?_
          refine DA_p 6 rfl (by kernel_rfl) rfl (fun _ => y_move h5) hS (by decide) fun hS => ?_
          refine DA_p 7 rfl (by kernel_rfl) rfl (fun _ => y_move h8) hS (by decide) fun hS => ?_
          refine DA_p 8 rfl (by kernel_rfl) rfl (fun _ => y_sliceL ti27 ti33 rfl rfl (by omega) (by omega)) hS (by decide) fun hS => ?_
          refine DA_one 5 (by kernel_rfl) rfl (op_buildSlice H [.agg x.cells.toArray] ti27 ti33 rfl rfl rfl (by simp [Value.cells]) rfl rfl (by decide) fun b51 w9_5 H => ⟨fun _ => H.getOwn 1 rfl, ?_⟩)
          refine DA_one 9 (by kernel_rfl) rfl (op_append (news := (rs.flatMap RR.cells).drop (i * 8)) H 0 rfl rfl ti27 ti33 rfl rfl rfl rfl (Src.dropRow (H.getRow 2 rfl) i hil) hdl hone' (by omega) (by simp [maxLen]; omega) (by decide) fun v55 w9_9 H => ⟨fun _ => H.getOwn 1 rfl, ?_⟩)
          refine DA_one 10 (by kernel_rfl) rfl (op_appendNew H rfl rfl ti27 ti33 rfl rfl rfl rfl ⟨_, rfl⟩ (Src.takeRow (H.getRow 2 rfl) i hil) htl (Src.row (H.getRow 0 rfl)) (by rw [List.length_append, hdl]; show 8 + _ = _; omega) (by simpa [Value.cells] using hnew1) (by omega) (by omega) (by simp [maxLen]; omega) (by decide) fun v56 w9_10 H => ⟨fun _ => H.getOwn 2 rfl, ?_⟩)
          have hS : Sx [] (fun w' => w'.heap[b7]? = some (.cells #[.int .u64 r.txn, .int .i64 r.level, .int .i64 r.state, .int .u64 r.start, .int .u64 r.ts, vk, vs, vp] 33)) [true, true, true, true, true, true, true, true, true, true, true, false].toArray w9_10 := fun _ => H.getOwn 2 rfl
          refine DA_p 11 rfl (by kernel_rfl) rfl (fun _ => y_assign rfl) hS (by decide) fun hS => ?_
          refine DA_done (by kernel_rfl) ?_
          have hl2 : (rs.take i ++ ([x] ++ rs.drop i)).length = i + (1 + (rs.length - i)) := by simp only [List.length_append, List.length_take, List.length_drop, List.length_cons, List.length_nil]; omega
          refine ⟨h11, h10, rs.take i ++ ([x] ++ rs.drop i), v56, h9, hh1, rfl, rfl, ?_, (show Srt (rs.take i ++ x :: rs.drop i) from ins_sorted (by rw [List.take_append_drop]; exact hs) hhi hS1), by rw [hl2]; omega, ?_, ?_⟩
          · rw [htk, List.filter_append]
            have h2 : [r].filter (picks key) = [r] := by simp [picks, hst, hik]
            rw [h2]
            have := (perm_mid rs i x).map (·.r)
            rw [List.map_append (l₁ := rs)] at this
            refine this.trans ?_
            show (rs.map (·.r) ++ [x.r]).Perm _
            rw [hxr]
            exact hp.append_right _
          · intro y hy
            have := (perm_mid rs i x).mem_iff.1 hy
            rcases List.mem_append.1 this with h | h
            · exact hG y h
            · rw [List.mem_singleton.1 h, hxc, hxr]; exact hr1
          · rw [hl2]
            have e : (rs.take i ++ ([x] ++ rs.drop i)).flatMap RR.cells = (rs.flatMap RR.cells).take (i * 8) ++ ([Value.agg x.cells.toArray].flatMap (fun v => v.cells.toList) ++ (rs.flatMap RR.cells).drop (i * 8)) := by
              rw [hdr, htr]; simp [Value.cells]
            rw [e]
            have H2 : Holds w9_10 [row 33 8 v56 (i + (1 + (rs.length - i))) ((rs.flatMap RR.cells).take (i * 8) ++ ([Value.agg x.cells.toArray].flatMap (fun v => v.cells.toList) ++ (rs.flatMap RR.cells).drop (i * 8))), row 33 8 v55 (1 + (rs.length - i)) ([Value.agg x.cells.toArray].flatMap (fun v => v.cells.toList) ++ (rs.flatMap RR.cells).drop (i * 8)), own b7 (.cells #[.int .u64 r.txn, .int .i64 r.level, .int .i64 r.state, .int .u64 r.start, .int .u64 r.ts, vk, vs, vp] 33), row 33 8 (.slice a5 rs.length c5) rs.length (rs.flatMap RR.cells), shr (fun k => k < w.heap.size) w] := H
            exact H2.sub (.cons_cons _ (.cons _ (.cons _ (.cons _ (.cons_cons _ .slnil)))))
        · obtain ⟨j, rfl⟩ : ∃ j, g = j + 1 := ⟨g - 1, by omega⟩
          have hzj := List.getElem?_eq_getElem (l := rs) (i := j) (by omega)
          have hdj : rs.drop j = rs[j] :: rs.drop (j + 1) := List.drop_eq_getElem_cons (by omega)
          have htj : rs.take (j + 1) = rs.take j ++ [rs[j]] := by rw [List.take_add_one, hzj]; rfl
          generalize rs[j] = z at *
          obtain ⟨b5, c5', hv5, _⟩ := ownsRow_cells (H.getRow 1 rfl) (by omega)
          have h5' := h5.trans hv5
          have hob : (Value.slice a5 rs.length c5).ownBlock = some b5 := by rw [hv5]; rfl
          by_cases hgt : z.r.ts > r.ts
          · refine W_drawQ H mixed (by kernel_rfl) (by kernel_rfl) fun wd7 H => ?_
            have hcz := rowElAt RR.len (H.getRow 1 rfl) hob hzj
            refine QL_y (y_move h8) (by decide) ?_
            refine QL_y (v := .bool true) (y_gtrT (by omega) rfl rfl) (by decide) ?_
            refine QL_y (v := .bool true) (y_move rfl) (by decide) ?_
            refine QL_yg rfl (by decide) rfl (y_move h5') (by decide) ?_
            refine QL_yg rfl (by decide) rfl (y_move h8) (by decide) ?_
            refine QL_yg rfl (by decide) rfl (y_sub64' ((j : Nat) : Int) rfl rfl (by omega) (by omega) (by omega)) (by decide) ?_
            refine QL_yg rfl (by decide) rfl (y_indexAddr ti27 ti33 rfl rfl (by omega) (by omega)) (by decide) ?_
            refine QL_yg rfl (by decide) rfl (y_fieldAddr ti33 rfl ti26 rfl rfl) (by decide) ?_
            refine QL_yg rfl (by decide) rfl (y_loadS (v := .int .u64 z.r.ts) ti26 rfl rfl (hcz.take 4 rfl)) (by decide) ?_
            refine QL_yg rfl (by decide) rfl (y_fieldAddr ti33 rfl ti26 rfl h7) (by decide) ?_
            refine QL_yg rfl (by decide) rfl (y_loadS (v := .int .u64 r.ts) ti26 rfl rfl (Cells.unit (H.getOwn 0 rfl) rfl)) (by decide) ?_
            refine QL_yg (v := .bool true) rfl (by decide) rfl (y_gtrT hgt rfl rfl) (by decide) ?_
            refine QL_yg (v := .bool true) rfl (by decide) rfl (y_move rfl) (by decide) ?_
            refine QL_s rfl (by decide) rfl rfl (by simp) ?_
            refine QL_s rfl (by decide) rfl rfl (by simp) ?_
            refine QL_s rfl (by decide) rfl rfl (by simp) ?_
            refine QL_s rfl (by decide) rfl rfl (by simp) ?_
            refine QL_s rfl (by decide) rfl rfl (by simp) ?_
            refine QL_s rfl (by decide) rfl rfl (by simp) ?_
            refine QL_s rfl (by decide) rfl rfl (by simp) ?_
            refine QL_s rfl (by decide) rfl rfl (by simp) ?_
            refine QL_s rfl (by decide) rfl rfl (by simp) ?_
            refine QL_s rfl (by decide) rfl rfl (by simp) ?_
            refine QL_u rfl (by decide) rfl (by simp) ?_
            refine QL_u rfl (by decide) rfl (by simp) ?_
            refine QL_u rfl (by decide) rfl (by simp) ?_
            refine QL_u rfl (by decide) rfl (by simp) ?_
            refine QL_u rfl (by decide) rfl (by simp) ?_
            refine QL_u rfl (by decide) rfl (by simp) ?_
            refine QL_u rfl (by decide) rfl (by simp) ?_
            refine QL_u rfl (by decide) rfl (by simp) ?_
            refine QL_u rfl (by decide) rfl (by simp) ?_
            refine QL_s rfl (by decide) rfl rfl (by simp) ?_
            refine QL_yg rfl (by decide) rfl (y_pick (b := true) (v := .bool true) rfl rfl) (by decide) ?_
            refine QL_y (y_pick (b := true) (v := .bool true) rfl rfl) (by decide) ?_
            refine QL_nil ?_
            refine W_condt rfl ?_
            refine W_skip ?_
            refine W_block ?_
            refine W_region ?_
            refine OL_y (y_move h8) (by decide) ?_
            refine OL_y (y_sub64' ((j : Nat) : Int) rfl rfl (by omega) (by omega) (by omega)) (by decide) ?_
            refine OL_y (y_assign rfl) (by decide) ?_
            refine OL_nil ?_
            have hlt : cmpR x.r z.r < 0 := by rw [cmpR_neg, hxr]; omega
            exact ⟨j, by omega, j, rfl, by omega, by rw [hdj]; exact fun y hy => (List.mem_cons.1 hy).elim (fun e => e ▸ hlt) (hhi y), h9, hh1, h5, h7, h11, h10, rfl, rfl, H⟩
          · by_cases heq : z.r.ts = r.ts
            · refine W_drawQ H mixed (by kernel_rfl) (by kernel_rfl) fun wd7 H => ?_
              have hcz := rowElAt RR.len (H.getRow 1 rfl) hob hzj
              refine QL_y (y_move h8) (by decide) ?_
              refine QL_y (v := .bool true) (y_gtrT (by omega) rfl rfl) (by decide) ?_
              refine QL_y (v := .bool true) (y_move rfl) (by decide) ?_
              refine QL_yg rfl (by decide) rfl (y_move h5') (by decide) ?_
              refine QL_yg rfl (by decide) rfl (y_move h8) (by decide) ?_
              refine QL_yg rfl (by decide) rfl (y_sub64' ((j : Nat) : Int) rfl rfl (by omega) (by omega) (by omega)) (by decide) ?_
              refine QL_yg rfl (by decide) rfl (y_indexAddr ti27 ti33 rfl rfl (by omega) (by omega)) (by decide) ?_
              refine QL_yg rfl (by decide) rfl (y_fieldAddr ti33 rfl ti26 rfl rfl) (by decide) ?_
              refine QL_yg rfl (by decide) rfl (y_loadS (v := .int .u64 z.r.ts) ti26 rfl rfl (hcz.take 4 rfl)) (by decide) ?_
              refine QL_yg rfl (by decide) rfl (y_fieldAddr ti33 rfl ti26 rfl h7) (by decide) ?_
              refine QL_yg rfl (by decide) rfl (y_loadS (v := .int .u64 r.ts) ti26 rfl rfl (Cells.unit (H.getOwn 0 rfl) rfl)) (by decide) ?_
              refine QL_yg (v := .bool false) rfl (by decide) rfl (y_gtrF hgt rfl rfl) (by decide) ?_
              refine QL_yg (v := .bool false) rfl (by decide) rfl (y_move rfl) (by decide) ?_
              refine QL_yg rfl (by decide) rfl (y_move h5') (by decide) ?_
              refine QL_yg rfl (by decide) rfl (y_move h8) (by decide) ?_
              refine QL_yg rfl (by decide) rfl (y_sub64' ((j : Nat) : Int) rfl rfl (by omega) (by omega) (by omega)) (by decide) ?_
              refine QL_yg rfl (by decide) rfl (y_indexAddr ti27 ti33 rfl rfl (by omega) (by omega)) (by decide) ?_
              refine QL_yg rfl (by decide) rfl (y_fieldAddr ti33 rfl ti26 rfl rfl) (by decide) ?_
              refine QL_yg rfl (by decide) rfl (y_loadS (v := .int .u64 z.r.ts) ti26 rfl rfl (hcz.take 4 rfl)) (by decide) ?_
              refine QL_yg rfl (by decide) rfl (y_fieldAddr ti33 rfl ti26 rfl h7) (by decide) ?_
              refine QL_yg rfl (by decide) rfl (y_loadS (v := .int .u64 r.ts) ti26 rfl rfl (Cells.unit (H.getOwn 0 rfl) rfl)) (by decide) ?_
              refine QL_yg (v := .bool true) rfl (by decide) rfl (y_eqlT heq rfl rfl) (by decide) ?_
              refine QL_yg (v := .bool true) rfl (by decide) rfl (y_move rfl) (by decide) ?_
              refine QL_yg rfl (by decide) rfl (y_move h5') (by decide) ?_
              refine QL_yg rfl (by decide) rfl (y_move h8) (by decide) ?_
              refine QL_yg rfl (by decide) rfl (y_sub64' ((j : Nat) : Int) rfl rfl (by omega) (by omega) (by omega)) (by decide) ?_
              refine QL_yg rfl (by decide) rfl (y_indexAddr ti27 ti33 rfl rfl (by omega) (by omega)) (by decide) ?_
              refine QL_yg rfl (by decide) rfl (y_fieldAddr ti33 rfl ti26 rfl rfl) (by decide) ?_
              refine QL_yg rfl (by decide) rfl (y_loadS (v := .int .u64 z.r.txn) ti26 rfl rfl (hcz.take 0 rfl)) (by decide) ?_
              refine QL_yg rfl (by decide) rfl (y_fieldAddr ti33 rfl ti26 rfl h7) (by decide) ?_
              refine QL_yg rfl (by decide) rfl (y_loadS (v := .int .u64 r.txn) ti26 rfl rfl (Cells.unit (H.getOwn 0 rfl) rfl)) (by decide) ?_
              refine QL_yg rfl (by decide) rfl (y_gtr rfl rfl) (by decide) ?_
              refine QL_yg rfl (by decide) rfl (y_pick (b := true) rfl rfl) (by decide) ?_
              refine QL_yg rfl (by decide) rfl (y_pick (b := false) rfl rfl) (by decide) ?_
              refine QL_y (y_pick (b := true) rfl rfl) (by decide) ?_
              refine QL_nil ?_
              refine W_cond rfl (fun hc => ?_) (fun hc => ?_)
              · have hgx : z.r.txn > r.txn := of_decide_eq_true hc
                refine W_skip ?_
                refine W_block ?_
                refine W_region ?_
                refine OL_y (y_move h8) (by decide) ?_
                refine OL_y (y_sub64' ((j : Nat) : Int) rfl rfl (by omega) (by omega) (by omega)) (by decide) ?_
                refine OL_y (y_assign rfl) (by decide) ?_
                refine OL_nil ?_
                have hlt : cmpR x.r z.r < 0 := by rw [cmpR_neg, hxr]; omega
                exact ⟨j, by omega, j, rfl, by omega, by rw [hdj]; exact fun y hy => (List.mem_cons.1 hy).elim (fun e => e ▸ hlt) (hhi y), h9, hh1, h5, h7, h11, h10, rfl, rfl, H⟩
              · have hgx : ¬ z.r.txn > r.txn := of_decide_eq_false hc
                refine W_exit ?_
                have hS1 : rs.take (j + 1) = [] ∨ ∃ S z, rs.take (j + 1) = S ++ [z] ∧ ¬ cmpR x.r z.r < 0 := .inr ⟨_, z, htj, by rw [cmpR_neg, hxr]; omega⟩
                obtain ⟨i, hi⟩ : ∃ i, i = j + 1 := ⟨j + 1, rfl⟩
                rw [← hi] at hS1 hhi hil h8
                refine W_drawD H mixed (by kernel_rfl) [] (fun w0 w' => w'.heap[b7]? = some (.cells #[.int .u64 r.txn, .int .i64 r.level, .int .i64 r.state, .int .u64 r.start, .int .u64 r.ts, vk, vs, vp] 33)) fun wd9 H hEd => ?_
                have hS : Sx [] (fun w' => w'.heap[b7]? = some (.cells #[.int .u64 r.txn, .int .i64 r.level, .int .i64 r.state, .int .u64 r.start, .int .u64 r.ts, vk, vs, vp] 33)) (List.replicate 12 false).toArray wd9 := fun _ => H.getOwn 0 rfl
                have hcl : (rs.flatMap RR.cells).length = rs.length * 8 := flat_len RR.len rs
                have hdl : ((rs.flatMap RR.cells).drop (i * 8)).length = (rs.length - i) * 8 := by rw [List.length_drop, hcl, Nat.sub_mul]
                have htl : ((rs.flatMap RR.cells).take (i * 8)).length = i * 8 := by rw [List.length_take, hcl]; omega
                have hdr : (rs.flatMap RR.cells).drop (i * 8) = (rs.drop i).flatMap RR.cells := flat_drop RR.len rs i
                have htr : (rs.flatMap RR.cells).take (i * 8) = (rs.take i).flatMap RR.cells := flat_take RR.len rs i
                have hone' : ∀ u ∈ (rs.flatMap RR.cells).drop (i * 8), u.oneCell' = true := fun u hu => by
                  obtain ⟨y, hy, hu⟩ := List.mem_flatMap.1 (List.mem_of_mem_drop hu)
                  exact tRn.one (hG y hy) u hu
                have hnew1 : ∀ u ∈ x.cells ++ (rs.flatMap RR.cells).drop (i * 8), u.oneCell' = true := fun u hu => (List.mem_append.1 hu).elim (fun h => hone u (hxc ▸ h)) (hone' u)
                refine DA_p 0 rfl (by kernel_rfl) rfl (fun _ => y_move h5) hS (by decide) fun hS => ?_
                refine DA_p 1 rfl (by kernel_rfl) rfl (fun _ => y_move h8) hS (by decide) fun hS => ?_
                refine DA_p 2 rfl (by kernel_rfl) rfl (fun _ => y_move h8) hS (by decide) fun hS => ?_
                refine DA_p 3 rfl (by kernel_rfl) rfl (fun _ => y_sliceHM ti27 ti33 rfl rfl rfl (by omega) (by omega) (by omega)) hS (by decide) fun hS => ?_
                refine DA_y 4 rfl (by kernel_rfl) rfl (by kernel_rfl) (fun w' h => y_loadA (cs := x.cells) ti33 rfl h7 (Cells.of h (by rw [hxc]; rfl)) rfl) hS (by decide) fun hS => ?_
                refine DA_p 6 rfl (by kernel_rfl) rfl (fun _ => y_move h5) hS (by decide) fun hS => ?_
                refine DA_p 7 rfl (by kernel_rfl) rfl (fun _ => y_move h8) hS (by decide) fun hS => ?_
                refine DA_p 8 rfl (by kernel_rfl) rfl (fun _ => y_sliceL ti27 ti33 rfl rfl (by omega) (by omega)) hS (by decide) fun hS => ?_
                refine DA_one 5 (by kernel_rfl) rfl (op_buildSlice H [.agg x.cells.toArray] ti27 ti33 rfl rfl rfl (by simp [Value.cells]) rfl rfl (by decide) fun b51 w9_5 H => ⟨fun _ => H.getOwn 1 rfl, ?_⟩)
                refine DA_one 9 (by kernel_rfl) rfl (op_append (news := (rs.flatMap RR.cells).drop (i * 8)) H 0 rfl rfl ti27 ti33 rfl rfl rfl rfl (Src.dropRow (H.getRow 2 rfl) i hil) hdl hone' (by omega) (by simp [maxLen]; omega) (by decide) fun v55 w9_9 H => ⟨fun _ => H.getOwn 1 rfl, ?_⟩)
                refine DA_one 10 (by kernel_rfl) rfl (op_appendNew H rfl rfl ti27 ti33 rfl rfl rfl rfl ⟨_, rfl⟩ (Src.takeRow (H.getRow 2 rfl) i hil) htl (Src.row (H.getRow 0 rfl)) (by rw [List.length_append, hdl]; show 8 + _ = _; omega) (by simpa [Value.cells] using hnew1) (by omega) (by omega) (by simp [maxLen]; omega) (by decide) fun v56 w9_10 H => ⟨fun _ => H.getOwn 2 rfl, ?_⟩)
                have hS : Sx [] (fun w' => w'.heap[b7]? = some (.cells #[.int .u64 r.txn, .int .i64 r.level, .int .i64 r.state, .int .u64 r.start, .int .u64 r.ts, vk, vs, vp] 33)) [true, true, true, true, true, true, true, true, true, true, true, false].toArray w9_10 := fun _ => H.getOwn 2 rfl
                refine DA_p 11 rfl (by kernel_rfl) rfl (fun _ => y_assign rfl) hS (by decide) fun hS => ?_
                refine DA_done (by kernel_rfl) ?_
                have hl2 : (rs.take i ++ ([x] ++ rs.drop i)).length = i + (1 + (rs.length - i)) := by simp only [List.length_append, List.length_take, List.length_drop, List.length_cons, List.length_nil]; omega
                refine ⟨h11, h10, rs.take i ++ ([x] ++ rs.drop i), v56, h9, hh1, rfl, rfl, ?_, (show Srt (rs.take i ++ x :: rs.drop i) from ins_sorted (by rw [List.take_append_drop]; exact hs) hhi hS1), by rw [hl2]; omega, ?_, ?_⟩
                · rw [htk, List.filter_append]
                  have h2 : [r].filter (picks key) = [r] := by simp [picks, hst, hik]
                  rw [h2]
                  have := (perm_mid rs i x).map (·.r)
                  rw [List.map_append (l₁ := rs)] at this
                  refine this.trans ?_
                  show (rs.map (·.r) ++ [x.r]).Perm _
                  rw [hxr]
                  exact hp.append_right _
                · intro y hy
                  have := (perm_mid rs i x).mem_iff.1 hy
                  rcases List.mem_append.1 this with h | h
                  · exact hG y h
                  · rw [List.mem_singleton.1 h, hxc, hxr]; exact hr1
                · rw [hl2]
                  have e : (rs.take i ++ ([x] ++ rs.drop i)).flatMap RR.cells = (rs.flatMap RR.cells).take (i * 8) ++ ([Value.agg x.cells.toArray].flatMap (fun v => v.cells.toList) ++ (rs.flatMap RR.cells).drop (i * 8)) := by
                    rw [hdr, htr]; simp [Value.cells]
                  rw [e]
                  have H2 : Holds w9_10 [row 33 8 v56 (i + (1 + (rs.length - i))) ((rs.flatMap RR.cells).take (i * 8) ++ ([Value.agg x.cells.toArray].flatMap (fun v => v.cells.toList) ++ (rs.flatMap RR.cells).drop (i * 8))), row 33 8 v55 (1 + (rs.length - i)) ([Value.agg x.cells.toArray].flatMap (fun v => v.cells.toList) ++ (rs.flatMap RR.cells).drop (i * 8)), own b7 (.cells #[.int .u64 r.txn, .int .i64 r.level, .int .i64 r.state, .int .u64 r.start, .int .u64 r.ts, vk, vs, vp] 33), row 33 8 (.slice a5 rs.length c5) rs.length (rs.flatMap RR.cells), shr (fun k => k < w.heap.size) w] := H
                  exact H2.sub (.cons_cons _ (.cons _ (.cons _ (.cons _ (.cons_cons _ .slnil)))))
            · refine W_drawQ H mixed (by kernel_rfl) (by kernel_rfl) fun wd7 H => ?_
              have hcz := rowElAt RR.len (H.getRow 1 rfl) hob hzj
              refine QL_y (y_move h8) (by decide) ?_
              refine QL_y (v := .bool true) (y_gtrT (by omega) rfl rfl) (by decide) ?_
              refine QL_y (v := .bool true) (y_move rfl) (by decide) ?_
              refine QL_yg rfl (by decide) rfl (y_move h5') (by decide) ?_
              refine QL_yg rfl (by decide) rfl (y_move h8) (by decide) ?_
              refine QL_yg rfl (by decide) rfl (y_sub64' ((j : Nat) : Int) rfl rfl (by omega) (by omega) (by omega)) (by decide) ?_
              refine QL_yg rfl (by decide) rfl (y_indexAddr ti27 ti33 rfl rfl (by omega) (by omega)) (by decide) ?_
              refine QL_yg rfl (by decide) rfl (y_fieldAddr ti33 rfl ti26 rfl rfl) (by decide) ?_
              refine QL_yg rfl (by decide) rfl (y_loadS (v := .int .u64 z.r.ts) ti26 rfl rfl (hcz.take 4 rfl)) (by decide) ?_
              refine QL_yg rfl (by decide) rfl (y_fieldAddr ti33 rfl ti26 rfl h7) (by decide) ?_
              refine QL_yg rfl (by decide) rfl (y_loadS (v := .int .u64 r.ts) ti26 rfl rfl (Cells.unit (H.getOwn 0 rfl) rfl)) (by decide) ?_
              refine QL_yg (v := .bool false) rfl (by decide) rfl (y_gtrF hgt rfl rfl) (by decide) ?_
              refine QL_yg (v := .bool false) rfl (by decide) rfl (y_move rfl) (by decide) ?_
              refine QL_yg rfl (by decide) rfl (y_move h5') (by decide) ?_
              refine QL_yg rfl (by decide) rfl (y_move h8) (by decide) ?_
              refine QL_yg rfl (by decide) rfl (y_sub64' ((j : Nat) : Int) rfl rfl (by omega) (by omega) (by omega)) (by decide) ?_
              refine QL_yg rfl (by decide) rfl (y_indexAddr ti27 ti33 rfl rfl (by omega) (by omega)) (by decide) ?_
              refine QL_yg rfl (by decide) rfl (y_fieldAddr ti33 rfl ti26 rfl rfl) (by decide) ?_
              refine QL_yg rfl (by decide) rfl (y_loadS (v := .int .u64 z.r.ts) ti26 rfl rfl (hcz.take 4 rfl)) (by decide) ?_
              refine QL_yg rfl (by decide) rfl (y_fieldAddr ti33 rfl ti26 rfl h7) (by decide) ?_
              refine QL_yg rfl (by decide) rfl (y_loadS (v := .int .u64 r.ts) ti26 rfl rfl (Cells.unit (H.getOwn 0 rfl) rfl)) (by decide) ?_
              refine QL_yg (v := .bool false) rfl (by decide) rfl (y_eqlF heq rfl rfl) (by decide) ?_
              refine QL_yg (v := .bool false) rfl (by decide) rfl (y_move rfl) (by decide) ?_
              refine QL_s rfl (by decide) rfl rfl (by simp) ?_
              refine QL_s rfl (by decide) rfl rfl (by simp) ?_
              refine QL_s rfl (by decide) rfl rfl (by simp) ?_
              refine QL_s rfl (by decide) rfl rfl (by simp) ?_
              refine QL_s rfl (by decide) rfl rfl (by simp) ?_
              refine QL_s rfl (by decide) rfl rfl (by simp) ?_
              refine QL_s rfl (by decide) rfl rfl (by simp) ?_
              refine QL_s rfl (by decide) rfl rfl (by simp) ?_
              refine QL_s rfl (by decide) rfl rfl (by simp) ?_
              refine QL_yg rfl (by decide) rfl (y_pick (b := false) (v := .bool false) rfl rfl) (by decide) ?_
              refine QL_yg rfl (by decide) rfl (y_pick (b := false) (v := .bool false) rfl rfl) (by decide) ?_
              refine QL_y (y_pick (b := true) (v := .bool false) rfl rfl) (by decide) ?_
              refine QL_nil ?_
              refine W_condf rfl ?_
              refine W_exit ?_
              have hS1 : rs.take (j + 1) = [] ∨ ∃ S z, rs.take (j + 1) = S ++ [z] ∧ ¬ cmpR x.r z.r < 0 := .inr ⟨_, z, htj, by rw [cmpR_neg, hxr]; omega⟩
              obtain ⟨i, hi⟩ : ∃ i, i = j + 1 := ⟨j + 1, rfl⟩
              rw [← hi] at hS1 hhi hil h8
              refine W_drawD H mixed (by kernel_rfl) [] (fun w0 w' => w'.heap[b7]? = some (.cells #[.int .u64 r.txn, .int .i64 r.level, .int .i64 r.state, .int .u64 r.start, .int .u64 r.ts, vk, vs, vp] 33)) fun wd9 H hEd => ?_
              have hS : Sx [] (fun w' => w'.heap[b7]? = some (.cells #[.int .u64 r.txn, .int .i64 r.level, .int .i64 r.state, .int .u64 r.start, .int .u64 r.ts, vk, vs, vp] 33)) (List.replicate 12 false).toArray wd9 := fun _ => H.getOwn 0 rfl
              have hcl : (rs.flatMap RR.cells).length = rs.length * 8 := flat_len RR.len rs
              have hdl : ((rs.flatMap RR.cells).drop (i * 8)).length = (rs.length - i) * 8 := by rw [List.length_drop, hcl, Nat.sub_mul]
              have htl : ((rs.flatMap RR.cells).take (i * 8)).length = i * 8 := by rw [List.length_take, hcl]; omega
              have hdr : (rs.flatMap RR.cells).drop (i * 8) = (rs.drop i).flatMap RR.cells := flat_drop RR.len rs i
              have htr : (rs.flatMap RR.cells).take (i * 8) = (rs.take i).flatMap RR.cells := flat_take RR.len rs i
              have hone' : ∀ u ∈ (rs.flatMap RR.cells).drop (i * 8), u.oneCell' = true := fun u hu => by
                obtain ⟨y, hy, hu⟩ := List.mem_flatMap.1 (List.mem_of_mem_drop hu)
                exact tRn.one (hG y hy) u hu
              have hnew1 : ∀ u ∈ x.cells ++ (rs.flatMap RR.cells).drop (i * 8), u.oneCell' = true := fun u hu => (List.mem_append.1 hu).elim (fun h => hone u (hxc ▸ h)) (hone' u)
              refine DA_p 0 rfl (by kernel_rfl) rfl (fun _ => y_move h5) hS (by decide) fun hS => ?_
              refine DA_p 1 rfl (by kernel_rfl) rfl (fun _ => y_move h8) hS (by decide) fun hS => ?_
              refine DA_p 2 rfl (by kernel_rfl) rfl (fun _ => y_move h8) hS (by decide) fun hS => ?_
              refine DA_p 3 rfl (by kernel_rfl) rfl (fun _ => y_sliceHM ti27 ti33 rfl rfl rfl (by omega) (by omega) (by omega)) hS (by decide) fun hS => ?_
              refine DA_y 4 rfl (by kernel_rfl) rfl (by kernel_rfl) (fun w' h => y_loadA (cs := x.cells) ti33 rfl h7 (Cells.of h (by rw [hxc]; rfl)) rfl) hS (by decide) fun hS => ?_
              refine DA_p 6 rfl (by kernel_rfl) rfl (fun _ => y_move h5) hS (by decide) fun hS => ?_
              refine DA_p 7 rfl (by kernel_rfl) rfl (fun _ => y_move h8) hS (by decide) fun hS => ?_
              refine DA_p 8 rfl (by kernel_rfl) rfl (fun _ => y_sliceL ti27 ti33 rfl rfl (by omega) (by omega)) hS (by decide) fun hS => ?_
              refine DA_one 5 (by kernel_rfl) rfl (op_buildSlice H [.agg x.cells.toArray] ti27 ti33 rfl rfl rfl (by simp [Value.cells]) rfl rfl (by decide) fun b51 w9_5 H => ⟨fun _ => H.getOwn 1 rfl, ?_⟩)
              refine DA_one 9 (by kernel_rfl) rfl (op_append (news := (rs.flatMap RR.cells).drop (i * 8)) H 0 rfl rfl ti27 ti33 rfl rfl rfl rfl (Src.dropRow (H.getRow 2 rfl) i hil) hdl hone' (by omega) (by simp [maxLen]; omega) (by decide) fun v55 w9_9 H => ⟨fun _ => H.getOwn 1 rfl, ?_⟩)
              refine DA_one 10 (by kernel_rfl) rfl (op_appendNew H rfl rfl ti27 ti33 rfl rfl rfl rfl ⟨_, rfl⟩ (Src.takeRow (H.getRow 2 rfl) i hil) htl (Src.row (H.getRow 0 rfl)) (by rw [List.length_append, hdl]; show 8 + _ = _; omega) (by simpa [Value.cells] using hnew1) (by omega) (by omega) (by simp [maxLen]; omega) (by decide) fun v56 w9_10 H => ⟨fun _ => H.getOwn 2 rfl, ?_⟩)
              have hS : Sx [] (fun w' => w'.heap[b7]? = some (.cells #[.int .u64 r.txn, .int .i64 r.level, .int .i64 r.state, .int .u64 r.start, .int .u64 r.ts, vk, vs, vp] 33)) [true, true, true, true, true, true, true, true, true, true, true, false].toArray w9_10 := fun _ => H.getOwn 2 rfl
              refine DA_p 11 rfl (by kernel_rfl) rfl (fun _ => y_assign rfl) hS (by decide) fun hS => ?_
              refine DA_done (by kernel_rfl) ?_
              have hl2 : (rs.take i ++ ([x] ++ rs.drop i)).length = i + (1 + (rs.length - i)) := by simp only [List.length_append, List.length_take, List.length_drop, List.length_cons, List.length_nil]; omega
              refine ⟨h11, h10, rs.take i ++ ([x] ++ rs.drop i), v56, h9, hh1, rfl, rfl, ?_, (show Srt (rs.take i ++ x :: rs.drop i) from ins_sorted (by rw [List.take_append_drop]; exact hs) hhi hS1), by rw [hl2]; omega, ?_, ?_⟩
              · rw [htk, List.filter_append]
                have h2 : [r].filter (picks key) = [r] := by simp [picks, hst, hik]
                rw [h2]
                have := (perm_mid rs i x).map (·.r)
                rw [List.map_append (l₁ := rs)] at this
                refine this.trans ?_
                show (rs.map (·.r) ++ [x.r]).Perm _
                rw [hxr]
                exact hp.append_right _
              · intro y hy
                have := (perm_mid rs i x).mem_iff.1 hy
                rcases List.mem_append.1 this with h | h
                · exact hG y h
                · rw [List.mem_singleton.1 h, hxc, hxr]; exact hr1
              · rw [hl2]
                have e : (rs.take i ++ ([x] ++ rs.drop i)).flatMap RR.cells = (rs.flatMap RR.cells).take (i * 8) ++ ([Value.agg x.cells.toArray].flatMap (fun v => v.cells.toList) ++ (rs.flatMap RR.cells).drop (i * 8)) := by
                  rw [hdr, htr]; simp [Value.cells]
                rw [e]
                have H2 : Holds w9_10 [row 33 8 v56 (i + (1 + (rs.length - i))) ((rs.flatMap RR.cells).take (i * 8) ++ ([Value.agg x.cells.toArray].flatMap (fun v => v.cells.toList) ++ (rs.flatMap RR.cells).drop (i * 8))), row 33 8 v55 (1 + (rs.length - i)) ([Value.agg x.cells.toArray].flatMap (fun v => v.cells.toList) ++ (rs.flatMap RR.cells).drop (i * 8)), own b7 (.cells #[.int .u64 r.txn, .int .i64 r.level, .int .i64 r.state, .int .u64 r.start, .int .u64 r.ts, vk, vs, vp] 33), row 33 8 (.slice a5 rs.length c5) rs.length (rs.flatMap RR.cells), shr (fun k => k < w.heap.size) w] := H
                exact H2.sub (.cons_cons _ (.cons _ (.cons _ (.cons _ (.cons_cons _ .slnil)))))
    · refine W_region ?_
      refine OL_y (y_fieldAddr ti33 rfl ti3 rfl rfl) (by decide) ?_
      refine OL_y (y_loadS (v := .int .i64 r.state) ti3 rfl rfl (Cells.unit (H.getOwn 0 rfl) rfl)) (by decide) ?_
      refine OL_y (v := .bool true) (y_neqT hst rfl rfl) (by decide) ?_
      refine OL_y (v := .bool true) (y_move rfl) (by decide) ?_
      refine OL_s rfl (by decide) rfl rfl (by simp) ?_
      refine OL_s rfl (by decide) rfl rfl (by simp) ?_
      refine OL_s rfl (by decide) rfl rfl (by simp) ?_
      refine OL_s rfl (by decide) rfl rfl (by simp) ?_
      refine OL_s rfl (by decide) rfl rfl (by simp) ?_
      refine OL_y (y_pick (b := true) (v := .bool true) rfl rfl) (by decide) ?_
      refine OL_nil ?_
      refine W_condt rfl ?_
      refine W_exit ?_
      exact ⟨hti, htn, rs, _, h9, hh1, h5, rfl, by rw [htk, List.filter_append]; simpa [picks, hst] using hp, hs, by omega, hG, H.tail⟩
  · rintro f ds w1 ⟨rs, v5, h9, hh1, h5, rfl, hp, hs, hrl, hG, H⟩ hti htn
    rw [List.take_length] at hp
    refine W_seq ?_
    refine W_region ?_
    refine OL_y (y_move h5) (by decide) ?_
    refine OL_y (y_assign rfl) (by decide) ?_
    refine OL_nil ?_
    refine W_ret ?_
    show RetOK _ _ _ _ _ _
    exact ret1 (v := v5) Try.results36 rfl ⟨_, rs, rfl, hp, hs, hG, fun k hk => H.fresh 0 1 rfl rfl rfl k hk, H.getRow 0 rfl, H.ext_of 1 rfl⟩
end Go.Proofs.Ytelgegodeifbiaa
