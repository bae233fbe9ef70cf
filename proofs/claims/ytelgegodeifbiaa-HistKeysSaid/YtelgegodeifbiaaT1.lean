/- The reference's Keys: all that was written, rising. -/
import Derived.Test.YtelgegodeifbiaaX
import Derived.Test.YtelgegodeifbiaaWko
namespace Go.Proofs.Ytelgegodeifbiaa
open Go Go.Wk Pl
set_option linter.unusedVariables false

def wroteOf (r : Rn) : List Key := if r.state = 1 then r.keys else []
def keysOf (xs : List Rn) : List Key := xs.flatMap wroteOf

theorem f35_calls {Z : Nat → Prop} {w : World} {a vb : Value} {xs : List Key} {key : Key} (hx : SlR tKey 24 Z w a xs) (hk : SlR (tInt .u8) 1 Z w vb key) :
    Calls Try.prog 35 [a, vb].toArray w fun e w' => e = .returned (.bool (decide (key ∈ xs))) ∧ Ext none' w w' := by
  have H := Holds.start w
  have hN := hx.len1 (by decide)
  obtain ⟨a0, c0, rfl, hl0, hm0⟩ := hx.len
  refine calls_of_W' Try.func35 rfl Try.ntmps35 rfl ?_
  refine W_seq ?_
  refine W_region ?_
  refine OL_y (v := .bool false) (y_assign rfl) (by decide) ?_
  refine OL_nil ?_
  refine W_seq ?_
  refine W_seq ?_
  refine W_region ?_
  refine OL_y (y_move rfl) (by decide) ?_
  refine OL_y (y_len rfl ti29 rfl) (by decide) ?_
  refine OL_y (y_move rfl) (by decide) ?_
  refine OL_nil ?_
  refine W_range (N := xs.length) (by omega) (fun k f ds w' => f 7 = .slice a0 xs.length c0 ∧ f 1 = vb ∧ ds = [] ∧ Holds w' [shr (fun k => k < w.heap.size) w] ∧ key ∉ xs.take k)
      ⟨rfl, rfl, rfl, H, by simp⟩
      rfl rfl (by decide) (by decide) (by decide) rfl rfl ?_ rfl rfl ?_
  · rintro k f ds w1 hk' ⟨h7, hh1, rfl, H, hp⟩ hti htn
    have hxk := List.getElem?_eq_getElem hk'
    obtain ⟨b1, o1, cs1, e1, hz1, hc1, hr1⟩ := (hx.keeps (H.keepsAll 0 rfl _)).at hxk
    obtain ⟨vy, rfl, hvy⟩ := hr1
    have htk : xs.take (k + 1) = xs.take k ++ [xs[k]] := by rw [List.take_add_one, hxk]; rfl
    generalize xs[k] = y at *
    have h7' := h7.trans (congrArg (Value.slice · _ _) e1)
    refine W_block ?_
    refine W_seq ?_
    refine W_region ?_
    refine OL_y (y_indexAddr ti29 ti38 h7' hti (by omega) (by omega)) (by decide) ?_
    refine OL_y (y_loadS (v := vy) ti38 rfl rfl hc1) (by decide) ?_
    refine OL_y (y_assign rfl) (by decide) ?_
    refine OL_nil ?_
    refine W_seq ?_
    refine W_region ?_
    refine OL_y (y_move rfl) (by decide) ?_
    refine OL_y (y_toStr Try.underlying38 Try.underlying5 Try.underlying9 rfl hvy) (by decide) ?_
    refine OL_y (y_move hh1) (by decide) ?_
    refine OL_y (y_toStr Try.underlying38 Try.underlying5 Try.underlying9 rfl (hk.keeps (H.keepsAll 0 rfl _))) (by decide) ?_
    refine OL_y (y_eqlS rfl rfl) (by decide) ?_
    refine OL_nil ?_
    refine W_cond rfl (fun hc => ?_) (fun hc => ?_)
    · have hc := kb_inj hvy.allIn hk.allIn (of_decide_eq_true hc)
      refine W_seq ?_
      refine W_region ?_
      refine OL_y (v := .bool true) (y_assign rfl) (by decide) ?_
      refine OL_nil ?_
      refine W_ret ?_
      show RetOK _ _ _ _ _ _
      refine ret1 (v := .bool true) Try.results35 rfl ⟨?_, H.ext_of 0 rfl⟩
      rw [decide_eq_true (show key ∈ xs from hc ▸ List.mem_of_getElem? hxk)]
    · have hc := of_decide_eq_false hc
      refine W_skip ?_
      exact ⟨hti, htn, h7, hh1, rfl, H, by rw [htk, List.mem_append]; exact fun h => h.elim hp (fun h => hc (by rw [List.mem_singleton.1 h]))⟩
  · rintro f ds w1 ⟨h7, hh1, rfl, H, hp⟩ hti htn
    rw [List.take_length] at hp
    refine W_seq ?_
    refine W_region ?_
    refine OL_y (v := .bool false) (y_assign rfl) (by decide) ?_
    refine OL_nil ?_
    refine W_ret ?_
    show RetOK _ _ _ _ _ _
    refine ret1 (v := .bool false) Try.results35 rfl ⟨?_, H.ext_of 0 rfl⟩
    rw [decide_eq_false hp]

set_option maxHeartbeats 4000000 in
theorem f19_calls {Z : Nat → Prop} {w : World} {a : Value} {xs : List Rn} (hx : SlR tRn 112 Z w a xs) (h30 : xs.length ≤ 30) (h8 : ∀ r ∈ xs, r.keys.length ≤ 8) :
    Calls Try.prog 19 [a].toArray w fun e w' => ∃ (v : Value) (ys : List Key), e = .returned v ∧ ys.Pairwise kLt ∧ (∀ k, k ∈ ys ↔ k ∈ keysOf xs) ∧ SlR tKey 24 (fun k => Z k ∨ w.heap.size ≤ k) w' v ys ∧ Ext none' w w' := by
  have H := Holds.start w
  obtain ⟨a0, c0, rfl, hl0, hm0⟩ := hx.len
  refine calls_of_W' Try.func19 rfl Try.ntmps19 rfl ?_
  refine W_seq ?_
  refine W_region ?_
  refine OL_y (y_assign rfl) (by decide) ?_
  refine OL_nil ?_
  refine W_seq ?_
  refine W_region ?_
  refine OL_y (y_assign rfl) (by decide) ?_
  refine OL_nil ?_
  refine W_seq ?_
  refine W_seq ?_
  refine W_region ?_
  refine OL_y (y_move rfl) (by decide) ?_
  refine OL_y (y_len rfl ti27 rfl) (by decide) ?_
  refine OL_y (y_move rfl) (by decide) ?_
  refine OL_nil ?_
  have H := H.rowNil 38 1
  refine W_range (N := xs.length) (by omega) (fun k f ds w' => ∃ (v3 : Value) (cs : List Value) (ys : List Key), f 9 = .slice a0 xs.length c0 ∧ f 3 = v3 ∧ ds = [] ∧ Els tKey Z w cs ys ∧ ys.length ≤ 8 * k ∧ ys.Pairwise kLt ∧ (∀ y, y ∈ ys ↔ y ∈ keysOf (xs.take k)) ∧
      Holds w' [row 38 1 v3 ys.length cs, shr (fun k => k < w.heap.size) w])
      ⟨.slice none 0 0, [], [], rfl, rfl, rfl, Els.nil _ _ _, by simp, List.Pairwise.nil, by simp [keysOf], H⟩
      rfl rfl (by decide) (by decide) (by decide) rfl rfl ?_ rfl rfl ?_
  · rintro k f ds w1 hk ⟨v3, cs, ys, h9, h3, rfl, hE, hyl, hys, hym, H⟩ hti htn
    have hxk := List.getElem?_eq_getElem hk
    obtain ⟨b1, o1, cs1, e1, hz1, hc1, hr1⟩ := hx.at hxk
    have hc1' := hc1.ext ((H.keepsAll 1 rfl Z).2 _ hz1 hc1.lt)
    have hkey8 := h8 xs[k] (List.getElem_mem hk)
    have htk : keysOf (xs.take (k + 1)) = keysOf (xs.take k) ++ wroteOf xs[k] := by rw [List.take_add_one, hxk, keysOf, keysOf, Option.toList_some, List.flatMap_append]; simp only [List.flatMap_cons, List.flatMap_nil, List.append_nil]
    generalize xs[k] = r at *
    obtain ⟨vk, vs, vp, rfl, -, -, -, -, -, hkeys, -⟩ := rn_cells.1 hr1
    have hone := tRn.one hr1
    obtain ⟨ak, ck, rfl, hlk, hmk⟩ := hkeys.len
    have h9' := h9.trans (congrArg (Value.slice · _ _) e1)
    refine W_block ?_
    refine W_seq ?_
    refine W_region ?_
    refine OL_y (y_indexAddr ti27 ti33 h9' hti (by omega) (by omega)) (by decide) ?_
    refine OL_y (y_loadA ti33 rfl rfl hc1' rfl) (by decide) ?_
    refine OL_var (v := .agg #[.int .u64 r.txn, .int .i64 r.level, .int .i64 r.state, .int .u64 r.start, .int .u64 r.ts, .slice ak r.keys.length ck, vs, vp]) H ti33 rfl (by decide) (fun _ => rfl) rfl (hone) fun b5 w4_2 H => ?_
    refine OL_nil ?_
    refine W_seq ?_
    refine W_region ?_
    refine OL_y (y_fieldAddr ti33 rfl ti29 rfl rfl) (by decide) ?_
    refine OL_y (y_loadS (v := .slice ak r.keys.length ck) ti29 rfl rfl (Cells.unit (H.getOwn 0 rfl) rfl)) (by decide) ?_
    refine OL_y (y_len rfl ti29 rfl) (by decide) ?_
    refine OL_y (y_move rfl) (by decide) ?_
    refine OL_nil ?_
    refine W_range (N := r.keys.length) (by simp [maxLen]; omega) (fun j f ds w' => ∃ (v3 : Value) (cs : List Value) (ys : List Key), f 9 = .slice a0 xs.length c0 ∧ f 3 = v3 ∧ f 5 = .pointer (some ⟨b5, 0, none⟩) ∧ f 16 = .slice ak r.keys.length ck ∧ f 11 = .int .i64 k ∧ f 10 = .int .i64 xs.length ∧ ds = [] ∧ Els tKey Z w cs ys ∧ ys.length ≤ 8 * k + j ∧ ys.Pairwise kLt ∧ (∀ y, y ∈ ys ↔ y ∈ keysOf (xs.take k) ∨ (r.state = 1 ∧ y ∈ r.keys.take j)) ∧
        Holds w' [own b5 (.cells #[.int .u64 r.txn, .int .i64 r.level, .int .i64 r.state, .int .u64 r.start, .int .u64 r.ts, .slice ak r.keys.length ck, vs, vp] 33), row 38 1 v3 ys.length cs, shr (fun k => k < w.heap.size) w])
        ⟨v3, cs, ys, h9, h3, rfl, rfl, hti, htn, rfl, hE, by omega, hys, by simpa using hym, H⟩
        rfl rfl (by decide) (by decide) (by decide) rfl rfl ?_ rfl rfl ?_
    · rintro j f ds w2 hj ⟨v3, cs, ys, h9, h3, h5, h16, h11, h10, rfl, hE, hyl, hys, hym, H⟩ htj htm
      have hkj := List.getElem?_eq_getElem hj
      obtain ⟨b2, o2, cs2, e2, hz2, hc2, hr2⟩ := hkeys.at hkj
      have hc2' := hc2.ext ((H.keepsAll 2 rfl Z).2 _ hz2 hc2.lt)
      obtain ⟨vy, rfl, hvy⟩ := hr2
      have htj' : r.keys.take (j + 1) = r.keys.take j ++ [r.keys[j]] := by rw [List.take_add_one, hkj]; rfl
      generalize r.keys[j] = key at *
      obtain ⟨a3, c3, rfl, hc3, hm3⟩ := H.rowLen 1 rfl
      have hkW : Keeps Z w w2 := H.keepsAll 2 rfl _
      have hY : SlR tKey 24 (fun k => Z k ∨ w.heap.size ≤ k) w2 (.slice a3 ys.length c3) ys := SlR.ofRow (H.getRow 1 rfl) (by decide) ((hE.keeps hkW).mono fun _ _ h => .inl h) (fun k hk => .inr (H.fresh 1 2 rfl rfl rfl k hk)) (by omega)
      have hvy2 : SlR (tInt .u8) 1 (fun k => Z k ∨ w.heap.size ≤ k) w2 vy key := (hvy.keeps hkW).mono fun _ _ h => .inl h
      have h16' := h16.trans (congrArg (Value.slice · _ _) e2)
      refine W_block ?_
      refine W_seq ?_
      refine W_region ?_
      refine OL_y (y_indexAddr ti29 ti38 h16' htj (by omega) (by omega)) (by decide) ?_
      refine OL_y (y_loadS (v := vy) ti38 rfl rfl hc2') (by decide) ?_
      refine OL_y (y_assign rfl) (by decide) ?_
      refine OL_nil ?_
      refine W_seq ?_
      refine W_seq ?_
      by_cases hst : r.state = 1
      · refine W_region ?_
        refine OL_y (y_fieldAddr ti33 rfl ti3 rfl h5) (by decide) ?_
        refine OL_y (y_loadS (v := .int .i64 r.state) ti3 rfl rfl (Cells.unit (H.getOwn 0 rfl) rfl)) (by decide) ?_
        refine OL_y (v := .bool false) (y_neqF hst rfl rfl) (by decide) ?_
        refine OL_y (v := .bool false) (y_move rfl) (by decide) ?_
        refine OL_yg rfl (by decide) rfl (y_move h3) (by decide) ?_
        refine OL_yg rfl (by decide) rfl (y_move rfl) (by decide) ?_
        refine OL_g rfl (by decide) rfl (op_call 35 en35 rfl [.slice a3 ys.length c3, vy] rfl (by decide) ((f35_calls hY hvy2).mono ?_))
        rintro e w8_6 ⟨rfl, hE35⟩
        refine ⟨_, rfl, ?_⟩
        have H := H.ext0 hE35
        refine OL_y (y_pick (b := false) rfl rfl) (by decide) ?_
        refine OL_nil ?_
        refine W_cond rfl (fun hc => ?_) (fun hc => ?_)
        · have hc := of_decide_eq_true hc
          refine W_exit ?_
          exact ⟨htj, htm, _, cs, ys, h9, h3, h5, h16, h11, h10, rfl, hE, by omega, hys, by
            intro y; rw [hym, htj', List.mem_append, List.mem_singleton]
            have hcc := (hym key).1 hc
            constructor
            · rintro (h | ⟨h, h2⟩)
              · exact .inl h
              · exact .inr ⟨h, .inl h2⟩
            · rintro (h | ⟨h, h2 | rfl⟩)
              · exact .inl h
              · exact .inr ⟨h, h2⟩
              · exact hcc, H⟩
        · have hnk := of_decide_eq_false hc
          refine W_skip ?_
          refine W_seq ?_
          refine W_region ?_
          refine OL_y (y_assign rfl) (by decide) ?_
          refine OL_nil ?_
          refine W_seq ?_
          refine W_block (W_loopN (fun g f ds w' => ∃ i, g + i = ys.length ∧ (∀ y ∈ ys.take i, kLt y key) ∧ f 9 = .slice a0 xs.length c0 ∧ f 3 = .slice a3 ys.length c3 ∧ f 5 = .pointer (some ⟨b5, 0, none⟩) ∧ f 16 = .slice ak r.keys.length ck ∧ f 11 = .int .i64 k ∧ f 10 = .int .i64 xs.length ∧ f 18 = .int .i64 j ∧ f 17 = .int .i64 r.keys.length ∧ f 7 = vy ∧ f 8 = .int .i64 (i : Nat) ∧ ds = [] ∧
              Holds w' [own b5 (.cells #[.int .u64 r.txn, .int .i64 r.level, .int .i64 r.state, .int .u64 r.start, .int .u64 r.ts, .slice ak r.keys.length ck, vs, vp] 33), row 38 1 (.slice a3 ys.length c3) ys.length cs, shr (fun k => k < w.heap.size) w])
              ys.length ⟨0, rfl, by simp, h9, h3, h5, h16, h11, h10, htj, htm, rfl, rfl, rfl, H⟩
              ?_)
          rintro g f ds w4 ⟨i, hgi, hlo, h9, h3, h5, h16, h11, h10, h18, h17, h7, h8', rfl, H⟩
          refine W_seq ?_
          refine W_seq ?_
          by_cases hi : i < ys.length
          · refine W_drawQ H mixed (by kernel_rfl) (by kernel_rfl) fun wd10 H => ?_
            have hkW : Keeps Z w wd10 := H.keepsAll 2 rfl _
            have hyi := List.getElem?_eq_getElem hi
            obtain ⟨b7, c7, cs7, e7, hc7, hr7⟩ := H.rowAt (T := tKey) (Z := Z) 1 rfl (hE.keeps hkW) hyi rfl
            obtain ⟨vz, rfl, hvz⟩ := hr7
            have hti' : ys.take (i + 1) = ys.take i ++ [ys[i]] := by rw [List.take_add_one, hyi]; rfl
            have hdi : ys.drop i = ys[i] :: ys.drop (i + 1) := List.drop_eq_getElem_cons hi
            generalize ys[i] = y at *
            have h3' := h3.trans e7
            refine QL_y (y_move h8') (by decide) ?_
            refine QL_y (y_move h3') (by decide) ?_
            refine QL_y (y_len rfl ti29 rfl) (by decide) ?_
            refine QL_y (v := .bool true) (y_lssT (by omega) rfl rfl) (by decide) ?_
            refine QL_y (v := .bool true) (y_move rfl) (by decide) ?_
            refine QL_yg rfl (by decide) rfl (y_move h3') (by decide) ?_
            refine QL_yg rfl (by decide) rfl (y_move h8') (by decide) ?_
            refine QL_yg rfl (by decide) rfl (y_indexAddr ti29 ti38 rfl rfl (by omega) (by omega)) (by decide) ?_
            refine QL_yg rfl (by decide) rfl (y_loadS (v := vz) ti38 rfl rfl hc7) (by decide) ?_
            refine QL_yg rfl (by decide) rfl (y_toStr Try.underlying38 Try.underlying5 Try.underlying9 rfl hvz) (by decide) ?_
            refine QL_yg rfl (by decide) rfl (y_move h7) (by decide) ?_
            refine QL_yg rfl (by decide) rfl (y_toStr Try.underlying38 Try.underlying5 Try.underlying9 rfl (hvy.keeps hkW)) (by decide) ?_
            refine QL_yg rfl (by decide) rfl (y_lssS rfl rfl) (by decide) ?_
            refine QL_y (y_pick (b := true) rfl rfl) (by decide) ?_
            refine QL_nil ?_
            refine W_cond rfl (fun hc => ?_) (fun hc => ?_)
            · have hc3 := of_decide_eq_true hc
              refine W_skip ?_
              refine W_block ?_
              refine W_region ?_
              refine OL_y (y_move h8') (by decide) ?_
              refine OL_y (y_add64' ((i + 1 : Nat) : Int) rfl rfl (by omega) (by omega) (by omega)) (by decide) ?_
              refine OL_y (y_assign rfl) (by decide) ?_
              refine OL_nil ?_
              exact ⟨g - 1, by omega, i + 1, by omega, by rw [hti']; exact fun z hz => (List.mem_append.1 hz).elim (hlo z) (fun h => by rw [List.mem_singleton.1 h]; exact hc3), h9, h3, h5, h16, h11, h10, h18, h17, h7, rfl, rfl, H⟩
            · have hkc := of_decide_eq_false hc
              refine W_exit ?_
              have hhi : ∀ z ∈ ys.drop i, kLt key z := by
                have hne : key ≠ y := fun h => hnk (by rw [h]; exact List.mem_of_getElem? hyi)
                have hky : kLt key y := Classical.byContradiction fun hn => hne (kb_inj hvy.allIn hvz.allIn (bLt_tri hn hkc))
                rw [hdi]
                intro z hz
                rcases List.mem_cons.1 hz with rfl | hz
                · exact hky
                · have hp : (y :: ys.drop (i + 1)).Pairwise kLt := by rw [← hdi]; exact hys.sublist (List.drop_sublist _ _)
                  exact bLt_trans hky ((List.pairwise_cons.1 hp).1 z hz)
              have hile : i ≤ ys.length := by omega
              refine W_drawD H mixed (by kernel_rfl) [] (fun w0 w' => True) fun wd12 H hEd => ?_
              have hkW : Keeps Z w wd12 := H.keepsAll 2 rfl _
              have hcl := hE.1
              have hdl : (cs.drop (i * 1)).length = (ys.length - i) * 1 := by rw [List.length_drop, hcl]; show ys.length * 1 - i * 1 = _; omega
              have htl : (cs.take (i * 1)).length = i * 1 := by rw [List.length_take, hcl]; show min (i * 1) (ys.length * 1) = _; omega
              have hEt : Els tKey Z w (cs.take (i * 1)) (ys.take i) := hE.take i hile
              have hEd : Els tKey Z w (cs.drop (i * 1)) (ys.drop i) := hE.drop i hile
              have hvk : tKey.R Z w [vy] key := ⟨vy, rfl, hvy⟩
              have hEn : Els tKey Z w (cs.take (i * 1) ++ ([vy] ++ cs.drop (i * 1))) (ys.take i ++ ([key] ++ ys.drop i)) := hEt.append (((Els.nil tKey Z w).snoc hvk).append hEd)
              obtain ⟨ay, cy, rfl, _⟩ := hvy.len
              have hnew1 : ∀ u ∈ [Value.slice ay key.length cy] ++ cs.drop (i * 1), u.oneCell' = true := by
                intro u hu
                rcases List.mem_append.1 hu with hu | hu
                · rw [List.mem_singleton.1 hu]; rfl
                · exact hE.one (by decide) u (List.mem_of_mem_drop hu)
              refine DA_p 0 rfl (by kernel_rfl) rfl (fun _ => y_move h3) (fun _ => trivial) (by decide) fun _ => ?_
              refine DA_p 1 rfl (by kernel_rfl) rfl (fun _ => y_move h8') (fun _ => trivial) (by decide) fun _ => ?_
              refine DA_p 2 rfl (by kernel_rfl) rfl (fun _ => y_move h8') (fun _ => trivial) (by decide) fun _ => ?_
              refine DA_p 3 rfl (by kernel_rfl) rfl (fun _ => y_sliceHM ti29 ti38 rfl rfl rfl (by omega) (by omega) (by omega)) (fun _ => trivial) (by decide) fun _ => ?_
              refine DA_p 4 rfl (by kernel_rfl) rfl (fun _ => y_move h7) (fun _ => trivial) (by decide) fun _ => ?_
              refine DA_p 6 rfl (by kernel_rfl) rfl (fun _ => y_move h3) (fun _ => trivial) (by decide) fun _ => ?_
              refine DA_p 7 rfl (by kernel_rfl) rfl (fun _ => y_move h8') (fun _ => trivial) (by decide) fun _ => ?_
              refine DA_p 8 rfl (by kernel_rfl) rfl (fun _ => y_sliceL ti29 ti38 rfl rfl (by omega) (by omega)) (fun _ => trivial) (by decide) fun _ => ?_
              refine DA_one 5 (by kernel_rfl) rfl (op_buildSlice H [.slice ay key.length cy] ti29 ti38 rfl rfl rfl (by simp [Value.cells]) rfl rfl (by decide) fun b51 w12_5 H => ⟨fun _ => trivial, ?_⟩)
              refine DA_one 9 (by kernel_rfl) rfl (op_append (news := cs.drop (i * 1)) H 0 rfl rfl ti29 ti38 rfl rfl rfl rfl (Src.dropRow (H.getRow 2 rfl) i hile) hdl (fun u hu => hE.one (by decide) u (List.mem_of_mem_drop hu)) (by omega) (by simp [maxLen]; omega) (by decide) fun v55 w12_9 H => ⟨fun _ => trivial, ?_⟩)
              refine DA_one 10 (by kernel_rfl) rfl (op_appendNew H rfl rfl ti29 ti38 rfl rfl rfl rfl ⟨_, rfl⟩ (Src.takeRow (H.getRow 2 rfl) i hile) htl (Src.row (H.getRow 0 rfl)) (by rw [List.length_append, hdl]; show 1 + _ = _; omega) hnew1 (by omega) (by omega) (by simp [maxLen]; omega) (by decide) fun v56 w12_10 H => ⟨fun _ => trivial, ?_⟩)
              refine DA_p 11 rfl (by kernel_rfl) rfl (fun _ => y_assign rfl) (fun _ => trivial) (by decide) fun _ => ?_
              refine DA_done (by kernel_rfl) ?_
              have hl2 : (ys.take i ++ ([key] ++ ys.drop i)).length = i + (1 + (ys.length - i)) := by simp only [List.length_append, List.length_take, List.length_drop, List.length_cons, List.length_nil]; omega
              refine ⟨h18, h17, v56, _, ys.take i ++ ([key] ++ ys.drop i), h9, rfl, h5, h16, h11, h10, rfl, hEn, by rw [hl2]; omega, (show (ys.take i ++ key :: ys.drop i).Pairwise kLt from rise_ins (by rw [List.take_append_drop]; exact hys) hlo hhi), ?_, ?_⟩
              · intro y
                have : y ∈ ys.take i ++ ([key] ++ ys.drop i) ↔ (y ∈ ys ∨ y = key) := by
                  conv => rhs; rw [← List.take_append_drop i ys]
                  simp only [List.mem_append, List.mem_singleton]
                  constructor
                  · rintro (h | h | h)
                    · exact .inl (.inl h)
                    · exact .inr h
                    · exact .inl (.inr h)
                  · rintro ((h | h) | h)
                    · exact .inl h
                    · exact .inr (.inr h)
                    · exact .inr (.inl h)
                rw [this, hym, htj', List.mem_append, List.mem_singleton]
                constructor
                · rintro ((h | ⟨h, h2⟩) | h)
                  · exact .inl h
                  · exact .inr ⟨h, .inl h2⟩
                  · exact .inr ⟨hst, .inr h⟩
                · rintro (h | ⟨h, h2 | h2⟩)
                  · exact .inl (.inl h)
                  · exact .inl (.inr ⟨h, h2⟩)
                  · exact .inr h2
              · rw [hl2]
                have H2 : Holds w12_10 [row 38 1 v56 (i + (1 + (ys.length - i))) (cs.take (i * 1) ++ ([Value.slice ay key.length cy] ++ cs.drop (i * 1))), row 38 1 v55 (1 + (ys.length - i)) ([Value.slice ay key.length cy] ++ cs.drop (i * 1)), own b5 (.cells #[.int .u64 r.txn, .int .i64 r.level, .int .i64 r.state, .int .u64 r.start, .int .u64 r.ts, .slice ak r.keys.length ck, vs, vp] 33), row 38 1 (.slice a3 ys.length c3) ys.length cs, shr (fun k => k < w.heap.size) w] := H
                exact (H2.sub (.cons_cons _ (.cons _ (.cons_cons _ (.cons _ (.cons_cons _ .slnil)))))).perm (List.Perm.swap _ _ _)
          · refine W_drawQ H mixed (by kernel_rfl) (by kernel_rfl) fun wd10 H => ?_
            refine QL_y (y_move h8') (by decide) ?_
            refine QL_y (y_move h3) (by decide) ?_
            refine QL_y (y_len rfl ti29 rfl) (by decide) ?_
            refine QL_y (v := .bool false) (y_lssF (by omega) rfl rfl) (by decide) ?_
            refine QL_y (v := .bool false) (y_move rfl) (by decide) ?_
            refine QL_s rfl (by decide) rfl rfl (by simp) ?_
            refine QL_s rfl (by decide) rfl rfl (by simp) ?_
            refine QL_s rfl (by decide) rfl rfl (by simp) ?_
            refine QL_s rfl (by decide) rfl rfl (by simp) ?_
            refine QL_s rfl (by decide) rfl rfl (by simp) ?_
            refine QL_s rfl (by decide) rfl rfl (by simp) ?_
            refine QL_s rfl (by decide) rfl rfl (by simp) ?_
            refine QL_s rfl (by decide) rfl rfl (by simp) ?_
            refine QL_y (y_pick (b := false) (v := .bool false) rfl rfl) (by decide) ?_
            refine QL_nil ?_
            refine W_condf rfl ?_
            refine W_exit ?_
            have hhi : ∀ z ∈ ys.drop i, kLt key z := by rw [List.drop_of_length_le (by omega)]; simp
            have hile : i ≤ ys.length := by omega
            refine W_drawD H mixed (by kernel_rfl) [] (fun w0 w' => True) fun wd12 H hEd => ?_
            have hkW : Keeps Z w wd12 := H.keepsAll 2 rfl _
            have hcl := hE.1
            have hdl : (cs.drop (i * 1)).length = (ys.length - i) * 1 := by rw [List.length_drop, hcl]; show ys.length * 1 - i * 1 = _; omega
            have htl : (cs.take (i * 1)).length = i * 1 := by rw [List.length_take, hcl]; show min (i * 1) (ys.length * 1) = _; omega
            have hEt : Els tKey Z w (cs.take (i * 1)) (ys.take i) := hE.take i hile
            have hEd : Els tKey Z w (cs.drop (i * 1)) (ys.drop i) := hE.drop i hile
            have hvk : tKey.R Z w [vy] key := ⟨vy, rfl, hvy⟩
            have hEn : Els tKey Z w (cs.take (i * 1) ++ ([vy] ++ cs.drop (i * 1))) (ys.take i ++ ([key] ++ ys.drop i)) := hEt.append (((Els.nil tKey Z w).snoc hvk).append hEd)
            obtain ⟨ay, cy, rfl, _⟩ := hvy.len
            have hnew1 : ∀ u ∈ [Value.slice ay key.length cy] ++ cs.drop (i * 1), u.oneCell' = true := by
              intro u hu
              rcases List.mem_append.1 hu with hu | hu
              · rw [List.mem_singleton.1 hu]; rfl
              · exact hE.one (by decide) u (List.mem_of_mem_drop hu)
            refine DA_p 0 rfl (by kernel_rfl) rfl (fun _ => y_move h3) (fun _ => trivial) (by decide) fun _ => ?_
            refine DA_p 1 rfl (by kernel_rfl) rfl (fun _ => y_move h8') (fun _ => trivial) (by decide) fun _ => ?_
            refine DA_p 2 rfl (by kernel_rfl) rfl (fun _ => y_move h8') (fun _ => trivial) (by decide) fun _ => ?_
            refine DA_p 3 rfl (by kernel_rfl) rfl (fun _ => y_sliceHM ti29 ti38 rfl rfl rfl (by omega) (by omega) (by omega)) (fun _ => trivial) (by decide) fun _ => ?_
            refine DA_p 4 rfl (by kernel_rfl) rfl (fun _ => y_move h7) (fun _ => trivial) (by decide) fun _ => ?_
            refine DA_p 6 rfl (by kernel_rfl) rfl (fun _ => y_move h3) (fun _ => trivial) (by decide) fun _ => ?_
            refine DA_p 7 rfl (by kernel_rfl) rfl (fun _ => y_move h8') (fun _ => trivial) (by decide) fun _ => ?_
            refine DA_p 8 rfl (by kernel_rfl) rfl (fun _ => y_sliceL ti29 ti38 rfl rfl (by omega) (by omega)) (fun _ => trivial) (by decide) fun _ => ?_
            refine DA_one 5 (by kernel_rfl) rfl (op_buildSlice H [.slice ay key.length cy] ti29 ti38 rfl rfl rfl (by simp [Value.cells]) rfl rfl (by decide) fun b51 w12_5 H => ⟨fun _ => trivial, ?_⟩)
            refine DA_one 9 (by kernel_rfl) rfl (op_append (news := cs.drop (i * 1)) H 0 rfl rfl ti29 ti38 rfl rfl rfl rfl (Src.dropRow (H.getRow 2 rfl) i hile) hdl (fun u hu => hE.one (by decide) u (List.mem_of_mem_drop hu)) (by omega) (by simp [maxLen]; omega) (by decide) fun v55 w12_9 H => ⟨fun _ => trivial, ?_⟩)
            refine DA_one 10 (by kernel_rfl) rfl (op_appendNew H rfl rfl ti29 ti38 rfl rfl rfl rfl ⟨_, rfl⟩ (Src.takeRow (H.getRow 2 rfl) i hile) htl (Src.row (H.getRow 0 rfl)) (by rw [List.length_append, hdl]; show 1 + _ = _; omega) hnew1 (by omega) (by omega) (by simp [maxLen]; omega) (by decide) fun v56 w12_10 H => ⟨fun _ => trivial, ?_⟩)
            refine DA_p 11 rfl (by kernel_rfl) rfl (fun _ => y_assign rfl) (fun _ => trivial) (by decide) fun _ => ?_
            refine DA_done (by kernel_rfl) ?_
            have hl2 : (ys.take i ++ ([key] ++ ys.drop i)).length = i + (1 + (ys.length - i)) := by simp only [List.length_append, List.length_take, List.length_drop, List.length_cons, List.length_nil]; omega
            refine ⟨h18, h17, v56, _, ys.take i ++ ([key] ++ ys.drop i), h9, rfl, h5, h16, h11, h10, rfl, hEn, by rw [hl2]; omega, (show (ys.take i ++ key :: ys.drop i).Pairwise kLt from rise_ins (by rw [List.take_append_drop]; exact hys) hlo hhi), ?_, ?_⟩
            · intro y
              have : y ∈ ys.take i ++ ([key] ++ ys.drop i) ↔ (y ∈ ys ∨ y = key) := by
                conv => rhs; rw [← List.take_append_drop i ys]
                simp only [List.mem_append, List.mem_singleton]
                constructor
                · rintro (h | h | h)
                  · exact .inl (.inl h)
                  · exact .inr h
                  · exact .inl (.inr h)
                · rintro ((h | h) | h)
                  · exact .inl h
                  · exact .inr (.inr h)
                  · exact .inr (.inl h)
              rw [this, hym, htj', List.mem_append, List.mem_singleton]
              constructor
              · rintro ((h | ⟨h, h2⟩) | h)
                · exact .inl h
                · exact .inr ⟨h, .inl h2⟩
                · exact .inr ⟨hst, .inr h⟩
              · rintro (h | ⟨h, h2 | h2⟩)
                · exact .inl (.inl h)
                · exact .inl (.inr ⟨h, h2⟩)
                · exact .inr h2
            · rw [hl2]
              have H2 : Holds w12_10 [row 38 1 v56 (i + (1 + (ys.length - i))) (cs.take (i * 1) ++ ([Value.slice ay key.length cy] ++ cs.drop (i * 1))), row 38 1 v55 (1 + (ys.length - i)) ([Value.slice ay key.length cy] ++ cs.drop (i * 1)), own b5 (.cells #[.int .u64 r.txn, .int .i64 r.level, .int .i64 r.state, .int .u64 r.start, .int .u64 r.ts, .slice ak r.keys.length ck, vs, vp] 33), row 38 1 (.slice a3 ys.length c3) ys.length cs, shr (fun k => k < w.heap.size) w] := H
              exact (H2.sub (.cons_cons _ (.cons _ (.cons_cons _ (.cons _ (.cons_cons _ .slnil)))))).perm (List.Perm.swap _ _ _)
      · refine W_region ?_
        refine OL_y (y_fieldAddr ti33 rfl ti3 rfl h5) (by decide) ?_
        refine OL_y (y_loadS (v := .int .i64 r.state) ti3 rfl rfl (Cells.unit (H.getOwn 0 rfl) rfl)) (by decide) ?_
        refine OL_y (v := .bool true) (y_neqT hst rfl rfl) (by decide) ?_
        refine OL_y (v := .bool true) (y_move rfl) (by decide) ?_
        refine OL_s rfl (by decide) rfl rfl (by simp) ?_
        refine OL_s rfl (by decide) rfl rfl (by simp) ?_
        refine OL_s rfl (by decide) rfl rfl (by simp) ?_
        refine OL_y (y_pick (b := true) (v := .bool true) rfl rfl) (by decide) ?_
        refine OL_nil ?_
        refine W_condt rfl ?_
        refine W_exit ?_
        exact ⟨htj, htm, _, cs, ys, h9, h3, h5, h16, h11, h10, rfl, hE, by omega, hys, by intro y; rw [hym]; simp [hst], H⟩
    · rintro f ds w2 ⟨v3, cs, ys, h9, h3, h5, h16, h11, h10, rfl, hE, hyl, hys, hym, H⟩ htj htm
      rw [List.take_length] at hym
      refine ⟨h11, h10, v3, cs, ys, h9, h3, rfl, hE, by omega, hys, ?_, H.tail⟩
      intro y; rw [hym, htk, List.mem_append]
      unfold wroteOf
      by_cases h : r.state = 1 <;> simp [h]
  · rintro f ds w1 ⟨v3, cs, ys, h9, h3, rfl, hE, hyl, hys, hym, H⟩ hti htn
    rw [List.take_length] at hym
    refine W_seq ?_
    refine W_region ?_
    refine OL_y (y_move h3) (by decide) ?_
    refine OL_y (y_assign rfl) (by decide) ?_
    refine OL_nil ?_
    refine W_ret ?_
    show RetOK _ _ _ _ _ _
    exact ret1 (v := v3) Try.results19 rfl ⟨_, ys, rfl, hys, hym, SlR.ofRow (H.getRow 0 rfl) (by decide) ((hE.keeps (H.keepsAll 1 rfl _)).mono fun _ _ h => .inl h) (fun k hk => .inr (H.fresh 0 1 rfl rfl rfl k hk)) (by omega), H.ext_of 1 rfl⟩
end Go.Proofs.Ytelgegodeifbiaa
