/- Order: who wrote a key, by time. -/
import Derived.Test.YtelgegodeifbiaaO7
import Derived.Test.YtelgegodeifbiaaWkh
namespace Go.Proofs.Ytelgegodeifbiaa
open Go Go.Wk Pl
set_option linter.unusedVariables false

theorem f28_calls {Z : Nat → Prop} {w : World} {va vb : Value} {k1 k2 : Key} (h1 : SlR (tInt .u8) 1 Z w va k1) (h2 : SlR (tInt .u8) 1 Z w vb k2) :
    Calls Try.prog 28 [va, vb].toArray w fun e w' => e = .returned (.bool (decide (k1 = k2))) ∧ Ext none' w w' := by
  have H := Holds.start w
  refine calls_of_W' Try.func28 rfl Try.ntmps28 rfl ?_
  refine W_seq ?_
  refine W_region ?_
  refine OL_y (v := .bool false) (y_assign rfl) (by decide) ?_
  refine OL_nil ?_
  refine W_seq ?_
  refine W_region ?_
  refine OL_y (y_move rfl) (by decide) ?_
  refine OL_y (y_toStr Try.underlying38 Try.underlying5 Try.underlying9 rfl h1) (by decide) ?_
  refine OL_y (y_move rfl) (by decide) ?_
  refine OL_y (y_toStr Try.underlying38 Try.underlying5 Try.underlying9 rfl h2) (by decide) ?_
  refine OL_y (y_eqlS rfl rfl) (by decide) ?_
  refine OL_y (y_assign rfl) (by decide) ?_
  refine OL_nil ?_
  refine W_ret ?_
  show RetOK _ _ _ _ _ _
  refine ret1 (v := .bool (decide (k1 = k2))) Try.results28 ?_ ⟨rfl, H.ext_of 0 rfl⟩
  show Value.bool (decide (kb k1 = kb k2)) = _
  congr 1
  rw [decide_eq_decide]
  exact ⟨kb_inj h1.allIn h2.allIn, fun h => by rw [h]⟩
theorem f27_calls {Z : Nat → Prop} {w : World} {va vb : Value} {k1 k2 : Key} {bt : Nat} (h1 : SlR (tInt .u8) 1 Z w va k1) (h2 : SlR (tInt .u8) 1 Z w vb k2) (hb : w.heap[bt]? = some (.cells #[vb] 38)) :
    Calls Try.prog 27 [va, .pointer (some ⟨bt, 0, none⟩)].toArray w fun e w' => e = .returned (.bool (decide (k1 = k2))) ∧ Ext none' w w' := by
  have H := Holds.start w
  refine calls_of_W' Try.func27 rfl Try.ntmps27 rfl ?_
  refine W_seq ?_
  refine W_region ?_
  refine OL_y (v := .bool false) (y_assign rfl) (by decide) ?_
  refine OL_nil ?_
  refine W_seq ?_
  refine W_region ?_
  refine OL_y (y_move rfl) (by decide) ?_
  refine OL_y (y_loadS (v := vb) ti38 rfl rfl (Cells.unit (o := 0) hb rfl)) (by decide) ?_
  refine OL_c (op_call 28 en28 rfl [va, vb] rfl (by decide) ((f28_calls h1 h2).mono ?_))
  rintro e w1_2 ⟨rfl, hE⟩
  refine ⟨_, rfl, ?_⟩
  have H := H.ext0 hE
  refine OL_y (y_assign rfl) (by decide) ?_
  refine OL_nil ?_
  refine W_ret ?_
  show RetOK _ _ _ _ _ _
  exact ret1 (v := .bool (decide (k1 = k2))) Try.results27 rfl ⟨rfl, H.ext_of 0 rfl⟩
theorem f37_calls {Z : Nat → Prop} {w : World} {a vb : Value} {xs : List Key} {key : Key} {bt : Nat} (hx : SlR tKey 24 Z w a xs) (hk : SlR (tInt .u8) 1 Z w vb key) (hb : w.heap[bt]? = some (.cells #[vb] 38)) :
    Calls Try.prog 37 [a, .func (.func 27) #[] #[.pointer (some ⟨bt, 0, none⟩)]].toArray w fun e w' => ∃ i : Int, e = .returned (.int .i64 i) ∧ Ext none' w w' ∧ (0 ≤ i ↔ key ∈ xs) := by
  have H := Holds.start w
  have hN := hx.len1 (by decide)
  obtain ⟨a0, c0, rfl, hl0, hm0⟩ := hx.len
  refine calls_of_W' Try.func37 rfl Try.ntmps37 rfl ?_
  refine W_seq ?_
  refine W_region ?_
  refine OL_y (y_assign rfl) (by decide) ?_
  refine OL_nil ?_
  refine W_seq ?_
  refine W_seq ?_
  refine W_region ?_
  refine OL_y (y_move rfl) (by decide) ?_
  refine OL_y (y_len rfl ti29 rfl) (by decide) ?_
  refine OL_y (y_move rfl) (by decide) ?_
  refine OL_nil ?_
  refine W_range (N := xs.length) (by omega) (fun k f ds w' => f 0 = .slice a0 xs.length c0 ∧ f 1 = .func (.func 27) #[] #[.pointer (some ⟨bt, 0, none⟩)] ∧ ds = [] ∧ Holds w' [shr (fun k => k < w.heap.size) w] ∧ key ∉ xs.take k)
      ⟨rfl, rfl, rfl, H, by simp⟩
      rfl rfl (by decide) (by decide) (by decide) rfl rfl ?_ rfl rfl ?_
  · rintro k f ds w1 hk' ⟨h0, hh1, rfl, H, hp⟩ hti htn
    have hxk := List.getElem?_eq_getElem hk'
    obtain ⟨b1, o1, cs1, e1, hz1, hc1, hr1⟩ := (hx.keeps (H.keepsAll 0 rfl _)).at hxk
    obtain ⟨vy, rfl, hvy⟩ := hr1
    have htk : xs.take (k + 1) = xs.take k ++ [xs[k]] := by rw [List.take_add_one, hxk]; rfl
    generalize xs[k] = y at *
    have h0' := h0.trans (congrArg (Value.slice · _ _) e1)
    refine W_block ?_
    refine W_seq ?_
    refine W_region ?_
    refine OL_y (y_move hti) (by decide) ?_
    refine OL_y (y_assign rfl) (by decide) ?_
    refine OL_nil ?_
    refine W_seq ?_
    refine W_region ?_
    refine OL_y (y_move hh1) (by decide) ?_
    refine OL_y (y_move h0') (by decide) ?_
    refine OL_y (y_move rfl) (by decide) ?_
    refine OL_y (y_indexAddr ti29 ti38 rfl rfl (by omega) (by omega)) (by decide) ?_
    refine OL_y (y_loadS (v := vy) ti38 rfl rfl hc1) (by decide) ?_
    refine OL_c (op_call 27 en27 rfl [vy, .pointer (some ⟨bt, 0, none⟩)] rfl (by decide) ((f27_calls hvy (hk.keeps (H.keepsAll 0 rfl _)) (((H.keepsAll 0 rfl (fun _ => True)).2 bt trivial (own_lt hb)).trans hb)).mono ?_))
    rintro e w2 ⟨rfl, hE⟩
    refine ⟨_, rfl, ?_⟩
    have H := H.ext0 hE
    refine OL_nil ?_
    refine W_cond rfl (fun hc => ?_) (fun hc => ?_)
    · have hc := of_decide_eq_true hc
      refine W_seq ?_
      refine W_region ?_
      refine OL_y (y_move rfl) (by decide) ?_
      refine OL_y (y_assign rfl) (by decide) ?_
      refine OL_nil ?_
      refine W_ret ?_
      show RetOK _ _ _ _ _ _
      exact ret1 (v := .int .i64 k) Try.results37 rfl ⟨_, rfl, H.ext_of 0 rfl, ⟨fun _ => by subst hc; exact List.mem_of_getElem? hxk, fun _ => by omega⟩⟩
    · have hc := of_decide_eq_false hc
      refine W_skip ?_
      exact ⟨hti, htn, h0, hh1, rfl, H, by rw [htk, List.mem_append]; exact fun h => h.elim hp (fun h => hc (by simpa using (List.mem_singleton.1 h).symm))⟩
  · rintro f ds w1 ⟨h0, hh1, rfl, H, hp⟩ hti htn
    rw [List.take_length] at hp
    refine W_seq ?_
    refine W_region ?_
    refine OL_y (y_assign rfl) (by decide) ?_
    refine OL_nil ?_
    refine W_ret ?_
    show RetOK _ _ _ _ _ _
    exact ret1 (v := .int .i64 (-1)) Try.results37 rfl ⟨_, rfl, H.ext_of 0 rfl, ⟨fun h => by omega, fun h => (hp h).elim⟩⟩
theorem f26_calls {Z : Nat → Prop} {w : World} {a vb : Value} {xs : List Key} {key : Key} {bt : Nat} (hx : SlR tKey 24 Z w a xs) (hk : SlR (tInt .u8) 1 Z w vb key) (hb : w.heap[bt]? = some (.cells #[vb] 38)) :
    Calls Try.prog 26 [a, .func (.func 27) #[] #[.pointer (some ⟨bt, 0, none⟩)]].toArray w fun e w' => e = .returned (.bool (decide (key ∈ xs))) ∧ Ext none' w w' := by
  have H := Holds.start w
  refine calls_of_W' Try.func26 rfl Try.ntmps26 rfl ?_
  refine W_seq ?_
  refine W_region ?_
  refine OL_y (v := .bool false) (y_assign rfl) (by decide) ?_
  refine OL_nil ?_
  refine W_seq ?_
  refine W_region ?_
  refine OL_y (y_move rfl) (by decide) ?_
  refine OL_y (y_move rfl) (by decide) ?_
  refine OL_c (op_call 37 en37 rfl [a, .func (.func 27) #[] #[.pointer (some ⟨bt, 0, none⟩)]] rfl (by decide) ((f37_calls hx hk hb).mono ?_))
  rintro e w1_2 ⟨i, rfl, hE, hi⟩
  refine ⟨_, rfl, ?_⟩
  have H := H.ext0 hE
  refine OL_y (y_geq rfl rfl) (by decide) ?_
  refine OL_y (y_assign rfl) (by decide) ?_
  refine OL_nil ?_
  refine W_ret ?_
  show RetOK _ _ _ _ _ _
  refine ret1 (v := .bool (decide (key ∈ xs))) Try.results26 ?_ ⟨rfl, H.ext_of 0 rfl⟩
  show Value.bool (decide (0 ≤ i)) = _
  congr 1
  rw [decide_eq_decide]; exact hi
def picks (key : Key) (r : Rn) : Bool := decide (r.state = 1) && decide (key ∈ r.keys)
abbrev txnC (x : RR) : Value := .int .u64 x.r.txn

set_option maxHeartbeats 4000000 in
theorem f16_calls {Z : Nat → Prop} {w : World} {a ky : Value} {xs : List Rn} {key : Key} (hx : SlR tRn 112 Z w a xs) (hk : SlR (tInt .u8) 1 Z w ky key) (h30 : xs.length ≤ 30) :
    Calls Try.prog 16 [a, ky].toArray w fun e w' => ∃ (v : Value) (S : List Rn), e = .returned v ∧ S.Perm (xs.filter (picks key)) ∧ S.Pairwise (fun x y => ¬ cmpR y x < 0) ∧ SlR (tInt .u64) 8 (fun k => w.heap.size ≤ k) w' v (S.map (·.txn)) ∧ Ext none' w w' := by
  have H := Holds.start w
  obtain ⟨a0, c0, rfl, hl0, hm0⟩ := hx.len
  obtain ⟨a1, c1, rfl, hl1, hm1⟩ := hk.len
  refine calls_of_W' Try.func16 rfl Try.ntmps16 rfl ?_
  refine W_seq ?_
  refine W_region ?_
  refine OL_c (op_box (v := .slice a1 key.length c1) H rfl (by decide) fun b3 w0_0 H => ?_)
  refine OL_y (y_assign rfl) (by decide) ?_
  refine OL_nil ?_
  refine W_seq ?_
  refine W_region ?_
  refine OL_y (y_assign rfl) (by decide) ?_
  refine OL_nil ?_
  refine W_seq ?_
  refine W_seq ?_
  refine W_region ?_
  refine OL_y (y_move rfl) (by decide) ?_
  refine OL_y (y_len rfl ti27 rfl) (by decide) ?_
  refine OL_y (y_move rfl) (by decide) ?_
  refine OL_nil ?_
  have H := H.rowNil 33 8
  refine W_range (N := xs.length) (by omega) (fun k f ds w' => ∃ (rs : List RR) (v5 : Value), f 12 = .slice a0 xs.length c0 ∧ f 3 = .pointer (some ⟨b3, 0, none⟩) ∧ f 5 = v5 ∧ ds = [] ∧ rs.map (·.r) = (xs.take k).filter (picks key) ∧ rs.length ≤ k ∧ (∀ x ∈ rs, tRn.R Z w x.cells x.r) ∧
      Holds w' [row 33 8 v5 rs.length (rs.flatMap RR.cells), own b3 (.cells #[.slice a1 key.length c1] 38), shr (fun k => k < w.heap.size) w])
      ⟨[], .slice none 0 0, rfl, rfl, rfl, rfl, by simp, by simp, by simp, H⟩
      rfl rfl (by decide) (by decide) (by decide) rfl rfl ?_ rfl rfl ?_
  · rintro k f ds w1 hk' ⟨rs, v5, h12, h3, h5, rfl, hrs, hrl, hG, H⟩ hti htn
    have hxk := List.getElem?_eq_getElem hk'
    have htk : xs.take (k + 1) = xs.take k ++ [xs[k]] := by rw [List.take_add_one, hxk]; rfl
    obtain ⟨b1, o1, cs1, e1, hz1, hc1, hr1⟩ := hx.at hxk
    have hc1' := hc1.ext ((H.keepsAll 2 rfl Z).2 _ hz1 hc1.lt)
    generalize xs[k] = r at *
    obtain ⟨vk, vs, vp, rfl, -, -, -, -, -, hkeys, -⟩ := rn_cells.1 hr1
    have hone := tRn.one hr1
    obtain ⟨x, hxr, hxc⟩ : ∃ x : RR, x.r = r ∧ x.cells = [.int .u64 r.txn, .int .i64 r.level, .int .i64 r.state, .int .u64 r.start, .int .u64 r.ts, vk, vs, vp] := ⟨⟨r, vk, vs, vp, [], []⟩, rfl, rfl⟩
    refine W_block ?_
    refine W_seq ?_
    refine W_region ?_
    refine OL_y (y_indexAddr ti27 ti33 (h12.trans (congrArg (Value.slice · _ _) e1)) hti (by omega) (by omega)) (by decide) ?_
    refine OL_y (y_loadA ti33 rfl rfl hc1' rfl) (by decide) ?_
    refine OL_var (v := .agg #[.int .u64 r.txn, .int .i64 r.level, .int .i64 r.state, .int .u64 r.start, .int .u64 r.ts, vk, vs, vp]) H ti33 rfl (by decide) (fun _ => rfl) rfl (hone) fun b7 w4_2 H => ?_
    refine OL_nil ?_
    refine W_seq ?_
    refine W_region ?_
    refine OL_y (y_fieldAddr ti33 rfl ti29 rfl rfl) (by decide) ?_
    refine OL_y (y_loadS (v := vk) ti29 rfl rfl (Cells.unit (H.getOwn 0 rfl) rfl)) (by decide) ?_
    refine OL_y (y_makeFunc (vs := [.pointer (some ⟨b3, 0, none⟩)]) (by show [f 3] = _; rw [h3])) (by decide) ?_
    refine OL_c (op_call 26 en26 rfl [vk, .func (.func 27) #[] #[.pointer (some ⟨b3, 0, none⟩)]] rfl (by decide) ((f26_calls (hkeys.keeps (H.keepsAll 3 rfl _)) (hk.keeps (H.keepsAll 3 rfl _)) (H.getOwn 2 rfl)).mono ?_))
    rintro e w5_3 ⟨rfl, hE⟩
    refine ⟨_, rfl, ?_⟩
    have H := H.ext0 hE
    refine OL_y (y_assign rfl) (by decide) ?_
    refine OL_nil ?_
    refine W_seq ?_
    by_cases hst : r.state = 1
    · refine W_region ?_
      refine OL_y (y_fieldAddr ti33 rfl ti3 rfl rfl) (by decide) ?_
      refine OL_y (y_loadS (v := .int .i64 r.state) ti3 rfl rfl (Cells.unit (H.getOwn 0 rfl) rfl)) (by decide) ?_
      refine OL_y (v := .bool true) (y_eqlT hst rfl rfl) (by decide) ?_
      refine OL_y (v := .bool true) (y_move rfl) (by decide) ?_
      refine OL_yg rfl (by decide) rfl (y_move rfl) (by decide) ?_
      refine OL_y (y_pick (b := true) rfl rfl) (by decide) ?_
      refine OL_nil ?_
      refine W_cond rfl (fun hc => ?_) (fun hc => ?_)
      · have hc := of_decide_eq_true hc
        refine W_region ?_
        refine OL_y (y_move h5) (by decide) ?_
        refine OL_y (y_loadA (cs := [.int .u64 r.txn, .int .i64 r.level, .int .i64 r.state, .int .u64 r.start, .int .u64 r.ts, vk, vs, vp]) ti33 rfl rfl (Cells.of (H.getOwn 0 rfl) rfl) rfl) (by decide) ?_
        refine OL_c (op_buildSlice H [.agg #[.int .u64 r.txn, .int .i64 r.level, .int .i64 r.state, .int .u64 r.start, .int .u64 r.ts, vk, vs, vp]] ti27 ti33 rfl rfl rfl (by simp [Value.cells]) rfl rfl (by decide) fun b30 w7_2 H => ?_)
        refine OL_c (op_append H 2 rfl rfl ti27 ti33 rfl rfl rfl rfl (Src.row (H.getRow 0 rfl)) rfl (by simpa [Value.cells] using hone) (by omega) (by simp [maxLen]; omega) (by decide) fun v5' w7_3 H => ?_)
        refine OL_y (y_assign rfl) (by decide) ?_
        refine OL_nil ?_
        refine ⟨hti, htn, rs ++ [x], v5', h12, h3, rfl, rfl, ?_, ?_, ?_, ?_⟩
        · rw [htk, List.filter_append, ← hrs, List.map_append]; simp [picks, hst, hc, hxr]
        · rw [List.length_append]; simp; omega
        · intro y hy
          rcases List.mem_append.1 hy with hy | hy
          · exact hG y hy
          · simp at hy; subst hy; rw [hxc, hxr]; exact hr1
        · have H2 := H.tail.tail
          rw [List.length_append, List.flatMap_append]
          simpa [hxc, Value.cells] using H2
      · have hc := of_decide_eq_false hc
        refine W_skip ?_
        exact ⟨hti, htn, rs, v5, h12, h3, h5, rfl, by rw [htk, List.filter_append, ← hrs]; simp [picks, hc], by omega, hG, H.tail⟩
    · refine W_region ?_
      refine OL_y (y_fieldAddr ti33 rfl ti3 rfl rfl) (by decide) ?_
      refine OL_y (y_loadS (v := .int .i64 r.state) ti3 rfl rfl (Cells.unit (H.getOwn 0 rfl) rfl)) (by decide) ?_
      refine OL_y (v := .bool false) (y_eqlF hst rfl rfl) (by decide) ?_
      refine OL_y (v := .bool false) (y_move rfl) (by decide) ?_
      refine OL_s rfl (by decide) rfl rfl (by simp) ?_
      refine OL_y (y_pick (b := false) (v := .bool false) rfl rfl) (by decide) ?_
      refine OL_nil ?_
      refine W_condf rfl ?_
      refine W_skip ?_
      exact ⟨hti, htn, rs, v5, h12, h3, h5, rfl, by rw [htk, List.filter_append, ← hrs]; simp [picks, hst], by omega, hG, H.tail⟩
  · rintro f ds w1 ⟨rs, v5, h12, h3, h5, rfl, hrs, hrl, hG, H⟩ hti htn
    rw [List.take_length] at hrs
    obtain ⟨a5, c5, hv5, _, _⟩ := H.rowLen 0 rfl
    obtain ⟨bb, cc, hvv⟩ : ∃ bb cc, 0 < rs.length → v5 = .slice (some ⟨bb, 0, none⟩) rs.length cc := by
      by_cases h0 : 0 < rs.length
      · obtain ⟨b, c, h, _⟩ := ownsRow_cells (H.getRow 0 rfl) h0
        exact ⟨b, c, fun _ => h⟩
      · exact ⟨0, 0, fun h => (h0 h).elim⟩
    refine W_seq ?_
    refine W_region ?_
    refine OL_y (y_move h5) (by decide) ?_
    refine OL_c (op_call 29 en29 rfl [v5, .func (.func 30) #[] #[]] rfl (by decide) ((f29_calls (H.getRow 0 rfl) rfl hvv ⟨a5, c5, hv5⟩ (by omega) (fun x hx => tRn.one (hG x hx))).mono ?_))
    rintro e w9_1 ⟨⟨y, rfl⟩, hE, S, hp, hs, hr⟩
    refine ⟨_, rfl, ?_⟩
    have H := H.step 0 rfl rfl hE (fun _ _ h => h) (row_ok hr) fun _ h => .inl h
    have hGS : ∀ x ∈ S, tRn.R Z w x.cells x.r := fun x hx => hG x (hp.mem_iff.1 hx)
    have hSl := hp.length_eq
    have h5' : f 5 = .slice a5 rs.length c5 := h5.trans hv5
    refine OL_nil ?_
    refine W_seq ?_
    refine W_region ?_
    refine OL_y (y_assign rfl) (by decide) ?_
    refine OL_nil ?_
    refine W_seq ?_
    refine W_seq ?_
    refine W_region ?_
    refine OL_y (y_move h5') (by decide) ?_
    refine OL_y (y_len rfl ti27 rfl) (by decide) ?_
    refine OL_y (y_move rfl) (by decide) ?_
    refine OL_nil ?_
    have H := H.rowNil 26 1
    refine W_range (N := rs.length) (by simp [maxLen]; omega) (fun k f ds w' => ∃ v9 : Value, f 35 = .slice a5 rs.length c5 ∧ f 9 = v9 ∧ ds = [] ∧ Holds w' [row 26 1 v9 k ((S.take k).map txnC), row 33 8 v5 rs.length (S.flatMap RR.cells), own b3 (.cells #[.slice a1 key.length c1] 38), shr (fun k => k < w.heap.size) w])
        ⟨.slice none 0 0, rfl, rfl, rfl, by simpa using H⟩
        rfl rfl (by decide) (by decide) (by decide) rfl rfl ?_ rfl rfl ?_
    · rintro k f ds w2 hk2 ⟨v9, h35, h9, rfl, H⟩ hti htn
      have hxk := List.getElem?_eq_getElem (l := S) (i := k) (by omega)
      have htk : S.take (k + 1) = S.take k ++ [S[k]] := by rw [List.take_add_one, hxk]; rfl
      have hxS : S[k] ∈ S := List.getElem_mem _
      generalize S[k] = x at *
      have hv5' := hvv (by omega)
      have h35' : f 35 = .slice (some ⟨bb, 0, none⟩) rs.length cc := h35.trans (hv5.symm.trans hv5')
      have hone := tRn.one (hGS x hxS)
      refine W_block ?_
      refine W_seq ?_
      refine W_region ?_
      refine OL_y (y_indexAddr ti27 ti33 h35' hti (by omega) (by omega)) (by decide) ?_
      refine OL_y (y_loadA (cs := x.cells) ti33 rfl rfl (rowElAt RR.len (H.getRow 1 rfl) (by rw [hv5']; rfl) hxk) rfl) (by decide) ?_
      refine OL_var (v := .agg x.cells.toArray) H ti33 rfl (by decide) (fun _ => rfl) rfl (hone) fun b11 w13_2 H => ?_
      refine OL_nil ?_
      refine W_region ?_
      refine OL_y (y_move h9) (by decide) ?_
      refine OL_y (y_fieldAddr ti33 rfl ti26 rfl rfl) (by decide) ?_
      refine OL_y (y_loadS (v := .int .u64 x.r.txn) ti26 rfl rfl (Cells.unit (H.getOwn 0 rfl) rfl)) (by decide) ?_
      refine OL_c (op_buildSlice H [.int .u64 x.r.txn] ti39 ti26 rfl rfl rfl (by simp [Value.cells]) rfl rfl (by decide) fun b44 w14_3 H => ?_)
      refine OL_c (op_append H 2 rfl rfl ti39 ti26 rfl rfl rfl rfl (Src.row (H.getRow 0 rfl)) rfl (by simp [Value.cells, Value.oneCell']) (by omega) (by simp [maxLen]; omega) (by decide) fun v9' w14_4 H => ?_)
      refine OL_y (y_assign rfl) (by decide) ?_
      refine OL_nil ?_
      exact ⟨hti, htn, v9', h35, rfl, rfl, by rw [htk, List.map_append]; exact H.tail.tail⟩
    · rintro f ds w2 ⟨v9, h35, h9, rfl, H⟩ hti htn
      rw [List.take_of_length_le (by omega)] at H
      refine W_seq ?_
      refine W_region ?_
      refine OL_y (y_move h9) (by decide) ?_
      refine OL_y (y_assign rfl) (by decide) ?_
      refine OL_nil ?_
      refine W_ret ?_
      show RetOK _ _ _ _ _ _
      refine ret1 (v := v9) Try.results16 rfl ⟨_, S.map (·.r), rfl, ?_, ?_, ?_, H.ext_of 3 rfl⟩
      · rw [← hrs]; exact hp.map _
      · exact List.pairwise_map.2 hs
      · refine SlR.ofRow (T := tInt .u64) (H.getRow 0 rfl) (by decide) ?_ (fun k hk => H.fresh 0 3 rfl rfl rfl k hk) (by rw [List.length_map, List.length_map]; omega)
        refine ⟨by simp [tInt, tLit], fun i t hi => ?_⟩
        rw [List.map_map, List.getElem?_map, Option.map_eq_some_iff] at hi
        obtain ⟨x, hxi, rfl⟩ := hi
        have hg := hGS x (List.mem_of_getElem? hxi)
        obtain ⟨_, _, _, _, hin, _⟩ := rn_cells.1 hg
        refine ⟨?_, hin⟩
        have hil := (List.getElem?_eq_some_iff.1 hxi).1
        show ((S.map txnC).drop (i * 1)).take 1 = [.int .u64 x.r.txn]
        rw [Nat.mul_one]
        apply List.ext_getElem?
        intro c
        by_cases hc : c = 0
        · subst hc; rw [List.getElem?_take_of_lt (by omega), List.getElem?_drop, List.getElem?_map, Nat.add_zero, hxi]; rfl
        · rw [List.getElem?_eq_none (by simp; omega), List.getElem?_eq_none (by simp; omega)]
end Go.Proofs.Ytelgegodeifbiaa
