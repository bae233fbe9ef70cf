/- The law HistKeys: all keys that were written, and who wrote a key, by time. -/
import Derived.Test.YtelgegodeifbiaaSP
import Derived.Test.YtelgegodeifbiaaE
import Derived.Test.YtelgegodeifbiaaA
import Derived.Test.YtelgegodeifbiaaN
import Derived.Test.YtelgegodeifbiaaG
import Derived.Test.YtelgegodeifbiaaT2
import Derived.Test.YtelgegodeifbiaaT3
namespace Go.Proofs.Ytelgegodeifbiaa
open Go Go.Wk Pl
set_option linter.unusedVariables false

set_option maxHeartbeats 2000000 in
theorem f21_calls {Z : Nat → Prop} {w : World} {a ky : Value} {xs : List Rn} {key : Key} (hx : SlR tRn 112 Z w a xs) (hk : SlR (tInt .u8) 1 Z w ky key) (h30 : xs.length ≤ 30) :
    Calls Try.prog 21 [a, ky].toArray w fun e w' => ∃ (v : Value) (S : List Rn), e = .returned v ∧ S.Perm (xs.filter (picks key)) ∧ S.Pairwise (fun x y => ¬ cmpR y x < 0) ∧ SlR (tInt .u64) 8 (fun k => w.heap.size ≤ k) w' v (S.map (·.txn)) ∧ Ext none' w w' := by
  have H := Holds.start w
  refine calls_of_W' Try.func21 rfl Try.ntmps21 rfl ?_
  refine W_seq ?_
  refine W_region ?_
  refine OL_y (y_assign rfl) (by decide) ?_
  refine OL_nil ?_
  refine W_seq ?_
  refine W_region ?_
  refine OL_y (y_assign rfl) (by decide) ?_
  refine OL_nil ?_
  refine W_seq ?_
  refine W_seq ?_
  refine W_region ?_
  refine OL_y (y_move rfl) (by decide) ?_
  refine OL_y (y_move rfl) (by decide) ?_
  refine OL_c (op_call 36 en36 rfl [a, ky] rfl (by decide) ((f36_calls hx hk h30).mono ?_))
  rintro e w2_2 ⟨v10, rs, rfl, hp, hs, hG, hf, hrow, hE⟩
  refine ⟨_, rfl, ?_⟩
  have H := H.new hE (row_ok hrow) hf
  obtain ⟨a5, c5, hv5, _, _⟩ := H.rowLen 0 rfl
  have hrl : rs.length ≤ 30 := by
    have := hp.length_eq
    rw [List.length_map] at this
    have h2 := List.length_filter_le (picks key) xs
    omega
  refine OL_y (y_len rfl ti27 (show _ = Value.slice a5 rs.length c5 from hv5)) (by decide) ?_
  refine OL_y (y_move rfl) (by decide) ?_
  refine OL_nil ?_
  have H := H.rowNil 26 1
  refine W_range (N := rs.length) (by simp [maxLen]; omega) (fun k f ds w' => ∃ v9 : Value, f 10 = .slice a5 rs.length c5 ∧ f 5 = v9 ∧ ds = [] ∧ Holds w' [row 26 1 v9 k ((rs.take k).map txnC), row 33 8 v10 rs.length (rs.flatMap RR.cells), shr (fun k => k < w.heap.size) w])
      ⟨.slice none 0 0, hv5, rfl, rfl, by simpa using H⟩
      rfl rfl (by decide) (by decide) (by decide) rfl rfl ?_ rfl rfl ?_
  · rintro k f ds w2 hk2 ⟨v9, h10, h5, rfl, H⟩ hti htn
    have hxk := List.getElem?_eq_getElem (l := rs) (i := k) (by omega)
    have htk : rs.take (k + 1) = rs.take k ++ [rs[k]] := by rw [List.take_add_one, hxk]; rfl
    have hxS : rs[k] ∈ rs := List.getElem_mem _
    generalize rs[k] = x at *
    obtain ⟨bb, cc, hvv, _⟩ := ownsRow_cells (H.getRow 1 rfl) (by omega)
    have h10' := h10.trans (hv5.symm.trans hvv)
    have hone := tRn.one (hG x hxS)
    refine W_block ?_
    refine W_seq ?_
    refine W_region ?_
    refine OL_y (y_indexAddr ti27 ti33 h10' hti (by omega) (by omega)) (by decide) ?_
    refine OL_y (y_loadA (cs := x.cells) ti33 rfl rfl (rowElAt RR.len (H.getRow 1 rfl) (by rw [hvv]; rfl) hxk) rfl) (by decide) ?_
    refine OL_var (v := .agg x.cells.toArray) H ti33 rfl (by decide) (fun _ => rfl) rfl (hone) fun b7 w4_2 H => ?_
    refine OL_nil ?_
    refine W_region ?_
    refine OL_y (y_move h5) (by decide) ?_
    refine OL_y (y_fieldAddr ti33 rfl ti26 rfl rfl) (by decide) ?_
    refine OL_y (y_loadS (v := .int .u64 x.r.txn) ti26 rfl rfl (Cells.unit (H.getOwn 0 rfl) rfl)) (by decide) ?_
    refine OL_c (op_buildSlice H [.int .u64 x.r.txn] ti39 ti26 rfl rfl rfl (by simp [Value.cells]) rfl rfl (by decide) fun b19 w5_3 H => ?_)
    refine OL_c (op_append H 2 rfl rfl ti39 ti26 rfl rfl rfl rfl (Src.row (H.getRow 0 rfl)) rfl (by simp [Value.cells, Value.oneCell']) (by omega) (by simp [maxLen]; omega) (by decide) fun v9' w5_4 H => ?_)
    refine OL_y (y_assign rfl) (by decide) ?_
    refine OL_nil ?_
    exact ⟨hti, htn, v9', h10, rfl, rfl, by rw [htk, List.map_append]; exact H.tail.tail⟩
  · rintro f ds w2 ⟨v9, h10, h5, rfl, H⟩ hti htn
    rw [List.take_length] at H
    refine W_seq ?_
    refine W_region ?_
    refine OL_y (y_move h5) (by decide) ?_
    refine OL_y (y_assign rfl) (by decide) ?_
    refine OL_nil ?_
    refine W_ret ?_
    show RetOK _ _ _ _ _ _
    refine ret1 (v := v9) Try.results21 rfl ⟨_, rs.map (·.r), rfl, hp, ?_, ?_, H.ext_of 2 rfl⟩
    · exact List.pairwise_map.2 hs
    refine SlR.ofRow (T := tInt .u64) (H.getRow 0 rfl) (by decide) ?_ (fun k hk => H.fresh 0 2 rfl rfl rfl k hk) (by rw [List.length_map, List.length_map]; omega)
    refine ⟨by simp [tInt, tLit], fun i t hi => ?_⟩
    rw [List.map_map, List.getElem?_map, Option.map_eq_some_iff] at hi
    obtain ⟨x, hxi, rfl⟩ := hi
    have hg := hG x (List.mem_of_getElem? hxi)
    obtain ⟨_, _, _, _, hin, _⟩ := rn_cells.1 hg
    refine ⟨?_, hin⟩
    have hil := (List.getElem?_eq_some_iff.1 hxi).1
    show ((rs.map txnC).drop (i * 1)).take 1 = [.int .u64 x.r.txn]
    rw [Nat.mul_one]
    apply List.ext_getElem?
    intro c
    by_cases hc : c = 0
    · subst hc; rw [List.getElem?_take_of_lt (by omega), List.getElem?_drop, List.getElem?_map, Nat.add_zero, hxi]; rfl
    · rw [List.getElem?_eq_none (by simp; omega), List.getElem?_eq_none (by simp; omega)]
theorem f20_same {Z Z' : Nat → Prop} {w : World} {a b : Value} {xs : List Int} (hx : SlR (tInt .u64) 8 Z w a xs) (hy : SlR (tInt .u64) 8 Z' w b xs) :
    Calls Try.prog 20 [a, b].toArray w fun e w' => e = .returned (.bool true) ∧ Ext none' w w' := by
  have H := Holds.start w
  have hN := hx.len1 (by decide)
  obtain ⟨a0, c0, rfl, hl0, hm0⟩ := hx.len
  obtain ⟨a1, c1, rfl, hl1, hm1⟩ := hy.len
  refine calls_of_W' Try.func20 rfl Try.ntmps20 rfl ?_
  refine W_seq ?_
  refine W_region ?_
  refine OL_y (v := .bool false) (y_assign rfl) (by decide) ?_
  refine OL_nil ?_
  refine W_seq ?_
  refine W_seq ?_
  refine W_region ?_
  refine OL_y (y_move rfl) (by decide) ?_
  refine OL_y (y_len rfl ti39 rfl) (by decide) ?_
  refine OL_y (y_move rfl) (by decide) ?_
  refine OL_y (y_len rfl ti39 rfl) (by decide) ?_
  refine OL_y (v := .bool false) (y_neqF rfl rfl rfl) (by decide) ?_
  refine OL_nil ?_
  refine W_condf rfl ?_
  refine W_skip ?_
  refine W_seq ?_
  refine W_seq ?_
  refine W_region ?_
  refine OL_y (y_move rfl) (by decide) ?_
  refine OL_y (y_len rfl ti39 rfl) (by decide) ?_
  refine OL_y (y_move rfl) (by decide) ?_
  refine OL_nil ?_
  refine W_range (N := xs.length) (by omega) (fun k f ds w' => f 0 = .slice a0 xs.length c0 ∧ f 1 = .slice a1 xs.length c1 ∧ ds = [] ∧ Holds w' [shr (fun k => k < w.heap.size) w]) ⟨rfl, rfl, rfl, H⟩
      rfl rfl (by decide) (by decide) (by decide) rfl rfl ?_ rfl rfl ?_
  · rintro k f ds w1 hk ⟨h0, hh1, rfl, H⟩ hti htn
    have hxk := List.getElem?_eq_getElem hk
    obtain ⟨b1, o1, cs1, e1, hz1, hc1, hr1⟩ := hx.at hxk
    obtain ⟨b2, o2, cs2, e2, hz2, hc2, hr2⟩ := hy.at hxk
    obtain ⟨rfl, _⟩ := hr1
    obtain ⟨rfl, _⟩ := hr2
    have h0' := h0.trans (congrArg (Value.slice · _ _) e1)
    have hh1' := hh1.trans (congrArg (Value.slice · _ _) e2)
    generalize xs[k] = x at *
    refine W_block ?_
    refine W_seq ?_
    refine W_region ?_
    refine OL_y (y_move hti) (by decide) ?_
    refine OL_y (y_assign rfl) (by decide) ?_
    refine OL_nil ?_
    refine W_seq ?_
    refine W_drawQ H mixed (by kernel_rfl) (by kernel_rfl) fun wd6 H => ?_
    have kp := fun Z => H.keepsAll 0 rfl Z
    have hc1' := hc1.ext ((kp Z).2 _ hz1 hc1.lt)
    have hc2' := hc2.ext ((kp Z').2 _ hz2 hc2.lt)
    refine QL_y (y_move h0') (by decide) ?_
    refine QL_y (y_move rfl) (by decide) ?_
    refine QL_y (y_indexAddr ti39 ti26 rfl rfl (by omega) (by omega)) (by decide) ?_
    refine QL_y (y_loadS (v := .int .u64 x) ti26 rfl rfl hc1') (by decide) ?_
    refine QL_y (y_move hh1') (by decide) ?_
    refine QL_y (y_move rfl) (by decide) ?_
    refine QL_y (y_indexAddr ti39 ti26 rfl rfl (by omega) (by omega)) (by decide) ?_
    refine QL_y (y_loadS (v := .int .u64 x) ti26 rfl rfl hc2') (by decide) ?_
    refine QL_y (v := .bool false) (y_neqF rfl rfl rfl) (by decide) ?_
    refine QL_nil ?_
    refine W_condf rfl ?_
    refine W_skip ?_
    exact ⟨hti, htn, h0, hh1, rfl, H⟩
  · rintro f ds w1 ⟨h0, hh1, rfl, H⟩ hti htn
    refine W_seq ?_
    refine W_region ?_
    refine OL_y (v := .bool true) (y_assign rfl) (by decide) ?_
    refine OL_nil ?_
    refine W_ret ?_
    show RetOK _ _ _ _ _ _
    exact ret1 (v := .bool true) Try.results20 rfl ⟨rfl, H.ext_of 0 rfl⟩
theorem runs_keys {n : Nat} {h : List Ev} (hh : ∀ e ∈ h, e.keys.length ≤ n) : ∀ r ∈ runs h, r.keys.length ≤ n := by
  have h1 : ∀ (l : List Ev) (s : List Rn), (∀ r ∈ s, r.keys.length ≤ n) → ∀ r ∈ l.foldl pass1 s, r.keys.length ≤ n := by
    intro l
    induction l with
    | nil => intro s hs; exact hs
    | cons e l ih =>
      intro s hs
      refine ih _ fun r hr => ?_
      unfold pass1 at hr
      split at hr
      · rcases List.mem_append.1 hr with hr | hr
        · exact hs r hr
        · simp at hr; subst hr; simp [beginR]
      · exact hs r hr
  have h2 : ∀ (l : List Ev) (s : List Rn), (∀ e ∈ l, e.keys.length ≤ n) → (∀ r ∈ s, r.keys.length ≤ n) → ∀ r ∈ l.foldl pass2 s, r.keys.length ≤ n := by
    intro l
    induction l with
    | nil => intro s _ hs; exact hs
    | cons e l ih =>
      intro s he hs
      refine ih _ (fun e' h' => he e' (by simp [h'])) fun r hr => ?_
      unfold pass2 at hr
      obtain ⟨r', hr', rfl⟩ := List.mem_map.1 hr
      have hek := he e (by simp)
      have hrk := hs r' hr'
      split
      · unfold updR endR
        split
        · exact hrk
        · split
          · split
            · exact hek
            · exact hrk
          · exact hrk
      · exact hrk
  unfold runs
  exact h2 h _ hh (h1 h [] (by simp))
theorem small_keys {xs : List Ev} (h : small xs = true) : ∀ e ∈ xs, e.keys.length ≤ 8 := by
  unfold small at h
  rw [Bool.and_eq_true] at h
  intro e he
  have h1 : xs.any bigEv = false := by simpa using h.1
  have h2 : bigEv e = false := by rw [List.any_eq_false] at h1; simpa using h1 e he
  unfold bigEv bigHead at h2
  simp only [Bool.or_eq_false_iff, decide_eq_false_iff_not] at h2
  omega
theorem keys_in {Z : Nat → Prop} {w : World} {v : Value} {ys : List Key} (h : SlR tKey 24 Z w v ys) : ∀ k ∈ ys, ∀ x ∈ k, InK .u8 x := by
  intro k hk
  obtain ⟨j, hj⟩ := List.getElem?_of_mem hk
  obtain ⟨_, _, rfl, _, _⟩ := h.len
  obtain ⟨_, _, _, _, _, _, vy, _, hvy⟩ := h.at hj
  exact hvy.allIn

set_option maxHeartbeats 4000000 in
theorem f6_calls {Z : Nat → Prop} {w : World} {a ky : Value} {xs : List Ev} {key : Key} (hx : SlR tEv 128 Z w a xs) (hk : SlR (tInt .u8) 1 Z w ky key) :
    Calls Try.prog 6 [a, ky].toArray w fun e w' => e = .returned (.bool true) ∧ Ext none' w w' := by
  have H := Holds.start w
  obtain ⟨a0, c0, rfl, hl0, hm0⟩ := hx.len
  obtain ⟨a1, c1, rfl, hl1, hm1⟩ := hk.len
  refine calls_of_W' Try.func6 rfl Try.ntmps6 rfl ?_
  refine W_seq ?_
  refine W_region ?_
  refine OL_y (v := .bool false) (y_assign rfl) (by decide) ?_
  refine OL_nil ?_
  refine W_seq ?_
  refine W_seq ?_
  refine W_region ?_
  refine OL_c (op_call 7 en7 rfl [] rfl (by decide) ((f7_calls).mono ?_))
  rintro e w1_0 ⟨rfl, hE⟩
  refine ⟨_, rfl, ?_⟩
  have H := H.ext0 hE
  refine OL_y (v := .bool false) (y_not (b := true) rfl) (by decide) ?_
  refine OL_nil ?_
  refine W_condf rfl ?_
  refine W_skip ?_
  refine W_seq ?_
  refine W_seq ?_
  cases hsm : small xs with
  | false =>
    refine W_region ?_
    refine OL_y (y_move rfl) (by decide) ?_
    refine OL_c (op_call 8 en8 rfl [.slice a0 xs.length c0] rfl (by decide) ((hsm ▸ f8_calls (hx.keeps (H.keepsAll 0 rfl _))).mono ?_))
    rintro e w3_1 ⟨rfl, hE⟩
    refine ⟨_, rfl, ?_⟩
    have H := H.ext0 hE
    refine OL_y (v := .bool true) (y_not (b := false) rfl) (by decide) ?_
    refine OL_y (v := .bool true) (y_move rfl) (by decide) ?_
    refine OL_s rfl (by decide) rfl rfl (by simp) ?_
    refine OL_s rfl (by decide) rfl rfl (by simp) ?_
    refine OL_s rfl (by decide) rfl rfl (by simp) ?_
    refine OL_y (y_pick (b := true) (v := .bool true) rfl rfl) (by decide) ?_
    refine OL_nil ?_
    refine W_condt rfl ?_
    refine W_seq ?_
    refine W_region ?_
    refine OL_y (v := .bool true) (y_assign rfl) (by decide) ?_
    refine OL_nil ?_
    refine W_ret ?_
    show RetOK _ _ _ _ _ _
    exact ret1 (v := .bool true) Try.results6 rfl ⟨rfl, H.ext_of 0 rfl⟩
  | true =>
    refine W_region ?_
    refine OL_y (y_move rfl) (by decide) ?_
    refine OL_c (op_call 8 en8 rfl [.slice a0 xs.length c0] rfl (by decide) ((hsm ▸ f8_calls (hx.keeps (H.keepsAll 0 rfl _))).mono ?_))
    rintro e w3_1 ⟨rfl, hE⟩
    refine ⟨_, rfl, ?_⟩
    have H := H.ext0 hE
    refine OL_y (v := .bool false) (y_not (b := true) rfl) (by decide) ?_
    refine OL_y (v := .bool false) (y_move rfl) (by decide) ?_
    refine OL_yg rfl (by decide) rfl (y_move rfl) (by decide) ?_
    refine OL_yg rfl (by decide) rfl (y_len rfl ti38 rfl) (by decide) ?_
    refine OL_yg rfl (by decide) rfl (y_gtr rfl rfl) (by decide) ?_
    refine OL_y (y_pick (b := false) rfl rfl) (by decide) ?_
    refine OL_nil ?_
    refine W_cond rfl (fun hc => ?_) (fun hc => ?_)
    · refine W_seq ?_
      refine W_region ?_
      refine OL_y (v := .bool true) (y_assign rfl) (by decide) ?_
      refine OL_nil ?_
      refine W_ret ?_
      show RetOK _ _ _ _ _ _
      exact ret1 (v := .bool true) Try.results6 rfl ⟨rfl, H.ext_of 0 rfl⟩
    · refine W_skip ?_
      refine W_seq ?_
      refine W_region ?_
      refine OL_y (y_move rfl) (by decide) ?_
      refine OL_c (op_call 11 en11 rfl [.slice a0 xs.length c0] rfl (by decide) ((f11_calls (hx.keeps (H.keepsAll 0 rfl _)) (small_spec hsm).1 (small_spec hsm).2).mono ?_))
      rintro e w5_1 ⟨v5, rfl, hv5, hE⟩
      refine ⟨_, rfl, ?_⟩
      have H := H.ext0 hE
      have hv5 := hv5.mono (Z' := fun _ => True) fun _ _ _ => trivial
      have hk := hk.mono (Z' := fun _ => True) fun _ _ _ => trivial
      have hrl := Nat.le_trans (runs_len xs) (small_spec hsm).1
      have hr8 := runs_keys (small_keys hsm)
      refine OL_y (y_assign rfl) (by decide) ?_
      refine OL_nil ?_
      refine W_seq ?_
      refine W_region ?_
      refine OL_y (y_move rfl) (by decide) ?_
      refine OL_c (op_call 18 en18 rfl [v5] rfl (by decide) ((f18_calls hv5 hrl hr8).mono ?_))
      rintro e w6_1 ⟨v19, ys, rfl, hys, hym, hv19, hE18⟩
      refine ⟨_, rfl, ?_⟩
      have H := H.ext0 hE18
      have hv5 := hv5.keeps hE18.keeps0
      have hv19 := hv19.mono (Z' := fun _ => True) fun _ _ _ => trivial
      refine OL_y (y_move rfl) (by decide) ?_
      refine OL_c (op_call 19 en19 rfl [v5] rfl (by decide) ((f19_calls hv5 hrl hr8).mono ?_))
      rintro e w6_3 ⟨v21, zs, rfl, hzs, hzm, hv21, hE19⟩
      refine ⟨_, rfl, ?_⟩
      have H := H.ext0 hE19
      have hv5 := hv5.keeps hE19.keeps0
      have hv19 := hv19.keeps hE19.keeps0
      have hv21 := hv21.mono (Z' := fun _ => True) fun _ _ _ => trivial
      have hyz : ys = zs := rise_unique (lt := kLt) (fun a => bLt_irrefl _) (fun h k => bLt_trans h k) hys hzs fun a =>
        ⟨fun h => (hzm a).2 ((hym a (keys_in hv19 a h)).1 h), fun h => (hym a (keys_in hv21 a h)).2 ((hzm a).1 h)⟩
      subst hyz
      refine OL_c (op_call 17 en17 rfl [v19, v21] rfl (by decide) ((f17_same hv19 hv21).mono ?_))
      rintro e w6_4 ⟨rfl, hE17⟩
      refine ⟨_, rfl, ?_⟩
      have H := H.ext0 hE17
      have hv5 := hv5.keeps hE17.keeps0
      refine OL_y (v := .bool true) (y_move rfl) (by decide) ?_
      refine OL_yg rfl (by decide) rfl (y_move rfl) (by decide) ?_
      refine OL_yg rfl (by decide) rfl (y_move rfl) (by decide) ?_
      refine OL_g rfl (by decide) rfl (op_call 16 en16 rfl [v5, .slice a1 key.length c1] rfl (by decide) ((f16_calls hv5 (hk.keeps (H.keepsAll 0 rfl _)) hrl).mono ?_))
      rintro e w6_8 ⟨v26, S, rfl, hp, hs, hv26, hE16⟩
      refine ⟨_, rfl, ?_⟩
      have H := H.ext0 hE16
      have hv5 := hv5.keeps hE16.keeps0
      have hv26 := hv26.mono (Z' := fun _ => True) fun _ _ _ => trivial
      refine OL_yg rfl (by decide) rfl (y_move rfl) (by decide) ?_
      refine OL_yg rfl (by decide) rfl (y_move rfl) (by decide) ?_
      refine OL_g rfl (by decide) rfl (op_call 21 en21 rfl [v5, .slice a1 key.length c1] rfl (by decide) ((f21_calls hv5 (hk.keeps (H.keepsAll 0 rfl _)) hrl).mono ?_))
      rintro e w6_11 ⟨v29, S', rfl, hp', hs', hv29, hE21⟩
      refine ⟨_, rfl, ?_⟩
      have H := H.ext0 hE21
      have hv26 := hv26.keeps hE21.keeps0
      have hv29 := hv29.mono (Z' := fun _ => True) fun _ _ _ => trivial
      have hSS : S = S' := List.Perm.eq_of_pairwise (le := fun x y => ¬ cmpR y x < 0) (fun x y hx hy h1 h2 => by
        rw [cmpR_neg] at h1 h2
        have hxr := (List.mem_filter.1 (hp.mem_iff.1 hx)).1
        have hyr := (List.mem_filter.1 (hp'.mem_iff.1 hy)).1
        exact txn_inj (runs_nodup xs) hxr hyr (by omega)) hs hs' (hp.trans hp'.symm)
      subst hSS
      refine OL_g rfl (by decide) rfl (op_call 20 en20 rfl [v26, v29] rfl (by decide) ((f20_same hv26 hv29).mono ?_))
      rintro e w6_12 ⟨rfl, hE20⟩
      refine ⟨_, rfl, ?_⟩
      have H := H.ext0 hE20
      refine OL_y (y_pick (b := true) (v := .bool true) rfl rfl) (by decide) ?_
      refine OL_y (v := .bool true) (y_assign rfl) (by decide) ?_
      refine OL_nil ?_
      refine W_ret ?_
      show RetOK _ _ _ _ _ _
      exact ret1 (v := .bool true) Try.results6 rfl ⟨rfl, H.ext_of 0 rfl⟩
end Go.Proofs.Ytelgegodeifbiaa
