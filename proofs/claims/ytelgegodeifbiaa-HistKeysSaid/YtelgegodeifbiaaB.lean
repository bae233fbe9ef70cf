/- Formed: whether a history is. -/
import Derived.Test.YtelgegodeifbiaaX
namespace Go.Proofs.Ytelgegodeifbiaa
open Go Go.Wk Pl
set_option linter.unusedVariables false

abbrev ku26 := KeyOK.int (P := Try.prog) Try.underlying26
abbrev stC (s : St) : Obj := .cells #[.int .i64 s.level, .int .u64 s.start, .bool s.over] 55
abbrev stM (S : List (Int × Nat × St)) : List (Int × Value) := S.map fun x => (x.1, .pointer (some ⟨x.2.1, 0, none⟩))
abbrev stO (S : List (Int × Nat × St)) : List Atom := S.map fun x => own x.2.1 (stC x.2.2)
abbrev stF (S : List (Int × Nat × St)) : List (Int × St) := S.map fun x => (x.1, x.2.2)
abbrev tmM (T : List Int) : List (Int × Value) := T.map fun t => (t, .bool true)

theorem stM_get (S : List (Int × Nat × St)) (k : Int) : mget (stM S) k = (S.find? fun x => decide (x.1 = k)).map fun x => .pointer (some ⟨x.2.1, 0, none⟩) := by
  unfold mget stM; rw [List.find?_map, Option.map_map]; rfl
theorem stF_find (S : List (Int × Nat × St)) (k : Int) : (stF S).find? (fun x => decide (x.1 = k)) = (S.find? fun x => decide (x.1 = k)).map fun x => (x.1, x.2.2) := by
  unfold stF; rw [List.find?_map]; rfl
theorem tmM_get (T : List Int) (k : Int) : (mget (tmM T) k).getD (.bool false) = .bool (decide (k ∈ T)) := by
  unfold mget tmM; rw [List.find?_map, Option.map_map]
  by_cases h : k ∈ T
  · rw [decide_eq_true h]
    cases hf : T.find? ((fun x : Int × Value => decide (x.1 = k)) ∘ fun t => (t, .bool true)) with
    | none => rw [List.find?_eq_none] at hf; exact (hf k h (decide_eq_true rfl)).elim
    | some y => rfl
  · rw [decide_eq_false h]
    cases hf : T.find? ((fun x : Int × Value => decide (x.1 = k)) ∘ fun t => (t, .bool true)) with
    | none => rfl
    | some y =>
      have h1 := List.find?_some hf
      simp at h1; subst h1
      exact absurd (List.mem_of_find?_eq_some hf) h
theorem mset_new {m : List (Int × Value)} {k : Int} {v : Value} (h : k ∉ m.map (·.1)) : mset m k v = m ++ [(k, v)] := by unfold mset; rw [if_neg h]
theorem stM_keys (S : List (Int × Nat × St)) : (stM S).map (·.1) = S.map (·.1) := by simp
theorem tmM_keys (T : List Int) : (tmM T).map (·.1) = T := by simp [Function.comp_def]

set_option maxHeartbeats 4000000 in
theorem f9_calls {Z : Nat → Prop} {w : World} {a : Value} {xs : List Ev} (hx : SlR tEv 128 Z w a xs) :
    Calls Try.prog 9 [a].toArray w fun e w' => e = .returned (.bool (formed xs)) ∧ Ext none' w w' := by
  have H := Holds.start w
  have hN := hx.len1 (by decide)
  obtain ⟨a0, c0, rfl, hl0, hm0⟩ := hx.len
  refine calls_of_W' Try.func9 rfl Try.ntmps9 rfl ?_
  refine W_seq ?_
  refine W_region ?_
  refine OL_y (y_assign rfl) (by decide) ?_
  refine OL_nil ?_
  refine W_seq ?_
  refine W_region ?_
  refine OL_c (op_makeMap (Value.int .u64) H (by decide) fun bm w1 H => ?_)
  refine OL_y (y_assign rfl) (by decide) ?_
  refine OL_nil ?_
  refine W_seq ?_
  refine W_region ?_
  refine OL_c (op_makeMap (Value.int .u64) H (by decide) fun bt w2 H => ?_)
  refine OL_y (y_assign rfl) (by decide) ?_
  refine OL_nil ?_
  refine W_seq ?_
  refine W_seq ?_
  refine W_region ?_
  refine OL_y (y_move rfl) (by decide) ?_
  refine OL_y (y_len rfl ti22 rfl) (by decide) ?_
  refine OL_y (y_move rfl) (by decide) ?_
  refine OL_nil ?_
  refine W_range (N := xs.length) (by omega) (fun k f ds w' => ∃ S T, f 10 = .slice a0 xs.length c0 ∧ f 3 = .map (some bm) ∧ f 4 = .map (some bt) ∧ ds = [] ∧ formedFrom ([], []) (xs.take k) = some (stF S, T) ∧
      Holds w' (mp (Value.int .u64) bt (tmM T) :: mp (Value.int .u64) bm (stM S) :: shr (fun k => k < w.heap.size) w :: stO S))
    ⟨[], [], rfl, rfl, rfl, rfl, rfl, H⟩ rfl rfl (by decide) (by decide) (by decide) rfl rfl ?_ rfl rfl ?_
  · rintro k f ds w1 hk ⟨S, T, h10, h3, h4, rfl, hF, H⟩ hti htn
    have hxk := List.getElem?_eq_getElem hk
    have hS : (S.map (·.1)).Nodup := by
      obtain ⟨_, _, _, _, h, _⟩ := H.map 1 rfl
      rwa [stM_keys] at h
    obtain ⟨b1, o1, cs1, e1, hz1, hc1, hr1⟩ := hx.at hxk
    obtain ⟨vl, vh, vs, vk, rfl, he1, he2, he3, he4, -⟩ := ev_cells.1 hr1
    generalize xs[k] = e at hxk hr1 hc1 he1 he2 he3 he4
    have hone := tEv.one hr1
    have hnx := formed_next hxk hF
    have hsp := fun h => formed_stop hxk hF h
    refine W_block ?_
    refine W_seq ?_
    refine W_region ?_
    refine OL_y (y_indexAddr ti22 ti48 (e1 ▸ h10) hti (by omega) (by omega)) (by decide) ?_
    refine OL_y (y_loadA ti48 rfl rfl (hc1.ext ((H.keepsAll 2 rfl Z).2 _ hz1 hc1.lt)) rfl) (by decide) ?_
    refine OL_var H ti48 rfl (by decide) (fun _ => rfl) rfl hone fun be w2 H => ?_
    refine OL_nil ?_
    refine W_seq ?_
    refine W_region ?_
    refine OL_y (y_move h3) (by decide) ?_
    refine OL_y (y_fieldAddr ti48 rfl ti26 rfl rfl) (by decide) ?_
    refine OL_y (y_loadS (v := .int .u64 e.txn) ti26 rfl rfl (Cells.unit (H.getOwn 0 rfl) rfl)) (by decide) ?_
    refine OL_y (y_lookup H 2 rfl ti51 ti53 ku26 rfl rfl) (by decide) ?_
    refine OL_y (y_assign rfl) (by decide) ?_
    refine OL_nil ?_
    cases hf : S.find? fun x => decide (x.1 = e.txn) with
    | none =>
      have hst : stepF (stF S, T) e = if e.kind ≠ 1 then none else some (stF S ++ [(e.txn, ⟨e.level, e.ts, false⟩)], T) := by
        unfold stepF; simp only [stF_find, hf, Option.map_none]
      have hni : e.txn ∉ S.map (·.1) := by
        rw [List.find?_eq_none] at hf
        intro hm
        obtain ⟨y, hy, hye⟩ := List.mem_map.1 hm
        exact absurd (decide_eq_true hye) (by simpa using hf y hy)
      refine W_seq ?_
      refine W_seq ?_
      refine W_region ?_
      refine OL_y (v := .pointer none) (y_move (by show (mget (stM S) e.txn).getD _ = _; rw [stM_get, hf]; rfl)) (by decide) ?_
      refine OL_y (y_isNil Try.underlying53 rfl rfl) (by decide) ?_
      refine OL_nil ?_
      refine W_condt rfl ?_
      refine W_seq ?_
      refine W_seq ?_
      refine W_region ?_
      refine OL_y (y_fieldAddr ti48 rfl ti3 rfl rfl) (by decide) ?_
      refine OL_y (y_loadS (v := .int .i64 e.kind) ti3 rfl rfl (Cells.unit (H.getOwn 0 rfl) rfl)) (by decide) ?_
      refine OL_y (y_neq rfl rfl) (by decide) ?_
      refine OL_nil ?_
      refine W_cond rfl (fun hc => ?_) (fun hc => ?_)
      · have hc := of_decide_eq_true hc
        refine W_seq ?_
        refine W_region ?_
        refine OL_y (y_assign rfl) (by decide) ?_
        refine OL_nil ?_
        refine W_ret ?_
        show RetOK _ _ _ _ _ _
        exact ret1 (v := .bool false) Try.results9 rfl ⟨by rw [hsp (by rw [hst, if_pos hc])], H.ext_of 3 rfl⟩
      have hc := of_decide_eq_false hc
      refine W_skip ?_
      refine W_seq ?_
      refine W_region ?_
      refine OL_y (y_move h3) (by decide) ?_
      refine OL_y (y_fieldAddr ti48 rfl ti26 rfl rfl) (by decide) ?_
      refine OL_y (y_loadS (v := .int .u64 e.txn) ti26 rfl rfl (Cells.unit (H.getOwn 0 rfl) rfl)) (by decide) ?_
      refine OL_y (y_fieldAddr ti48 rfl ti3 rfl rfl) (by decide) ?_
      refine OL_y (y_loadS (v := .int .i64 e.level) ti3 rfl rfl (Cells.unit (H.getOwn 0 rfl) rfl)) (by decide) ?_
      refine OL_y (y_fieldAddr ti48 rfl ti26 rfl rfl) (by decide) ?_
      refine OL_y (y_loadS (v := .int .u64 e.ts) ti26 rfl rfl (Cells.unit (H.getOwn 0 rfl) rfl)) (by decide) ?_
      refine OL_y (y_build (cells := #[.int .i64 e.level, .int .u64 e.ts, .bool false]) ti55 pl55 rfl) (by decide) ?_
      refine OL_c (op_box (v := .agg #[.int .i64 e.level, .int .u64 e.ts, .bool false]) H rfl (by decide) fun bs w3 H => ?_)
      refine OL_c (op_mapUpdate (k := e.txn) (v := .pointer (some ⟨bs, 0, none⟩)) H 3 rfl ti51 ku26 rfl rfl rfl fun w4 H => ?_)
      refine OL_nil ?_
      refine W_exit ?_
      have H : Holds w4 (own bs (stC ⟨e.level, e.ts, false⟩) :: own be _ :: mp (Value.int .u64) bt (tmM T) :: mp (Value.int .u64) bm (mset (stM S) e.txn (.pointer (some ⟨bs, 0, none⟩))) :: shr (fun k => k < w.heap.size) w :: stO S) := H
      rw [mset_new (by rw [stM_keys]; exact hni)] at H
      refine ⟨hti, htn, S ++ [(e.txn, bs, ⟨e.level, e.ts, false⟩)], T, h10, h3, h4, rfl, ?_, ?_⟩
      · rw [hnx, hst, if_neg hc]; simp [stF]
      · have H := H.sub (.cons_cons _ (.cons _ (.refl _)))
        have H := H.perm (List.perm_append_singleton _ _).symm
        simpa [stM, stO] using H
    | some y =>
      obtain ⟨j, hj⟩ := List.getElem?_of_mem (List.mem_of_find?_eq_some hf)
      have hyk : y.1 = e.txn := by have := List.find?_some hf; simpa using this
      obtain ⟨y1, bj, st⟩ := y
      simp only at hyk; subst hyk
      have hjl := (List.getElem?_eq_some_iff.1 hj).1
      have hO : (stO S)[j]? = some (own bj (stC st)) := by unfold stO; rw [List.getElem?_map, hj]; rfl
      have hst : stepF (stF S, T) e = if e.kind = 1 ∨ st.over = true ∨ st.level ≠ e.level then none else
          if e.kind ≠ 3 then some (stF (S.set j (e.txn, bj, { st with over := decide (e.kind = 3 ∨ e.kind = 4) })), T) else
          if e.ts ∈ T ∨ e.ts ≤ st.start then none else some (stF (S.set j (e.txn, bj, { st with over := decide (e.kind = 3 ∨ e.kind = 4) })), T ++ [e.ts]) := by
        have h1 : (stF S).map (fun y => if y.1 = e.txn then (e.txn, { st with over := decide (e.kind = 3 ∨ e.kind = 4) }) else y) = stF (S.set j (e.txn, bj, { st with over := decide (e.kind = 3 ∨ e.kind = 4) })) := by
          have := set_key (S := stF S) (by simpa [stF, Function.comp_def] using hS) (j := j) (y := (e.txn, st)) (by unfold stF; rw [List.getElem?_map, hj]; rfl) (e.txn, { st with over := decide (e.kind = 3 ∨ e.kind = 4) })
          rw [this]; unfold stF; rw [List.map_set]
        unfold stepF; simp only [stF_find, hf, Option.map_some, h1]
      refine W_seq ?_
      refine W_seq ?_
      refine W_region ?_
      refine OL_y (v := .pointer (some ⟨bj, 0, none⟩)) (y_move (by show (mget (stM S) e.txn).getD _ = _; rw [stM_get, hf]; rfl)) (by decide) ?_
      refine OL_y (y_isNil Try.underlying53 rfl rfl) (by decide) ?_
      refine OL_nil ?_
      refine W_condf rfl ?_
      refine W_skip ?_
      have h7 : ∀ u v, (upd (upd u 20 v) 21 (Value.bool false)) 7 = u 7 := fun _ _ => rfl
      refine W_seq ?_
      refine W_seq (W_cut (fun f ds w' => f 10 = .slice a0 xs.length c0 ∧ f 3 = .map (some bm) ∧ f 4 = .map (some bt) ∧ f 12 = .int .i64 k ∧ f 11 = .int .i64 xs.length ∧ f 6 = .pointer (some ⟨be, 0, none⟩) ∧ f 7 = .pointer (some ⟨bj, 0, none⟩) ∧ f 51 = .bool (decide (e.kind = 1 ∨ st.over = true ∨ st.level ≠ e.level)) ∧ ds = [] ∧
        Holds w' (own be (.cells #[.int .i64 e.kind, .int .u64 e.txn, .int .i64 e.level, .int .u64 e.ts, vl, vh, vs, vk] 48) :: mp (Value.int .u64) bt (tmM T) :: mp (Value.int .u64) bm (stM S) :: shr (fun k => k < w.heap.size) w :: stO S)) ?_ ?_)
      · refine W_drawQ H mixed (by kernel_rfl) (by kernel_rfl) fun w3 H => ?_
        have H : Holds w3 (own be (.cells #[.int .i64 e.kind, .int .u64 e.txn, .int .i64 e.level, .int .u64 e.ts, vl, vh, vs, vk] 48) :: mp (Value.int .u64) bt (tmM T) :: mp (Value.int .u64) bm (stM S) :: shr (fun k => k < w.heap.size) w :: stO S) := H
        have hs := H.getOwn (j + 4) (show (stO S)[j]? = _ from hO)
        have hp7 : (mget (stM S) e.txn).getD (.pointer none) = .pointer (some ⟨bj, 0, none⟩) := by rw [stM_get, hf]; rfl
        refine QL_y (y_fieldAddr ti48 rfl ti3 rfl rfl) (by decide) ?_
        refine QL_y (y_loadS (v := .int .i64 e.kind) ti3 rfl rfl (Cells.unit (H.getOwn 0 rfl) rfl)) (by decide) ?_
        refine QL_y (y_eql rfl rfl) (by decide) ?_
        refine QL_y (y_move rfl) (by decide) ?_
        by_cases hk1 : e.kind = 1
        · have hk1 : decide (e.kind = 1) = true := decide_eq_true hk1
          refine QL_s rfl (by decide) (congrArg Value.bool hk1) rfl (by simp) ?_
          refine QL_s rfl (by decide) (congrArg Value.bool hk1) rfl (by simp) ?_
          refine QL_s rfl (by decide) (congrArg Value.bool hk1) rfl (by simp) ?_
          refine QL_s rfl (by decide) (congrArg Value.bool hk1) rfl (by simp) ?_
          refine QL_y (y_pick (b := true) (v := .bool true) (congrArg Value.bool hk1) rfl) (by decide) ?_
          refine QL_y (y_move rfl) (by decide) ?_
          refine QL_s rfl (by decide) rfl rfl (by simp) ?_
          refine QL_s rfl (by decide) rfl rfl (by simp) ?_
          refine QL_s rfl (by decide) rfl rfl (by simp) ?_
          refine QL_s rfl (by decide) rfl rfl (by simp) ?_
          refine QL_s rfl (by decide) rfl rfl (by simp) ?_
          refine QL_s rfl (by decide) rfl rfl (by simp) ?_
          refine QL_s rfl (by decide) rfl rfl (by simp) ?_
          refine QL_y (y_pick (b := true) (v := .bool true) rfl rfl) (by decide) ?_
          refine QL_nil ?_
          exact ⟨h10, h3, h4, hti, htn, rfl, hp7, by rw [decide_eq_true (show e.kind = 1 ∨ st.over = true ∨ st.level ≠ e.level from .inl (of_decide_eq_true hk1))]; rfl, rfl, H⟩
        · have hk1' := hk1
          have hk1 : decide (e.kind = 1) = false := decide_eq_false hk1
          refine QL_yg rfl (by decide) (congrArg Value.bool hk1) (y_move hp7) (by decide) ?_
          refine QL_yg rfl (by decide) (congrArg Value.bool hk1) (y_nilCheck rfl ⟨_, rfl⟩) (by decide) ?_
          refine QL_yg rfl (by decide) (congrArg Value.bool hk1) (y_fieldAddr ti55 rfl ti4 rfl rfl) (by decide) ?_
          refine QL_yg rfl (by decide) (congrArg Value.bool hk1) (y_loadS (v := .bool st.over) ti4 rfl rfl (Cells.unit hs rfl)) (by decide) ?_
          refine QL_y (y_pick (b := false) (v := .bool st.over) (congrArg Value.bool hk1) rfl) (by decide) ?_
          refine QL_y (y_move rfl) (by decide) ?_
          by_cases hov : st.over = true
          · refine QL_s rfl (by decide) (congrArg Value.bool hov) rfl (by simp) ?_
            refine QL_s rfl (by decide) (congrArg Value.bool hov) rfl (by simp) ?_
            refine QL_s rfl (by decide) (congrArg Value.bool hov) rfl (by simp) ?_
            refine QL_s rfl (by decide) (congrArg Value.bool hov) rfl (by simp) ?_
            refine QL_s rfl (by decide) (congrArg Value.bool hov) rfl (by simp) ?_
            refine QL_s rfl (by decide) (congrArg Value.bool hov) rfl (by simp) ?_
            refine QL_s rfl (by decide) (congrArg Value.bool hov) rfl (by simp) ?_
            refine QL_y (y_pick (b := true) (v := .bool true) (congrArg Value.bool hov) rfl) (by decide) ?_
            refine QL_nil ?_
            exact ⟨h10, h3, h4, hti, htn, rfl, hp7, by rw [decide_eq_true (show e.kind = 1 ∨ st.over = true ∨ st.level ≠ e.level from .inr (.inl hov))]; rfl, rfl, H⟩
          · have hov : st.over = false := by simpa using hov
            refine QL_yg rfl (by decide) (congrArg Value.bool hov) (y_move hp7) (by decide) ?_
            refine QL_yg rfl (by decide) (congrArg Value.bool hov) (y_nilCheck rfl ⟨_, rfl⟩) (by decide) ?_
            refine QL_yg rfl (by decide) (congrArg Value.bool hov) (y_fieldAddr ti55 rfl ti3 rfl rfl) (by decide) ?_
            refine QL_yg rfl (by decide) (congrArg Value.bool hov) (y_loadS (v := .int .i64 st.level) ti3 rfl rfl (Cells.unit hs rfl)) (by decide) ?_
            refine QL_yg rfl (by decide) (congrArg Value.bool hov) (y_fieldAddr ti48 rfl ti3 rfl rfl) (by decide) ?_
            refine QL_yg rfl (by decide) (congrArg Value.bool hov) (y_loadS (v := .int .i64 e.level) ti3 rfl rfl (Cells.unit (H.getOwn 0 rfl) rfl)) (by decide) ?_
            refine QL_yg rfl (by decide) (congrArg Value.bool hov) (y_neq rfl rfl) (by decide) ?_
            refine QL_y (y_pick (b := false) (congrArg Value.bool hov) rfl) (by decide) ?_
            refine QL_nil ?_
            exact ⟨h10, h3, h4, hti, htn, rfl, hp7, by rw [show decide (e.kind = 1 ∨ st.over = true ∨ st.level ≠ e.level) = decide (st.level ≠ e.level) by rw [decide_eq_decide]; simp [hk1', hov]]; rfl, rfl, H⟩
      rintro f ds w3 ⟨h10, h3, h4, h12, h11, h6, h7, h51, rfl, H⟩
      refine W_cond h51 (fun hc => ?_) (fun hc => ?_)
      · have hc := of_decide_eq_true hc
        refine W_seq ?_
        refine W_region ?_
        refine OL_y (y_assign rfl) (by decide) ?_
        refine OL_nil ?_
        refine W_ret ?_
        show RetOK _ _ _ _ _ _
        exact ret1 (v := .bool false) Try.results9 rfl ⟨by rw [hsp (by rw [hst, if_pos hc])], H.ext_of 3 rfl⟩
      have hc := of_decide_eq_false hc
      rw [if_neg hc] at hst
      refine W_skip ?_
      refine W_seq (W_cut (fun f ds w' => f 10 = .slice a0 xs.length c0 ∧ f 3 = .map (some bm) ∧ f 4 = .map (some bt) ∧ f 12 = .int .i64 k ∧ f 11 = .int .i64 xs.length ∧ f 6 = .pointer (some ⟨be, 0, none⟩) ∧ f 7 = .pointer (some ⟨bj, 0, none⟩) ∧ ds = [] ∧
        Holds w' (own be (.cells #[.int .i64 e.kind, .int .u64 e.txn, .int .i64 e.level, .int .u64 e.ts, vl, vh, vs, vk] 48) :: mp (Value.int .u64) bt (tmM T) :: mp (Value.int .u64) bm (stM S) :: shr (fun k => k < w.heap.size) w :: stO (S.set j (e.txn, bj, { st with over := decide (e.kind = 3 ∨ e.kind = 4) })))) ?_ ?_)
      · refine W_region ?_
        have hend : ∀ w', Holds w' ((own be (.cells #[.int .i64 e.kind, .int .u64 e.txn, .int .i64 e.level, .int .u64 e.ts, vl, vh, vs, vk] 48) :: mp (Value.int .u64) bt (tmM T) :: mp (Value.int .u64) bm (stM S) :: shr (fun k => k < w.heap.size) w :: stO S).set (j + 4) (own bj (stC { st with over := decide (e.kind = 3 ∨ e.kind = 4) }))) →
            Holds w' (own be (.cells #[.int .i64 e.kind, .int .u64 e.txn, .int .i64 e.level, .int .u64 e.ts, vl, vh, vs, vk] 48) :: mp (Value.int .u64) bt (tmM T) :: mp (Value.int .u64) bm (stM S) :: shr (fun k => k < w.heap.size) w :: stO (S.set j (e.txn, bj, { st with over := decide (e.kind = 3 ∨ e.kind = 4) }))) := fun w' h => by
          have : stO (S.set j (e.txn, bj, { st with over := decide (e.kind = 3 ∨ e.kind = 4) })) = (stO S).set j (own bj (stC { st with over := decide (e.kind = 3 ∨ e.kind = 4) })) := by unfold stO; rw [List.map_set]
          rw [this]; exact h
        refine OL_y (y_move h7) (by decide) ?_
        refine OL_y (y_fieldAddr ti48 rfl ti3 rfl h6) (by decide) ?_
        refine OL_y (y_loadS (v := .int .i64 e.kind) ti3 rfl rfl (Cells.unit (H.getOwn 0 rfl) rfl)) (by decide) ?_
        refine OL_y (y_eql rfl rfl) (by decide) ?_
        refine OL_y (y_move rfl) (by decide) ?_
        by_cases hk3 : e.kind = 3
        · have hk3' : decide (e.kind = 3) = true := decide_eq_true hk3
          refine OL_s rfl (by decide) (congrArg Value.bool hk3') rfl (by simp) ?_
          refine OL_s rfl (by decide) (congrArg Value.bool hk3') rfl (by simp) ?_
          refine OL_s rfl (by decide) (congrArg Value.bool hk3') rfl (by simp) ?_
          refine OL_y (y_pick (b := true) (v := .bool true) (congrArg Value.bool hk3') rfl) (by decide) ?_
          refine OL_y (y_nilCheck rfl ⟨_, rfl⟩) (by decide) ?_
          refine OL_y (y_fieldAddr ti55 rfl ti4 rfl rfl) (by decide) ?_
          refine OL_c (op_store (v := .bool true) H (j + 4) (show (stO S)[j]? = _ from hO) ti4 rfl rfl rfl (by simp) (by simp [Value.cells, Value.oneCell']) fun w4 H => ?_)
          refine OL_nil ?_
          refine ⟨h10, h3, h4, h12, h11, h6, h7, rfl, hend _ ?_⟩
          rw [decide_eq_true (show e.kind = 3 ∨ e.kind = 4 from .inl hk3)]
          exact H
        · have hk3' : decide (e.kind = 3) = false := decide_eq_false hk3
          refine OL_yg rfl (by decide) (congrArg Value.bool hk3') (y_fieldAddr ti48 rfl ti3 rfl h6) (by decide) ?_
          refine OL_yg rfl (by decide) (congrArg Value.bool hk3') (y_loadS (v := .int .i64 e.kind) ti3 rfl rfl (Cells.unit (H.getOwn 0 rfl) rfl)) (by decide) ?_
          refine OL_yg rfl (by decide) (congrArg Value.bool hk3') (y_eql rfl rfl) (by decide) ?_
          refine OL_y (y_pick (b := false) (v := .bool (decide (e.kind = 4))) (congrArg Value.bool hk3') rfl) (by decide) ?_
          refine OL_y (y_nilCheck rfl ⟨_, rfl⟩) (by decide) ?_
          refine OL_y (y_fieldAddr ti55 rfl ti4 rfl rfl) (by decide) ?_
          refine OL_c (op_store (v := .bool (decide (e.kind = 4))) H (j + 4) (show (stO S)[j]? = _ from hO) ti4 rfl rfl rfl (by simp) (by simp [Value.cells, Value.oneCell']) fun w4 H => ?_)
          refine OL_nil ?_
          refine ⟨h10, h3, h4, h12, h11, h6, h7, rfl, hend _ ?_⟩
          rw [show decide (e.kind = 3 ∨ e.kind = 4) = decide (e.kind = 4) by rw [decide_eq_decide]; exact ⟨fun h => h.resolve_left hk3, .inr⟩]
          exact H
      rintro f ds w4 ⟨h10, h3, h4, h12, h11, h6, h7, rfl, H⟩
      generalize hst2 : ({ st with over := decide (e.kind = 3 ∨ e.kind = 4) } : St) = st2 at H hst
      have hkeys : stM (S.set j (e.txn, bj, st2)) = stM S := by
        unfold stM; rw [List.map_set]
        apply List.ext_getElem?
        intro i
        rw [List.getElem?_set]
        split
        · rename_i h; subst h; rw [List.getElem?_map, hj]; simp [hjl]
        · rfl
      have hO2 : (stO (S.set j (e.txn, bj, st2)))[j]? = some (own bj (stC st2)) := by unfold stO; rw [List.getElem?_map, List.getElem?_set]; simp [hjl]
      have hst3 : st2.start = st.start := by rw [← hst2]
      refine W_seq ?_
      refine W_seq ?_
      refine W_region ?_
      refine OL_y (y_fieldAddr ti48 rfl ti3 rfl h6) (by decide) ?_
      refine OL_y (y_loadS (v := .int .i64 e.kind) ti3 rfl rfl (Cells.unit (H.getOwn 0 rfl) rfl)) (by decide) ?_
      refine OL_y (y_neq rfl rfl) (by decide) ?_
      refine OL_nil ?_
      refine W_cond rfl (fun hc3 => ?_) (fun hc3 => ?_)
      · have hc3 := of_decide_eq_true hc3
        refine W_exit ?_
        rw [if_pos hc3] at hst
        exact ⟨h12, h11, S.set j (e.txn, bj, st2), T, h10, h3, h4, rfl, by rw [hnx, hst], by rw [hkeys]; exact H.tail⟩
      have hc3 := of_decide_eq_false hc3
      rw [if_neg hc3] at hst
      refine W_skip ?_
      refine W_seq ?_
      refine W_seq (W_cut (fun f ds w' => f 10 = .slice a0 xs.length c0 ∧ f 3 = .map (some bm) ∧ f 4 = .map (some bt) ∧ f 12 = .int .i64 k ∧ f 11 = .int .i64 xs.length ∧ f 6 = .pointer (some ⟨be, 0, none⟩) ∧ f 78 = .bool (decide (e.ts ∈ T ∨ e.ts ≤ st.start)) ∧ ds = [] ∧
        Holds w' (own be (.cells #[.int .i64 e.kind, .int .u64 e.txn, .int .i64 e.level, .int .u64 e.ts, vl, vh, vs, vk] 48) :: mp (Value.int .u64) bt (tmM T) :: mp (Value.int .u64) bm (stM S) :: shr (fun k => k < w.heap.size) w :: stO (S.set j (e.txn, bj, st2)))) ?_ ?_)
      · refine W_drawQ H mixed (by kernel_rfl) (by kernel_rfl) fun w5 H => ?_
        have hs := H.getOwn (j + 4) (show (stO (S.set j (e.txn, bj, st2)))[j]? = _ from hO2)
        refine QL_y (y_move h4) (by decide) ?_
        refine QL_y (y_fieldAddr ti48 rfl ti26 rfl h6) (by decide) ?_
        refine QL_y (y_loadS (v := .int .u64 e.ts) ti26 rfl rfl (Cells.unit (H.getOwn 0 rfl) rfl)) (by decide) ?_
        refine QL_y (y_lookup H 1 rfl ti52 ti4 ku26 rfl rfl) (by decide) ?_
        rw [tmM_get]
        refine QL_y (y_move rfl) (by decide) ?_
        by_cases ht : e.ts ∈ T
        · have ht' : decide (e.ts ∈ T) = true := decide_eq_true ht
          refine QL_s rfl (by decide) (congrArg Value.bool ht') rfl (by simp) ?_
          refine QL_s rfl (by decide) (congrArg Value.bool ht') rfl (by simp) ?_
          refine QL_s rfl (by decide) (congrArg Value.bool ht') rfl (by simp) ?_
          refine QL_s rfl (by decide) (congrArg Value.bool ht') rfl (by simp) ?_
          refine QL_s rfl (by decide) (congrArg Value.bool ht') rfl (by simp) ?_
          refine QL_s rfl (by decide) (congrArg Value.bool ht') rfl (by simp) ?_
          refine QL_s rfl (by decide) (congrArg Value.bool ht') rfl (by simp) ?_
          refine QL_y (y_pick (b := true) (v := .bool true) (congrArg Value.bool ht') rfl) (by decide) ?_
          refine QL_nil ?_
          exact ⟨h10, h3, h4, h12, h11, h6, by rw [decide_eq_true (show e.ts ∈ T ∨ e.ts ≤ st.start from .inl ht)]; rfl, rfl, H⟩
        · have ht' : decide (e.ts ∈ T) = false := decide_eq_false ht
          refine QL_yg rfl (by decide) (congrArg Value.bool ht') (y_fieldAddr ti48 rfl ti26 rfl h6) (by decide) ?_
          refine QL_yg rfl (by decide) (congrArg Value.bool ht') (y_loadS (v := .int .u64 e.ts) ti26 rfl rfl (Cells.unit (H.getOwn 0 rfl) rfl)) (by decide) ?_
          refine QL_yg rfl (by decide) (congrArg Value.bool ht') (y_move h7) (by decide) ?_
          refine QL_yg rfl (by decide) (congrArg Value.bool ht') (y_nilCheck rfl ⟨_, rfl⟩) (by decide) ?_
          refine QL_yg rfl (by decide) (congrArg Value.bool ht') (y_fieldAddr ti55 rfl ti26 rfl rfl) (by decide) ?_
          refine QL_yg rfl (by decide) (congrArg Value.bool ht') (y_loadS (v := .int .u64 st2.start) ti26 rfl rfl (Cells.unit hs rfl)) (by decide) ?_
          refine QL_yg rfl (by decide) (congrArg Value.bool ht') (y_leq rfl rfl) (by decide) ?_
          refine QL_y (y_pick (b := false) (congrArg Value.bool ht') rfl) (by decide) ?_
          refine QL_nil ?_
          exact ⟨h10, h3, h4, h12, h11, h6, by rw [show decide (e.ts ∈ T ∨ e.ts ≤ st.start) = decide (e.ts ≤ st2.start) by rw [decide_eq_decide, hst3]; exact ⟨fun h => h.resolve_left ht, .inr⟩]; rfl, rfl, H⟩
      rintro f ds w5 ⟨h10, h3, h4, h12, h11, h6, h78, rfl, H⟩
      refine W_cond h78 (fun hc4 => ?_) (fun hc4 => ?_)
      · have hc4 := of_decide_eq_true hc4
        refine W_seq ?_
        refine W_region ?_
        refine OL_y (y_assign rfl) (by decide) ?_
        refine OL_nil ?_
        refine W_ret ?_
        show RetOK _ _ _ _ _ _
        exact ret1 (v := .bool false) Try.results9 rfl ⟨by rw [hsp (by rw [hst, if_pos hc4])], H.ext_of 3 rfl⟩
      have hc4 := of_decide_eq_false hc4
      rw [if_neg hc4] at hst
      refine W_skip ?_
      refine W_region ?_
      refine OL_y (y_move h4) (by decide) ?_
      refine OL_y (y_fieldAddr ti48 rfl ti26 rfl h6) (by decide) ?_
      refine OL_y (y_loadS (v := .int .u64 e.ts) ti26 rfl rfl (Cells.unit (H.getOwn 0 rfl) rfl)) (by decide) ?_
      refine OL_c (op_mapUpdate (k := e.ts) (v := .bool true) H 1 rfl ti52 ku26 rfl rfl rfl fun w6 H => ?_)
      refine OL_nil ?_
      have H : Holds w6 (own be _ :: mp (Value.int .u64) bt (mset (tmM T) e.ts (.bool true)) :: mp (Value.int .u64) bm (stM S) :: shr (fun k => k < w.heap.size) w :: stO (S.set j (e.txn, bj, st2))) := H
      rw [mset_new (by rw [tmM_keys]; exact fun h => hc4 (.inl h)), ← hkeys] at H
      refine ⟨h12, h11, S.set j (e.txn, bj, st2), T ++ [e.ts], h10, h3, h4, rfl, by rw [hnx, hst], ?_⟩
      have H := H.tail
      simpa only [tmM, List.map_append, List.map_cons, List.map_nil] using H
  · rintro f ds w1 ⟨S, T, h10, h3, h4, rfl, hF, H⟩ hti htn
    rw [List.take_length] at hF
    refine W_seq ?_
    refine W_region ?_
    refine OL_y (y_assign rfl) (by decide) ?_
    refine OL_nil ?_
    refine W_ret ?_
    show RetOK _ _ _ _ _ _
    exact ret1 (v := .bool true) Try.results9 rfl ⟨by unfold formed; rw [hF]; rfl, H.ext_of 2 rfl⟩
end Go.Proofs.Ytelgegodeifbiaa
