/- Runs: what a history tells of each transaction. -/
import Derived.Test.YtelgegodeifbiaaC
import Derived.Test.YtelgegodeifbiaaB
namespace Go.Proofs.Ytelgegodeifbiaa
open Go Go.Wk Pl
set_option linter.unusedVariables false

abbrev nilV : Value := .slice none 0 0
abbrev RR0 (r : Rn) : RR := ⟨r, nilV, nilV, nilV, [], []⟩
abbrev atM (s : List Rn) : List (Int × Value) := s.zipIdx.map fun x => (x.1.txn, .int .i64 x.2)
theorem atM_keys (s : List Rn) : (atM s).map (·.1) = s.map (·.txn) := by
  unfold atM
  rw [List.map_map]
  have : ∀ (n : Nat), (s.zipIdx n).map ((·.1) ∘ fun x : Rn × Nat => (x.1.txn, Value.int .i64 x.2)) = s.map (·.txn) := by
    induction s with
    | nil => intro n; rfl
    | cons r s ih => intro n; rw [List.zipIdx_cons, List.map_cons, ih]; rfl
  exact this 0
theorem atM_snoc (s : List Rn) (r : Rn) : atM (s ++ [r]) = atM s ++ [(r.txn, .int .i64 s.length)] := by
  unfold atM; rw [List.zipIdx_append, List.map_append]; simp
theorem atM_get (s : List Rn) (k : Int) : mget (atM s) k = (s.findIdx? fun r => decide (r.txn = k)).map fun i => .int .i64 i := by
  unfold mget atM
  have : ∀ (n : Nat), (((s.zipIdx n).map fun x : Rn × Nat => (x.1.txn, Value.int .i64 x.2)).find? fun x => decide (x.1 = k)).map (·.2) = (s.findIdx? fun r => decide (r.txn = k)).map fun i => .int .i64 ((i + n : Nat) : Int) := by
    induction s with
    | nil => intro n; rfl
    | cons r s ih =>
      intro n
      rw [List.zipIdx_cons, List.map_cons, List.find?_cons, List.findIdx?_cons]
      by_cases h : r.txn = k
      · simp [h]
      · simp only [h, decide_false, Bool.false_eq_true, if_false]
        rw [ih (n + 1), Option.map_map]
        congr 1; funext i; simp only [Function.comp]; congr 2; omega
  simpa using this 0
theorem idx_none {s : List Rn} {k : Int} : (s.findIdx? fun r => decide (r.txn = k)) = none ↔ k ∉ s.map (·.txn) := by
  rw [List.findIdx?_eq_none_iff]; simp
theorem idx_some {s : List Rn} {k : Int} {i : Nat} (h : (s.findIdx? fun r => decide (r.txn = k)) = some i) : ∃ r, s[i]? = some r ∧ r.txn = k := by
  obtain ⟨hl, he, _⟩ := List.findIdx?_eq_some_iff_getElem.1 h
  exact ⟨s[i], List.getElem?_eq_getElem hl, of_decide_eq_true he⟩

def wfR (r : Rn) : Prop := InK .u64 r.txn ∧ InK .i64 r.level ∧ InK .i64 r.state ∧ InK .u64 r.start ∧ InK .u64 r.ts
abbrev rowS (x : RR) : Atom := row 50 4 x.vs x.r.seen.length x.cs
abbrev rowP (x : RR) : Atom := row 46 2 x.vp x.r.spans.length x.cp
structure GoodR (Z : Nat → Prop) (w : World) (k : Nat) (x : RR) : Prop where
  wf : wfR x.r
  keys : SlR tKey 24 Z w x.vk x.r.keys
  seen : Els tSn Z w x.cs x.r.seen
  spans : Els tSp Z w x.cp x.r.spans
  ns : x.r.seen.length ≤ 8 * k
  np : x.r.spans.length ≤ k

theorem GoodR.mono {Z : Nat → Prop} {w : World} {k : Nat} {x : RR} (h : GoodR Z w k x) : GoodR Z w (k + 1) x := ⟨h.wf, h.keys, h.seen, h.spans, by have := h.ns; omega, by have := h.np; omega⟩

set_option maxHeartbeats 4000000 in
theorem f10_calls {Z : Nat → Prop} {w : World} {a : Value} {xs : List Ev} (hx : SlR tEv 128 Z w a xs) (h30 : xs.length ≤ 30) (h8 : ∀ e ∈ xs, e.seen.length ≤ 8) :
    Calls Try.prog 10 [a].toArray w fun e w' => ∃ v, e = .returned v ∧ SlR tRn 112 (fun k => Z k ∨ w.heap.size ≤ k) w' v (runs xs) ∧ Ext none' w w' := by
  have H := Holds.start w
  obtain ⟨a0, c0, rfl, hl0, hm0⟩ := hx.len
  refine calls_of_W' Try.func10 rfl Try.ntmps10 rfl ?_
  refine W_seq ?_
  refine W_region ?_
  refine OL_y (y_assign rfl) (by decide) ?_
  refine OL_nil ?_
  refine W_seq ?_
  refine W_region ?_
  refine OL_c (op_makeMap (Value.int .u64) H (by decide) fun bm w1 H => ?_)
  refine OL_y (y_assign rfl) (by decide) ?_
  refine OL_nil ?_
  refine W_seq ?_
  refine W_region ?_
  refine OL_y (y_assign rfl) (by decide) ?_
  refine OL_nil ?_
  refine W_seq ?_
  refine W_seq ?_
  refine W_region ?_
  refine OL_y (y_move rfl) (by decide) ?_
  refine OL_y (y_len rfl ti22 rfl) (by decide) ?_
  refine OL_y (y_move rfl) (by decide) ?_
  refine OL_nil ?_
  have H := H.rowNil 33 8
  refine W_range (N := xs.length) (by omega) (fun k f ds w' => ∃ s v, s = (xs.take k).foldl pass1 [] ∧ f 0 = .slice a0 xs.length c0 ∧ f 15 = .slice a0 xs.length c0 ∧ f 3 = .map (some bm) ∧ f 4 = v ∧ ds = [] ∧ s.length ≤ k ∧ (∀ r ∈ s, wfR r) ∧
      Holds w' [row 33 8 v s.length ((s.map RR0).flatMap RR.cells), mp (Value.int .u64) bm (atM s), shr (fun k => k < w.heap.size) w])
    ⟨[], nilV, rfl, rfl, rfl, rfl, rfl, rfl, by simp, by simp, H⟩ rfl rfl (by decide) (by decide) (by decide) rfl rfl ?_ rfl rfl ?_
  · rintro k f ds w1 hk ⟨s, v, hs, h0, h15, h3, h4, rfl, hsl, hwf, H⟩ hti htn
    have hxk := List.getElem?_eq_getElem hk
    obtain ⟨b1, o1, cs1, e1, hz1, hc1, hr1⟩ := hx.at hxk
    obtain ⟨vl, vh, vs, vk, rfl, he1, he2, he3, he4, -⟩ := ev_cells.1 hr1
    have hone := tEv.one hr1
    generalize xs[k] = e at hxk hr1 hc1 he1 he2 he3 he4 hone
    have hnx : (xs.take (k + 1)).foldl pass1 [] = pass1 s e := by rw [List.take_add_one, hxk, hs]; simp
    refine W_block ?_
    refine W_seq ?_
    refine W_region ?_
    refine OL_y (y_indexAddr ti22 ti48 (e1 ▸ h15) hti (by omega) (by omega)) (by decide) ?_
    refine OL_y (y_loadA ti48 rfl rfl (hc1.ext ((H.keepsAll 2 rfl Z).2 _ hz1 hc1.lt)) rfl) (by decide) ?_
    refine OL_var H ti48 rfl (by decide) (fun _ => rfl) rfl hone fun be w2 H => ?_
    refine OL_nil ?_
    refine W_seq ?_
    refine W_region ?_
    refine OL_y (y_move h3) (by decide) ?_
    refine OL_y (y_fieldAddr ti48 rfl ti26 rfl rfl) (by decide) ?_
    refine OL_y (y_loadS (v := .int .u64 e.txn) ti26 rfl rfl (Cells.unit (H.getOwn 0 rfl) rfl)) (by decide) ?_
    refine OL_y (y_lookupOk H 2 rfl ti56 ti3 ku26 rfl rfl) (by decide) ?_
    refine OL_y (y_move rfl) (by decide) ?_
    refine OL_y (y_extract rfl rfl) (by decide) ?_
    refine OL_y (y_extract rfl rfl) (by decide) ?_
    refine OL_y (y_assign rfl) (by decide) ?_
    refine OL_y (v := .bool (decide (e.txn ∈ s.map (·.txn)))) (y_assign (by
      show Value.bool (mget (atM s) e.txn).isSome = _
      rw [atM_get]
      cases hf : s.findIdx? fun r => decide (r.txn = e.txn) with
      | none => rw [decide_eq_false (idx_none.1 hf)]; rfl
      | some i => obtain ⟨r, h1, h2⟩ := idx_some hf; rw [decide_eq_true (List.mem_map.2 ⟨r, List.mem_of_getElem? h1, h2⟩)]; rfl)) (by decide) ?_
    refine OL_nil ?_
    refine W_seq (W_cut (fun f ds w' => f 0 = .slice a0 xs.length c0 ∧ f 15 = .slice a0 xs.length c0 ∧ f 17 = .int .i64 k ∧ f 16 = .int .i64 xs.length ∧ f 3 = .map (some bm) ∧ f 4 = v ∧ f 6 = .pointer (some ⟨be, 0, none⟩) ∧ f 34 = .bool (decide (e.kind = 1 ∧ e.txn ∉ s.map (·.txn))) ∧ ds = [] ∧
      Holds w' [own be (.cells #[.int .i64 e.kind, .int .u64 e.txn, .int .i64 e.level, .int .u64 e.ts, vl, vh, vs, vk] 48), row 33 8 v s.length ((s.map RR0).flatMap RR.cells), mp (Value.int .u64) bm (atM s), shr (fun k => k < w.heap.size) w]) ?_ ?_)
    · refine W_region ?_
      refine OL_y (y_fieldAddr ti48 rfl ti3 rfl rfl) (by decide) ?_
      refine OL_y (y_loadS (v := .int .i64 e.kind) ti3 rfl rfl (Cells.unit (H.getOwn 0 rfl) rfl)) (by decide) ?_
      refine OL_y (y_eql rfl rfl) (by decide) ?_
      refine OL_y (y_move rfl) (by decide) ?_
      by_cases hk1 : e.kind = 1
      · have hb := decide_eq_true hk1
        refine OL_yg rfl (by decide) (congrArg Value.bool hb) (y_move rfl) (by decide) ?_
        refine OL_yg rfl (by decide) (congrArg Value.bool hb) (y_not rfl) (by decide) ?_
        refine OL_y (y_pick (b := true) (congrArg Value.bool hb) rfl) (by decide) ?_
        refine OL_nil ?_
        refine ⟨h0, h15, hti, htn, h3, h4, rfl, ?_, rfl, H⟩
        rw [show decide (e.kind = 1 ∧ e.txn ∉ s.map (·.txn)) = !decide (e.txn ∈ s.map (·.txn)) by rw [← decide_not, decide_eq_decide]; exact ⟨fun h => h.2, fun h => ⟨hk1, h⟩⟩]
        rfl
      · have hb := decide_eq_false hk1
        refine OL_s rfl (by decide) (congrArg Value.bool hb) rfl (by simp) ?_
        refine OL_s rfl (by decide) (congrArg Value.bool hb) rfl (by simp) ?_
        refine OL_y (y_pick (b := false) (v := .bool false) (congrArg Value.bool hb) rfl) (by decide) ?_
        refine OL_nil ?_
        exact ⟨h0, h15, hti, htn, h3, h4, rfl, by rw [decide_eq_false (show ¬ (e.kind = 1 ∧ e.txn ∉ s.map (·.txn)) from fun h => hk1 h.1)]; rfl, rfl, H⟩
    rintro f ds w3 ⟨h0, h15, h17, h16, h3, h4, h6, h34, rfl, H⟩
    obtain ⟨av, cv, hv, hcv, _⟩ := ownsRow_slice (H.getRow 1 rfl)
    refine W_cond h34 (fun hc => ?_) (fun hc => ?_)
    · have hc := of_decide_eq_true hc
      refine W_seq ?_
      refine W_region ?_
      refine OL_y (y_move h3) (by decide) ?_
      refine OL_y (y_fieldAddr ti48 rfl ti26 rfl h6) (by decide) ?_
      refine OL_y (y_loadS (v := .int .u64 e.txn) ti26 rfl rfl (Cells.unit (H.getOwn 0 rfl) rfl)) (by decide) ?_
      refine OL_y (y_move (h4.trans hv)) (by decide) ?_
      refine OL_y (y_len rfl ti27 rfl) (by decide) ?_
      refine OL_c (op_mapUpdate (k := e.txn) (v := .int .i64 s.length) H 2 rfl ti56 ku26 rfl rfl rfl fun w4 H => ?_)
      refine OL_nil ?_
      refine W_region ?_
      refine OL_y (y_move h4) (by decide) ?_
      refine OL_y (y_fieldAddr ti48 rfl ti26 rfl h6) (by decide) ?_
      refine OL_y (y_loadS (v := .int .u64 e.txn) ti26 rfl rfl (Cells.unit (H.getOwn 0 rfl) rfl)) (by decide) ?_
      refine OL_y (y_fieldAddr ti48 rfl ti3 rfl h6) (by decide) ?_
      refine OL_y (y_loadS (v := .int .i64 e.level) ti3 rfl rfl (Cells.unit (H.getOwn 0 rfl) rfl)) (by decide) ?_
      refine OL_y (y_fieldAddr ti48 rfl ti26 rfl h6) (by decide) ?_
      refine OL_y (y_loadS (v := .int .u64 e.ts) ti26 rfl rfl (Cells.unit (H.getOwn 0 rfl) rfl)) (by decide) ?_
      refine OL_y (y_build (cells := (RR0 (beginR e)).cells.toArray) ti33 pl33 rfl) (by decide) ?_
      refine OL_c (op_buildSlice H [.agg (RR0 (beginR e)).cells.toArray] ti27 ti33 rfl rfl rfl (by simp [Value.cells]) rfl rfl (by decide) fun b w5 H => ?_)
      refine OL_c (op_append H 2 rfl rfl ti27 ti33 rfl rfl rfl rfl (Src.row (H.getRow 0 rfl)) rfl (by simp [Value.cells, Value.oneCell', RR.cells]) (by omega) (by simp [maxLen]; omega) (by decide) fun v' w6 H => ?_)
      refine OL_y (y_assign rfl) (by decide) ?_
      refine OL_nil ?_
      have hp1 : pass1 s e = s ++ [beginR e] := if_pos hc
      have hset : mset (atM s) e.txn (.int .i64 s.length) = atM (s ++ [beginR e]) := by
        rw [mset_new (by rw [atM_keys]; exact hc.2), atM_snoc]; rfl
      have H : Holds w6 [row 33 8 (.slice (some ⟨b, 0, none⟩) 1 1) 1 _, own be _, row 33 8 v' (s.length + 1) ((s.map RR0).flatMap RR.cells ++ (RR0 (beginR e)).cells), mp (Value.int .u64) bm (mset (atM s) e.txn (.int .i64 s.length)), shr (fun k => k < w.heap.size) w] := H
      rw [hset] at H
      refine ⟨h17, h16, s ++ [beginR e], v', by rw [hnx, hp1], h0, h15, h3, rfl, rfl, by simp; omega, ?_, ?_⟩
      · intro r hr
        rcases List.mem_append.1 hr with hr | hr
        · exact hwf r hr
        · simp at hr; subst hr; exact ⟨he2, he3, rfl, he4, rfl⟩
      · have hl : (s ++ [beginR e]).length = s.length + 1 := by simp
        have hm : ((s ++ [beginR e]).map RR0).flatMap RR.cells = (s.map RR0).flatMap RR.cells ++ (RR0 (beginR e)).cells := by simp
        rw [hl, hm]
        exact H.tail.tail
    · have hc := of_decide_eq_false hc
      refine W_skip ?_
      have hp1 : pass1 s e = s := if_neg hc
      exact ⟨h17, h16, s, v, by rw [hnx, hp1], h0, h15, h3, h4, rfl, by omega, hwf, H.tail⟩
  rintro f ds w1 ⟨s, v, hs, h0, h15, h3, h4, rfl, hsl, hwf, H⟩ hti htn
  clear hti htn h15
  rw [List.take_length] at hs
  have hnd : (s.map (·.txn)).Nodup := by
    obtain ⟨_, _, _, _, h, _⟩ := H.map 1 rfl
    rwa [atM_keys] at h
  have hnew : ∀ r ∈ s, r.state = 0 ∧ r.ts = 0 ∧ r.keys = [] ∧ r.seen = [] ∧ r.spans = [] := by
    rw [hs]
    have : ∀ (l : List Ev) (s : List Rn), (∀ r ∈ s, r.state = 0 ∧ r.ts = 0 ∧ r.keys = [] ∧ r.seen = [] ∧ r.spans = []) → ∀ r ∈ l.foldl pass1 s, r.state = 0 ∧ r.ts = 0 ∧ r.keys = [] ∧ r.seen = [] ∧ r.spans = [] := by
      intro l
      induction l with
      | nil => intro s h; exact h
      | cons e l ih => intro s h; exact ih _ (pass1_new h e)
    exact this xs [] (by simp)
  have hruns : ∀ l, (xs.foldl pass2 s) = l → runs xs = l := fun l h => by rw [← h, hs]; rfl
  have hrS : (s.map RR0).map rowS = List.replicate s.length (row 50 4 nilV 0 []) := by
    rw [List.map_map, List.eq_replicate_iff]
    refine ⟨by simp, fun a ha => ?_⟩
    obtain ⟨r, hr, rfl⟩ := List.mem_map.1 ha
    simp only [Function.comp, rowS, (hnew r hr).2.2.2.1, List.length_nil]
  have hrP : (s.map RR0).map rowP = List.replicate s.length (row 46 2 nilV 0 []) := by
    rw [List.map_map, List.eq_replicate_iff]
    refine ⟨by simp, fun a ha => ?_⟩
    obtain ⟨r, hr, rfl⟩ := List.mem_map.1 ha
    simp only [Function.comp, rowP, (hnew r hr).2.2.2.2, List.length_nil]
  have H : Holds w1 (row 33 8 v s.length ((s.map RR0).flatMap RR.cells) :: mp (Value.int .u64) bm (atM s) :: shr (fun k => k < w.heap.size) w :: ((s.map RR0).map rowS ++ (s.map RR0).map rowP)) := by
    rw [hrS, hrP]
    have h1 := (H.addNils 46 2 s.length).addNils 50 4 s.length
    rw [← List.append_assoc] at h1
    exact h1.perm (List.perm_append_comm)
  obtain ⟨av, cv, hv, hcv, _⟩ := ownsRow_slice (H.getRow 0 rfl)
  refine W_seq ?_
  refine W_seq ?_
  refine W_region ?_
  refine OL_y (y_move h0) (by decide) ?_
  refine OL_y (y_len rfl ti22 rfl) (by decide) ?_
  refine OL_y (y_move rfl) (by decide) ?_
  refine OL_nil ?_
  refine W_range (N := xs.length) (by omega) (fun k f ds w' => ∃ rs : List RR, rs.map (·.r) = (xs.take k).foldl pass2 s ∧ rs.length = s.length ∧ f 51 = .slice a0 xs.length c0 ∧ f 3 = .map (some bm) ∧ f 4 = v ∧ ds = [] ∧ (∀ x ∈ rs, GoodR Z w k x) ∧
      Holds w' (row 33 8 v s.length (rs.flatMap RR.cells) :: mp (Value.int .u64) bm (atM s) :: shr (fun k => k < w.heap.size) w :: (rs.map rowS ++ rs.map rowP)))
    ⟨s.map RR0, by simp [Function.comp_def], by simp, rfl, h3, h4, rfl, ?_, H⟩ rfl rfl (by decide) (by decide) (by decide) rfl rfl ?_ rfl rfl ?_
  · intro x hx
    obtain ⟨r, hr, rfl⟩ := List.mem_map.1 hx
    obtain ⟨-, -, h3, h4, h5⟩ := hnew r hr
    exact ⟨hwf r hr, by show SlR _ _ _ _ _ r.keys; rw [h3]; exact SlR.nil _ _ _ _, by show Els _ _ _ _ r.seen; rw [h4]; exact Els.nil _ _ _, by show Els _ _ _ _ r.spans; rw [h5]; exact Els.nil _ _ _, by show r.seen.length ≤ _; rw [h4]; simp, by show r.spans.length ≤ _; rw [h5]; simp⟩
  · rintro k f ds w2 hk ⟨rs, hrs, hrl, h51, h3, h4, rfl, hG, H⟩ hti htn
    have hxk := List.getElem?_eq_getElem hk
    have hmem := List.getElem_mem hk
    obtain ⟨b1, o1, cs1, e1, hz1, hc1, hr1⟩ := hx.at hxk
    obtain ⟨vl, vh, vs, vk, rfl, he1, he2, he3, he4, hlo, hhi, hse, hks⟩ := ev_cells.1 hr1
    have hone := tEv.one hr1
    have h8e := h8 _ hmem
    generalize xs[k] = e at hxk hr1 hc1 he1 he2 he3 he4 hone hlo hhi hse hks h8e
    clear hmem
    have hnx : (xs.take (k + 1)).foldl pass2 s = pass2 (rs.map (·.r)) e := by rw [List.take_add_one, hxk, hrs]; simp
    have htx : (rs.map (·.r)).map (·.txn) = s.map (·.txn) := by
      rw [hrs]
      have : ∀ (l : List Ev) (s : List Rn), (l.foldl pass2 s).map (·.txn) = s.map (·.txn) := by
        intro l
        induction l with
        | nil => intro s; rfl
        | cons e l ih => intro s; exact (ih _).trans (pass2_txn s e)
      exact this _ _
    have hnd2 : ((rs.map (·.r)).map (·.txn)).Nodup := by rw [htx]; exact hnd
    refine W_block ?_
    refine W_seq ?_
    refine W_region ?_
    refine OL_y (y_indexAddr ti22 ti48 (e1 ▸ h51) hti (by omega) (by omega)) (by decide) ?_
    refine OL_y (y_loadA ti48 rfl rfl (hc1.ext ((H.keepsAll 2 rfl Z).2 _ hz1 hc1.lt)) rfl) (by decide) ?_
    refine OL_var H ti48 rfl (by decide) (fun _ => rfl) rfl hone fun be w3 H => ?_
    refine OL_nil ?_
    refine W_seq ?_
    refine W_region ?_
    refine OL_y (y_move h3) (by decide) ?_
    refine OL_y (y_fieldAddr ti48 rfl ti26 rfl rfl) (by decide) ?_
    refine OL_y (y_loadS (v := .int .u64 e.txn) ti26 rfl rfl (Cells.unit (H.getOwn 0 rfl) rfl)) (by decide) ?_
    refine OL_y (y_lookupOk H 2 rfl ti56 ti3 ku26 rfl rfl) (by decide) ?_
    rw [atM_get]
    cases hf : s.findIdx? fun r => decide (r.txn = e.txn) with
    | none =>
      have hni := idx_none.1 hf
      refine OL_y (y_move rfl) (by decide) ?_
      refine OL_y (y_extract rfl rfl) (by decide) ?_
      refine OL_y (y_extract rfl rfl) (by decide) ?_
      refine OL_y (y_assign rfl) (by decide) ?_
      refine OL_y (v := .bool false) (y_assign rfl) (by decide) ?_
      refine OL_nil ?_
      refine W_seq ?_
      refine W_seq ?_
      refine W_region ?_
      refine OL_y (y_move rfl) (by decide) ?_
      refine OL_y (y_not rfl) (by decide) ?_
      refine OL_nil ?_
      refine W_condt rfl ?_
      refine W_exit ?_
      exact ⟨hti, htn, rs, by rw [hnx, pass2_none (by rw [htx]; exact hni)], hrl, h51, h3, h4, rfl, fun x hx => (hG x hx).mono, H.tail⟩
    | some i =>
      obtain ⟨r0, hr0, hr0t⟩ := idx_some hf
      have hil : i < s.length := (List.getElem?_eq_some_iff.1 hr0).1
      obtain ⟨x, hxi⟩ : ∃ x, rs[i]? = some x := ⟨rs[i]'(by omega), List.getElem?_eq_getElem _⟩
      have hirs : i < rs.length := by omega
      have hxt : x.r.txn = e.txn := by
        have h1 : ((rs.map (·.r)).map (·.txn))[i]? = some x.r.txn := by rw [List.getElem?_map, List.getElem?_map, hxi]; rfl
        rw [htx, List.getElem?_map, hr0] at h1
        injection h1 with h1; rw [← h1]; exact hr0t
      have hgx := hG x (List.mem_of_getElem? hxi)
      have hnew2 : ∀ x', x'.r = updR e x.r → (xs.take (k + 1)).foldl pass2 s = (rs.set i x').map (·.r) := fun x' h => by
        rw [hnx, pass2_set hnd2 (by rw [List.getElem?_map, hxi]; rfl) hxt, List.map_set, h]
      have hGn : ∀ x', GoodR Z w (k + 1) x' → ∀ y ∈ rs.set i x', GoodR Z w (k + 1) y := fun x' h y hy => by
        rcases List.mem_or_eq_of_mem_set hy with hy | rfl
        · exact (hG y hy).mono
        · exact h
      obtain ⟨b, cv', hvb, _, _⟩ := ownsRow_cells (H.getRow 1 rfl) (by omega)
      have hown : v.ownBlock = some b := by rw [hvb]; rfl
      have hcl : (rs.flatMap RR.cells).length = rs.length * 8 := flat_len RR.len rs
      have hget : ∀ c u, c < 8 → x.cells[c]? = some u → (rs.flatMap RR.cells)[i * 8 + c]? = some u := fun c u hc hu => by
        rw [flat_get RR.len rs i c hc, hxi]; exact hu
      refine OL_y (y_move rfl) (by decide) ?_
      refine OL_y (y_extract rfl rfl) (by decide) ?_
      refine OL_y (y_extract rfl rfl) (by decide) ?_
      refine OL_y (v := .int .i64 i) (y_assign rfl) (by decide) ?_
      refine OL_y (v := .bool true) (y_assign rfl) (by decide) ?_
      refine OL_nil ?_
      refine W_seq ?_
      refine W_seq ?_
      refine W_region ?_
      refine OL_y (y_move rfl) (by decide) ?_
      refine OL_y (y_not rfl) (by decide) ?_
      refine OL_nil ?_
      refine W_condf rfl ?_
      refine W_skip ?_
      refine W_seq ?_
      refine W_region ?_
      refine OL_y (y_move (h4.trans hvb)) (by decide) ?_
      refine OL_y (y_move rfl) (by decide) ?_
      refine OL_y (y_indexAddr ti27 ti33 rfl rfl (by omega) (by omega)) (by decide) ?_
      refine OL_y (v := .pointer (some ⟨b, i * 8, none⟩)) (y_assign (by show Value.pointer (some ⟨b, 0 + (i : Int).toNat * 8, none⟩) = _; rw [Nat.zero_add]; rfl)) (by decide) ?_
      refine OL_nil ?_
      refine W_seq ?_
      refine W_region ?_
      refine OL_y (y_fieldAddr ti48 rfl ti3 rfl rfl) (by decide) ?_
      refine OL_y (y_loadS (v := .int .i64 e.kind) ti3 rfl rfl (Cells.unit (H.getOwn 0 rfl) rfl)) (by decide) ?_
      refine OL_nil ?_
      refine W_block ?_
      refine W_seq ?_
      refine W_region ?_
      refine OL_y (y_eql rfl rfl) (by decide) ?_
      refine OL_y (y_assign rfl) (by decide) ?_
      refine OL_nil ?_
      have H : Holds w3 (own be (.cells #[.int .i64 e.kind, .int .u64 e.txn, .int .i64 e.level, .int .u64 e.ts, vl, vh, vs, vk] 48) :: row 33 8 v s.length (rs.flatMap RR.cells) :: mp (Value.int .u64) bm (atM s) :: shr (fun k => k < w.heap.size) w :: (rs.map rowS ++ rs.map rowP)) := H
      refine W_cond rfl (fun hc => ?_) (fun hc => ?_)
      · have hk2 := of_decide_eq_true hc
        obtain ⟨news, hsrc, hels⟩ := hse.src
        have hnl : news.length = e.seen.length * 4 := hels.1
        have hS : (rs.map rowS ++ rs.map rowP)[i]? = some (rowS x) := by rw [List.getElem?_append_left (by simpa using hirs), List.getElem?_map, hxi]; rfl
        have hsetS : ∀ y : Atom, (rs.map rowS ++ rs.map rowP).set i y = (rs.map rowS).set i y ++ rs.map rowP := fun y => List.set_append_left _ _ (by simpa using hirs)
        have hns := hgx.ns
        have hnp := hgx.np
        have hspo : ∀ u ∈ [vl, vh], u.oneCell' = true := fun u hu => hone u (by simp at hu ⊢; rcases hu with rfl | rfl <;> simp)
        obtain ⟨avl, cvl, rfl, _, _⟩ := hlo.len
        obtain ⟨avh, cvh, rfl, _, _⟩ := hhi.len
        refine W_drawD H mixed (by kernel_rfl) [19, 22] (fun w0 w' => w'.heap[be]? = some (.cells #[.int .i64 e.kind, .int .u64 e.txn, .int .i64 e.level, .int .u64 e.ts, .slice avl e.span.lo.length cvl, .slice avh e.span.hi.length cvh, vs, vk] 48) ∧ Cells w' b (i * 8 + 6) [x.vs] ∧ Cells w' b (i * 8 + 7) [x.vp]) fun w4 H hE => ?_
        have hSw : ∀ {W : World} {Ls : List Atom}, Holds W Ls → ∀ p q, Ls[p]? = some (own be (.cells #[.int .i64 e.kind, .int .u64 e.txn, .int .i64 e.level, .int .u64 e.ts, .slice avl e.span.lo.length cvl, .slice avh e.span.hi.length cvh, vs, vk] 48)) → Ls[q]? = some (row 33 8 v s.length (rs.flatMap RR.cells)) →
            W.heap[be]? = some (.cells #[.int .i64 e.kind, .int .u64 e.txn, .int .i64 e.level, .int .u64 e.ts, .slice avl e.span.lo.length cvl, .slice avh e.span.hi.length cvh, vs, vk] 48) ∧ Cells W b (i * 8 + 6) [x.vs] ∧ Cells W b (i * 8 + 7) [x.vp] := fun H p q hp hq =>
          ⟨H.getOwn p hp, rowCell (H.getRow q hq) hown (hget 6 _ (by decide) rfl), rowCell (H.getRow q hq) hown (hget 7 _ (by decide) rfl)⟩
        have hSx : Sx [19, 22] (fun w' => w'.heap[be]? = some (.cells #[.int .i64 e.kind, .int .u64 e.txn, .int .i64 e.level, .int .u64 e.ts, .slice avl e.span.lo.length cvl, .slice avh e.span.hi.length cvh, vs, vk] 48) ∧ Cells w' b (i * 8 + 6) [x.vs] ∧ Cells w' b (i * 8 + 7) [x.vp]) (List.replicate 23 false).toArray w4 := fun _ => hSw H 0 1 rfl rfl
        refine DA_p 0 rfl (by kernel_rfl) rfl (fun _ => y_move rfl) hSx (by decide) fun hSx => ?_
        refine DA_p 1 rfl (by kernel_rfl) rfl (fun _ => y_move rfl) hSx (by decide) fun hSx => ?_
        refine DA_p 2 rfl (by kernel_rfl) rfl (fun _ => y_move rfl) hSx (by decide) fun hSx => ?_
        refine DA_p 3 rfl (by kernel_rfl) rfl (fun _ => y_nilCheck rfl ⟨_, rfl⟩) hSx (by decide) fun hSx => ?_
        refine DA_p 4 rfl (by kernel_rfl) rfl (fun _ => y_fieldAddr ti33 rfl ti30 rfl rfl) hSx (by decide) fun hSx => ?_
        refine DA_y (v := x.vs) 5 rfl (by kernel_rfl) rfl (by kernel_rfl) (fun w' h => y_loadS ti30 rfl rfl h.2.1) hSx (by decide) fun hSx => ?_
        refine DA_p 6 rfl (by kernel_rfl) rfl (fun _ => y_fieldAddr ti48 rfl ti30 rfl rfl) hSx (by decide) fun hSx => ?_
        refine DA_y (v := vs) 7 rfl (by kernel_rfl) rfl (by kernel_rfl) (fun w' h => y_loadS ti30 rfl rfl (Cells.unit h.1 rfl)) hSx (by decide) fun hSx => ?_
        refine DA_p 9 rfl (by kernel_rfl) rfl (fun _ => y_move rfl) hSx (by decide) fun hSx => ?_
        refine DA_p 10 rfl (by kernel_rfl) rfl (fun _ => y_nilCheck rfl ⟨_, rfl⟩) hSx (by decide) fun hSx => ?_
        refine DA_p 11 rfl (by kernel_rfl) rfl (fun _ => y_fieldAddr ti33 rfl ti31 rfl rfl) hSx (by decide) fun hSx => ?_
        refine DA_y (v := x.vp) 12 rfl (by kernel_rfl) rfl (by kernel_rfl) (fun w' h => y_loadS ti31 rfl rfl h.2.2) hSx (by decide) fun hSx => ?_
        refine DA_p 13 rfl (by kernel_rfl) rfl (fun _ => y_fieldAddr ti48 rfl ti46 rfl rfl) hSx (by decide) fun hSx => ?_
        refine DA_y (v := .agg #[.slice avl e.span.lo.length cvl, .slice avh e.span.hi.length cvh]) 14 rfl (by kernel_rfl) rfl (by kernel_rfl) (fun w' h => y_loadA (cs := [.slice avl e.span.lo.length cvl, .slice avh e.span.hi.length cvh]) ti46 rfl rfl (Cells.of h.1 rfl) rfl) hSx (by decide) fun hSx => ?_
        have hext : ∀ {W : World} {Ls : List Atom}, Holds W Ls → ∀ p, Ls[p]? = some (shr (fun k => k < w.heap.size) w) → Src W vs e.seen.length news := fun H p hp => hsrc _ (H.keepsAll p hp _)
        refine DA_pair 8 15 (by kernel_rfl) (by kernel_rfl) (by kernel_rfl) (by decide) rfl rfl
          (fun f ds w' => ∃ v81 b88, f 81 = v81 ∧ f 88 = .slice (some ⟨b88, 0, none⟩) 1 1 ∧ f 85 = x.vp ∧ f 73 = .pointer (some ⟨b, i * 8, none⟩) ∧ f 74 = .pointer (some ⟨b, i * 8, none⟩) ∧ f 53 = .int .i64 k ∧ f 52 = .int .i64 xs.length ∧ f 51 = .slice a0 xs.length c0 ∧ f 3 = .map (some bm) ∧ f 4 = v ∧ ds = [] ∧
            Holds w' (row 46 2 (.slice (some ⟨b88, 0, none⟩) 1 1) 1 [.slice avl e.span.lo.length cvl, .slice avh e.span.hi.length cvh] :: own be (.cells #[.int .i64 e.kind, .int .u64 e.txn, .int .i64 e.level, .int .u64 e.ts, .slice avl e.span.lo.length cvl, .slice avh e.span.hi.length cvh, vs, vk] 48) :: row 33 8 v s.length (rs.flatMap RR.cells) :: mp (Value.int .u64) bm (atM s) :: shr (fun k => k < w.heap.size) w ::
              ((rs.map rowS).set i (row 50 4 v81 (x.r.seen.length + e.seen.length) (x.cs ++ news)) ++ rs.map rowP))) ?_ ?_ ?_
        · refine op_append H (i + 4) (show (rs.map rowS ++ rs.map rowP)[i]? = _ from hS) rfl ti30 ti50 rfl rfl rfl rfl (hext H 3 rfl) hnl (hels.one (by decide)) (by omega) (by simp [maxLen]; omega) (by decide) fun v81 w5 H => ⟨fun _ => hSw H 0 1 rfl rfl, ?_⟩
          refine op_buildSlice H [.agg #[.slice avl e.span.lo.length cvl, .slice avh e.span.hi.length cvh]] ti31 ti46 rfl rfl rfl (by simp [Value.cells]) rfl rfl (by decide) fun b88 w6 H => ⟨fun _ => hSw H 1 2 rfl rfl, ?_⟩
          refine ⟨v81, b88, rfl, rfl, rfl, rfl, rfl, hti, htn, h51, h3, h4, rfl, ?_⟩
          rw [← hsetS]; exact H
        · refine op_buildSlice H [.agg #[.slice avl e.span.lo.length cvl, .slice avh e.span.hi.length cvh]] ti31 ti46 rfl rfl rfl (by simp [Value.cells]) rfl rfl (by decide) fun b88 w5 H => ⟨fun _ => hSw H 1 2 rfl rfl, ?_⟩
          refine op_append H (i + 5) (show (rs.map rowS ++ rs.map rowP)[i]? = _ from hS) rfl ti30 ti50 rfl rfl rfl rfl (hext H 4 rfl) hnl (hels.one (by decide)) (by omega) (by simp [maxLen]; omega) (by decide) fun v81 w6 H => ⟨fun _ => hSw H 1 2 rfl rfl, ?_⟩
          refine ⟨v81, b88, rfl, rfl, rfl, rfl, rfl, hti, htn, h51, h3, h4, rfl, ?_⟩
          rw [← hsetS]; exact H
        rintro f ds w6 hSx ⟨v81, b88, h81, h88, h85, h73, h74, h53, h52, h51, h3, h4, rfl, H⟩
        have hlen2 : ((rs.map rowS).set i (row 50 4 v81 (x.r.seen.length + e.seen.length) (x.cs ++ news))).length = rs.length := by simp
        have hP : ((rs.map rowS).set i (row 50 4 v81 (x.r.seen.length + e.seen.length) (x.cs ++ news)) ++ rs.map rowP)[rs.length + i]? = some (rowP x) := by
          rw [List.getElem?_append_right (by simp), hlen2, Nat.add_sub_cancel_left, List.getElem?_map, hxi]; rfl
        have hS2 : ((rs.map rowS).set i (row 50 4 v81 (x.r.seen.length + e.seen.length) (x.cs ++ news)) ++ rs.map rowP)[i]? = some (row 50 4 v81 (x.r.seen.length + e.seen.length) (x.cs ++ news)) := by
          rw [List.getElem?_append_left (by simpa using hirs), List.getElem?_set]; simp [hirs]
        have hsetP : ∀ y : Atom, ((rs.map rowS).set i (row 50 4 v81 (x.r.seen.length + e.seen.length) (x.cs ++ news)) ++ rs.map rowP).set (rs.length + i) y = (rs.map rowS).set i (row 50 4 v81 (x.r.seen.length + e.seen.length) (x.cs ++ news)) ++ (rs.map rowP).set i y := fun y => by
          rw [List.set_append_right _ _ (by simp), hlen2, Nat.add_sub_cancel_left]
        obtain ⟨a81, c81, hv81, _, _⟩ := ownsRow_slice (H.getRow (i + 5) (show ((rs.map rowS).set i (row 50 4 v81 (x.r.seen.length + e.seen.length) (x.cs ++ news)) ++ rs.map rowP)[i]? = _ from hS2))
        refine DA_one 16 (by kernel_rfl) rfl (op_append H (rs.length + i + 5) (show ((rs.map rowS).set i (row 50 4 v81 (x.r.seen.length + e.seen.length) (x.cs ++ news)) ++ rs.map rowP)[rs.length + i]? = _ from hP) rfl ti31 ti46 rfl rfl h85 h88 (Src.row (H.getRow 0 rfl)) rfl hspo (by omega) (by simp [maxLen]; omega) (by decide) fun v89 w7 H => ⟨fun _ => hSw H 1 2 rfl rfl, ?_⟩)
        have H : Holds w7 (row 46 2 (.slice (some ⟨b88, 0, none⟩) 1 1) 1 [.slice avl e.span.lo.length cvl, .slice avh e.span.hi.length cvh] :: own be (.cells #[.int .i64 e.kind, .int .u64 e.txn, .int .i64 e.level, .int .u64 e.ts, .slice avl e.span.lo.length cvl, .slice avh e.span.hi.length cvh, vs, vk] 48) :: row 33 8 v s.length (rs.flatMap RR.cells) :: mp (Value.int .u64) bm (atM s) :: shr (fun k => k < w.heap.size) w ::
              ((rs.map rowS).set i (row 50 4 v81 (x.r.seen.length + e.seen.length) (x.cs ++ news)) ++ (rs.map rowP).set i (row 46 2 v89 (x.r.spans.length + 1) (x.cp ++ [.slice avl e.span.lo.length cvl, .slice avh e.span.hi.length cvh])))) := by
          rw [← hsetP]; exact H
        have hP2 : ((rs.map rowS).set i (row 50 4 v81 (x.r.seen.length + e.seen.length) (x.cs ++ news)) ++ (rs.map rowP).set i (row 46 2 v89 (x.r.spans.length + 1) (x.cp ++ [.slice avl e.span.lo.length cvl, .slice avh e.span.hi.length cvh])))[rs.length + i]? = some (row 46 2 v89 (x.r.spans.length + 1) (x.cp ++ [.slice avl e.span.lo.length cvl, .slice avh e.span.hi.length cvh])) := by
          rw [List.getElem?_append_right (by simp), hlen2, Nat.add_sub_cancel_left, List.getElem?_set]; simp [hirs]
        obtain ⟨a89, c89, hv89, _, _⟩ := ownsRow_slice (H.getRow (rs.length + i + 5) (show ((rs.map rowS).set i (row 50 4 v81 (x.r.seen.length + e.seen.length) (x.cs ++ news)) ++ (rs.map rowP).set i (row 46 2 v89 (x.r.spans.length + 1) (x.cp ++ [.slice avl e.span.lo.length cvl, .slice avh e.span.hi.length cvh])))[rs.length + i]? = _ from hP2))
        refine DA_p 17 rfl (by kernel_rfl) rfl (fun _ => y_nilCheck h73 ⟨_, rfl⟩) (fun _ => hSw H 1 2 rfl rfl) (by decide) fun _ => ?_
        refine DA_p 18 rfl (by kernel_rfl) rfl (fun _ => y_fieldAddr ti33 rfl ti30 rfl rfl) (fun _ => hSw H 1 2 rfl rfl) (by decide) fun _ => ?_
        refine DA_one 19 (by kernel_rfl) rfl (op_storeRow (o := i * 8 + 6) (u := v81) H 2 rfl hown ti30 rfl h81 (by rw [hv81]; rfl) (by rw [hcl]; omega) (by rw [hv81]; rfl) fun w8 H => ⟨fun h => absurd (h 19 (by simp)) (by decide), ?_⟩)
        refine DA_p 20 rfl (by kernel_rfl) rfl (fun _ => y_nilCheck h74 ⟨_, rfl⟩) (fun h => absurd (h 19 (by simp)) (by decide)) (by decide) fun _ => ?_
        refine DA_p 21 rfl (by kernel_rfl) rfl (fun _ => y_fieldAddr ti33 rfl ti31 rfl rfl) (fun h => absurd (h 19 (by simp)) (by decide)) (by decide) fun _ => ?_
        refine DA_one 22 (by kernel_rfl) rfl (op_storeRow (o := i * 8 + 7) (u := v89) H 2 rfl hown ti31 rfl rfl (by rw [hv89]; rfl) (by rw [List.length_set, hcl]; omega) (by rw [hv89]; rfl) fun w9 H => ⟨fun h => absurd (h 19 (by simp)) (by decide), ?_⟩)
        refine DA_done (by kernel_rfl) ?_
        have hupd : updR e x.r = { x.r with seen := x.r.seen ++ e.seen, spans := x.r.spans ++ [e.span] } := if_pos hk2
        have hfl : ((rs.flatMap RR.cells).set (i * 8 + 6) v81).set (i * 8 + 7) v89 = (rs.set i { r := updR e x.r, vk := x.vk, vs := v81, vp := v89, cs := x.cs ++ news, cp := x.cp ++ [.slice avl e.span.lo.length cvl, .slice avh e.span.hi.length cvh] }).flatMap RR.cells := by
          rw [flat_set RR.len rs i 6 x { x with vs := v81 } _ (by decide) hxi rfl]
          rw [flat_set RR.len _ i 7 { x with vs := v81 } { r := updR e x.r, vk := x.vk, vs := v81, vp := v89, cs := x.cs ++ news, cp := x.cp ++ [.slice avl e.span.lo.length cvl, .slice avh e.span.hi.length cvh] } _ (by decide) (by rw [List.getElem?_set]; simp [hirs]) (by rw [hupd]; rfl)]
          rw [List.set_set]
        have H : Holds w9 (row 46 2 (.slice (some ⟨b88, 0, none⟩) 1 1) 1 [.slice avl e.span.lo.length cvl, .slice avh e.span.hi.length cvh] :: own be (.cells #[.int .i64 e.kind, .int .u64 e.txn, .int .i64 e.level, .int .u64 e.ts, .slice avl e.span.lo.length cvl, .slice avh e.span.hi.length cvh, vs, vk] 48) :: row 33 8 v s.length (((rs.flatMap RR.cells).set (i * 8 + 6) v81).set (i * 8 + 7) v89) :: mp (Value.int .u64) bm (atM s) :: shr (fun k => k < w.heap.size) w ::
              ((rs.map rowS).set i (row 50 4 v81 (x.r.seen.length + e.seen.length) (x.cs ++ news)) ++ (rs.map rowP).set i (row 46 2 v89 (x.r.spans.length + 1) (x.cp ++ [.slice avl e.span.lo.length cvl, .slice avh e.span.hi.length cvh])))) := H
        rw [hfl] at H
        refine ⟨h53, h52, rs.set i { r := updR e x.r, vk := x.vk, vs := v81, vp := v89, cs := x.cs ++ news, cp := x.cp ++ [.slice avl e.span.lo.length cvl, .slice avh e.span.hi.length cvh] }, (hnew2 _ rfl).symm, by rw [List.length_set]; exact hrl, h51, h3, h4, rfl, hGn _ ?_, ?_⟩
        · refine ⟨?_, ?_, ?_, ?_, ?_, ?_⟩
          · rw [hupd]; exact hgx.wf
          · show SlR _ _ _ _ _ (updR e x.r).keys
            rw [hupd]; exact hgx.keys
          · show Els _ _ _ _ (updR e x.r).seen
            rw [hupd]; exact hgx.seen.append hels
          · show Els _ _ _ _ (updR e x.r).spans
            rw [hupd]; exact hgx.spans.snoc (sp_cells.2 ⟨_, _, rfl, hlo, hhi⟩)
          · show (updR e x.r).seen.length ≤ _
            rw [hupd]; simp only [List.length_append]; omega
          · show (updR e x.r).spans.length ≤ _
            rw [hupd]; simp only [List.length_append, List.length_cons, List.length_nil]; omega
        · rw [List.map_set, List.map_set]
          have e1 : rowS { r := updR e x.r, vk := x.vk, vs := v81, vp := v89, cs := x.cs ++ news, cp := x.cp ++ [.slice avl e.span.lo.length cvl, .slice avh e.span.hi.length cvh] } = row 50 4 v81 (x.r.seen.length + e.seen.length) (x.cs ++ news) := by
            show row 50 4 v81 (updR e x.r).seen.length _ = _
            rw [hupd, List.length_append]
          have e2 : rowP { r := updR e x.r, vk := x.vk, vs := v81, vp := v89, cs := x.cs ++ news, cp := x.cp ++ [.slice avl e.span.lo.length cvl, .slice avh e.span.hi.length cvh] } = row 46 2 v89 (x.r.spans.length + 1) (x.cp ++ [.slice avl e.span.lo.length cvl, .slice avh e.span.hi.length cvh]) := by
            show row 46 2 v89 (updR e x.r).spans.length _ = _
            rw [hupd, List.length_append]; rfl
          rw [e1, e2]
          exact H.tail.tail
      · have hk2 := of_decide_eq_false hc
        refine W_seq ?_
        refine W_seq ?_
        refine W_region ?_
        refine OL_y (y_eql rfl rfl) (by decide) ?_
        refine OL_y (y_assign rfl) (by decide) ?_
        refine OL_nil ?_
        refine W_cut (fun f ds w' => f 94 = .bool (decide (e.kind = 3 ∨ e.kind = 4)) ∧ f 13 = .pointer (some ⟨b, i * 8, none⟩) ∧ f 10 = .pointer (some ⟨be, 0, none⟩) ∧ f 53 = .int .i64 k ∧ f 52 = .int .i64 xs.length ∧ f 51 = .slice a0 xs.length c0 ∧ f 3 = .map (some bm) ∧ f 4 = v ∧ ds = [] ∧
            Holds w' (own be (.cells #[.int .i64 e.kind, .int .u64 e.txn, .int .i64 e.level, .int .u64 e.ts, vl, vh, vs, vk] 48) :: row 33 8 v s.length (rs.flatMap RR.cells) :: mp (Value.int .u64) bm (atM s) :: shr (fun k => k < w.heap.size) w :: (rs.map rowS ++ rs.map rowP))) ?_ ?_
        · refine W_cond rfl (fun hc3 => ?_) (fun hc3 => ?_)
          · have hk3 := of_decide_eq_true hc3
            refine W_skip ?_
            exact ⟨by rw [decide_eq_true (show e.kind = 3 ∨ e.kind = 4 from .inl hk3)]; exact congrArg Value.bool hc3, rfl, rfl, hti, htn, h51, h3, h4, rfl, H⟩
          · have hk3 := of_decide_eq_false hc3
            refine W_region ?_
            refine OL_y (y_eql rfl rfl) (by decide) ?_
            refine OL_y (y_assign rfl) (by decide) ?_
            refine OL_nil ?_
            exact ⟨by rw [show decide (e.kind = 3 ∨ e.kind = 4) = decide (e.kind = 4) by rw [decide_eq_decide]; exact ⟨fun h => h.resolve_left hk3, .inr⟩]; rfl, rfl, rfl, hti, htn, h51, h3, h4, rfl, H⟩
        rintro f ds w4 ⟨h94, h13, h10, h53, h52, h51, h3, h4, rfl, H⟩
        refine W_cond h94 (fun hc4 => ?_) (fun hc4 => ?_)
        · have hk4 := of_decide_eq_true hc4
          have hupd : updR e x.r = endR e x.r := by unfold updR; rw [if_neg hk2, if_pos hk4]
          obtain ⟨avk, cvk, hvk, _, _⟩ := hks.len
          refine W_region ?_
          refine OL_y (y_move h13) (by decide) ?_
          refine OL_y (y_loadA (cs := [.int .i64 e.kind, .int .u64 e.txn, .int .i64 e.level, .int .u64 e.ts, vl, vh, vs, vk]) ti48 rfl h10 (Cells.of (H.getOwn 0 rfl) rfl) rfl) (by decide) ?_
          refine OL_c (op_call 22 en22 rfl [.pointer (some ⟨b, i * 8, none⟩), evC e vl vh vs vk] rfl (by decide) ((f22_calls (H.getRow 1 rfl) hown hxi hvk).mono ?_))
          rintro u w5 ⟨⟨y, rfl⟩, hE, hrow⟩
          refine ⟨_, rfl, ?_⟩
          refine OL_nil ?_
          have H := H.step 1 rfl rfl hE (fun _ _ h => h) (row_ok hrow) (fun _ h => .inl h)
          have H : Holds w5 (own be (.cells #[.int .i64 e.kind, .int .u64 e.txn, .int .i64 e.level, .int .u64 e.ts, vl, vh, vs, vk] 48) :: row 33 8 v s.length ((rs.set i (x.ended e vk)).flatMap RR.cells) :: mp (Value.int .u64) bm (atM s) :: shr (fun k => k < w.heap.size) w :: (rs.map rowS ++ rs.map rowP)) := H
          have hseen : (endR e x.r).seen = x.r.seen := by unfold endR; split <;> rfl
          have hspans : (endR e x.r).spans = x.r.spans := by unfold endR; split <;> rfl
          refine ⟨h53, h52, rs.set i (x.ended e vk), (hnew2 _ hupd.symm).symm, by rw [List.length_set]; exact hrl, h51, h3, h4, rfl, hGn _ ?_, ?_⟩
          · refine ⟨?_, ?_, ?_, ?_, ?_, ?_⟩
            · show wfR (endR e x.r)
              obtain ⟨w1, w2, w3, w4, w5⟩ := hgx.wf
              unfold endR; split
              · refine ⟨w1, w2, ?_, w4, he4⟩
                show InK .i64 (if e.kind = 3 then 1 else 2)
                split <;> rfl
              · exact ⟨w1, w2, w3, w4, w5⟩
            · show SlR tKey 24 Z w (if x.r.state = 0 then vk else x.vk) (endR e x.r).keys
              unfold endR; split
              · exact hks
              · exact hgx.keys
            · show Els _ _ _ x.cs (endR e x.r).seen
              rw [hseen]; exact hgx.seen
            · show Els _ _ _ x.cp (endR e x.r).spans
              rw [hspans]; exact hgx.spans
            · show (endR e x.r).seen.length ≤ _
              rw [hseen]; have := hgx.ns; omega
            · show (endR e x.r).spans.length ≤ _
              rw [hspans]; have := hgx.np; omega
          · have e1 : (rs.set i (x.ended e vk)).map rowS = rs.map rowS := by
              rw [List.map_set]
              apply List.ext_getElem?
              intro j; rw [List.getElem?_set]; split
              · rename_i h; subst h
                rw [List.getElem?_map, hxi]; simp only [List.length_map, hirs, if_true, Option.map_some]
                show some (row 50 4 x.vs (endR e x.r).seen.length x.cs) = _
                rw [hseen]
              · rfl
            have e2 : (rs.set i (x.ended e vk)).map rowP = rs.map rowP := by
              rw [List.map_set]
              apply List.ext_getElem?
              intro j; rw [List.getElem?_set]; split
              · rename_i h; subst h
                rw [List.getElem?_map, hxi]; simp only [List.length_map, hirs, if_true, Option.map_some]
                show some (row 46 2 x.vp (endR e x.r).spans.length x.cp) = _
                rw [hspans]
              · rfl
            rw [e1, e2]; exact H.tail
        · have hk4 := of_decide_eq_false hc4
          have hupd : updR e x.r = x.r := by unfold updR; rw [if_neg hk2, if_neg hk4]
          have hset : rs.set i x = rs := by
            apply List.ext_getElem?
            intro j; rw [List.getElem?_set]; split
            · rename_i h; subst h; exact hxi.symm
            · rfl
          refine W_skip ?_
          exact ⟨h53, h52, rs, by rw [hnew2 x hupd.symm, hset], hrl, h51, h3, h4, rfl, fun x hx => (hG x hx).mono, H.tail⟩
  · rintro f ds w2 ⟨rs, hrs, hrl, h51, h3, h4, rfl, hG, H⟩ hti htn
    rw [List.take_length] at hrs
    have hR := hruns _ hrs.symm
    refine W_seq ?_
    refine W_region ?_
    refine OL_y (y_move h4) (by decide) ?_
    refine OL_y (y_assign rfl) (by decide) ?_
    refine OL_nil ?_
    refine W_ret ?_
    show RetOK _ _ _ _ _ _
    refine ret1 (v := v) Try.results10 rfl ⟨v, rfl, ?_, H.ext_of 2 rfl⟩
    have hkw : Keeps Z w w2 := H.keepsAll 2 rfl Z
    have hrow := H.getRow 0 rfl
    refine SlR.ofRow hrow (by decide) (?_ : Els tRn (fun k => Z k ∨ w.heap.size ≤ k) w2 _ (runs xs)) (fun k hk => .inr (H.fresh 0 2 rfl rfl rfl k hk)) ?_
    · rw [hR]
      refine ⟨by rw [flat_len RR.len, List.length_map]; rfl, fun i r hi => ?_⟩
      rw [List.getElem?_map, Option.map_eq_some_iff] at hi
      obtain ⟨x, hxi, rfl⟩ := hi
      have hgx := hG x (List.mem_of_getElem? hxi)
      have hil := (List.getElem?_eq_some_iff.1 hxi).1
      have hcells : ((rs.flatMap RR.cells).drop (i * 8)).take 8 = x.cells := by
        apply List.ext_getElem?
        intro c
        by_cases hc : c < 8
        · rw [List.getElem?_take_of_lt hc, List.getElem?_drop, flat_get RR.len rs i c hc, hxi]; rfl
        · rw [List.getElem?_eq_none (by simp; omega), List.getElem?_eq_none (by rw [RR.len]; omega)]
      show tRn.R _ _ (((rs.flatMap RR.cells).drop (i * 8)).take 8) x.r
      rw [hcells]
      have hS : (row 33 8 v s.length (rs.flatMap RR.cells) :: mp (Value.int .u64) bm (atM s) :: shr (fun k => k < w.heap.size) w :: (rs.map rowS ++ rs.map rowP))[i + 3]? = some (rowS x) := by
        show (rs.map rowS ++ rs.map rowP)[i]? = _
        rw [List.getElem?_append_left (by simpa using hil), List.getElem?_map, hxi]; rfl
      have hP : (row 33 8 v s.length (rs.flatMap RR.cells) :: mp (Value.int .u64) bm (atM s) :: shr (fun k => k < w.heap.size) w :: (rs.map rowS ++ rs.map rowP))[rs.length + i + 3]? = some (rowP x) := by
        show (rs.map rowS ++ rs.map rowP)[rs.length + i]? = _
        rw [List.getElem?_append_right (by simp), List.length_map, Nat.add_sub_cancel_left, List.getElem?_map, hxi]; rfl
      have hmono : ∀ k, k < w2.heap.size → Z k → (Z k ∨ w.heap.size ≤ k) := fun k _ h => .inl h
      refine rn_cells.2 ⟨x.vk, x.vs, x.vp, rfl, hgx.wf.1, hgx.wf.2.1, hgx.wf.2.2.1, hgx.wf.2.2.2.1, hgx.wf.2.2.2.2, (hgx.keys.keeps hkw).mono hmono, ?_, ?_⟩
      · have := hgx.ns
        exact SlR.ofRow (H.getRow (i + 3) hS) (by decide) ((hgx.seen.keeps hkw).mono hmono) (fun k hk => .inr (H.fresh (i + 3) 2 hS rfl rfl k hk)) (by omega)
      · have := hgx.np
        exact SlR.ofRow (H.getRow (rs.length + i + 3) hP) (by decide) ((hgx.spans.keeps hkw).mono hmono) (fun k hk => .inr (H.fresh (rs.length + i + 3) 2 hP rfl rfl k hk)) (by omega)
    · rw [hR, List.length_map]; omega
end Go.Proofs.Ytelgegodeifbiaa
