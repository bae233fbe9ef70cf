/- The reference's Runs. -/
import Derived.Test.YtelgegodeifbiaaD
import Derived.Test.YtelgegodeifbiaaPG
import Derived.Test.YtelgegodeifbiaaWkj
namespace Go.Proofs.Ytelgegodeifbiaa
open Go Go.Wk Pl
set_option linter.unusedVariables false

theorem perm_in {α : Type} (a b c d : α) (A B : List α) : (a :: b :: c :: d :: (A ++ B)).Perm (c :: d :: ((A ++ [a]) ++ (B ++ [b]))) := by
  classical
  rw [List.perm_iff_count]
  intro x
  simp only [List.count_cons, List.count_append, List.count_nil]
  omega
def knownB (pre : List Ev) (e : Ev) : Bool := pre.any fun x => decide (x.kind = 1) && decide (x.txn = e.txn)
theorem knownB_iff (pre : List Ev) (e : Ev) : knownB pre e = true ↔ known pre e := by
  unfold knownB known; simp
theorem fold_txn (l : List Ev) (r : Rn) : (l.foldl upd1 r).txn = r.txn := by
  induction l generalizing r with
  | nil => rfl
  | cons x l ih => rw [List.foldl_cons, ih, upd1_txn]
/-- The result: runs as data, out of their rows. -/
theorem runs_out {Z : Nat → Prop} {w W : World} {k : Nat} {v : Value} {rs : List RR} (H : Holds W (row 33 8 v rs.length (rs.flatMap RR.cells) :: shr (fun k => k < w.heap.size) w :: (rs.map rowS ++ rs.map rowP))) (hG : ∀ x ∈ rs, GoodR Z w k x) (hk : k ≤ 30) (hl : rs.length ≤ 30) :
    SlR tRn 112 (fun k => Z k ∨ w.heap.size ≤ k) W v (rs.map (·.r)) := by
  have hkw : Keeps Z w W := H.keepsAll 1 rfl Z
  refine SlR.ofRow (H.getRow 0 rfl) (by decide) (?_ : Els tRn (fun k => Z k ∨ w.heap.size ≤ k) W _ (rs.map (·.r))) (fun k hk => .inr (H.fresh 0 1 rfl rfl rfl k hk)) (by rw [List.length_map]; omega)
  refine ⟨by rw [flat_len RR.len, List.length_map]; rfl, fun i r hi => ?_⟩
  rw [List.getElem?_map, Option.map_eq_some_iff] at hi
  obtain ⟨x, hxi, rfl⟩ := hi
  have hgx := hG x (List.mem_of_getElem? hxi)
  have hil := (List.getElem?_eq_some_iff.1 hxi).1
  have hcells : ((rs.flatMap RR.cells).drop (i * 8)).take 8 = x.cells := by
    apply List.ext_getElem?
    intro c
    by_cases hc : c < 8
    · rw [List.getElem?_take_of_lt hc, List.getElem?_drop, flat_get RR.len rs i c hc, hxi]; rfl
    · rw [List.getElem?_eq_none (by simp; omega), List.getElem?_eq_none (by rw [RR.len]; omega)]
  show tRn.R _ _ (((rs.flatMap RR.cells).drop (i * 8)).take 8) x.r
  rw [hcells]
  have hS : (row 33 8 v rs.length (rs.flatMap RR.cells) :: shr (fun k => k < w.heap.size) w :: (rs.map rowS ++ rs.map rowP))[i + 2]? = some (rowS x) := by
    show (rs.map rowS ++ rs.map rowP)[i]? = _
    rw [List.getElem?_append_left (by simpa using hil), List.getElem?_map, hxi]; rfl
  have hP : (row 33 8 v rs.length (rs.flatMap RR.cells) :: shr (fun k => k < w.heap.size) w :: (rs.map rowS ++ rs.map rowP))[rs.length + i + 2]? = some (rowP x) := by
    show (rs.map rowS ++ rs.map rowP)[rs.length + i]? = _
    rw [List.getElem?_append_right (by simp), List.length_map, Nat.add_sub_cancel_left, List.getElem?_map, hxi]; rfl
  have hmono : ∀ k, k < W.heap.size → Z k → (Z k ∨ w.heap.size ≤ k) := fun k _ h => .inl h
  refine rn_cells.2 ⟨x.vk, x.vs, x.vp, rfl, hgx.wf.1, hgx.wf.2.1, hgx.wf.2.2.1, hgx.wf.2.2.2.1, hgx.wf.2.2.2.2, (hgx.keys.keeps hkw).mono hmono, ?_, ?_⟩
  · have := hgx.ns
    exact SlR.ofRow (H.getRow (i + 2) hS) (by decide) ((hgx.seen.keeps hkw).mono hmono) (fun k hk => .inr (H.fresh (i + 2) 1 hS rfl rfl k hk)) (by omega)
  · have := hgx.np
    exact SlR.ofRow (H.getRow (rs.length + i + 2) hP) (by decide) ((hgx.spans.keeps hkw).mono hmono) (fun k hk => .inr (H.fresh (rs.length + i + 2) 1 hP rfl rfl k hk)) (by omega)

set_option maxHeartbeats 4000000 in
theorem f11_calls {Z : Nat → Prop} {w : World} {a : Value} {xs : List Ev} (hx : SlR tEv 128 Z w a xs) (h30 : xs.length ≤ 30) (h8 : ∀ e ∈ xs, e.seen.length ≤ 8) :
    Calls Try.prog 11 [a].toArray w fun e w' => ∃ v, e = .returned v ∧ SlR tRn 112 (fun k => Z k ∨ w.heap.size ≤ k) w' v (runs xs) ∧ Ext none' w w' := by
  have H := Holds.start w
  obtain ⟨a0, c0, rfl, hl0, hm0⟩ := hx.len
  refine calls_of_W' Try.func11 rfl Try.ntmps11 rfl ?_
  refine W_seq ?_
  refine W_region ?_
  refine OL_y (y_assign rfl) (by decide) ?_
  refine OL_nil ?_
  refine W_seq ?_
  refine W_region ?_
  refine OL_y (y_assign rfl) (by decide) ?_
  refine OL_nil ?_
  refine W_seq ?_
  refine W_seq ?_
  refine W_region ?_
  refine OL_y (y_move rfl) (by decide) ?_
  refine OL_y (y_len rfl ti22 rfl) (by decide) ?_
  refine OL_y (y_move rfl) (by decide) ?_
  refine OL_nil ?_
  have H := H.rowNil 33 8
  refine W_range (N := xs.length) (by omega) (fun k f ds w' => ∃ (rs : List RR) (v3 : Value), rs.map (·.r) = told xs k ∧ f 0 = .slice a0 xs.length c0 ∧ f 12 = .slice a0 xs.length c0 ∧ f 3 = v3 ∧ ds = [] ∧ (∀ x ∈ rs, GoodR Z w xs.length x) ∧
      Holds w' (row 33 8 v3 rs.length (rs.flatMap RR.cells) :: shr (fun k => k < w.heap.size) w :: (rs.map rowS ++ rs.map rowP)))
    ⟨[], nilV, rfl, rfl, rfl, rfl, rfl, by simp, H⟩ rfl rfl (by decide) (by decide) (by decide) rfl rfl ?_ rfl rfl ?_
  · rintro k f ds w1 hk ⟨rs, v3, hrs, h0, h12, h3, rfl, hG, H⟩ hti htn
    have hxk := List.getElem?_eq_getElem hk
    obtain ⟨b1, o1, cs1, e1, hz1, hc1, hr1⟩ := hx.at hxk
    obtain ⟨vl, vh, vs, vk, rfl, he1, he2, he3, he4, -⟩ := ev_cells.1 hr1
    generalize xs[k] = e at hxk hr1 hc1 he1 he2 he3 he4
    have hone := tEv.one hr1
    obtain ⟨hnew, hold⟩ := told_step hxk
    have hrl : rs.length ≤ k := by have := told_len xs k; rw [← hrs, List.length_map] at this; exact this
    refine W_block ?_
    refine W_seq ?_
    refine W_region ?_
    refine OL_y (y_move hti) (by decide) ?_
    refine OL_y (y_indexAddr ti22 ti48 (h12.trans (congrArg (Value.slice · _ _) e1)) hti (by omega) (by omega)) (by decide) ?_
    refine OL_y (y_loadA ti48 rfl rfl (hc1.ext ((H.keepsAll 1 rfl Z).2 _ hz1 hc1.lt)) rfl) (by decide) ?_
    refine OL_c (op_alloc H ti48 (by decide) fun be w2 H => ?_)
    refine OL_y (y_assign rfl) (by decide) ?_
    refine OL_c (op_store (v := .agg #[.int .i64 e.kind, .int .u64 e.txn, .int .i64 e.level, .int .u64 e.ts, vl, vh, vs, vk]) H 0 rfl ti48 rfl rfl rfl (by decide) hone fun w3 H => ?_)
    refine OL_nil ?_
    have H : Holds w3 (own be (.cells #[.int .i64 e.kind, .int .u64 e.txn, .int .i64 e.level, .int .u64 e.ts, vl, vh, vs, vk] 48) :: row 33 8 v3 rs.length (rs.flatMap RR.cells) :: shr (fun k => k < w.heap.size) w :: (rs.map rowS ++ rs.map rowP)) := H
    refine W_seq ?_
    refine W_seq ?_
    refine W_region ?_
    refine OL_y (y_fieldAddr ti48 rfl ti3 rfl rfl) (by decide) ?_
    refine OL_y (y_loadS (v := .int .i64 e.kind) ti3 rfl rfl (Cells.unit (H.getOwn 0 rfl) rfl)) (by decide) ?_
    refine OL_y (y_neq rfl rfl) (by decide) ?_
    refine OL_nil ?_
    refine W_cond rfl (fun hc => ?_) (fun hc => ?_)
    · have hc := of_decide_eq_true hc
      refine W_exit ?_
      exact ⟨hti, htn, rs, v3, by rw [hold (fun h => hc h.1)]; exact hrs, h0, h12, h3, rfl, hG, H.tail⟩
    have hk1 : e.kind = 1 := by simpa using of_decide_eq_false hc
    refine W_skip ?_
    refine W_seq ?_
    refine W_region ?_
    refine OL_y (y_assign rfl) (by decide) ?_
    refine OL_nil ?_
    refine W_seq ?_
    refine W_seq ?_
    refine W_region ?_
    refine OL_y (y_move h0) (by decide) ?_
    refine OL_y (y_move rfl) (by decide) ?_
    refine OL_y (y_sliceH ti22 ti48 rfl rfl (by omega) (by omega)) (by decide) ?_
    refine OL_y (y_len rfl ti22 rfl) (by decide) ?_
    refine OL_y (y_move rfl) (by decide) ?_
    refine OL_nil ?_
    have hxt := hx.take k (by omega) c0 8
    have hlt : (xs.take k).length = k := by rw [List.length_take]; omega
    refine W_range (N := k) (by simp [maxLen]; omega) (fun j f ds w' => f 0 = .slice a0 xs.length c0 ∧ f 12 = .slice a0 xs.length c0 ∧ f 3 = v3 ∧ f 14 = .int .i64 k ∧ f 13 = .int .i64 xs.length ∧ f 5 = .pointer (some ⟨be, 0, none⟩) ∧ f 24 = .slice (cutA a0 c0 0 8) k c0 ∧
        f 6 = .bool (knownB ((xs.take k).take j) e) ∧ ds = [] ∧ Holds w' (own be (.cells #[.int .i64 e.kind, .int .u64 e.txn, .int .i64 e.level, .int .u64 e.ts, vl, vh, vs, vk] 48) :: row 33 8 v3 rs.length (rs.flatMap RR.cells) :: shr (fun k => k < w.heap.size) w :: (rs.map rowS ++ rs.map rowP)))
      ⟨h0, h12, h3, hti, htn, rfl, rfl, rfl, rfl, H⟩ rfl rfl (by decide) (by decide) (by decide) rfl rfl ?_ rfl rfl ?_
    · rintro j f ds w4 hj ⟨h0, h12, h3, h14, h13, h5, h24, h6, rfl, H⟩ htj htm
      have hxj := List.getElem?_eq_getElem (l := xs.take k) (i := j) (by omega)
      obtain ⟨b2, o2, cs2, e2, hz2, hc2, hr2⟩ := (hxt.keeps (H.keepsAll 2 rfl _)).at hxj
      obtain ⟨ul, uh, us, uk, rfl, -⟩ := ev_cells.1 hr2
      generalize (xs.take k)[j]'(by omega) = y at hxj hr2 hc2
      have hone2 := tEv.one hr2
      have htk : knownB ((xs.take k).take (j + 1)) e = (knownB ((xs.take k).take j) e || (decide (y.kind = 1) && decide (y.txn = e.txn))) := by
        rw [List.take_add_one, hxj]; simp [knownB]
      refine W_block ?_
      refine W_seq ?_
      refine W_region ?_
      refine OL_y (y_indexAddr ti22 ti48 (h24.trans (congrArg (Value.slice · _ _) e2)) htj (by omega) (by omega)) (by decide) ?_
      refine OL_y (y_loadA ti48 rfl rfl hc2 rfl) (by decide) ?_
      refine OL_var H ti48 rfl (by decide) (fun _ => rfl) rfl hone2 fun bY w5 H => ?_
      refine OL_nil ?_
      have H : Holds w5 (own bY (.cells #[.int .i64 y.kind, .int .u64 y.txn, .int .i64 y.level, .int .u64 y.ts, ul, uh, us, uk] 48) :: own be (.cells #[.int .i64 e.kind, .int .u64 e.txn, .int .i64 e.level, .int .u64 e.ts, vl, vh, vs, vk] 48) :: row 33 8 v3 rs.length (rs.flatMap RR.cells) :: shr (fun k => k < w.heap.size) w :: (rs.map rowS ++ rs.map rowP)) := H
      cases hkb : knownB ((xs.take k).take j) e with
      | true =>
        rw [hkb] at h6
        refine W_region ?_
        refine OL_y (v := .bool true) (y_move h6) (by decide) ?_
        refine OL_y (v := .bool true) (y_move rfl) (by decide) ?_
        refine OL_s rfl (by decide) rfl rfl (by simp) ?_
        refine OL_s rfl (by decide) rfl rfl (by simp) ?_
        refine OL_s rfl (by decide) rfl rfl (by simp) ?_
        refine OL_s rfl (by decide) rfl rfl (by simp) ?_
        refine OL_u rfl (by decide) rfl (by simp) ?_
        refine OL_u rfl (by decide) rfl (by simp) ?_
        refine OL_u rfl (by decide) rfl (by simp) ?_
        refine OL_u rfl (by decide) rfl (by simp) ?_
        refine OL_u rfl (by decide) rfl (by simp) ?_
        refine OL_s rfl (by decide) rfl rfl (by simp) ?_
        refine OL_y (y_pick (b := true) (v := .bool true) rfl rfl) (by decide) ?_
        refine OL_y (v := .bool true) (y_assign rfl) (by decide) ?_
        refine OL_nil ?_
        exact ⟨htj, htm, h0, h12, h3, h14, h13, h5, h24, by rw [htk, hkb]; rfl, rfl, H.tail⟩
      | false =>
        rw [hkb] at h6
        by_cases d1 : y.kind = 1
        · by_cases d2 : y.txn = e.txn
          · refine W_region ?_
            refine OL_y (v := .bool false) (y_move h6) (by decide) ?_
            refine OL_y (v := .bool false) (y_move rfl) (by decide) ?_
            refine OL_yg rfl (by decide) rfl (y_fieldAddr ti48 rfl ti3 rfl rfl) (by decide) ?_
            refine OL_yg rfl (by decide) rfl (y_loadS (v := .int .i64 y.kind) ti3 rfl rfl (Cells.unit (H.getOwn 0 rfl) rfl)) (by decide) ?_
            refine OL_yg (v := .bool true) rfl (by decide) rfl (y_eqlT d1 rfl rfl) (by decide) ?_
            refine OL_yg (v := .bool true) rfl (by decide) rfl (y_move rfl) (by decide) ?_
            refine OL_yg rfl (by decide) rfl (y_fieldAddr ti48 rfl ti26 rfl rfl) (by decide) ?_
            refine OL_yg rfl (by decide) rfl (y_loadS (v := .int .u64 y.txn) ti26 rfl rfl (Cells.unit (H.getOwn 0 rfl) rfl)) (by decide) ?_
            refine OL_yg rfl (by decide) rfl (y_fieldAddr ti48 rfl ti26 rfl h5) (by decide) ?_
            refine OL_yg rfl (by decide) rfl (y_loadS (v := .int .u64 e.txn) ti26 rfl rfl (Cells.unit (H.getOwn 1 rfl) rfl)) (by decide) ?_
            refine OL_yg (v := .bool true) rfl (by decide) rfl (y_eqlT d2 rfl rfl) (by decide) ?_
            refine OL_yg rfl (by decide) rfl (y_pick (b := true) (v := .bool true) rfl rfl) (by decide) ?_
            refine OL_y (y_pick (b := false) (v := .bool true) rfl rfl) (by decide) ?_
            refine OL_y (v := .bool true) (y_assign rfl) (by decide) ?_
            refine OL_nil ?_
            exact ⟨htj, htm, h0, h12, h3, h14, h13, h5, h24, by rw [htk, hkb, decide_eq_true d1, decide_eq_true d2]; rfl, rfl, H.tail⟩
          · refine W_region ?_
            refine OL_y (v := .bool false) (y_move h6) (by decide) ?_
            refine OL_y (v := .bool false) (y_move rfl) (by decide) ?_
            refine OL_yg rfl (by decide) rfl (y_fieldAddr ti48 rfl ti3 rfl rfl) (by decide) ?_
            refine OL_yg rfl (by decide) rfl (y_loadS (v := .int .i64 y.kind) ti3 rfl rfl (Cells.unit (H.getOwn 0 rfl) rfl)) (by decide) ?_
            refine OL_yg (v := .bool true) rfl (by decide) rfl (y_eqlT d1 rfl rfl) (by decide) ?_
            refine OL_yg (v := .bool true) rfl (by decide) rfl (y_move rfl) (by decide) ?_
            refine OL_yg rfl (by decide) rfl (y_fieldAddr ti48 rfl ti26 rfl rfl) (by decide) ?_
            refine OL_yg rfl (by decide) rfl (y_loadS (v := .int .u64 y.txn) ti26 rfl rfl (Cells.unit (H.getOwn 0 rfl) rfl)) (by decide) ?_
            refine OL_yg rfl (by decide) rfl (y_fieldAddr ti48 rfl ti26 rfl h5) (by decide) ?_
            refine OL_yg rfl (by decide) rfl (y_loadS (v := .int .u64 e.txn) ti26 rfl rfl (Cells.unit (H.getOwn 1 rfl) rfl)) (by decide) ?_
            refine OL_yg (v := .bool false) rfl (by decide) rfl (y_eqlF d2 rfl rfl) (by decide) ?_
            refine OL_yg rfl (by decide) rfl (y_pick (b := true) (v := .bool false) rfl rfl) (by decide) ?_
            refine OL_y (y_pick (b := false) (v := .bool false) rfl rfl) (by decide) ?_
            refine OL_y (v := .bool false) (y_assign rfl) (by decide) ?_
            refine OL_nil ?_
            exact ⟨htj, htm, h0, h12, h3, h14, h13, h5, h24, by rw [htk, hkb, decide_eq_true d1, decide_eq_false d2]; rfl, rfl, H.tail⟩
        · refine W_region ?_
          refine OL_y (v := .bool false) (y_move h6) (by decide) ?_
          refine OL_y (v := .bool false) (y_move rfl) (by decide) ?_
          refine OL_yg rfl (by decide) rfl (y_fieldAddr ti48 rfl ti3 rfl rfl) (by decide) ?_
          refine OL_yg rfl (by decide) rfl (y_loadS (v := .int .i64 y.kind) ti3 rfl rfl (Cells.unit (H.getOwn 0 rfl) rfl)) (by decide) ?_
          refine OL_yg (v := .bool false) rfl (by decide) rfl (y_eqlF d1 rfl rfl) (by decide) ?_
          refine OL_yg (v := .bool false) rfl (by decide) rfl (y_move rfl) (by decide) ?_
          refine OL_s rfl (by decide) rfl rfl (by simp) ?_
          refine OL_s rfl (by decide) rfl rfl (by simp) ?_
          refine OL_s rfl (by decide) rfl rfl (by simp) ?_
          refine OL_s rfl (by decide) rfl rfl (by simp) ?_
          refine OL_s rfl (by decide) rfl rfl (by simp) ?_
          refine OL_yg rfl (by decide) rfl (y_pick (b := false) (v := .bool false) rfl rfl) (by decide) ?_
          refine OL_y (y_pick (b := false) (v := .bool false) rfl rfl) (by decide) ?_
          refine OL_y (v := .bool false) (y_assign rfl) (by decide) ?_
          refine OL_nil ?_
          exact ⟨htj, htm, h0, h12, h3, h14, h13, h5, h24, by rw [htk, hkb, decide_eq_false d1]; rfl, rfl, H.tail⟩
    rintro f ds w4 ⟨h0, h12, h3, h14, h13, h5, h24, h6, rfl, H⟩ htj htm
    have htt : (xs.take k).take k = xs.take k := by rw [List.take_take, Nat.min_self]
    rw [htt] at h6
    refine W_seq ?_
    refine W_seq ?_
    refine W_region ?_
    refine OL_y (y_move h6) (by decide) ?_
    refine OL_nil ?_
    refine W_cond rfl (fun hc6 => ?_) (fun hc6 => ?_)
    · refine W_exit ?_
      exact ⟨h14, h13, rs, v3, by rw [hold (fun h => h.2 ((knownB_iff _ _).1 hc6))]; exact hrs, h0, h12, h3, rfl, hG, H.tail⟩
    have hnk : e.kind = 1 ∧ ¬ known (xs.take k) e := ⟨hk1, fun h => by rw [(knownB_iff _ _).2 h] at hc6; cases hc6⟩
    refine W_skip ?_
    refine W_seq ?_
    refine W_region ?_
    refine OL_y (y_fieldAddr ti48 rfl ti26 rfl h5) (by decide) ?_
    refine OL_y (y_loadS (v := .int .u64 e.txn) ti26 rfl rfl (Cells.unit (H.getOwn 0 rfl) rfl)) (by decide) ?_
    refine OL_y (y_fieldAddr ti48 rfl ti3 rfl h5) (by decide) ?_
    refine OL_y (y_loadS (v := .int .i64 e.level) ti3 rfl rfl (Cells.unit (H.getOwn 0 rfl) rfl)) (by decide) ?_
    refine OL_y (y_fieldAddr ti48 rfl ti26 rfl h5) (by decide) ?_
    refine OL_y (y_loadS (v := .int .u64 e.ts) ti26 rfl rfl (Cells.unit (H.getOwn 0 rfl) rfl)) (by decide) ?_
    refine OL_y (y_build (cells := (RR0 (beginR e)).cells.toArray) ti33 pl33 rfl) (by decide) ?_
    refine OL_var (v := .agg (RR0 (beginR e)).cells.toArray) H ti33 rfl (by decide) (fun _ => rfl) rfl (by simp [Value.cells, Value.oneCell', RR.cells]) fun b9 w5 H => ?_
    refine OL_nil ?_
    have H := (H.rowNil 46 2).rowNil 50 4
    refine W_seq ?_
    refine W_seq ?_
    refine W_region ?_
    refine OL_y (y_move h0) (by decide) ?_
    refine OL_y (y_len rfl ti22 rfl) (by decide) ?_
    refine OL_y (y_move rfl) (by decide) ?_
    refine OL_nil ?_
    refine W_range (N := xs.length) (by simp [maxLen]; omega) (fun j f ds w' => ∃ x : RR, x.r = (xs.take j).foldl upd1 (beginR e) ∧ GoodR Z w j x ∧ f 0 = .slice a0 xs.length c0 ∧ f 12 = .slice a0 xs.length c0 ∧ f 3 = v3 ∧ f 14 = .int .i64 k ∧ f 13 = .int .i64 xs.length ∧ f 5 = .pointer (some ⟨be, 0, none⟩) ∧ f 9 = .pointer (some ⟨b9, 0, none⟩) ∧ f 52 = .slice a0 xs.length c0 ∧ ds = [] ∧
        Holds w' (rowS x :: rowP x :: own b9 (.cells #[.int .u64 x.r.txn, .int .i64 x.r.level, .int .i64 x.r.state, .int .u64 x.r.start, .int .u64 x.r.ts, x.vk, x.vs, x.vp] 33) :: own be (.cells #[.int .i64 e.kind, .int .u64 e.txn, .int .i64 e.level, .int .u64 e.ts, vl, vh, vs, vk] 48) :: row 33 8 v3 rs.length (rs.flatMap RR.cells) :: shr (fun k => k < w.heap.size) w :: (rs.map rowS ++ rs.map rowP)))
      ⟨RR0 (beginR e), rfl, ⟨⟨he2, he3, rfl, he4, rfl⟩, SlR.nil _ _ _ _, Els.nil _ _ _, Els.nil _ _ _, by show (0 : Nat) ≤ _; omega, by show (0 : Nat) ≤ _; omega⟩, h0, h12, h3, h14, h13, h5, rfl, rfl, rfl, H⟩ rfl rfl (by decide) (by decide) (by decide) rfl rfl ?_ rfl rfl ?_
    · rintro j f ds w6 hj ⟨x, hxr, hgx, h0, h12, h3, h14, h13, h5, h9, h52, rfl, H⟩ htj htm
      have hxj := List.getElem?_eq_getElem hj
      have hmem := List.getElem_mem hj
      obtain ⟨b2, o2, cs2, e2, hz2, hc2, hr2⟩ := hx.at hxj
      obtain ⟨ul, uh, us, uk, rfl, hy1, hy2, hy3, hy4, hlo, hhi, hse, hks⟩ := ev_cells.1 hr2
      have h8y := h8 _ hmem
      generalize xs[j] = y at hxj hr2 hc2 hy1 hy2 hy3 hy4 hlo hhi hse hks h8y
      clear hmem
      have hone2 := tEv.one hr2
      have hnx : (xs.take (j + 1)).foldl upd1 (beginR e) = upd1 x.r y := by rw [List.take_add_one, hxj, hxr]; simp
      have htx : x.r.txn = e.txn := by rw [hxr, fold_txn]; rfl
      refine W_block ?_
      refine W_seq ?_
      refine W_region ?_
      refine OL_y (y_indexAddr ti22 ti48 (h52.trans (congrArg (Value.slice · _ _) e2)) htj (by omega) (by omega)) (by decide) ?_
      refine OL_y (y_loadA ti48 rfl rfl (hc2.ext ((H.keepsAll 5 rfl Z).2 _ hz2 hc2.lt)) rfl) (by decide) ?_
      refine OL_var H ti48 rfl (by decide) (fun _ => rfl) rfl hone2 fun bY w7 H => ?_
      refine OL_nil ?_
      have H : Holds w7 (own bY (.cells #[.int .i64 y.kind, .int .u64 y.txn, .int .i64 y.level, .int .u64 y.ts, ul, uh, us, uk] 48) :: rowS x :: rowP x :: own b9 (.cells #[.int .u64 x.r.txn, .int .i64 x.r.level, .int .i64 x.r.state, .int .u64 x.r.start, .int .u64 x.r.ts, x.vk, x.vs, x.vp] 33) :: own be (.cells #[.int .i64 e.kind, .int .u64 e.txn, .int .i64 e.level, .int .u64 e.ts, vl, vh, vs, vk] 48) :: row 33 8 v3 rs.length (rs.flatMap RR.cells) :: shr (fun k => k < w.heap.size) w :: (rs.map rowS ++ rs.map rowP)) := H
      refine W_seq ?_
      refine W_seq ?_
      refine W_region ?_
      refine OL_y (y_fieldAddr ti48 rfl ti26 rfl rfl) (by decide) ?_
      refine OL_y (y_loadS (v := .int .u64 y.txn) ti26 rfl rfl (Cells.unit (H.getOwn 0 rfl) rfl)) (by decide) ?_
      refine OL_y (y_fieldAddr ti48 rfl ti26 rfl h5) (by decide) ?_
      refine OL_y (y_loadS (v := .int .u64 e.txn) ti26 rfl rfl (Cells.unit (H.getOwn 4 rfl) rfl)) (by decide) ?_
      refine OL_y (y_neq rfl rfl) (by decide) ?_
      refine OL_nil ?_
      refine W_cond rfl (fun hc => ?_) (fun hc => ?_)
      · have hc := of_decide_eq_true hc
        refine W_exit ?_
        exact ⟨htj, htm, x, by rw [hnx]; exact (if_neg (fun h => hc (h.symm.trans htx))).symm, hgx.mono, h0, h12, h3, h14, h13, h5, h9, h52, rfl, H.tail⟩
      have hyt : y.txn = e.txn := by simpa using of_decide_eq_false hc
      have hup := upd1_ref x.r y (htx.trans hyt.symm)
      refine W_skip ?_
      have h11 : ∀ (f : Fr), (upd (upd (upd (upd (upd f 58 (.pointer none)) 59 (.pointer none)) 60 (.pointer none)) 61 (.pointer none)) 62 (.pointer none)) 11 = f 11 := fun _ => rfl
      clear h11
      refine W_seq (W_cut (fun f ds w' => ∃ x1 : RR, x1.r = (if y.kind = 2 then { x.r with seen := x.r.seen ++ y.seen, spans := x.r.spans ++ [y.span] } else x.r) ∧ GoodR Z w (j + 1) x1 ∧ f 0 = .slice a0 xs.length c0 ∧ f 12 = .slice a0 xs.length c0 ∧ f 3 = v3 ∧ f 14 = .int .i64 k ∧ f 13 = .int .i64 xs.length ∧ f 5 = .pointer (some ⟨be, 0, none⟩) ∧ f 9 = .pointer (some ⟨b9, 0, none⟩) ∧ f 52 = .slice a0 xs.length c0 ∧ f 11 = .pointer (some ⟨bY, 0, none⟩) ∧ f 54 = .int .i64 j ∧ f 53 = .int .i64 xs.length ∧ ds = [] ∧ Holds w' (own bY (.cells #[.int .i64 y.kind, .int .u64 y.txn, .int .i64 y.level, .int .u64 y.ts, ul, uh, us, uk] 48) :: rowS x1 :: rowP x1 :: own b9 (.cells #[.int .u64 x1.r.txn, .int .i64 x1.r.level, .int .i64 x1.r.state, .int .u64 x1.r.start, .int .u64 x1.r.ts, x1.vk, x1.vs, x1.vp] 33) :: own be (.cells #[.int .i64 e.kind, .int .u64 e.txn, .int .i64 e.level, .int .u64 e.ts, vl, vh, vs, vk] 48) :: row 33 8 v3 rs.length (rs.flatMap RR.cells) :: shr (fun k => k < w.heap.size) w :: (rs.map rowS ++ rs.map rowP))) ?_ ?_)
      · refine W_seq ?_
        refine W_region ?_
        refine OL_y (y_fieldAddr ti48 rfl ti3 rfl rfl) (by decide) ?_
        refine OL_y (y_loadS (v := .int .i64 y.kind) ti3 rfl rfl (Cells.unit (H.getOwn 0 rfl) rfl)) (by decide) ?_
        refine OL_y (y_eql rfl rfl) (by decide) ?_
        refine OL_nil ?_
        refine W_cond rfl (fun hc2 => ?_) (fun hc2 => ?_)
        · have hk2 := of_decide_eq_true hc2
          obtain ⟨news, hsrc, hels⟩ := hse.src
          have hnl : news.length = y.seen.length * 4 := hels.1
          have hns := hgx.ns
          have hnp := hgx.np
          have hspo : ∀ u ∈ [ul, uh], u.oneCell' = true := fun u hu => hone2 u (by simp at hu ⊢; rcases hu with rfl | rfl <;> simp)
          have hul : ul.cells = #[ul] := by obtain ⟨_, _, rfl, _⟩ := hlo.len; rfl
          have huh : uh.cells = #[uh] := by obtain ⟨_, _, rfl, _⟩ := hhi.len; rfl
          refine W_seq ?_
          refine W_region ?_
          refine OL_y (y_fieldAddr ti33 rfl ti30 rfl h9) (by decide) ?_
          refine OL_y (y_loadS (v := x.vs) ti30 rfl rfl (Cells.unit (H.getOwn 3 rfl) rfl)) (by decide) ?_
          refine OL_y (y_fieldAddr ti48 rfl ti30 rfl rfl) (by decide) ?_
          refine OL_y (y_loadS (v := us) ti30 rfl rfl (Cells.unit (H.getOwn 0 rfl) rfl)) (by decide) ?_
          refine OL_c (op_append H 1 rfl rfl ti30 ti50 rfl rfl rfl rfl (hsrc _ (H.keepsAll 6 rfl _)) hnl (hels.one (by decide)) (by omega) (by simp [maxLen]; omega) (by decide) fun v70 w8 H => ?_)
          obtain ⟨a70, c70, hv70, _, _⟩ := ownsRow_slice (H.getRow 1 rfl)
          refine OL_y (y_fieldAddr ti33 rfl ti30 rfl h9) (by decide) ?_
          refine OL_c (op_store (v := v70) H 3 rfl ti30 rfl rfl (by rw [hv70]; rfl) (by simp) (by rw [hv70]; simp [Value.cells, Value.oneCell']) fun w9 H => ?_)
          refine OL_nil ?_
          have hc70 : v70.cells = #[v70] := by rw [hv70]; rfl
          rw [hc70] at H
          have H : Holds w9 (own bY (.cells #[.int .i64 y.kind, .int .u64 y.txn, .int .i64 y.level, .int .u64 y.ts, ul, uh, us, uk] 48) :: row 50 4 v70 (x.r.seen.length + y.seen.length) (x.cs ++ news) :: rowP x :: own b9 (.cells #[.int .u64 x.r.txn, .int .i64 x.r.level, .int .i64 x.r.state, .int .u64 x.r.start, .int .u64 x.r.ts, x.vk, v70, x.vp] 33) :: own be (.cells #[.int .i64 e.kind, .int .u64 e.txn, .int .i64 e.level, .int .u64 e.ts, vl, vh, vs, vk] 48) :: row 33 8 v3 rs.length (rs.flatMap RR.cells) :: shr (fun k => k < w.heap.size) w :: (rs.map rowS ++ rs.map rowP)) := H
          refine W_region ?_
          refine OL_y (y_fieldAddr ti33 rfl ti31 rfl h9) (by decide) ?_
          refine OL_y (y_loadS (v := x.vp) ti31 rfl rfl (Cells.unit (H.getOwn 3 rfl) rfl)) (by decide) ?_
          refine OL_y (y_fieldAddr ti48 rfl ti46 rfl rfl) (by decide) ?_
          refine OL_y (y_loadA (cs := [ul, uh]) ti46 rfl rfl (Cells.of (H.getOwn 0 rfl) rfl) rfl) (by decide) ?_
          refine OL_c (op_buildSlice H [.agg #[ul, uh]] ti31 ti46 rfl rfl rfl (by simp [Value.cells]) rfl rfl (by decide) fun bn w10 H => ?_)
          refine OL_c (op_append H 3 rfl rfl ti31 ti46 rfl rfl rfl rfl (Src.row (H.getRow 0 rfl)) rfl hspo (by omega) (by simp [maxLen]; omega) (by decide) fun v77 w11 H => ?_)
          obtain ⟨a77, c77, hv77, _, _⟩ := ownsRow_slice (H.getRow 3 rfl)
          refine OL_y (y_fieldAddr ti33 rfl ti31 rfl h9) (by decide) ?_
          refine OL_c (op_store (v := v77) H 4 rfl ti31 rfl rfl (by rw [hv77]; rfl) (by simp) (by rw [hv77]; simp [Value.cells, Value.oneCell']) fun w12 H => ?_)
          refine OL_nil ?_
          have hc77 : v77.cells = #[v77] := by rw [hv77]; rfl
          rw [hc77] at H
          have H : Holds w12 (row 46 2 (.slice (some ⟨bn, 0, none⟩) 1 1) 1 _ :: own bY (.cells #[.int .i64 y.kind, .int .u64 y.txn, .int .i64 y.level, .int .u64 y.ts, ul, uh, us, uk] 48) :: row 50 4 v70 (x.r.seen.length + y.seen.length) (x.cs ++ news) :: row 46 2 v77 (x.r.spans.length + 1) (x.cp ++ [ul, uh]) :: own b9 (.cells #[.int .u64 x.r.txn, .int .i64 x.r.level, .int .i64 x.r.state, .int .u64 x.r.start, .int .u64 x.r.ts, x.vk, v70, v77] 33) :: own be (.cells #[.int .i64 e.kind, .int .u64 e.txn, .int .i64 e.level, .int .u64 e.ts, vl, vh, vs, vk] 48) :: row 33 8 v3 rs.length (rs.flatMap RR.cells) :: shr (fun k => k < w.heap.size) w :: (rs.map rowS ++ rs.map rowP)) := H
          refine ⟨{ r := { x.r with seen := x.r.seen ++ y.seen, spans := x.r.spans ++ [y.span] }, vk := x.vk, vs := v70, vp := v77, cs := x.cs ++ news, cp := x.cp ++ [ul, uh] }, (if_pos hk2).symm, ?_, h0, h12, h3, h14, h13, h5, h9, h52, rfl, htj, htm, rfl, ?_⟩
          · refine ⟨hgx.wf, hgx.keys, hgx.seen.append hels, hgx.spans.snoc (sp_cells.2 ⟨_, _, rfl, hlo, hhi⟩), ?_, ?_⟩
            · simp only [List.length_append]; omega
            · simp only [List.length_append, List.length_cons, List.length_nil]; omega
          · have el : (x.r.seen ++ y.seen).length = x.r.seen.length + y.seen.length := List.length_append
            have ep : (x.r.spans ++ [y.span]).length = x.r.spans.length + 1 := by rw [List.length_append]; rfl
            simp only [rowS, rowP, el, ep]
            exact H.tail
        · have hk2 := of_decide_eq_false hc2
          refine W_skip ?_
          exact ⟨x, (if_neg hk2).symm, hgx.mono, h0, h12, h3, h14, h13, h5, h9, h52, rfl, htj, htm, rfl, H⟩
      clear hgx H
      rintro f ds w8 ⟨x1, hx1, hg1, h0, h12, h3, h14, h13, h5, h9, h52, h11, htj, htm, rfl, H⟩
      refine W_seq (W_cut (fun f ds w' => ∃ x2 : RR, x2.r = (if x1.r.state = 0 ∧ y.kind = 3 then { x1.r with state := 1, ts := y.ts, keys := y.keys } else x1.r) ∧ GoodR Z w (j + 1) x2 ∧ f 0 = .slice a0 xs.length c0 ∧ f 12 = .slice a0 xs.length c0 ∧ f 3 = v3 ∧ f 14 = .int .i64 k ∧ f 13 = .int .i64 xs.length ∧ f 5 = .pointer (some ⟨be, 0, none⟩) ∧ f 9 = .pointer (some ⟨b9, 0, none⟩) ∧ f 52 = .slice a0 xs.length c0 ∧ f 11 = .pointer (some ⟨bY, 0, none⟩) ∧ f 54 = .int .i64 j ∧ f 53 = .int .i64 xs.length ∧ ds = [] ∧ Holds w' (own bY (.cells #[.int .i64 y.kind, .int .u64 y.txn, .int .i64 y.level, .int .u64 y.ts, ul, uh, us, uk] 48) :: rowS x2 :: rowP x2 :: own b9 (.cells #[.int .u64 x2.r.txn, .int .i64 x2.r.level, .int .i64 x2.r.state, .int .u64 x2.r.start, .int .u64 x2.r.ts, x2.vk, x2.vs, x2.vp] 33) :: own be (.cells #[.int .i64 e.kind, .int .u64 e.txn, .int .i64 e.level, .int .u64 e.ts, vl, vh, vs, vk] 48) :: row 33 8 v3 rs.length (rs.flatMap RR.cells) :: shr (fun k => k < w.heap.size) w :: (rs.map rowS ++ rs.map rowP))) ?_ ?_)
      · refine W_seq (W_cut (fun f ds w' => f 0 = .slice a0 xs.length c0 ∧ f 12 = .slice a0 xs.length c0 ∧ f 3 = v3 ∧ f 14 = .int .i64 k ∧ f 13 = .int .i64 xs.length ∧ f 5 = .pointer (some ⟨be, 0, none⟩) ∧ f 9 = .pointer (some ⟨b9, 0, none⟩) ∧ f 52 = .slice a0 xs.length c0 ∧ f 11 = .pointer (some ⟨bY, 0, none⟩) ∧ f 54 = .int .i64 j ∧ f 53 = .int .i64 xs.length ∧ f 86 = .bool (decide (x1.r.state = 0 ∧ y.kind = 3)) ∧ ds = [] ∧ Holds w' (own bY (.cells #[.int .i64 y.kind, .int .u64 y.txn, .int .i64 y.level, .int .u64 y.ts, ul, uh, us, uk] 48) :: rowS x1 :: rowP x1 :: own b9 (.cells #[.int .u64 x1.r.txn, .int .i64 x1.r.level, .int .i64 x1.r.state, .int .u64 x1.r.start, .int .u64 x1.r.ts, x1.vk, x1.vs, x1.vp] 33) :: own be (.cells #[.int .i64 e.kind, .int .u64 e.txn, .int .i64 e.level, .int .u64 e.ts, vl, vh, vs, vk] 48) :: row 33 8 v3 rs.length (rs.flatMap RR.cells) :: shr (fun k => k < w.heap.size) w :: (rs.map rowS ++ rs.map rowP))) ?_ ?_)
        · refine W_region ?_
          by_cases q1 : x1.r.state = 0
          · by_cases q2 : y.kind = 3
            · refine OL_y (y_fieldAddr ti33 rfl ti3 rfl h9) (by decide) ?_
              refine OL_y (y_loadS (v := .int .i64 x1.r.state) ti3 rfl rfl (Cells.unit (H.getOwn 3 rfl) rfl)) (by decide) ?_
              refine OL_y (v := .bool true) (y_eqlT q1 rfl rfl) (by decide) ?_
              refine OL_y (v := .bool true) (y_move rfl) (by decide) ?_
              refine OL_yg rfl (by decide) rfl (y_fieldAddr ti48 rfl ti3 rfl h11) (by decide) ?_
              refine OL_yg rfl (by decide) rfl (y_loadS (v := .int .i64 y.kind) ti3 rfl rfl (Cells.unit (H.getOwn 0 rfl) rfl)) (by decide) ?_
              refine OL_yg (v := .bool true) rfl (by decide) rfl (y_eqlT q2 rfl rfl) (by decide) ?_
              refine OL_y (y_pick (b := true) (v := .bool true) rfl rfl) (by decide) ?_
              refine OL_nil ?_
              exact ⟨h0, h12, h3, h14, h13, h5, h9, h52, h11, htj, htm, by rw [decide_eq_true (show (x1.r.state = 0 ∧ y.kind = 3) from ⟨q1, q2⟩)]; rfl, rfl, H⟩
            · refine OL_y (y_fieldAddr ti33 rfl ti3 rfl h9) (by decide) ?_
              refine OL_y (y_loadS (v := .int .i64 x1.r.state) ti3 rfl rfl (Cells.unit (H.getOwn 3 rfl) rfl)) (by decide) ?_
              refine OL_y (v := .bool true) (y_eqlT q1 rfl rfl) (by decide) ?_
              refine OL_y (v := .bool true) (y_move rfl) (by decide) ?_
              refine OL_yg rfl (by decide) rfl (y_fieldAddr ti48 rfl ti3 rfl h11) (by decide) ?_
              refine OL_yg rfl (by decide) rfl (y_loadS (v := .int .i64 y.kind) ti3 rfl rfl (Cells.unit (H.getOwn 0 rfl) rfl)) (by decide) ?_
              refine OL_yg (v := .bool false) rfl (by decide) rfl (y_eqlF q2 rfl rfl) (by decide) ?_
              refine OL_y (y_pick (b := true) (v := .bool false) rfl rfl) (by decide) ?_
              refine OL_nil ?_
              exact ⟨h0, h12, h3, h14, h13, h5, h9, h52, h11, htj, htm, by rw [decide_eq_false (show ¬ (x1.r.state = 0 ∧ y.kind = 3) from fun h => q2 h.2)]; rfl, rfl, H⟩
          · refine OL_y (y_fieldAddr ti33 rfl ti3 rfl h9) (by decide) ?_
            refine OL_y (y_loadS (v := .int .i64 x1.r.state) ti3 rfl rfl (Cells.unit (H.getOwn 3 rfl) rfl)) (by decide) ?_
            refine OL_y (v := .bool false) (y_eqlF q1 rfl rfl) (by decide) ?_
            refine OL_y (v := .bool false) (y_move rfl) (by decide) ?_
            refine OL_s rfl (by decide) rfl rfl (by simp) ?_
            refine OL_s rfl (by decide) rfl rfl (by simp) ?_
            refine OL_s rfl (by decide) rfl rfl (by simp) ?_
            refine OL_y (y_pick (b := false) (v := .bool false) rfl rfl) (by decide) ?_
            refine OL_nil ?_
            exact ⟨h0, h12, h3, h14, h13, h5, h9, h52, h11, htj, htm, by rw [decide_eq_false (show ¬ (x1.r.state = 0 ∧ y.kind = 3) from fun h => q1 h.1)]; rfl, rfl, H⟩
        rintro f ds w9 ⟨h0, h12, h3, h14, h13, h5, h9, h52, h11, htj, htm, hf, rfl, H⟩
        refine W_cond hf (fun hq => ?_) (fun hq => ?_)
        · have hq := of_decide_eq_true hq
          have huk : uk.cells = #[uk] := by obtain ⟨_, _, rfl, _⟩ := hks.len; rfl
          have huk1 : uk.oneCell' = true := by obtain ⟨_, _, rfl, _⟩ := hks.len; rfl
          refine W_drawD H mixed (by kernel_rfl) [] (fun w0 w' => w'.heap[bY]? = some (.cells #[.int .i64 y.kind, .int .u64 y.txn, .int .i64 y.level, .int .u64 y.ts, ul, uh, us, uk] 48)) fun w10 H hE => ?_
          have hS : Sx [] (fun w' => w'.heap[bY]? = some (.cells #[.int .i64 y.kind, .int .u64 y.txn, .int .i64 y.level, .int .u64 y.ts, ul, uh, us, uk] 48)) (List.replicate 10 false).toArray w10 := fun _ => H.getOwn 0 rfl
          refine DA_p 0 rfl (by kernel_rfl) rfl (fun _ => y_fieldAddr ti48 rfl ti26 rfl h11) hS (by decide) fun hS => ?_
          refine DA_y (v := .int .u64 y.ts) 1 rfl (by kernel_rfl) rfl (by kernel_rfl) (fun w' h => y_loadS ti26 rfl rfl (Cells.unit h rfl)) hS (by decide) fun hS => ?_
          refine DA_p 2 rfl (by kernel_rfl) rfl (fun _ => y_fieldAddr ti48 rfl ti29 rfl h11) hS (by decide) fun hS => ?_
          refine DA_y (v := uk) 3 rfl (by kernel_rfl) rfl (by kernel_rfl) (fun w' h => y_loadS ti29 rfl rfl (Cells.unit h rfl)) hS (by decide) fun hS => ?_
          refine DA_p 4 rfl (by kernel_rfl) rfl (fun _ => y_fieldAddr ti33 rfl ti3 rfl h9) hS (by decide) fun hS => ?_
          refine DA_one 5 (by kernel_rfl) rfl (op_store (v := .int .i64 1) H 3 rfl ti3 rfl rfl rfl (by simp) (by simp [Value.cells, Value.oneCell']) fun w11 H => ⟨fun _ => H.getOwn 0 rfl, ?_⟩)
          refine DA_p 6 rfl (by kernel_rfl) rfl (fun _ => y_fieldAddr ti33 rfl ti26 rfl h9) (fun _ => H.getOwn 0 rfl) (by decide) fun _ => ?_
          refine DA_one 7 (by kernel_rfl) rfl (op_store (v := .int .u64 y.ts) H 3 rfl ti26 rfl rfl rfl (by rw [laid_size]; simp) (by simp [Value.cells, Value.oneCell']) fun w12 H => ⟨fun _ => H.getOwn 0 rfl, ?_⟩)
          refine DA_p 8 rfl (by kernel_rfl) rfl (fun _ => y_fieldAddr ti33 rfl ti29 rfl h9) (fun _ => H.getOwn 0 rfl) (by decide) fun _ => ?_
          refine DA_one 9 (by kernel_rfl) rfl (op_store (v := uk) H 3 rfl ti29 rfl rfl (by rw [huk]; rfl) (by rw [laid_size, laid_size]; simp) (by rw [huk]; simpa using huk1) fun w13 H => ⟨fun _ => H.getOwn 0 rfl, ?_⟩)
          refine DA_done (by kernel_rfl) ?_
          rw [huk] at H
          exact ⟨{ x1 with r := { x1.r with state := 1, ts := y.ts, keys := y.keys }, vk := uk }, (if_pos hq).symm, ⟨⟨hg1.wf.1, hg1.wf.2.1, rfl, hg1.wf.2.2.2.1, hy4⟩, hks, hg1.seen, hg1.spans, hg1.ns, hg1.np⟩, h0, h12, h3, h14, h13, h5, h9, h52, h11, htj, htm, rfl, H⟩
        · have hq := of_decide_eq_false hq
          refine W_skip ?_
          exact ⟨x1, (if_neg hq).symm, hg1, h0, h12, h3, h14, h13, h5, h9, h52, h11, htj, htm, rfl, H⟩
      clear H
      rintro f ds w9 ⟨x2, hx2, hg2, h0, h12, h3, h14, h13, h5, h9, h52, h11, htj, htm, rfl, H⟩
      refine W_seq (W_cut (fun f ds w' => f 0 = .slice a0 xs.length c0 ∧ f 12 = .slice a0 xs.length c0 ∧ f 3 = v3 ∧ f 14 = .int .i64 k ∧ f 13 = .int .i64 xs.length ∧ f 5 = .pointer (some ⟨be, 0, none⟩) ∧ f 9 = .pointer (some ⟨b9, 0, none⟩) ∧ f 52 = .slice a0 xs.length c0 ∧ f 11 = .pointer (some ⟨bY, 0, none⟩) ∧ f 54 = .int .i64 j ∧ f 53 = .int .i64 xs.length ∧ f 101 = .bool (decide (x2.r.state = 0 ∧ y.kind = 4)) ∧ ds = [] ∧ Holds w' (own bY (.cells #[.int .i64 y.kind, .int .u64 y.txn, .int .i64 y.level, .int .u64 y.ts, ul, uh, us, uk] 48) :: rowS x2 :: rowP x2 :: own b9 (.cells #[.int .u64 x2.r.txn, .int .i64 x2.r.level, .int .i64 x2.r.state, .int .u64 x2.r.start, .int .u64 x2.r.ts, x2.vk, x2.vs, x2.vp] 33) :: own be (.cells #[.int .i64 e.kind, .int .u64 e.txn, .int .i64 e.level, .int .u64 e.ts, vl, vh, vs, vk] 48) :: row 33 8 v3 rs.length (rs.flatMap RR.cells) :: shr (fun k => k < w.heap.size) w :: (rs.map rowS ++ rs.map rowP))) ?_ ?_)
      · refine W_region ?_
        by_cases q1 : x2.r.state = 0
        · by_cases q2 : y.kind = 4
          · refine OL_y (y_fieldAddr ti33 rfl ti3 rfl h9) (by decide) ?_
            refine OL_y (y_loadS (v := .int .i64 x2.r.state) ti3 rfl rfl (Cells.unit (H.getOwn 3 rfl) rfl)) (by decide) ?_
            refine OL_y (v := .bool true) (y_eqlT q1 rfl rfl) (by decide) ?_
            refine OL_y (v := .bool true) (y_move rfl) (by decide) ?_
            refine OL_yg rfl (by decide) rfl (y_fieldAddr ti48 rfl ti3 rfl h11) (by decide) ?_
            refine OL_yg rfl (by decide) rfl (y_loadS (v := .int .i64 y.kind) ti3 rfl rfl (Cells.unit (H.getOwn 0 rfl) rfl)) (by decide) ?_
            refine OL_yg (v := .bool true) rfl (by decide) rfl (y_eqlT q2 rfl rfl) (by decide) ?_
            refine OL_y (y_pick (b := true) (v := .bool true) rfl rfl) (by decide) ?_
            refine OL_nil ?_
            exact ⟨h0, h12, h3, h14, h13, h5, h9, h52, h11, htj, htm, by rw [decide_eq_true (show (x2.r.state = 0 ∧ y.kind = 4) from ⟨q1, q2⟩)]; rfl, rfl, H⟩
          · refine OL_y (y_fieldAddr ti33 rfl ti3 rfl h9) (by decide) ?_
            refine OL_y (y_loadS (v := .int .i64 x2.r.state) ti3 rfl rfl (Cells.unit (H.getOwn 3 rfl) rfl)) (by decide) ?_
            refine OL_y (v := .bool true) (y_eqlT q1 rfl rfl) (by decide) ?_
            refine OL_y (v := .bool true) (y_move rfl) (by decide) ?_
            refine OL_yg rfl (by decide) rfl (y_fieldAddr ti48 rfl ti3 rfl h11) (by decide) ?_
            refine OL_yg rfl (by decide) rfl (y_loadS (v := .int .i64 y.kind) ti3 rfl rfl (Cells.unit (H.getOwn 0 rfl) rfl)) (by decide) ?_
            refine OL_yg (v := .bool false) rfl (by decide) rfl (y_eqlF q2 rfl rfl) (by decide) ?_
            refine OL_y (y_pick (b := true) (v := .bool false) rfl rfl) (by decide) ?_
            refine OL_nil ?_
            exact ⟨h0, h12, h3, h14, h13, h5, h9, h52, h11, htj, htm, by rw [decide_eq_false (show ¬ (x2.r.state = 0 ∧ y.kind = 4) from fun h => q2 h.2)]; rfl, rfl, H⟩
        · refine OL_y (y_fieldAddr ti33 rfl ti3 rfl h9) (by decide) ?_
          refine OL_y (y_loadS (v := .int .i64 x2.r.state) ti3 rfl rfl (Cells.unit (H.getOwn 3 rfl) rfl)) (by decide) ?_
          refine OL_y (v := .bool false) (y_eqlF q1 rfl rfl) (by decide) ?_
          refine OL_y (v := .bool false) (y_move rfl) (by decide) ?_
          refine OL_s rfl (by decide) rfl rfl (by simp) ?_
          refine OL_s rfl (by decide) rfl rfl (by simp) ?_
          refine OL_s rfl (by decide) rfl rfl (by simp) ?_
          refine OL_y (y_pick (b := false) (v := .bool false) rfl rfl) (by decide) ?_
          refine OL_nil ?_
          exact ⟨h0, h12, h3, h14, h13, h5, h9, h52, h11, htj, htm, by rw [decide_eq_false (show ¬ (x2.r.state = 0 ∧ y.kind = 4) from fun h => q1 h.1)]; rfl, rfl, H⟩
      rintro f ds w9 ⟨h0, h12, h3, h14, h13, h5, h9, h52, h11, htj, htm, hf, rfl, H⟩
      refine W_cond hf (fun hq => ?_) (fun hq => ?_)
      · have hq := of_decide_eq_true hq
        have huk : uk.cells = #[uk] := by obtain ⟨_, _, rfl, _⟩ := hks.len; rfl
        have huk1 : uk.oneCell' = true := by obtain ⟨_, _, rfl, _⟩ := hks.len; rfl
        refine W_drawD H mixed (by kernel_rfl) [] (fun w0 w' => w'.heap[bY]? = some (.cells #[.int .i64 y.kind, .int .u64 y.txn, .int .i64 y.level, .int .u64 y.ts, ul, uh, us, uk] 48)) fun w10 H hE => ?_
        have hS : Sx [] (fun w' => w'.heap[bY]? = some (.cells #[.int .i64 y.kind, .int .u64 y.txn, .int .i64 y.level, .int .u64 y.ts, ul, uh, us, uk] 48)) (List.replicate 10 false).toArray w10 := fun _ => H.getOwn 0 rfl
        refine DA_p 0 rfl (by kernel_rfl) rfl (fun _ => y_fieldAddr ti48 rfl ti26 rfl h11) hS (by decide) fun hS => ?_
        refine DA_y (v := .int .u64 y.ts) 1 rfl (by kernel_rfl) rfl (by kernel_rfl) (fun w' h => y_loadS ti26 rfl rfl (Cells.unit h rfl)) hS (by decide) fun hS => ?_
        refine DA_p 2 rfl (by kernel_rfl) rfl (fun _ => y_fieldAddr ti48 rfl ti29 rfl h11) hS (by decide) fun hS => ?_
        refine DA_y (v := uk) 3 rfl (by kernel_rfl) rfl (by kernel_rfl) (fun w' h => y_loadS ti29 rfl rfl (Cells.unit h rfl)) hS (by decide) fun hS => ?_
        refine DA_p 4 rfl (by kernel_rfl) rfl (fun _ => y_fieldAddr ti33 rfl ti3 rfl h9) hS (by decide) fun hS => ?_
        refine DA_one 5 (by kernel_rfl) rfl (op_store (v := .int .i64 2) H 3 rfl ti3 rfl rfl rfl (by simp) (by simp [Value.cells, Value.oneCell']) fun w11 H => ⟨fun _ => H.getOwn 0 rfl, ?_⟩)
        refine DA_p 6 rfl (by kernel_rfl) rfl (fun _ => y_fieldAddr ti33 rfl ti26 rfl h9) (fun _ => H.getOwn 0 rfl) (by decide) fun _ => ?_
        refine DA_one 7 (by kernel_rfl) rfl (op_store (v := .int .u64 y.ts) H 3 rfl ti26 rfl rfl rfl (by rw [laid_size]; simp) (by simp [Value.cells, Value.oneCell']) fun w12 H => ⟨fun _ => H.getOwn 0 rfl, ?_⟩)
        refine DA_p 8 rfl (by kernel_rfl) rfl (fun _ => y_fieldAddr ti33 rfl ti29 rfl h9) (fun _ => H.getOwn 0 rfl) (by decide) fun _ => ?_
        refine DA_one 9 (by kernel_rfl) rfl (op_store (v := uk) H 3 rfl ti29 rfl rfl (by rw [huk]; rfl) (by rw [laid_size, laid_size]; simp) (by rw [huk]; simpa using huk1) fun w13 H => ⟨fun _ => H.getOwn 0 rfl, ?_⟩)
        refine DA_done (by kernel_rfl) ?_
        rw [huk] at H
        exact ⟨htj, htm, { x2 with r := { x2.r with state := 2, ts := y.ts, keys := y.keys }, vk := uk }, by rw [hnx, hup]; simp only [← hx1, ← hx2]; exact (if_pos hq).symm, ⟨⟨hg2.wf.1, hg2.wf.2.1, rfl, hg2.wf.2.2.2.1, hy4⟩, hks, hg2.seen, hg2.spans, hg2.ns, hg2.np⟩, h0, h12, h3, h14, h13, h5, h9, h52, rfl, H.tail⟩
      · have hq := of_decide_eq_false hq
        refine W_skip ?_
        exact ⟨htj, htm, x2, by rw [hnx, hup]; simp only [← hx1, ← hx2]; exact (if_neg hq).symm, hg2, h0, h12, h3, h14, h13, h5, h9, h52, rfl, H.tail⟩
    rintro f ds w6 ⟨x, hxr, hgx, h0, h12, h3, h14, h13, h5, h9, h52, rfl, H⟩ htj htm
    rw [List.take_length] at hxr
    obtain ⟨av3, cv3, hv3, _, _⟩ := ownsRow_slice (H.getRow 4 rfl)
    have hxone : ∀ u ∈ x.cells, u.oneCell' = true := by
      obtain ⟨p1, p2, hp, _⟩ := hgx.keys.len
      obtain ⟨q1, q2, hq, _⟩ := ownsRow_slice (H.getRow 0 rfl)
      obtain ⟨s1, s2, hs, _⟩ := ownsRow_slice (H.getRow 1 rfl)
      intro u hu
      simp only [RR.cells, hp, hq, hs, List.mem_cons, List.not_mem_nil, or_false] at hu
      rcases hu with rfl | rfl | rfl | rfl | rfl | rfl | rfl | rfl <;> rfl
    refine W_region ?_
    refine OL_y (y_move h3) (by decide) ?_
    refine OL_y (y_loadA (cs := x.cells) ti33 rfl h9 (Cells.of (H.getOwn 2 rfl) rfl) rfl) (by decide) ?_
    refine OL_c (op_buildSlice H [.agg x.cells.toArray] ti27 ti33 rfl rfl rfl (by simp [Value.cells]) rfl rfl (by decide) fun b w7 H => ?_)
    refine OL_c (op_append H 5 rfl rfl ti27 ti33 rfl rfl rfl rfl (Src.row (H.getRow 0 rfl)) rfl (by simpa [Value.cells] using hxone) (by omega) (by simp [maxLen]; omega) (by decide) fun v3' w8 H => ?_)
    refine OL_y (y_assign rfl) (by decide) ?_
    refine OL_nil ?_
    have H : Holds w8 (row 33 8 (.slice (some ⟨b, 0, none⟩) 1 1) 1 _ :: rowS x :: rowP x :: own b9 (.cells #[.int .u64 x.r.txn, .int .i64 x.r.level, .int .i64 x.r.state, .int .u64 x.r.start, .int .u64 x.r.ts, x.vk, x.vs, x.vp] 33) :: own be (.cells #[.int .i64 e.kind, .int .u64 e.txn, .int .i64 e.level, .int .u64 e.ts, vl, vh, vs, vk] 48) :: row 33 8 v3' (rs.length + 1) (rs.flatMap RR.cells ++ x.cells) :: shr (fun k => k < w.heap.size) w :: (rs.map rowS ++ rs.map rowP)) := H
    have H := H.sub (.cons _ (.cons_cons _ (.cons_cons _ (.cons _ (.cons _ (.refl _))))))
    have H := H.perm (perm_in _ _ _ _ _ _)
    refine ⟨h14, h13, rs ++ [x], v3', ?_, h0, h12, rfl, rfl, ?_, ?_⟩
    · rw [hnew hnk, List.map_append, hrs, List.map_cons, List.map_nil, hxr]; rfl
    · intro z hz
      rcases List.mem_append.1 hz with hz | hz
      · exact hG z hz
      · simp at hz; subst hz; exact hgx
    · rw [List.length_append, List.flatMap_append, List.map_append, List.map_append]
      simpa using H
  · rintro f ds w1 ⟨rs, v3, hrs, h0, h12, h3, rfl, hG, H⟩ hti htn
    rw [told_all] at hrs
    have hrl : rs.length ≤ 30 := by have := told_len xs xs.length; rw [told_all, ← hrs, List.length_map] at this; omega
    refine W_seq ?_
    refine W_region ?_
    refine OL_y (y_move h3) (by decide) ?_
    refine OL_y (y_assign rfl) (by decide) ?_
    refine OL_nil ?_
    refine W_ret ?_
    show RetOK _ _ _ _ _ _
    exact ret1 (v := v3) Try.results11 rfl ⟨v3, rfl, by rw [← hrs]; exact runs_out H hG h30 hrl, H.ext_of 1 rfl⟩
end Go.Proofs.Ytelgegodeifbiaa
