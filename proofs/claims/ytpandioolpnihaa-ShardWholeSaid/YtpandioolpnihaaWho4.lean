/- Part 4 of the texts that a law of the seat leans on: the ground of the walks, the facts of the program, its functions one by one. -/
import Derived.Test.YtpandioolpnihaaWho3
/- Put into the reference's store: plain. -/
namespace Go.Proofs.Ytpandioolpnihaa
open Go Go.Wk
set_option linter.unusedVariables false
set_option linter.unusedSimpArgs false

/-- What the reference's loop lays out. -/
def putL (u : Ver) (done : Bool) : List Ver → List Ver × Bool
  | [] => ([], done)
  | v :: vs => ((if !done && decide (v.ts ≤ u.ts) then [u] else []) ++ ((if v.ts ≠ u.ts then [v] else []) ++ (putL u (done || decide (v.ts ≤ u.ts)) vs).1), (putL u (done || decide (v.ts ≤ u.ts)) vs).2)
theorem putL_done (u : Ver) : ∀ vs : List Ver, (∀ v ∈ vs, v.ts ≠ u.ts) → putL u true vs = (vs, true)
  | [], _ => rfl
  | v :: vs, h => by
    have h1 := putL_done u vs fun x hx => h x (by simp [hx])
    have h2 := h v (by simp)
    simp [putL, h1, h2]
theorem posV_lt {v : Ver} {vs : List Ver} {ts : Int} (h : ts < v.ts) : posV (v :: vs) ts = posV vs ts + 1 := by
  unfold posV; rw [List.takeWhile_cons, if_pos (by simpa using h)]; rfl
theorem posV_ge {v : Ver} {vs : List Ver} {ts : Int} (h : ¬ ts < v.ts) : posV (v :: vs) ts = 0 := by
  unfold posV; rw [List.takeWhile_cons, if_neg (by simpa using h)]; rfl
theorem putL_putV (u : Ver) : ∀ vs : List Ver, Sd vs → (if (putL u false vs).2 then (putL u false vs).1 else (putL u false vs).1 ++ [u]) = putV vs u
  | [], _ => rfl
  | v :: vs, h => by
    obtain ⟨hv, hs⟩ := List.pairwise_cons.1 h
    by_cases h1 : u.ts < v.ts
    · have ih := putL_putV u vs hs
      have hn : ¬ v.ts ≤ u.ts := by omega
      have hne : v.ts ≠ u.ts := by omega
      have e1 : putV (v :: vs) u = v :: putV vs u := by
        unfold putV hasV
        rw [posV_lt h1]
        simp only [List.getElem?_cons_succ, List.set_cons_succ, List.take_succ_cons, List.drop_succ_cons]
        split <;> rfl
      rw [e1, ← ih]
      simp only [putL, hn, decide_false, Bool.and_false, Bool.or_false, hne, ne_eq, not_false_eq_true, if_true]
      split <;> simp_all
    · have hle : v.ts ≤ u.ts := by omega
      have hd := putL_done u vs fun x hx => by have := hv x hx; omega
      have hp := posV_ge (vs := vs) h1
      unfold putV hasV
      rw [hp]
      by_cases h2 : v.ts = u.ts
      · simp [putL, hle, hd, h2]
      · simp [putL, hle, hd, h2]
end Go.Proofs.Ytpandioolpnihaa

/- Put into the reference's store. -/
namespace Go.Proofs.Ytpandioolpnihaa
open Go Go.Wk
set_option linter.unusedVariables false
set_option linter.unusedSimpArgs false

theorem putL_snoc (u : Ver) (v : Ver) : ∀ (d : Bool) (vs : List Ver), putL u d (vs ++ [v]) = ((putL u d vs).1 ++ ((if !(putL u d vs).2 && decide (v.ts ≤ u.ts) then [u] else []) ++ (if v.ts ≠ u.ts then [v] else [])), (putL u d vs).2 || decide (v.ts ≤ u.ts))
  | d, [] => by simp [putL]
  | d, x :: vs => by
    have ih := putL_snoc u v (d || decide (x.ts ≤ u.ts)) vs
    simp only [List.cons_append, putL, ih, List.append_assoc]
    rfl
theorem putL_len (u : Ver) : ∀ (d : Bool) (vs : List Ver), (putL u d vs).1.length ≤ 2 * vs.length
  | d, [] => by simp [putL]
  | d, x :: vs => by
    have ih := putL_len u (d || decide (x.ts ≤ u.ts)) vs
    have h1 : (if !d && decide (x.ts ≤ u.ts) then [u] else []).length ≤ 1 := by split <;> simp
    have h2 : (if x.ts ≠ u.ts then [x] else []).length ≤ 1 := by split <;> simp
    simp only [putL, List.length_append, List.length_cons]
    omega
theorem RRep.vers {w0 Wp : World} {F : Nat → Prop} {R : List RE} {a : Abs} (h : RRep w0 F Wp R a) {e : RE} (he : e ∈ R) : SlR tVer 72 (Dz w0 F) Wp e.vs e.c.vers := by
  obtain ⟨vk, vs, is, e1, -, h1, -⟩ := cl_cells.1 (h.good e he)
  injection e1 with _ e1; injection e1 with e1 _; rw [e1]; exact h1
theorem RRep.int {w0 Wp : World} {F : Nat → Prop} {R : List RE} {a : Abs} (h : RRep w0 F Wp R a) {e : RE} (he : e ∈ R) : tVer.R (Dz w0 F) Wp [.int .u64 e.c.intent.ts, .int .u64 e.c.intent.txn, .bool e.c.intent.dead, e.iv, e.ik] e.c.intent := by
  obtain ⟨vk, vs, is, e1, -, -, h1⟩ := cl_cells.1 (h.good e he)
  injection e1 with _ e1; injection e1 with _ e1; rw [e1]; exact h1
/-- A cell is replaced. -/
theorem RRep.rep {w0 Wp : World} {F : Nat → Prop} {R : List RE} {a : Abs} (h : RRep w0 F Wp R a) {i : Nat} {e : RE} (hi : R[i]? = some e) (e' : RE) (hk : e'.k = e.k) (hg : tCl.R (Dz w0 F) Wp e'.cs e'.c) (a' : Abs) (h1 : a'.v e.k = e'.c.vers) (h2 : a'.i e.k = e'.c.intent) (h3 : ∀ k, k ≠ e.k → a'.v k = a.v k ∧ a'.i k = a.i k) :
    RRep w0 F Wp (R.set i e') a' := by
  obtain ⟨hlt, he⟩ := List.getElem?_eq_some_iff.1 hi
  have hsp : R = R.take i ++ e :: R.drop (i + 1) := by rw [← he, ← List.drop_eq_getElem_cons hlt, List.take_append_drop]
  have hset : R.set i e' = R.take i ++ e' :: R.drop (i + 1) := by rw [List.set_eq_take_append_cons_drop, if_pos hlt]
  have hkeys : (R.set i e').map RE.k = R.map RE.k := by
    rw [hset]; conv => rhs; rw [hsp]
    rw [List.map_append, List.map_append, List.map_cons, List.map_cons, hk]
  have hnd : (R.map RE.k).Nodup := rise_nodup bLt_irrefl h.rise
  have hne : ∀ x, x ∈ R.take i ++ R.drop (i + 1) → x.k ≠ e.k := by
    intro x hx hxk
    rw [hsp, List.map_append, List.map_cons] at hnd
    have h1 := List.nodup_append.1 hnd
    rcases List.mem_append.1 hx with hx | hx
    · exact h1.2.2 _ (List.mem_map.2 ⟨x, hx, rfl⟩) _ (by simp) hxk
    · exact (List.nodup_cons.1 h1.2.1).1 (List.mem_map.2 ⟨x, hx, hxk⟩)
  have hm : ∀ x, x ∈ R.set i e' → x = e' ∨ (x ∈ R ∧ x.k ≠ e.k) := fun x hx => by
    rw [hset] at hx
    rcases List.mem_append.1 hx with hx | hx
    · exact .inr ⟨List.mem_of_mem_take hx, hne x (List.mem_append.2 (.inl hx))⟩
    · rcases List.mem_cons.1 hx with hx | hx
      · exact .inl hx
      · exact .inr ⟨List.mem_of_mem_drop hx, hne x (List.mem_append.2 (.inr hx))⟩
  refine ⟨h.base, fun x hx => ?_, by rw [hkeys]; exact h.rise, fun x hx => ?_, fun k hk' => ?_⟩
  · rcases hm x hx with rfl | ⟨hx, _⟩
    · exact hg
    · exact h.good x hx
  · rcases hm x hx with rfl | ⟨hx, hxk⟩
    · rw [hk]; exact ⟨h1, h2⟩
    · have := h3 _ hxk; rw [this.1, this.2]; exact h.va x hx
  · rw [hkeys] at hk'
    have := h3 k fun e1 => hk' (by rw [e1]; exact List.mem_map.2 ⟨e, List.mem_of_getElem? hi, rfl⟩)
    rw [this.1, this.2]; exact h.vn k hk'

set_option maxHeartbeats 16000000 in
theorem f36_calls {w0 w Wp : World} {F : Nat → Prop} {b m : Nat} {v : Value} {R : List RE} {a : Abs} {L : List Atom} {vk : Value} {key : Key} {cs : List Value} {u : Ver} (H : Holds w (rAt b v R F Wp w0 L)) (hr : RRep w0 F Wp R a) (hk : SlR (tInt .u8) 1 (Dz w0 F) Wp vk key) (hu : tVer.R (Dz w0 F) Wp cs u) (ha : a.Ok m) (hm : m ≤ 40000) (hl : R.length ≤ 39000) :
    Calls Try.prog 36 [.pointer (some ⟨b, 0, none⟩), vk, .agg cs.toArray].toArray w fun e w' => e = .returned (.tuple #[]) ∧ ∃ (v' : Value) (R' : List RE) (F' : Nat → Prop) (Wp' : World), Holds w' (rAt b v' R' F' Wp' w0 L) ∧ RRep w0 F' Wp' R' (a.put (kb key) u) ∧ Grow w0 F Wp F' Wp' ∧ R'.length ≤ R.length + 1 := by
  obtain ⟨vv, vt, rfl, hi1, hi2, hv3, hv4⟩ := ver_cells.1 hu
  refine calls_of_W' Try.func36 rfl Try.ntmps36 rfl ?_
  refine W_seq ?_
  refine W_region ?_
  refine OL_c (op_box (v := .agg #[.int .u64 u.ts, .int .u64 u.txn, .bool u.dead, vv, vt]) H rfl (by decide) fun b5 w0_0 H => ?_)
  have H : Holds w0_0 (rAt b v R F Wp w0 (own b5 (.cells #[.int .u64 u.ts, .int .u64 u.txn, .bool u.dead, vv, vt] 32) :: L)) := H.perm ((List.perm_middle (l₁ := [_, _, _, _])).symm)
  refine OL_nil ?_
  refine W_seq ?_
  refine W_region ?_
  refine OL_y (y_move rfl) (by decide) ?_
  refine OL_y (y_move rfl) (by decide) ?_
  refine OL_c (op_call 64 en64 rfl [.pointer (some ⟨b, 0, none⟩), vk] rfl (by decide) ((f64_calls H hr hk hl).mono ?_))
  rintro e w1_2 ⟨i, v1, R1, F1, W1, rfl, H, hr1, g1, ⟨e, hie, hek⟩, hl1⟩
  refine ⟨_, rfl, ?_⟩
  refine OL_y (y_assign rfl) (by decide) ?_
  refine OL_nil ?_
  refine W_seq ?_
  refine W_region ?_
  refine OL_y (y_assign rfl) (by decide) ?_
  refine OL_nil ?_
  refine W_seq ?_
  refine W_region ?_
  refine OL_y (v := .bool false) (y_assign rfl) (by decide) ?_
  refine OL_nil ?_
  refine W_seq ?_
  refine W_seq ?_
  obtain ⟨hilt, hie'⟩ := List.getElem?_eq_some_iff.1 hie
  have hem := List.mem_of_getElem? hie
  obtain ⟨av, cv, rfl, hlv, hmv⟩ := H.rowLen 1 rfl
  obtain ⟨br, cr, hvr, -, -⟩ := ownsRow_cells (H.getRow 1 rfl) (by omega)
  have hC := rowElAt RE.len (H.getRow 1 rfl) (b := br) (by rw [hvr]; rfl) hie
  have hSv := hr1.vers hem
  have hvv := (hr1.va e hem).1
  rw [hek] at hvv
  obtain ⟨hsd, hvm⟩ := ha (kb key)
  rw [hvv] at hsd hvm
  obtain ⟨sa, cs1, hvs, hls, hms⟩ := hSv.len
  rw [hvs] at hSv
  have hu1 := g1.R hu
  refine W_region ?_
  refine OL_y (y_move rfl) (by decide) ?_
  refine OL_y (y_nilCheck rfl ⟨_, rfl⟩) (by decide) ?_
  refine OL_y (y_fieldAddr ti66 rfl ti49 rfl rfl) (by decide) ?_
  refine OL_y (y_loadS (v := .slice av R1.length cv) ti49 rfl rfl (Cells.unit (H.getOwn 0 rfl) rfl)) (by decide) ?_
  refine OL_y (y_move rfl) (by decide) ?_
  refine OL_y (y_indexAddr ti49 ti55 hvr rfl (by omega) (by omega)) (by decide) ?_
  refine OL_y (y_fieldAddr ti55 rfl ti53 rfl rfl) (by decide) ?_
  refine OL_y (y_loadS (v := .slice sa e.c.vers.length cs1) ti53 rfl rfl (hvs ▸ hC.take 1 rfl)) (by decide) ?_
  refine OL_y (y_len rfl ti53 rfl) (by decide) ?_
  refine OL_y (y_move rfl) (by decide) ?_
  refine OL_nil ?_
  have H := H.rowNil 32 5
  refine W_range (N := e.c.vers.length) (by simp [maxLen]; omega) (fun k f ds w' => ∃ (v7 : Value) (cs7 : List Value), f 0 = .pointer (some ⟨b, 0, none⟩) ∧ f 5 = .pointer (some ⟨b5, 0, none⟩) ∧ f 6 = .int .i64 (i : Nat) ∧ f 7 = v7 ∧ f 8 = .bool (putL u false (e.c.vers.take k)).2 ∧ f 21 = .slice sa e.c.vers.length cs1 ∧ ds = [] ∧ Els tVer (Dz w0 F1) W1 cs7 (putL u false (e.c.vers.take k)).1 ∧
      Holds w' (row 32 5 v7 (putL u false (e.c.vers.take k)).1.length cs7 :: rAt b (.slice av R1.length cv) R1 F1 W1 w0 (own b5 (.cells #[.int .u64 u.ts, .int .u64 u.txn, .bool u.dead, vv, vt] 32) :: L)))
      ⟨.slice none 0 0, [], rfl, rfl, rfl, rfl, rfl, rfl, rfl, Els.nil _ _ _, H⟩
      rfl rfl (by decide) (by decide) (by decide) rfl rfl ?_ rfl rfl ?_
  · rintro k f ds w3 hk3 ⟨v7, cs7, h0, h5, h6, h7, h8, h21, rfl, hE, H⟩ hti htn
    have hxk := List.getElem?_eq_getElem hk3
    obtain ⟨b3, o3, cs3, e3, hz3, hc3, hr3⟩ := hSv.at hxk
    have hc3' := hc3.ext ((H.dz 3 4 rfl rfl hr1.base).2 _ hz3 hc3.lt)
    have htk : putL u false (e.c.vers.take (k + 1)) = putL u false (e.c.vers.take k ++ [e.c.vers[k]]) := by rw [List.take_add_one, hxk]; rfl
    rw [putL_snoc] at htk
    have hpl := putL_len u false (e.c.vers.take k)
    rw [List.length_take] at hpl
    generalize e.c.vers[k] = x at *
    generalize putL u false (e.c.vers.take k) = p at *
    obtain ⟨pl, pd⟩ := p
    simp only at h8 hE H htk hpl
    obtain ⟨xv, xk, rfl, hx1, hx2, hx3, hx4⟩ := ver_cells.1 hr3
    have h21' := h21.trans (congrArg (Value.slice · _ _) e3)
    refine W_block ?_
    refine W_seq ?_
    refine W_region ?_
    refine OL_y (y_indexAddr ti53 ti32 h21' hti (by omega) (by omega)) (by decide) ?_
    refine OL_y (y_loadA (cs := [.int .u64 x.ts, .int .u64 x.txn, .bool x.dead, xv, xk]) ti32 rfl rfl hc3' rfl) (by decide) ?_
    refine OL_var (v := .agg #[.int .u64 x.ts, .int .u64 x.txn, .bool x.dead, xv, xk]) H ti32 rfl (by decide) (fun _ => rfl) rfl (tVer.one hr3) fun b10 w6_2 H => ?_
    refine OL_nil ?_
    refine W_seq ?_
    refine W_seq ?_
    rcases pd with _ | _
    · refine W_region ?_
      refine OL_y (v := .bool false) (y_move h8) (by decide) ?_
      refine OL_y (v := .bool true) (y_not (b := false) rfl) (by decide) ?_
      refine OL_y (v := .bool true) (y_move rfl) (by decide) ?_
      refine OL_yg rfl (by decide) rfl (y_fieldAddr ti32 rfl ti24 rfl rfl) (by decide) ?_
      refine OL_yg rfl (by decide) rfl (y_loadS (v := .int .u64 x.ts) ti24 rfl rfl (Cells.unit (H.getOwn 0 rfl) rfl)) (by decide) ?_
      refine OL_yg rfl (by decide) rfl (y_fieldAddr ti32 rfl ti24 rfl h5) (by decide) ?_
      refine OL_yg rfl (by decide) rfl (y_loadS (v := .int .u64 u.ts) ti24 rfl rfl (Cells.unit (H.getOwn 6 rfl) rfl)) (by decide) ?_
      refine OL_yg rfl (by decide) rfl (y_leq rfl rfl) (by decide) ?_
      refine OL_y (y_pick (b := true) rfl rfl) (by decide) ?_
      refine OL_nil ?_
      refine W_cond rfl (fun hc => ?_) (fun hc => ?_)
      · have hle := of_decide_eq_true hc
        refine W_seq ?_
        refine W_region ?_
        refine OL_y (y_move h7) (by decide) ?_
        refine OL_y (y_loadA (cs := [.int .u64 u.ts, .int .u64 u.txn, .bool u.dead, vv, vt]) ti32 rfl h5 (Cells.of (H.getOwn 6 rfl) rfl) rfl) (by decide) ?_
        refine OL_c (op_buildSlice H [.agg #[.int .u64 u.ts, .int .u64 u.txn, .bool u.dead, vv, vt]] ti53 ti32 rfl rfl rfl (by simp [Value.cells]) rfl rfl (by decide) fun b38 w8_2 H => ?_)
        refine OL_c (op_append H 2 rfl rfl ti53 ti32 rfl rfl rfl rfl (Src.row (H.getRow 0 rfl)) rfl (by intro c hc; exact tVer.one hu1 c (by simpa [Value.cells] using hc)) (by omega) (by simp [maxLen]; omega) (by decide) fun v39 w8_3 H => ?_)
        have H := H.tail
        refine OL_y (y_assign rfl) (by decide) ?_
        refine OL_nil ?_
        refine W_region ?_
        refine OL_y (v := .bool true) (y_assign rfl) (by decide) ?_
        refine OL_nil ?_
        refine W_seq ?_
        refine W_region ?_
        refine OL_y (y_fieldAddr ti32 rfl ti24 rfl rfl) (by decide) ?_
        refine OL_y (y_loadS (v := .int .u64 x.ts) ti24 rfl rfl (Cells.unit (H.getOwn 0 rfl) rfl)) (by decide) ?_
        refine OL_y (y_fieldAddr ti32 rfl ti24 rfl h5) (by decide) ?_
        refine OL_y (y_loadS (v := .int .u64 u.ts) ti24 rfl rfl (Cells.unit (H.getOwn 6 rfl) rfl)) (by decide) ?_
        refine OL_y (y_neq rfl rfl) (by decide) ?_
        refine OL_nil ?_
        refine W_cond rfl (fun hc => ?_) (fun hc => ?_)
        · refine W_region ?_
          refine OL_y (y_move rfl) (by decide) ?_
          refine OL_y (y_loadA (cs := [.int .u64 x.ts, .int .u64 x.txn, .bool x.dead, xv, xk]) ti32 rfl rfl (Cells.of (H.getOwn 0 rfl) rfl) rfl) (by decide) ?_
          refine OL_c (op_buildSlice H [.agg #[.int .u64 x.ts, .int .u64 x.txn, .bool x.dead, xv, xk]] ti53 ti32 rfl rfl rfl (by simp [Value.cells]) rfl rfl (by decide) fun b47 w11_2 H => ?_)
          refine OL_c (op_append H 2 rfl rfl ti53 ti32 rfl rfl rfl rfl (Src.row (H.getRow 0 rfl)) rfl (by intro c hc; exact tVer.one hr3 c (by simpa [Value.cells] using hc)) (by omega) (by simp [maxLen]; omega) (by decide) fun v48 w11_3 H => ?_)
          refine OL_y (y_assign rfl) (by decide) ?_
          refine OL_nil ?_
          have hne := of_decide_eq_true hc
          refine ⟨hti, htn, ?_⟩
          have e2 : putL u false (e.c.vers.take (k + 1)) = (pl ++ [u] ++ [x], true) := by rw [htk]; simp [hle, hne]
          refine ⟨v48, _, h0, h5, h6, rfl, by rw [e2]; rfl, h21, rfl, by rw [e2]; exact (hE.snoc hu1).snoc hr3, ?_⟩
          rw [e2, List.length_append, List.length_append]; exact H.tail.tail
        · refine W_skip ?_
          have hne := of_decide_eq_false hc
          have e2 : putL u false (e.c.vers.take (k + 1)) = (pl ++ [u], true) := by rw [htk]; simp [hle, hne]
          refine ⟨hti, htn, v39, _, h0, h5, h6, rfl, by rw [e2]; rfl, h21, rfl, by rw [e2]; exact hE.snoc hu1, ?_⟩
          rw [e2, List.length_append]; exact H.tail
      · have hle := of_decide_eq_false hc
        refine W_skip ?_
        refine W_seq ?_
        refine W_region ?_
        refine OL_y (y_fieldAddr ti32 rfl ti24 rfl rfl) (by decide) ?_
        refine OL_y (y_loadS (v := .int .u64 x.ts) ti24 rfl rfl (Cells.unit (H.getOwn 0 rfl) rfl)) (by decide) ?_
        refine OL_y (y_fieldAddr ti32 rfl ti24 rfl h5) (by decide) ?_
        refine OL_y (y_loadS (v := .int .u64 u.ts) ti24 rfl rfl (Cells.unit (H.getOwn 6 rfl) rfl)) (by decide) ?_
        refine OL_y (y_neq rfl rfl) (by decide) ?_
        refine OL_nil ?_
        refine W_cond rfl (fun hc => ?_) (fun hc => ?_)
        · refine W_region ?_
          refine OL_y (y_move h7) (by decide) ?_
          refine OL_y (y_loadA (cs := [.int .u64 x.ts, .int .u64 x.txn, .bool x.dead, xv, xk]) ti32 rfl rfl (Cells.of (H.getOwn 0 rfl) rfl) rfl) (by decide) ?_
          refine OL_c (op_buildSlice H [.agg #[.int .u64 x.ts, .int .u64 x.txn, .bool x.dead, xv, xk]] ti53 ti32 rfl rfl rfl (by simp [Value.cells]) rfl rfl (by decide) fun b47 w11_2 H => ?_)
          refine OL_c (op_append H 2 rfl rfl ti53 ti32 rfl rfl rfl rfl (Src.row (H.getRow 0 rfl)) rfl (by intro c hc; exact tVer.one hr3 c (by simpa [Value.cells] using hc)) (by omega) (by simp [maxLen]; omega) (by decide) fun v48 w11_3 H => ?_)
          refine OL_y (y_assign rfl) (by decide) ?_
          refine OL_nil ?_
          have hne := of_decide_eq_true hc
          have e2 : putL u false (e.c.vers.take (k + 1)) = (pl ++ [x], false) := by rw [htk]; simp [hle, hne]
          refine ⟨hti, htn, v48, _, h0, h5, h6, rfl, by rw [e2]; exact h8, h21, rfl, by rw [e2]; exact hE.snoc hr3, ?_⟩
          rw [e2, List.length_append]; exact H.tail.tail
        · refine W_skip ?_
          have hne := of_decide_eq_false hc
          have e2 : putL u false (e.c.vers.take (k + 1)) = (pl, false) := by rw [htk]; simp [hle, hne]
          refine ⟨hti, htn, v7, _, h0, h5, h6, h7, by rw [e2]; exact h8, h21, rfl, by rw [e2]; exact hE, ?_⟩
          rw [e2]; exact H.tail
    · refine W_region ?_
      refine OL_y (v := .bool true) (y_move h8) (by decide) ?_
      refine OL_y (v := .bool false) (y_not (b := true) rfl) (by decide) ?_
      refine OL_y (v := .bool false) (y_move rfl) (by decide) ?_
      refine OL_s rfl (by decide) rfl rfl (by simp) ?_
      refine OL_s rfl (by decide) rfl rfl (by simp) ?_
      refine OL_s rfl (by decide) rfl rfl (by simp) ?_
      refine OL_s rfl (by decide) rfl rfl (by simp) ?_
      refine OL_s rfl (by decide) rfl rfl (by simp) ?_
      refine OL_y (y_pick (b := false) (v := .bool false) rfl rfl) (by decide) ?_
      refine OL_nil ?_
      refine W_condf rfl ?_
      refine W_skip ?_
      refine W_seq ?_
      refine W_region ?_
      refine OL_y (y_fieldAddr ti32 rfl ti24 rfl rfl) (by decide) ?_
      refine OL_y (y_loadS (v := .int .u64 x.ts) ti24 rfl rfl (Cells.unit (H.getOwn 0 rfl) rfl)) (by decide) ?_
      refine OL_y (y_fieldAddr ti32 rfl ti24 rfl h5) (by decide) ?_
      refine OL_y (y_loadS (v := .int .u64 u.ts) ti24 rfl rfl (Cells.unit (H.getOwn 6 rfl) rfl)) (by decide) ?_
      refine OL_y (y_neq rfl rfl) (by decide) ?_
      refine OL_nil ?_
      refine W_cond rfl (fun hc => ?_) (fun hc => ?_)
      · refine W_region ?_
        refine OL_y (y_move h7) (by decide) ?_
        refine OL_y (y_loadA (cs := [.int .u64 x.ts, .int .u64 x.txn, .bool x.dead, xv, xk]) ti32 rfl rfl (Cells.of (H.getOwn 0 rfl) rfl) rfl) (by decide) ?_
        refine OL_c (op_buildSlice H [.agg #[.int .u64 x.ts, .int .u64 x.txn, .bool x.dead, xv, xk]] ti53 ti32 rfl rfl rfl (by simp [Value.cells]) rfl rfl (by decide) fun b47 w11_2 H => ?_)
        refine OL_c (op_append H 2 rfl rfl ti53 ti32 rfl rfl rfl rfl (Src.row (H.getRow 0 rfl)) rfl (by intro c hc; exact tVer.one hr3 c (by simpa [Value.cells] using hc)) (by omega) (by simp [maxLen]; omega) (by decide) fun v48 w11_3 H => ?_)
        refine OL_y (y_assign rfl) (by decide) ?_
        refine OL_nil ?_
        have hne := of_decide_eq_true hc
        have e2 : putL u false (e.c.vers.take (k + 1)) = (pl ++ [x], true) := by rw [htk]; simp [hne]
        refine ⟨hti, htn, v48, _, h0, h5, h6, rfl, by rw [e2]; exact h8, h21, rfl, by rw [e2]; exact hE.snoc hr3, ?_⟩
        rw [e2, List.length_append]; exact H.tail.tail
      · refine W_skip ?_
        have hne := of_decide_eq_false hc
        have e2 : putL u false (e.c.vers.take (k + 1)) = (pl, true) := by rw [htk]; simp [hne]
        refine ⟨hti, htn, v7, _, h0, h5, h6, h7, by rw [e2]; exact h8, h21, rfl, by rw [e2]; exact hE, ?_⟩
        rw [e2]; exact H.tail
  · rintro f ds w3 ⟨v7, cs7, h0, h5, h6, h7, h8, h21, rfl, hE, H⟩ hti htn
    rw [List.take_length] at hE H h8
    have hpl := putL_len u false e.c.vers
    have hput := putL_putV u e.c.vers hsd
    refine W_seq ?_
    refine W_seq ?_
    rcases hd : (putL u false e.c.vers).2 with _ | _
    · rw [hd] at h8
      simp only [hd, Bool.false_eq_true, if_false] at hput
      refine W_region ?_
      refine OL_y (v := .bool false) (y_move h8) (by decide) ?_
      refine OL_y (v := .bool true) (y_not (b := false) rfl) (by decide) ?_
      refine OL_nil ?_
      refine W_cut (fun f ds w' => ∃ (v7 : Value) (cs7 : List Value), f 0 = .pointer (some ⟨b, 0, none⟩) ∧ f 6 = .int .i64 (i : Nat) ∧ f 7 = v7 ∧ ds = [] ∧ Els tVer (Dz w0 F1) W1 cs7 (putV e.c.vers u) ∧ Holds w' (row 32 5 v7 (putV e.c.vers u).length cs7 :: rAt b (.slice av R1.length cv) R1 F1 W1 w0 (own b5 (.cells #[.int .u64 u.ts, .int .u64 u.txn, .bool u.dead, vv, vt] 32) :: L))) ?_ ?_
      · refine W_condt rfl ?_
        refine W_region ?_
        refine OL_y (y_move h7) (by decide) ?_
        refine OL_y (y_loadA (cs := [.int .u64 u.ts, .int .u64 u.txn, .bool u.dead, vv, vt]) ti32 rfl h5 (Cells.of (H.getOwn 5 rfl) rfl) rfl) (by decide) ?_
        refine OL_c (op_buildSlice H [.agg #[.int .u64 u.ts, .int .u64 u.txn, .bool u.dead, vv, vt]] ti53 ti32 rfl rfl rfl (by simp [Value.cells]) rfl rfl (by decide) fun b54 w14_2 H => ?_)
        refine OL_c (op_append H 1 rfl rfl ti53 ti32 rfl rfl rfl rfl (Src.row (H.getRow 0 rfl)) rfl (by intro c hc; exact tVer.one hu1 c (by simpa [Value.cells] using hc)) (by omega) (by simp [maxLen]; omega) (by decide) fun v55 w14_3 H => ?_)
        have H := H.tail
        refine OL_y (y_assign rfl) (by decide) ?_
        refine OL_nil ?_
        exact ⟨v55, _, h0, h6, rfl, rfl, hput ▸ hE.snoc hu1, by rw [← hput, List.length_append]; exact H⟩
      · rintro f ds w14 ⟨v7, cs7, h0, h6, h7, rfl, hE, H⟩
        obtain ⟨a7, c7, rfl, hl7, hm7⟩ := H.rowLen 0 rfl
        obtain ⟨br2, cr2, hvr2, -, -⟩ := ownsRow_cells (H.getRow 2 rfl) (by omega)
        refine W_region ?_
        refine OL_y (y_move h0) (by decide) ?_
        refine OL_y (y_nilCheck rfl ⟨_, rfl⟩) (by decide) ?_
        refine OL_y (y_fieldAddr ti66 rfl ti49 rfl rfl) (by decide) ?_
        refine OL_y (y_loadS (v := .slice av R1.length cv) ti49 rfl rfl (Cells.unit (H.getOwn 1 rfl) rfl)) (by decide) ?_
        refine OL_y (y_move h6) (by decide) ?_
        refine OL_y (y_move h7) (by decide) ?_
        refine OL_y (y_indexAddr ti49 ti55 hvr2 rfl (by omega) (by omega)) (by decide) ?_
        refine OL_y (y_fieldAddr ti55 rfl ti53 rfl rfl) (by decide) ?_
        refine OL_c (op_storeRow (o := 0 + i * 7 + 1) H 2 rfl (by rw [hvr2]; rfl) ti53 rfl rfl rfl (by rw [flat_len RE.len]; omega) rfl fun w15_8 H => ?_)
        refine OL_nil ?_
        show RetOK _ _ _ _ _ _
        obtain ⟨e', he'⟩ : ∃ e' : RE, e' = ⟨e.vk, .slice a7 (putV e.c.vers u).length c7, e.iv, e.ik, ⟨e.c.key, putV e.c.vers u, e.c.intent⟩⟩ := ⟨_, rfl⟩
        have hpv := put_len e.c.vers u
        have H : Holds w15_8 (row 32 5 (.slice a7 (putV e.c.vers u).length c7) (putV e.c.vers u).length cs7 :: own b (.cells #[.slice av R1.length cv] 66) :: row 55 7 (.slice av R1.length cv) R1.length ((R1.flatMap RE.cs).set (0 + i * 7 + 1) (.slice a7 (putV e.c.vers u).length c7)) :: exc F1 W1 :: shr (fun k => k < w0.heap.size) w0 :: own b5 (.cells #[.int .u64 u.ts, .int .u64 u.txn, .bool u.dead, vv, vt] 32) :: L) := H
        rw [Nat.zero_add, flat_set RE.len R1 i 1 e e' _ (by decide) hie (by rw [he']; rfl)] at H
        have hkd := H.dz 3 4 rfl rfl hr1.base
        have hS7 : SlR tVer 72 (Dz w0 fun k => F1 k ∨ (Value.slice a7 (putV e.c.vers u).length c7).ownBlock = some k) w15_8 (.slice a7 (putV e.c.vers u).length c7) (putV e.c.vers u) := SlR.ofRow (H.getRow 0 rfl) (by decide) ((hE.keeps hkd).mono fun k _ hk => hk.imp id .inl) (fun k hk => .inr (.inr hk)) (by omega)
        obtain ⟨H, g2⟩ := H.poolX rfl 2 3 rfl rfl hr1.base
        have hr2 := hr1.grow g2
        have hg2 := hr2.good e hem
        obtain ⟨_, _, _, eq0, hq1, -, hq3⟩ := cl_cells.1 hg2
        injection eq0 with eq1 eq0; injection eq0 with _ eq0
        subst eq1 eq0
        have hgood : tCl.R (Dz w0 fun k => F1 k ∨ (Value.slice a7 (putV e.c.vers u).length c7).ownBlock = some k) w15_8 e'.cs e'.c := by rw [he']; exact cl_cells.2 ⟨_, _, _, rfl, hq1, hS7, hq3⟩
        have hr3 := hr2.rep hie e' (by rw [he']) hgood (a.put (kb key) u) (by rw [he', hek]; show (if _ then _ else _) = _; rw [if_pos rfl, hvv]) (by rw [he']; exact (hr1.va e hem).2) fun k hk => ⟨if_neg (by rw [← hek]; exact hk), rfl⟩
        have H := H.perm (List.perm_middle (l₁ := [_, _, _, _]))
        refine ret0 Try.results36 ⟨rfl, .slice av R1.length cv, R1.set i e', _, w15_8, ?_, hr3, g1.trans g2, by rw [List.length_set]; exact hl1⟩
        show Holds w15_8 (own b _ :: row 55 7 _ (R1.set i e').length _ :: _)
        rw [List.length_set]; exact H.tail
    · rw [hd] at h8
      simp only [hd, if_true] at hput
      refine W_region ?_
      refine OL_y (v := .bool true) (y_move h8) (by decide) ?_
      refine OL_y (v := .bool false) (y_not (b := true) rfl) (by decide) ?_
      refine OL_nil ?_
      refine W_cut (fun f ds w' => ∃ (v7 : Value) (cs7 : List Value), f 0 = .pointer (some ⟨b, 0, none⟩) ∧ f 6 = .int .i64 (i : Nat) ∧ f 7 = v7 ∧ ds = [] ∧ Els tVer (Dz w0 F1) W1 cs7 (putV e.c.vers u) ∧ Holds w' (row 32 5 v7 (putV e.c.vers u).length cs7 :: rAt b (.slice av R1.length cv) R1 F1 W1 w0 (own b5 (.cells #[.int .u64 u.ts, .int .u64 u.txn, .bool u.dead, vv, vt] 32) :: L))) ?_ ?_
      · refine W_condf rfl ?_
        refine W_skip ?_
        exact ⟨v7, cs7, h0, h6, h7, rfl, hput ▸ hE, hput ▸ H⟩
      · rintro f ds w14 ⟨v7, cs7, h0, h6, h7, rfl, hE, H⟩
        obtain ⟨a7, c7, rfl, hl7, hm7⟩ := H.rowLen 0 rfl
        obtain ⟨br2, cr2, hvr2, -, -⟩ := ownsRow_cells (H.getRow 2 rfl) (by omega)
        refine W_region ?_
        refine OL_y (y_move h0) (by decide) ?_
        refine OL_y (y_nilCheck rfl ⟨_, rfl⟩) (by decide) ?_
        refine OL_y (y_fieldAddr ti66 rfl ti49 rfl rfl) (by decide) ?_
        refine OL_y (y_loadS (v := .slice av R1.length cv) ti49 rfl rfl (Cells.unit (H.getOwn 1 rfl) rfl)) (by decide) ?_
        refine OL_y (y_move h6) (by decide) ?_
        refine OL_y (y_move h7) (by decide) ?_
        refine OL_y (y_indexAddr ti49 ti55 hvr2 rfl (by omega) (by omega)) (by decide) ?_
        refine OL_y (y_fieldAddr ti55 rfl ti53 rfl rfl) (by decide) ?_
        refine OL_c (op_storeRow (o := 0 + i * 7 + 1) H 2 rfl (by rw [hvr2]; rfl) ti53 rfl rfl rfl (by rw [flat_len RE.len]; omega) rfl fun w15_8 H => ?_)
        refine OL_nil ?_
        show RetOK _ _ _ _ _ _
        obtain ⟨e', he'⟩ : ∃ e' : RE, e' = ⟨e.vk, .slice a7 (putV e.c.vers u).length c7, e.iv, e.ik, ⟨e.c.key, putV e.c.vers u, e.c.intent⟩⟩ := ⟨_, rfl⟩
        have hpv := put_len e.c.vers u
        have H : Holds w15_8 (row 32 5 (.slice a7 (putV e.c.vers u).length c7) (putV e.c.vers u).length cs7 :: own b (.cells #[.slice av R1.length cv] 66) :: row 55 7 (.slice av R1.length cv) R1.length ((R1.flatMap RE.cs).set (0 + i * 7 + 1) (.slice a7 (putV e.c.vers u).length c7)) :: exc F1 W1 :: shr (fun k => k < w0.heap.size) w0 :: own b5 (.cells #[.int .u64 u.ts, .int .u64 u.txn, .bool u.dead, vv, vt] 32) :: L) := H
        rw [Nat.zero_add, flat_set RE.len R1 i 1 e e' _ (by decide) hie (by rw [he']; rfl)] at H
        have hkd := H.dz 3 4 rfl rfl hr1.base
        have hS7 : SlR tVer 72 (Dz w0 fun k => F1 k ∨ (Value.slice a7 (putV e.c.vers u).length c7).ownBlock = some k) w15_8 (.slice a7 (putV e.c.vers u).length c7) (putV e.c.vers u) := SlR.ofRow (H.getRow 0 rfl) (by decide) ((hE.keeps hkd).mono fun k _ hk => hk.imp id .inl) (fun k hk => .inr (.inr hk)) (by omega)
        obtain ⟨H, g2⟩ := H.poolX rfl 2 3 rfl rfl hr1.base
        have hr2 := hr1.grow g2
        have hg2 := hr2.good e hem
        obtain ⟨_, _, _, eq0, hq1, -, hq3⟩ := cl_cells.1 hg2
        injection eq0 with eq1 eq0; injection eq0 with _ eq0
        subst eq1 eq0
        have hgood : tCl.R (Dz w0 fun k => F1 k ∨ (Value.slice a7 (putV e.c.vers u).length c7).ownBlock = some k) w15_8 e'.cs e'.c := by rw [he']; exact cl_cells.2 ⟨_, _, _, rfl, hq1, hS7, hq3⟩
        have hr3 := hr2.rep hie e' (by rw [he']) hgood (a.put (kb key) u) (by rw [he', hek]; show (if _ then _ else _) = _; rw [if_pos rfl, hvv]) (by rw [he']; exact (hr1.va e hem).2) fun k hk => ⟨if_neg (by rw [← hek]; exact hk), rfl⟩
        have H := H.perm (List.perm_middle (l₁ := [_, _, _, _]))
        refine ret0 Try.results36 ⟨rfl, .slice av R1.length cv, R1.set i e', _, w15_8, ?_, hr3, g1.trans g2, by rw [List.length_set]; exact hl1⟩
        show Holds w15_8 (own b _ :: row 55 7 _ (R1.set i e').length _ :: _)
        rw [List.length_set]; exact H.tail
end Go.Proofs.Ytpandioolpnihaa

/- Intend and Intents of the reference's store. -/
namespace Go.Proofs.Ytpandioolpnihaa
open Go Go.Wk
set_option linter.unusedVariables false
set_option linter.unusedSimpArgs false

/-- The intent of a cell is written over. -/
theorem flat_int {R : List RE} {i : Nat} {e e' : RE} (hi : R[i]? = some e) (us : List Value) (hus : us.length = 5) (hcs : e'.cs = [e.vk, e.vs] ++ us) : (R.flatMap RE.cs).take (i * 7 + 2) ++ us ++ (R.flatMap RE.cs).drop (i * 7 + 2 + 5) = (R.set i e').flatMap RE.cs := by
  have hlt := (List.getElem?_eq_some_iff.1 hi).1
  have h1 := flat_at RE.len hi
  rw [← flat_setEl RE.len R i e' hlt, hcs, List.take_add]
  have h2 : ((R.flatMap RE.cs).drop (i * 7)).take 2 = [e.vk, e.vs] := by
    have : ((R.flatMap RE.cs).drop (i * 7)).take 2 = (((R.flatMap RE.cs).drop (i * 7)).take 7).take 2 := by rw [List.take_take]; rfl
    rw [this]
    have h3 : ((R.flatMap RE.cs).drop (i * 7)).take 7 = e.cs := h1
    rw [h3]; rfl
  rw [h2]
  simp only [List.append_assoc, Nat.add_assoc]
theorem RRep.setI {w0 Wp : World} {F : Nat → Prop} {R : List RE} {a : Abs} (h : RRep w0 F Wp R a) {i : Nat} {e : RE} (hi : R[i]? = some e) {u : Ver} {vv vt : Value} (hu : tVer.R (Dz w0 F) Wp [.int .u64 u.ts, .int .u64 u.txn, .bool u.dead, vv, vt] u) :
    RRep w0 F Wp (R.set i ⟨e.vk, e.vs, vv, vt, ⟨e.c.key, e.c.vers, u⟩⟩) (a.setI e.k u) := by
  have hem := List.mem_of_getElem? hi
  have hg2 := h.good e hem
  obtain ⟨_, _, _, eq0, hq1, hq2, -⟩ := cl_cells.1 hg2
  injection eq0 with eq1 eq0; injection eq0 with eq2 eq0
  subst eq1 eq2
  exact h.rep hi ⟨e.vk, e.vs, vv, vt, ⟨e.c.key, e.c.vers, u⟩⟩ rfl (cl_cells.2 ⟨_, _, _, rfl, hq1, hq2, hu⟩) (a.setI e.k u) (h.va e hem).1 (if_pos rfl) fun k hk => ⟨rfl, if_neg hk⟩
theorem RRep.has {w0 Wp : World} {F : Nat → Prop} {R : List RE} {a : Abs} (h : RRep w0 F Wp R a) {k : ByteArray} (hh : hasR R k = true) : ∃ e, R[posR R k]? = some e ∧ e.k = k ∧ e ∈ R ∧ a.v k = e.c.vers ∧ a.i k = e.c.intent := by
  unfold hasR at hh
  cases hg : R[posR R k]? with
  | none => rw [hg] at hh; cases hh
  | some e =>
    rw [hg] at hh
    have hk : e.k = k := by simpa using hh
    have hm := List.mem_of_getElem? hg
    have := h.va e hm
    rw [hk] at this
    exact ⟨e, rfl, hk, hm, this.1, this.2⟩
theorem RRep.hasnt {w0 Wp : World} {F : Nat → Prop} {R : List RE} {a : Abs} (h : RRep w0 F Wp R a) {k : ByteArray} (hh : hasR R k = false) : a.v k = [] ∧ a.i k = noV := h.vn k (notin_of_has h.rise hh)

set_option maxHeartbeats 16000000 in
theorem f38_calls {w0 w Wp : World} {F : Nat → Prop} {b : Nat} {v : Value} {R : List RE} {a : Abs} {L : List Atom} {vk : Value} {key : Key} {cs : List Value} {u : Ver} (H : Holds w (rAt b v R F Wp w0 L)) (hr : RRep w0 F Wp R a) (hk : SlR (tInt .u8) 1 (Dz w0 F) Wp vk key) (hu : tVer.R (Dz w0 F) Wp cs u) (hl : R.length ≤ 39000) :
    Calls Try.prog 38 [.pointer (some ⟨b, 0, none⟩), vk, .agg cs.toArray].toArray w fun e w' => e = .returned (.int .i64 (if intendR a (kb key) u then 0 else 150)) ∧ ∃ (v' : Value) (R' : List RE) (F' : Nat → Prop) (Wp' : World), Holds w' (rAt b v' R' F' Wp' w0 L) ∧ RRep w0 F' Wp' R' (a.intend (kb key) u) ∧ Grow w0 F Wp F' Wp' ∧ R'.length ≤ R.length + 1 := by
  obtain ⟨vv, vt, rfl, hi1, hi2, hv3, hv4⟩ := ver_cells.1 hu
  refine calls_of_W' Try.func38 rfl Try.ntmps38 rfl ?_
  refine W_seq ?_
  refine W_region ?_
  refine OL_c (op_box (v := .agg #[.int .u64 u.ts, .int .u64 u.txn, .bool u.dead, vv, vt]) H rfl (by decide) fun b5 w0_0 H => ?_)
  have H : Holds w0_0 (rAt b v R F Wp w0 (own b5 (.cells #[.int .u64 u.ts, .int .u64 u.txn, .bool u.dead, vv, vt] 32) :: L)) := H.perm ((List.perm_middle (l₁ := [_, _, _, _])).symm)
  refine OL_y (y_assign rfl) (by decide) ?_
  refine OL_nil ?_
  refine W_seq ?_
  refine W_seq ?_
  by_cases hz : u.txn = 0
  · refine W_region ?_
    refine OL_y (y_fieldAddr ti32 rfl ti24 rfl rfl) (by decide) ?_
    refine OL_y (y_loadS (v := .int .u64 u.txn) ti24 rfl rfl (Cells.unit (H.getOwn 4 rfl) rfl)) (by decide) ?_
    refine OL_y (v := .bool true) (y_eqlT hz rfl rfl) (by decide) ?_
    refine OL_nil ?_
    refine W_condt rfl ?_
    refine W_seq ?_
    refine W_region ?_
    refine OL_y (y_assign rfl) (by decide) ?_
    refine OL_nil ?_
    refine W_ret ?_
    show RetOK _ _ _ _ _ _
    have hR : intendR a (kb key) u = false := by unfold intendR; simp [hz]
    refine ret1 (v := .int .i64 150) Try.results38 rfl ⟨by rw [hR]; rfl, v, R, F, Wp, H.sub (.cons_cons _ (.cons_cons _ (.cons_cons _ (.cons_cons _ (.cons _ (.refl _)))))), ?_, Grow.refl hr.base, by omega⟩
    unfold Abs.intend; rw [hR]; exact hr
  · refine W_region ?_
    refine OL_y (y_fieldAddr ti32 rfl ti24 rfl rfl) (by decide) ?_
    refine OL_y (y_loadS (v := .int .u64 u.txn) ti24 rfl rfl (Cells.unit (H.getOwn 4 rfl) rfl)) (by decide) ?_
    refine OL_y (v := .bool false) (y_eqlF hz rfl rfl) (by decide) ?_
    refine OL_nil ?_
    refine W_condf rfl ?_
    refine W_skip ?_
    refine W_seq ?_
    refine W_seq ?_
    refine W_region ?_
    refine OL_y (y_move rfl) (by decide) ?_
    refine OL_y (y_move rfl) (by decide) ?_
    refine OL_c (op_call 47 en47 rfl [.pointer (some ⟨b, 0, none⟩), vk] rfl (by decide) ((f47_calls H hr hk (by omega)).mono ?_))
    rintro e w3_2 ⟨rfl, hE47⟩
    refine ⟨_, rfl, ?_⟩
    have H := H.ext0 hE47
    refine OL_y (y_move rfl) (by decide) ?_
    refine OL_y (y_extract (v := .int .i64 (posR R (kb key))) rfl rfl) (by decide) ?_
    refine OL_y (y_extract (v := .bool (hasR R (kb key))) rfl rfl) (by decide) ?_
    refine OL_y (y_assign rfl) (by decide) ?_
    refine OL_y (y_assign rfl) (by decide) ?_
    refine OL_nil ?_
    obtain ⟨qq, hh⟩ : ∃ qq, hasR R (kb key) = qq := ⟨_, rfl⟩
    rw [hh]
    obtain ⟨av, cv, hv, hlv, hmv⟩ := H.rowLen 1 rfl
    subst hv
    refine W_seq ?_
    rcases qq with _ | _
    · refine W_drawQ H mixed (by kernel_rfl) (by kernel_rfl) fun wd4 H => ?_
      have hy := (hr.hasnt hh).2
      refine QL_y (y_move (v := .bool false) rfl) (by decide) ?_
      refine QL_y (v := .bool false) (y_move rfl) (by decide) ?_
      refine QL_s rfl (by decide) rfl rfl (by simp) ?_
      refine QL_s rfl (by decide) rfl rfl (by simp) ?_
      refine QL_s rfl (by decide) rfl rfl (by simp) ?_
      refine QL_s rfl (by decide) rfl rfl (by simp) ?_
      refine QL_s rfl (by decide) rfl rfl (by simp) ?_
      refine QL_s rfl (by decide) rfl rfl (by simp) ?_
      refine QL_s rfl (by decide) rfl rfl (by simp) ?_
      refine QL_s rfl (by decide) rfl rfl (by simp) ?_
      refine QL_s rfl (by decide) rfl rfl (by simp) ?_
      refine QL_s rfl (by decide) rfl rfl (by simp) ?_
      refine QL_y (y_pick (b := false) (v := .bool false) rfl rfl) (by decide) ?_
      refine QL_y (v := .bool false) (y_move rfl) (by decide) ?_
      refine QL_s rfl (by decide) rfl rfl (by simp) ?_
      refine QL_s rfl (by decide) rfl rfl (by simp) ?_
      refine QL_s rfl (by decide) rfl rfl (by simp) ?_
      refine QL_s rfl (by decide) rfl rfl (by simp) ?_
      refine QL_s rfl (by decide) rfl rfl (by simp) ?_
      refine QL_s rfl (by decide) rfl rfl (by simp) ?_
      refine QL_s rfl (by decide) rfl rfl (by simp) ?_
      refine QL_s rfl (by decide) rfl rfl (by simp) ?_
      refine QL_s rfl (by decide) rfl rfl (by simp) ?_
      refine QL_s rfl (by decide) rfl rfl (by simp) ?_
      refine QL_s rfl (by decide) rfl rfl (by simp) ?_
      refine QL_s rfl (by decide) rfl rfl (by simp) ?_
      refine QL_y (y_pick (b := false) (v := .bool false) rfl rfl) (by decide) ?_
      refine QL_nil ?_
      refine W_condf rfl ?_
      refine W_skip ?_
      refine W_seq ?_
      have hR : intendR a (kb key) u = true := by unfold intendR; simp [hz, hy, noV]
      refine W_region ?_
      refine OL_y (y_move rfl) (by decide) ?_
      refine OL_y (y_move rfl) (by decide) ?_
      refine OL_c (op_call 64 en64 rfl [.pointer (some ⟨b, 0, none⟩), vk] rfl (by decide) ((f64_calls H hr hk hl).mono ?_))
      rintro e w6_2 ⟨i, v1, R1, F1, W1, rfl, H, hr1, g1, ⟨e1, hie, hek1⟩, hl1⟩
      refine ⟨_, rfl, ?_⟩
      obtain ⟨av1, cv1, hv1, hlv1, hmv1⟩ := H.rowLen 1 rfl
      subst hv1
      have hlt1 := (List.getElem?_eq_some_iff.1 hie).1
      obtain ⟨br1, cr1, hvr1, -, -⟩ := ownsRow_cells (H.getRow 1 rfl) (by omega)
      have hu1 := g1.R hu
      refine OL_y (y_assign rfl) (by decide) ?_
      refine OL_nil ?_
      refine W_seq ?_
      refine W_drawD H mixed (by kernel_rfl) [8] (fun wq w' => Holds w' (rAt b (.slice av1 R1.length cv1) R1 F1 W1 w0 (own b5 (.cells #[.int .u64 u.ts, .int .u64 u.txn, .bool u.dead, vv, vt] 32) :: L))) fun wd7 H hEd => ?_
      have hS : ∀ {ls : Array Bool}, Sx [8] (fun w' => Holds w' (rAt b (.slice av1 R1.length cv1) R1 F1 W1 w0 (own b5 (.cells #[.int .u64 u.ts, .int .u64 u.txn, .bool u.dead, vv, vt] 32) :: L))) ls wd7 := fun {_} _ => H
      refine DA_p 0 rfl (by kernel_rfl) rfl (fun _ => y_move rfl) hS (by decide) fun hS => ?_
      refine DA_p 1 rfl (by kernel_rfl) rfl (fun _ => y_nilCheck rfl ⟨_, rfl⟩) hS (by decide) fun hS => ?_
      refine DA_p 2 rfl (by kernel_rfl) rfl (fun _ => y_fieldAddr ti66 rfl ti49 rfl rfl) hS (by decide) fun hS => ?_
      refine DA_y 3 rfl (by kernel_rfl) rfl (by kernel_rfl) (fun w' h => y_loadS (v := .slice av1 R1.length cv1) ti49 rfl rfl (Cells.unit (h.getOwn 0 rfl) rfl)) hS (by decide) fun hS => ?_
      refine DA_p 4 rfl (by kernel_rfl) rfl (fun _ => y_move rfl) hS (by decide) fun hS => ?_
      refine DA_y 5 rfl (by kernel_rfl) rfl (by kernel_rfl) (fun w' h => y_loadA (cs := [.int .u64 u.ts, .int .u64 u.txn, .bool u.dead, vv, vt]) ti32 rfl rfl (Cells.of (h.getOwn 4 rfl) rfl) rfl) hS (by decide) fun hS => ?_
      refine DA_p 6 rfl (by kernel_rfl) rfl (fun _ => y_indexAddr ti49 ti55 hvr1 rfl (by omega) (by omega)) hS (by decide) fun hS => ?_
      refine DA_p 7 rfl (by kernel_rfl) rfl (fun _ => y_fieldAddr ti55 rfl ti32 rfl rfl) hS (by decide) fun hS => ?_
      refine DA_one 8 (by kernel_rfl) rfl (op_storeRowA (u := .agg #[.int .u64 u.ts, .int .u64 u.txn, .bool u.dead, vv, vt]) (o := 0 + i * 7 + 2) H 1 rfl (by rw [hvr1]; rfl) ti32 rfl rfl rfl (by rw [flat_len RE.len]; omega) (tVer.one hu1) fun w7_8 H => ⟨fun h => absurd (h 8 (by simp)) (by decide), ?_⟩)
      refine DA_done (by kernel_rfl) ?_
      refine W_seq ?_
      refine W_region ?_
      refine OL_y (y_assign rfl) (by decide) ?_
      refine OL_nil ?_
      refine W_ret ?_
      show RetOK _ _ _ _ _ _
      have H : Holds w7_8 (own b (.cells #[.slice av1 R1.length cv1] 66) :: row 55 7 (.slice av1 R1.length cv1) R1.length ((R1.flatMap RE.cs).take (0 + i * 7 + 2) ++ [.int .u64 u.ts, .int .u64 u.txn, .bool u.dead, vv, vt] ++ (R1.flatMap RE.cs).drop (0 + i * 7 + 2 + 5)) :: exc F1 W1 :: shr (fun k => k < w0.heap.size) w0 :: own b5 (.cells #[.int .u64 u.ts, .int .u64 u.txn, .bool u.dead, vv, vt] 32) :: L) := H
      obtain ⟨e2, he2⟩ : ∃ e2 : RE, e2 = ⟨e1.vk, e1.vs, vv, vt, ⟨e1.c.key, e1.c.vers, u⟩⟩ := ⟨_, rfl⟩
      rw [Nat.zero_add, flat_int (e' := e2) hie _ rfl (by rw [he2]; rfl)] at H
      have hr2 := hr1.setI hie hu1
      rw [← he2, hek1] at hr2
      refine ret1 (v := .int .i64 0) Try.results38 rfl ⟨by rw [hR]; rfl, .slice av1 R1.length cv1, R1.set i e2, F1, W1, ?_, ?_, g1, by rw [List.length_set]; exact hl1⟩
      · show Holds w7_8 (own b _ :: row 55 7 _ (R1.set i e2).length _ :: _)
        rw [List.length_set]; exact H.sub (.cons_cons _ (.cons_cons _ (.cons_cons _ (.cons_cons _ (.cons _ (.refl _))))))
      · unfold Abs.intend; rw [hR]; exact hr2
    · by_cases hy : (a.i (kb key)).txn = 0
      · refine W_drawQ H mixed (by kernel_rfl) (by kernel_rfl) fun wd4 H => ?_
        obtain ⟨e, hge, hek, hem, -, hei⟩ := hr.has hh
        have hlt := (List.getElem?_eq_some_iff.1 hge).1
        obtain ⟨br, cr, hvr, -, -⟩ := ownsRow_cells (H.getRow 1 rfl) (by omega)
        have hC := rowElAt RE.len (H.getRow 1 rfl) (b := br) (by rw [hvr]; rfl) hge
        rw [hei] at hy
        refine QL_y (y_move (v := .bool true) rfl) (by decide) ?_
        refine QL_y (v := .bool true) (y_move rfl) (by decide) ?_
        refine QL_yg rfl (by decide) rfl (y_move rfl) (by decide) ?_
        refine QL_yg rfl (by decide) rfl (y_nilCheck rfl ⟨_, rfl⟩) (by decide) ?_
        refine QL_yg rfl (by decide) rfl (y_fieldAddr ti66 rfl ti49 rfl rfl) (by decide) ?_
        refine QL_yg rfl (by decide) rfl (y_loadS (v := .slice av R.length cv) ti49 rfl rfl (Cells.unit (H.getOwn 0 rfl) rfl)) (by decide) ?_
        refine QL_yg rfl (by decide) rfl (y_move rfl) (by decide) ?_
        refine QL_yg rfl (by decide) rfl (y_indexAddr ti49 ti55 hvr rfl (by omega) (by omega)) (by decide) ?_
        refine QL_yg rfl (by decide) rfl (y_fieldAddr ti55 rfl ti32 rfl rfl) (by decide) ?_
        refine QL_yg rfl (by decide) rfl (y_fieldAddr ti32 rfl ti24 rfl rfl) (by decide) ?_
        refine QL_yg rfl (by decide) rfl (y_loadS (v := .int .u64 e.c.intent.txn) ti24 rfl rfl (hC.take 3 rfl)) (by decide) ?_
        refine QL_yg (v := .bool false) rfl (by decide) rfl (y_neqF hy rfl rfl) (by decide) ?_
        refine QL_y (y_pick (b := true) (v := .bool false) rfl rfl) (by decide) ?_
        refine QL_y (v := .bool false) (y_move rfl) (by decide) ?_
        refine QL_s rfl (by decide) rfl rfl (by simp) ?_
        refine QL_s rfl (by decide) rfl rfl (by simp) ?_
        refine QL_s rfl (by decide) rfl rfl (by simp) ?_
        refine QL_s rfl (by decide) rfl rfl (by simp) ?_
        refine QL_s rfl (by decide) rfl rfl (by simp) ?_
        refine QL_s rfl (by decide) rfl rfl (by simp) ?_
        refine QL_s rfl (by decide) rfl rfl (by simp) ?_
        refine QL_s rfl (by decide) rfl rfl (by simp) ?_
        refine QL_s rfl (by decide) rfl rfl (by simp) ?_
        refine QL_s rfl (by decide) rfl rfl (by simp) ?_
        refine QL_s rfl (by decide) rfl rfl (by simp) ?_
        refine QL_s rfl (by decide) rfl rfl (by simp) ?_
        refine QL_y (y_pick (b := false) (v := .bool false) rfl rfl) (by decide) ?_
        refine QL_nil ?_
        refine W_condf rfl ?_
        refine W_skip ?_
        refine W_seq ?_
        have hR : intendR a (kb key) u = true := by unfold intendR; simp [hz, hei, hy]
        refine W_region ?_
        refine OL_y (y_move rfl) (by decide) ?_
        refine OL_y (y_move rfl) (by decide) ?_
        refine OL_c (op_call 64 en64 rfl [.pointer (some ⟨b, 0, none⟩), vk] rfl (by decide) ((f64_calls H hr hk hl).mono ?_))
        rintro e w6_2 ⟨i, v1, R1, F1, W1, rfl, H, hr1, g1, ⟨e1, hie, hek1⟩, hl1⟩
        refine ⟨_, rfl, ?_⟩
        obtain ⟨av1, cv1, hv1, hlv1, hmv1⟩ := H.rowLen 1 rfl
        subst hv1
        have hlt1 := (List.getElem?_eq_some_iff.1 hie).1
        obtain ⟨br1, cr1, hvr1, -, -⟩ := ownsRow_cells (H.getRow 1 rfl) (by omega)
        have hu1 := g1.R hu
        refine OL_y (y_assign rfl) (by decide) ?_
        refine OL_nil ?_
        refine W_seq ?_
        refine W_drawD H mixed (by kernel_rfl) [8] (fun wq w' => Holds w' (rAt b (.slice av1 R1.length cv1) R1 F1 W1 w0 (own b5 (.cells #[.int .u64 u.ts, .int .u64 u.txn, .bool u.dead, vv, vt] 32) :: L))) fun wd7 H hEd => ?_
        have hS : ∀ {ls : Array Bool}, Sx [8] (fun w' => Holds w' (rAt b (.slice av1 R1.length cv1) R1 F1 W1 w0 (own b5 (.cells #[.int .u64 u.ts, .int .u64 u.txn, .bool u.dead, vv, vt] 32) :: L))) ls wd7 := fun {_} _ => H
        refine DA_p 0 rfl (by kernel_rfl) rfl (fun _ => y_move rfl) hS (by decide) fun hS => ?_
        refine DA_p 1 rfl (by kernel_rfl) rfl (fun _ => y_nilCheck rfl ⟨_, rfl⟩) hS (by decide) fun hS => ?_
        refine DA_p 2 rfl (by kernel_rfl) rfl (fun _ => y_fieldAddr ti66 rfl ti49 rfl rfl) hS (by decide) fun hS => ?_
        refine DA_y 3 rfl (by kernel_rfl) rfl (by kernel_rfl) (fun w' h => y_loadS (v := .slice av1 R1.length cv1) ti49 rfl rfl (Cells.unit (h.getOwn 0 rfl) rfl)) hS (by decide) fun hS => ?_
        refine DA_p 4 rfl (by kernel_rfl) rfl (fun _ => y_move rfl) hS (by decide) fun hS => ?_
        refine DA_y 5 rfl (by kernel_rfl) rfl (by kernel_rfl) (fun w' h => y_loadA (cs := [.int .u64 u.ts, .int .u64 u.txn, .bool u.dead, vv, vt]) ti32 rfl rfl (Cells.of (h.getOwn 4 rfl) rfl) rfl) hS (by decide) fun hS => ?_
        refine DA_p 6 rfl (by kernel_rfl) rfl (fun _ => y_indexAddr ti49 ti55 hvr1 rfl (by omega) (by omega)) hS (by decide) fun hS => ?_
        refine DA_p 7 rfl (by kernel_rfl) rfl (fun _ => y_fieldAddr ti55 rfl ti32 rfl rfl) hS (by decide) fun hS => ?_
        refine DA_one 8 (by kernel_rfl) rfl (op_storeRowA (u := .agg #[.int .u64 u.ts, .int .u64 u.txn, .bool u.dead, vv, vt]) (o := 0 + i * 7 + 2) H 1 rfl (by rw [hvr1]; rfl) ti32 rfl rfl rfl (by rw [flat_len RE.len]; omega) (tVer.one hu1) fun w7_8 H => ⟨fun h => absurd (h 8 (by simp)) (by decide), ?_⟩)
        refine DA_done (by kernel_rfl) ?_
        refine W_seq ?_
        refine W_region ?_
        refine OL_y (y_assign rfl) (by decide) ?_
        refine OL_nil ?_
        refine W_ret ?_
        show RetOK _ _ _ _ _ _
        have H : Holds w7_8 (own b (.cells #[.slice av1 R1.length cv1] 66) :: row 55 7 (.slice av1 R1.length cv1) R1.length ((R1.flatMap RE.cs).take (0 + i * 7 + 2) ++ [.int .u64 u.ts, .int .u64 u.txn, .bool u.dead, vv, vt] ++ (R1.flatMap RE.cs).drop (0 + i * 7 + 2 + 5)) :: exc F1 W1 :: shr (fun k => k < w0.heap.size) w0 :: own b5 (.cells #[.int .u64 u.ts, .int .u64 u.txn, .bool u.dead, vv, vt] 32) :: L) := H
        obtain ⟨e2, he2⟩ : ∃ e2 : RE, e2 = ⟨e1.vk, e1.vs, vv, vt, ⟨e1.c.key, e1.c.vers, u⟩⟩ := ⟨_, rfl⟩
        rw [Nat.zero_add, flat_int (e' := e2) hie _ rfl (by rw [he2]; rfl)] at H
        have hr2 := hr1.setI hie hu1
        rw [← he2, hek1] at hr2
        refine ret1 (v := .int .i64 0) Try.results38 rfl ⟨by rw [hR]; rfl, .slice av1 R1.length cv1, R1.set i e2, F1, W1, ?_, ?_, g1, by rw [List.length_set]; exact hl1⟩
        · show Holds w7_8 (own b _ :: row 55 7 _ (R1.set i e2).length _ :: _)
          rw [List.length_set]; exact H.sub (.cons_cons _ (.cons_cons _ (.cons_cons _ (.cons_cons _ (.cons _ (.refl _))))))
        · unfold Abs.intend; rw [hR]; exact hr2
      · refine W_drawQ H mixed (by kernel_rfl) (by kernel_rfl) fun wd4 H => ?_
        obtain ⟨e, hge, hek, hem, -, hei⟩ := hr.has hh
        have hlt := (List.getElem?_eq_some_iff.1 hge).1
        obtain ⟨br, cr, hvr, -, -⟩ := ownsRow_cells (H.getRow 1 rfl) (by omega)
        have hC := rowElAt RE.len (H.getRow 1 rfl) (b := br) (by rw [hvr]; rfl) hge
        rw [hei] at hy
        refine QL_y (y_move (v := .bool true) rfl) (by decide) ?_
        refine QL_y (v := .bool true) (y_move rfl) (by decide) ?_
        refine QL_yg rfl (by decide) rfl (y_move rfl) (by decide) ?_
        refine QL_yg rfl (by decide) rfl (y_nilCheck rfl ⟨_, rfl⟩) (by decide) ?_
        refine QL_yg rfl (by decide) rfl (y_fieldAddr ti66 rfl ti49 rfl rfl) (by decide) ?_
        refine QL_yg rfl (by decide) rfl (y_loadS (v := .slice av R.length cv) ti49 rfl rfl (Cells.unit (H.getOwn 0 rfl) rfl)) (by decide) ?_
        refine QL_yg rfl (by decide) rfl (y_move rfl) (by decide) ?_
        refine QL_yg rfl (by decide) rfl (y_indexAddr ti49 ti55 hvr rfl (by omega) (by omega)) (by decide) ?_
        refine QL_yg rfl (by decide) rfl (y_fieldAddr ti55 rfl ti32 rfl rfl) (by decide) ?_
        refine QL_yg rfl (by decide) rfl (y_fieldAddr ti32 rfl ti24 rfl rfl) (by decide) ?_
        refine QL_yg rfl (by decide) rfl (y_loadS (v := .int .u64 e.c.intent.txn) ti24 rfl rfl (hC.take 3 rfl)) (by decide) ?_
        refine QL_yg (v := .bool true) rfl (by decide) rfl (y_neqT hy rfl rfl) (by decide) ?_
        refine QL_y (y_pick (b := true) (v := .bool true) rfl rfl) (by decide) ?_
        refine QL_y (v := .bool true) (y_move rfl) (by decide) ?_
        refine QL_yg rfl (by decide) rfl (y_move rfl) (by decide) ?_
        refine QL_yg rfl (by decide) rfl (y_nilCheck rfl ⟨_, rfl⟩) (by decide) ?_
        refine QL_yg rfl (by decide) rfl (y_fieldAddr ti66 rfl ti49 rfl rfl) (by decide) ?_
        refine QL_yg rfl (by decide) rfl (y_loadS (v := .slice av R.length cv) ti49 rfl rfl (Cells.unit (H.getOwn 0 rfl) rfl)) (by decide) ?_
        refine QL_yg rfl (by decide) rfl (y_move rfl) (by decide) ?_
        refine QL_yg rfl (by decide) rfl (y_indexAddr ti49 ti55 hvr rfl (by omega) (by omega)) (by decide) ?_
        refine QL_yg rfl (by decide) rfl (y_fieldAddr ti55 rfl ti32 rfl rfl) (by decide) ?_
        refine QL_yg rfl (by decide) rfl (y_fieldAddr ti32 rfl ti24 rfl rfl) (by decide) ?_
        refine QL_yg rfl (by decide) rfl (y_loadS (v := .int .u64 e.c.intent.txn) ti24 rfl rfl (hC.take 3 rfl)) (by decide) ?_
        refine QL_yg rfl (by decide) rfl (y_fieldAddr ti32 rfl ti24 rfl rfl) (by decide) ?_
        refine QL_yg rfl (by decide) rfl (y_loadS (v := .int .u64 u.txn) ti24 rfl rfl (Cells.unit (H.getOwn 4 rfl) rfl)) (by decide) ?_
        refine QL_yg rfl (by decide) rfl (y_neq rfl rfl) (by decide) ?_
        refine QL_y (y_pick (b := true) (v := .bool (decide (e.c.intent.txn ≠ u.txn))) rfl rfl) (by decide) ?_
        refine QL_nil ?_
        refine W_cond rfl (fun hc => ?_) (fun hc => ?_)
        · refine W_seq ?_
          refine W_region ?_
          refine OL_y (y_assign rfl) (by decide) ?_
          refine OL_nil ?_
          refine W_ret ?_
          show RetOK _ _ _ _ _ _
          have hne := of_decide_eq_true hc
          have hR : intendR a (kb key) u = false := by unfold intendR; simp [hz, hei, hy, hne]
          refine ret1 (v := .int .i64 150) Try.results38 rfl ⟨by rw [hR]; rfl, _, R, F, Wp, H.sub (.cons_cons _ (.cons_cons _ (.cons_cons _ (.cons_cons _ (.cons _ (.refl _)))))), ?_, Grow.refl hr.base, by omega⟩
          unfold Abs.intend; rw [hR]; exact hr
        · refine W_skip ?_
          refine W_seq ?_
          have heq := of_decide_eq_false hc
          have hR : intendR a (kb key) u = true := by unfold intendR; simp [hz, hei]; right; simpa using heq
          refine W_region ?_
          refine OL_y (y_move rfl) (by decide) ?_
          refine OL_y (y_move rfl) (by decide) ?_
          refine OL_c (op_call 64 en64 rfl [.pointer (some ⟨b, 0, none⟩), vk] rfl (by decide) ((f64_calls H hr hk hl).mono ?_))
          rintro e w6_2 ⟨i, v1, R1, F1, W1, rfl, H, hr1, g1, ⟨e1, hie, hek1⟩, hl1⟩
          refine ⟨_, rfl, ?_⟩
          obtain ⟨av1, cv1, hv1, hlv1, hmv1⟩ := H.rowLen 1 rfl
          subst hv1
          have hlt1 := (List.getElem?_eq_some_iff.1 hie).1
          obtain ⟨br1, cr1, hvr1, -, -⟩ := ownsRow_cells (H.getRow 1 rfl) (by omega)
          have hu1 := g1.R hu
          refine OL_y (y_assign rfl) (by decide) ?_
          refine OL_nil ?_
          refine W_seq ?_
          refine W_drawD H mixed (by kernel_rfl) [8] (fun wq w' => Holds w' (rAt b (.slice av1 R1.length cv1) R1 F1 W1 w0 (own b5 (.cells #[.int .u64 u.ts, .int .u64 u.txn, .bool u.dead, vv, vt] 32) :: L))) fun wd7 H hEd => ?_
          have hS : ∀ {ls : Array Bool}, Sx [8] (fun w' => Holds w' (rAt b (.slice av1 R1.length cv1) R1 F1 W1 w0 (own b5 (.cells #[.int .u64 u.ts, .int .u64 u.txn, .bool u.dead, vv, vt] 32) :: L))) ls wd7 := fun {_} _ => H
          refine DA_p 0 rfl (by kernel_rfl) rfl (fun _ => y_move rfl) hS (by decide) fun hS => ?_
          refine DA_p 1 rfl (by kernel_rfl) rfl (fun _ => y_nilCheck rfl ⟨_, rfl⟩) hS (by decide) fun hS => ?_
          refine DA_p 2 rfl (by kernel_rfl) rfl (fun _ => y_fieldAddr ti66 rfl ti49 rfl rfl) hS (by decide) fun hS => ?_
          refine DA_y 3 rfl (by kernel_rfl) rfl (by kernel_rfl) (fun w' h => y_loadS (v := .slice av1 R1.length cv1) ti49 rfl rfl (Cells.unit (h.getOwn 0 rfl) rfl)) hS (by decide) fun hS => ?_
          refine DA_p 4 rfl (by kernel_rfl) rfl (fun _ => y_move rfl) hS (by decide) fun hS => ?_
          refine DA_y 5 rfl (by kernel_rfl) rfl (by kernel_rfl) (fun w' h => y_loadA (cs := [.int .u64 u.ts, .int .u64 u.txn, .bool u.dead, vv, vt]) ti32 rfl rfl (Cells.of (h.getOwn 4 rfl) rfl) rfl) hS (by decide) fun hS => ?_
          refine DA_p 6 rfl (by kernel_rfl) rfl (fun _ => y_indexAddr ti49 ti55 hvr1 rfl (by omega) (by omega)) hS (by decide) fun hS => ?_
          refine DA_p 7 rfl (by kernel_rfl) rfl (fun _ => y_fieldAddr ti55 rfl ti32 rfl rfl) hS (by decide) fun hS => ?_
          refine DA_one 8 (by kernel_rfl) rfl (op_storeRowA (u := .agg #[.int .u64 u.ts, .int .u64 u.txn, .bool u.dead, vv, vt]) (o := 0 + i * 7 + 2) H 1 rfl (by rw [hvr1]; rfl) ti32 rfl rfl rfl (by rw [flat_len RE.len]; omega) (tVer.one hu1) fun w7_8 H => ⟨fun h => absurd (h 8 (by simp)) (by decide), ?_⟩)
          refine DA_done (by kernel_rfl) ?_
          refine W_seq ?_
          refine W_region ?_
          refine OL_y (y_assign rfl) (by decide) ?_
          refine OL_nil ?_
          refine W_ret ?_
          show RetOK _ _ _ _ _ _
          have H : Holds w7_8 (own b (.cells #[.slice av1 R1.length cv1] 66) :: row 55 7 (.slice av1 R1.length cv1) R1.length ((R1.flatMap RE.cs).take (0 + i * 7 + 2) ++ [.int .u64 u.ts, .int .u64 u.txn, .bool u.dead, vv, vt] ++ (R1.flatMap RE.cs).drop (0 + i * 7 + 2 + 5)) :: exc F1 W1 :: shr (fun k => k < w0.heap.size) w0 :: own b5 (.cells #[.int .u64 u.ts, .int .u64 u.txn, .bool u.dead, vv, vt] 32) :: L) := H
          obtain ⟨e2, he2⟩ : ∃ e2 : RE, e2 = ⟨e1.vk, e1.vs, vv, vt, ⟨e1.c.key, e1.c.vers, u⟩⟩ := ⟨_, rfl⟩
          rw [Nat.zero_add, flat_int (e' := e2) hie _ rfl (by rw [he2]; rfl)] at H
          have hr2 := hr1.setI hie hu1
          rw [← he2, hek1] at hr2
          refine ret1 (v := .int .i64 0) Try.results38 rfl ⟨by rw [hR]; rfl, .slice av1 R1.length cv1, R1.set i e2, F1, W1, ?_, ?_, g1, by rw [List.length_set]; exact hl1⟩
          · show Holds w7_8 (own b _ :: row 55 7 _ (R1.set i e2).length _ :: _)
            rw [List.length_set]; exact H.sub (.cons_cons _ (.cons_cons _ (.cons_cons _ (.cons_cons _ (.cons _ (.refl _))))))
          · unfold Abs.intend; rw [hR]; exact hr2

set_option maxHeartbeats 16000000 in
theorem f18_calls {w0 w Wp : World} {F : Nat → Prop} {b : Nat} {v : Value} {R : List RE} {a : Abs} {L : List Atom} {txn : Int} (H : Holds w (rAt b v R F Wp w0 L)) (hr : RRep w0 F Wp R a) (hl : R.length ≤ 40000) :
    Calls Try.prog 18 [.pointer (some ⟨b, 0, none⟩), .int .u64 txn].toArray w fun e w' => ∃ (v : Value) (ks : List ByteArray), e = .returned v ∧ IntentsOf a txn ks ∧ SlR tKey 24 (fun k => Dz w0 F k ∨ w.heap.size ≤ k) w' v (ks.map unkb) ∧ Ext none' w w' := by
  have H0 := H
  have hq : ∀ e ∈ R, ∀ x ∈ e.c.key, InK .u8 x := fun e he => (hr.key he).allIn
  obtain ⟨av, cv, hv, hlv, hmv⟩ := H0.rowLen 1 rfl
  subst hv
  have H := Holds.start w
  refine calls_of_W' Try.func18 rfl Try.ntmps18 rfl ?_
  refine W_seq ?_
  refine W_region ?_
  refine OL_y (y_assign rfl) (by decide) ?_
  refine OL_nil ?_
  refine W_seq ?_
  refine W_region ?_
  refine OL_y (y_assign rfl) (by decide) ?_
  refine OL_nil ?_
  refine W_seq ?_
  refine W_seq ?_
  refine W_region ?_
  refine OL_y (y_move rfl) (by decide) ?_
  refine OL_y (y_nilCheck rfl ⟨_, rfl⟩) (by decide) ?_
  refine OL_y (y_fieldAddr ti66 rfl ti49 rfl rfl) (by decide) ?_
  refine OL_y (y_loadS (v := .slice av R.length cv) ti49 rfl rfl (Cells.unit ((H0.ext0 (H.ext_of 0 rfl)).getOwn 0 rfl) rfl)) (by decide) ?_
  refine OL_y (y_len rfl ti49 rfl) (by decide) ?_
  refine OL_y (y_move rfl) (by decide) ?_
  refine OL_nil ?_
  have H := H.rowNil 23 1
  refine W_range (N := R.length) (by simp [maxLen]; omega) (fun k f ds w' => ∃ (v5 : Value) (cs : List Value), f 1 = .int .u64 txn ∧ f 11 = .slice av R.length cv ∧ f 5 = v5 ∧ ds = [] ∧ Els tKey (Dz w0 F) Wp cs (((R.take k).filter fun e => decide (txn ≠ 0 ∧ e.c.intent.txn = txn)).map fun e => e.c.key) ∧
      Holds w' [row 23 1 v5 ((R.take k).filter fun e => decide (txn ≠ 0 ∧ e.c.intent.txn = txn)).length cs, shr (fun k => k < w.heap.size) w])
      ⟨.slice none 0 0, [], rfl, rfl, rfl, rfl, Els.nil _ _ _, H⟩
      rfl rfl (by decide) (by decide) (by decide) rfl rfl ?_ rfl rfl ?_
  · rintro k f ds w3 hk3 ⟨v5, cs, h1, h11, h5, rfl, hE, H⟩ hti htn
    have hxk := List.getElem?_eq_getElem hk3
    have hem := List.getElem_mem hk3
    have HS := H0.ext0 (H.ext_of 1 rfl)
    obtain ⟨br, cr, hvr, -, -⟩ := ownsRow_cells (HS.getRow 1 rfl) (by omega)
    have hC := rowElAt RE.len (HS.getRow 1 rfl) (b := br) (by rw [hvr]; rfl) hxk
    have htk : ((R.take (k + 1)).filter fun e => decide (txn ≠ 0 ∧ e.c.intent.txn = txn)) = ((R.take k).filter fun e => decide (txn ≠ 0 ∧ e.c.intent.txn = txn)) ++ [R[k]].filter fun e => decide (txn ≠ 0 ∧ e.c.intent.txn = txn) := by rw [List.take_add_one, hxk, Option.toList_some, List.filter_append]
    have hcl : ((R.take k).filter fun e => decide (txn ≠ 0 ∧ e.c.intent.txn = txn)).length ≤ 40000 := Nat.le_trans (List.length_filter_le _ _) (by rw [List.length_take]; omega)
    have hone := tCl.one (hr.good _ hem)
    have hkS := hr.key hem
    generalize R[k] = e at *
    obtain ⟨ak, ck, hvk, hlk, hmk⟩ := hkS.len
    rw [hvk] at hkS
    have hcs : e.cs = [.slice ak e.c.key.length ck, e.vs, .int .u64 e.c.intent.ts, .int .u64 e.c.intent.txn, .bool e.c.intent.dead, e.iv, e.ik] := by show [e.vk, _, _, _, _, _, _] = _; rw [hvk]
    rw [hcs] at hC hone
    have h11' := h11.trans hvr
    refine W_block ?_
    refine W_seq ?_
    refine W_region ?_
    refine OL_y (y_indexAddr ti49 ti55 h11' hti (by omega) (by omega)) (by decide) ?_
    refine OL_y (y_loadA (cs := [.slice ak e.c.key.length ck, e.vs, .int .u64 e.c.intent.ts, .int .u64 e.c.intent.txn, .bool e.c.intent.dead, e.iv, e.ik]) ti55 rfl rfl hC rfl) (by decide) ?_
    refine OL_var (v := .agg #[.slice ak e.c.key.length ck, e.vs, .int .u64 e.c.intent.ts, .int .u64 e.c.intent.txn, .bool e.c.intent.dead, e.iv, e.ik]) H ti55 rfl (by decide) (fun _ => rfl) rfl (hone) fun b7 w4_2 H => ?_
    refine OL_nil ?_
    refine W_seq ?_
    by_cases hz : txn = 0
    · refine W_region ?_
      refine OL_y (y_move h1) (by decide) ?_
      refine OL_y (v := .bool false) (y_neqF hz rfl rfl) (by decide) ?_
      refine OL_y (v := .bool false) (y_move rfl) (by decide) ?_
      refine OL_s rfl (by decide) rfl rfl (by simp) ?_
      refine OL_s rfl (by decide) rfl rfl (by simp) ?_
      refine OL_s rfl (by decide) rfl rfl (by simp) ?_
      refine OL_s rfl (by decide) rfl rfl (by simp) ?_
      refine OL_s rfl (by decide) rfl rfl (by simp) ?_
      refine OL_y (y_pick (b := false) (v := .bool false) rfl rfl) (by decide) ?_
      refine OL_nil ?_
      refine W_condf rfl ?_
      refine W_skip ?_
      have hn : ([e].filter fun e => decide (txn ≠ 0 ∧ e.c.intent.txn = txn)) = [] := by simp [hz]
      refine ⟨hti, htn, v5, cs, h1, h11, h5, rfl, ?_, ?_⟩
      · rw [htk, hn, List.append_nil]; exact hE
      · rw [htk, hn, List.append_nil]; exact H.tail
    · refine W_region ?_
      refine OL_y (y_move h1) (by decide) ?_
      refine OL_y (v := .bool true) (y_neqT hz rfl rfl) (by decide) ?_
      refine OL_y (v := .bool true) (y_move rfl) (by decide) ?_
      refine OL_yg rfl (by decide) rfl (y_fieldAddr ti55 rfl ti32 rfl rfl) (by decide) ?_
      refine OL_yg rfl (by decide) rfl (y_fieldAddr ti32 rfl ti24 rfl rfl) (by decide) ?_
      refine OL_yg rfl (by decide) rfl (y_loadS (v := .int .u64 e.c.intent.txn) ti24 rfl rfl (Cells.unit (H.getOwn 0 rfl) rfl)) (by decide) ?_
      refine OL_yg rfl (by decide) rfl (y_move h1) (by decide) ?_
      refine OL_yg rfl (by decide) rfl (y_eql rfl rfl) (by decide) ?_
      refine OL_y (y_pick (b := true) rfl rfl) (by decide) ?_
      refine OL_nil ?_
      refine W_cond rfl (fun hc => ?_) (fun hc => ?_)
      · refine W_region ?_
        refine OL_y (y_move h5) (by decide) ?_
        refine OL_y (y_fieldAddr ti55 rfl ti23 rfl rfl) (by decide) ?_
        refine OL_y (y_loadS (v := .slice ak e.c.key.length ck) ti23 rfl rfl (Cells.unit (H.getOwn 0 rfl) rfl)) (by decide) ?_
        refine OL_c (op_buildSlice H [.slice ak e.c.key.length ck] ti30 ti23 rfl rfl rfl (by simp [Value.cells]) rfl rfl (by decide) fun b29 w6_3 H => ?_)
        refine OL_c (op_append H 2 rfl rfl ti30 ti23 rfl rfl rfl rfl (Src.row (H.getRow 0 rfl)) rfl (by simp [Value.cells, Value.oneCell']) (by omega) (by simp only [maxLen]; omega) (by decide) fun v30 w6_4 H => ?_)
        refine OL_y (y_assign rfl) (by decide) ?_
        refine OL_nil ?_
        have heq := of_decide_eq_true hc
        have hn : ([e].filter fun e => decide (txn ≠ 0 ∧ e.c.intent.txn = txn)) = [e] := by simp [heq, hz]
        refine ⟨hti, htn, v30, cs ++ [Value.slice ak e.c.key.length ck], h1, h11, rfl, rfl, ?_, ?_⟩
        · rw [htk, hn, List.map_append]; exact hE.snoc ⟨_, rfl, hkS⟩
        · rw [htk, hn, List.length_append]; exact H.tail.tail
      · refine W_skip ?_
        have hne := of_decide_eq_false hc
        have hn : ([e].filter fun e => decide (txn ≠ 0 ∧ e.c.intent.txn = txn)) = [] := by simp [hne]
        refine ⟨hti, htn, v5, cs, h1, h11, h5, rfl, ?_, ?_⟩
        · rw [htk, hn, List.append_nil]; exact hE
        · rw [htk, hn, List.append_nil]; exact H.tail
  · rintro f ds w3 ⟨v5, cs, h1, h11, h5, rfl, hE, H⟩ hti htn
    rw [List.take_length] at hE H
    refine W_seq ?_
    refine W_region ?_
    refine OL_y (y_move h5) (by decide) ?_
    refine OL_y (y_assign rfl) (by decide) ?_
    refine OL_nil ?_
    refine W_ret ?_
    show RetOK _ _ _ _ _ _
    have hcl : (R.filter fun e => decide (txn ≠ 0 ∧ e.c.intent.txn = txn)).length ≤ 40000 := Nat.le_trans (List.length_filter_le _ _) hl
    have hun : ((R.filter fun e => decide (txn ≠ 0 ∧ e.c.intent.txn = txn)).map RE.k).map unkb = (R.filter fun e => decide (txn ≠ 0 ∧ e.c.intent.txn = txn)).map fun e => e.c.key := by
      rw [List.map_map]; apply List.map_congr_left; intro e he; exact unkb_kb (hq e (List.mem_filter.1 he).1)
    refine ret1 (v := v5) Try.results18 rfl ⟨_, (R.filter fun e => decide (txn ≠ 0 ∧ e.c.intent.txn = txn)).map RE.k, rfl, ⟨hr.rise.sublist (List.Sublist.map _ List.filter_sublist), fun k => ?_⟩, ?_, H.ext_of 1 rfl⟩
    · rw [List.mem_map]
      constructor
      · rintro ⟨e, he, rfl⟩
        obtain ⟨h1, h2⟩ := List.mem_filter.1 he
        have h3 := of_decide_eq_true h2
        rw [(hr.va e h1).2]; exact h3
      · rintro ⟨h1, h2⟩
        have hin : k ∈ R.map RE.k := Classical.byContradiction fun hn => by
          have := (hr.vn k hn).2
          rw [this] at h2; exact h1 h2.symm
        obtain ⟨e, he, rfl⟩ := List.mem_map.1 hin
        refine ⟨e, List.mem_filter.2 ⟨he, ?_⟩, rfl⟩
        rw [(hr.va e he).2] at h2
        exact decide_eq_true ⟨h1, h2⟩
    · rw [hun]
      exact SlR.ofRow (H.getRow 0 rfl) (by decide) ((hE.keeps ((H0.ext0 (H.ext_of 1 rfl)).dz 2 3 rfl rfl hr.base)).mono fun k _ h => .inl h) (fun k hk => .inr (H.fresh 0 1 rfl rfl rfl k hk)) (by rw [List.length_map]; omega)
end Go.Proofs.Ytpandioolpnihaa

/- Drop: a transaction's intents are taken away. -/
namespace Go.Proofs.Ytpandioolpnihaa
open Go Go.Wk
set_option linter.unusedVariables false
set_option linter.unusedSimpArgs false

def Abs.clear (a : Abs) (ks : List ByteArray) : Abs := ⟨a.v, fun k => if ks.any (fun x => decide (x = k)) then noV else a.i k⟩
theorem mdelI {I : List Itn} (k : ByteArray) : mdel (I.map Itn.kv) k = (I.filter fun i => decide (i.key ≠ k)).map Itn.kv := by
  unfold mdel
  rw [List.filter_map]; rfl
theorem CRep.delI {w0 Wp : World} {F : Nat → Prop} {E : List Ent} {I : List Itn} {a : Abs} (h : CRep w0 F Wp E I a) (k : ByteArray) : CRep w0 F Wp E (I.filter fun i => decide (i.key ≠ k)) (a.setI k noV) := by
  refine ⟨h.base, h.ev, h.en, h.nd, h.va, h.vn, fun i hi => h.iv i (List.mem_filter.1 hi).1, h.ind.sublist (List.Sublist.map _ List.filter_sublist), fun i hi => ?_, fun k' hk' => ?_, h.ek, fun i hi => h.ik i (List.mem_filter.1 hi).1⟩
  · have h1 := List.mem_filter.1 hi
    exact (if_neg (by simpa using h1.2)).trans (h.ia i h1.1)
  · show (if k' = k then noV else a.i k') = noV
    split
    · rfl
    · rename_i hne
      refine h.inn k' fun hin => hk' ?_
      obtain ⟨x, hx, he⟩ := List.mem_map.1 hin
      exact List.mem_map.2 ⟨x, List.mem_filter.2 ⟨hx, by rw [he]; simpa using hne⟩, he⟩
theorem clear_nil (a : Abs) : a.clear [] = a := rfl
theorem clear_snoc (a : Abs) (ks : List ByteArray) (k : ByteArray) : (a.clear ks).setI k noV = a.clear (ks ++ [k]) := by
  unfold Abs.clear Abs.setI
  congr 1
  funext x
  simp only [List.any_append, List.any_cons, List.any_nil, Bool.or_false]
  by_cases h1 : x = k
  · subst h1; simp
  · have h2 : decide (k = x) = false := decide_eq_false fun h => h1 h.symm
    rw [if_neg h1, h2, Bool.or_false]

set_option maxHeartbeats 16000000 in
theorem f40_calls {w0 w Wp : World} {F : Nat → Prop} {b b1 b2 : Nat} {E : List Ent} {I : List Itn} {a : Abs} {L : List Atom} {txn : Int} (H : Holds w (cAt b b1 b2 E I F Wp w0 L)) (hr : CRep w0 F Wp E I a) (hIl : I.length ≤ 40000) :
    Calls Try.prog 40 [.pointer (some ⟨b, 0, none⟩), .int .u64 txn].toArray w fun e w' => ∃ ks : List ByteArray, e = .returned (.int .i64 ks.length) ∧ IntentsOf a txn ks ∧ ∃ (I' : List Itn) (F' : Nat → Prop) (Wp' : World), Holds w' (cAt b b1 b2 E I' F' Wp' w0 L) ∧ CRep w0 F' Wp' E I' (a.clear ks) ∧ Grow w0 F Wp F' Wp' ∧ I'.length ≤ I.length := by
  refine calls_of_W' Try.func40 rfl Try.ntmps40 rfl ?_
  refine W_seq ?_
  refine W_region ?_
  refine OL_y (y_assign rfl) (by decide) ?_
  refine OL_nil ?_
  refine W_seq ?_
  refine W_region ?_
  refine OL_y (y_move rfl) (by decide) ?_
  refine OL_y (y_move rfl) (by decide) ?_
  refine OL_c (op_call 17 en17 rfl [.pointer (some ⟨b, 0, none⟩), .int .u64 txn] rfl (by decide) ((f17_calls H hr hIl).mono ?_))
  rintro e w1_2 ⟨v5, ks, rfl, hks, hSk, hE17⟩
  refine ⟨_, rfl, ?_⟩
  obtain ⟨H, g1⟩ := H.poolC hE17 3 4 rfl rfl hr.base
  obtain ⟨F', hF'⟩ : ∃ F' : Nat → Prop, F' = fun k => F k ∨ (w.heap.size ≤ k ∧ k < w1_2.heap.size) := ⟨_, rfl⟩
  rw [← hF'] at H g1
  have hSk' : SlR tKey 24 (Dz w0 F') w1_2 v5 (ks.map unkb) := hSk.mono fun k h1 h2 => .inr (by rw [hF']; exact .inr ⟨h2, h1⟩)
  have hkl := hSk'.len1 (by decide)
  rw [List.length_map] at hkl
  obtain ⟨a5, c5, hv5, hl5, hm5⟩ := hSk'.len
  rw [List.length_map] at hv5 hl5
  subst hv5
  refine OL_y (y_assign rfl) (by decide) ?_
  refine OL_nil ?_
  refine W_seq ?_
  refine W_seq ?_
  refine W_region ?_
  refine OL_y (y_move rfl) (by decide) ?_
  refine OL_y (y_len rfl ti30 rfl) (by decide) ?_
  refine OL_y (y_move rfl) (by decide) ?_
  refine OL_nil ?_
  refine W_range (N := ks.length) (by omega) (fun j f ds w' => ∃ (I' : List Itn), f 0 = .pointer (some ⟨b, 0, none⟩) ∧ f 5 = .slice a5 ks.length c5 ∧ f 11 = .slice a5 ks.length c5 ∧ ds = [] ∧ CRep w0 F' w1_2 E I' (a.clear (ks.take j)) ∧ I'.length ≤ I.length ∧ Holds w' (cAt b b1 b2 E I' F' w1_2 w0 L))
      ⟨I, rfl, rfl, rfl, rfl, hr.grow g1, Nat.le_refl _, H⟩
      rfl rfl (by decide) (by decide) (by decide) rfl rfl ?_ rfl rfl ?_
  · rintro j f ds w2 hj ⟨I', h0, h5, h11, rfl, hrj, hIj, H⟩ htj htm
    have hkj := List.getElem?_eq_getElem hj
    have hxj : (ks.map unkb)[j]? = some (unkb ks[j]) := by rw [List.getElem?_map, hkj]; rfl
    obtain ⟨b3, o3, cs3, e3, hz3, hc3, hr3⟩ := hSk'.at hxj
    have hc3' := hc3.ext ((H.dz 3 4 rfl rfl hrj.base).2 _ hz3 hc3.lt)
    obtain ⟨vy, rfl, hvy⟩ := hr3
    have htk : ks.take (j + 1) = ks.take j ++ [ks[j]] := by rw [List.take_add_one, hkj]; rfl
    generalize ks[j] = s at *
    have hks2 : kb (unkb s) = s := kb_unkb s
    have h11' := h11.trans (congrArg (Value.slice · _ _) e3)
    refine W_block ?_
    refine W_seq ?_
    refine W_region ?_
    refine OL_y (y_indexAddr ti30 ti23 h11' htj (by omega) (by omega)) (by decide) ?_
    refine OL_y (y_loadS (v := vy) ti23 rfl rfl hc3') (by decide) ?_
    refine OL_y (y_assign rfl) (by decide) ?_
    refine OL_nil ?_
    refine W_drawD H mixed (by kernel_rfl) [6] (fun wq w' => Holds w' (cAt b b1 b2 E I' F' w1_2 w0 L)) fun wd5 H hEd => ?_
    have hS : ∀ {ls : Array Bool}, Sx [6] (fun w' => Holds w' (cAt b b1 b2 E I' F' w1_2 w0 L)) ls wd5 := fun {_} _ => H
    refine DA_p 0 rfl (by kernel_rfl) rfl (fun _ => y_move h0) hS (by decide) fun hS => ?_
    refine DA_p 1 rfl (by kernel_rfl) rfl (fun _ => y_nilCheck rfl ⟨_, rfl⟩) hS (by decide) fun hS => ?_
    refine DA_p 2 rfl (by kernel_rfl) rfl (fun _ => y_fieldAddr ti98 rfl ti96 rfl rfl) hS (by decide) fun hS => ?_
    refine DA_y 3 rfl (by kernel_rfl) rfl (by kernel_rfl) (fun w' h => y_loadS (v := .map (some b2)) ti96 rfl rfl (Cells.unit (h.getOwn 0 rfl) rfl)) hS (by decide) fun hS => ?_
    refine DA_p 4 rfl (by kernel_rfl) rfl (fun _ => y_move rfl) hS (by decide) fun hS => ?_
    refine DA_y 5 rfl (by kernel_rfl) rfl (by kernel_rfl) (fun w' h => y_toStr (w := w') Try.underlying23 Try.underlying5 Try.underlying9 rfl (hvy.keeps (h.dz 3 4 rfl rfl hrj.base))) hS (by decide) fun hS => ?_
    refine DA_one 6 (by kernel_rfl) rfl (op_delete (k := kb (unkb s)) H 2 rfl rfl ti96 (KeyOK.str Try.underlying9) (by intro d hd; cases hd) rfl rfl fun w5_6 H => ⟨fun h => absurd (h 6 (by simp)) (by decide), ?_⟩)
    refine DA_done (by kernel_rfl) ?_
    have H : Holds w5_6 (own b (.cells #[.map (some b1), .map (some b2)] 98) :: mp Value.string b1 (E.map Ent.kv) :: mp Value.string b2 (mdel (I'.map Itn.kv) (kb (unkb s))) :: exc F' w1_2 :: shr (fun k => k < w0.heap.size) w0 :: (E.map Ent.atom ++ L)) := H
    rw [hks2, mdelI] at H
    refine ⟨htj, htm, _, h0, h5, h11, rfl, ?_, Nat.le_trans (List.length_filter_le _ _) hIj, H⟩
    rw [htk, ← clear_snoc]; exact hrj.delI s
  · rintro f ds w2 ⟨I', h0, h5, h11, rfl, hrj, hIj, H⟩ htj htm
    rw [List.take_length] at hrj
    refine W_seq ?_
    refine W_region ?_
    refine OL_y (y_move h5) (by decide) ?_
    refine OL_y (y_len rfl ti30 rfl) (by decide) ?_
    refine OL_y (y_assign rfl) (by decide) ?_
    refine OL_nil ?_
    refine W_ret ?_
    show RetOK _ _ _ _ _ _
    exact ret1 (v := .int .i64 ks.length) Try.results40 rfl ⟨ks, rfl, hks, I', F', w1_2, H, hrj, g1, hIj⟩
end Go.Proofs.Ytpandioolpnihaa

/- Turn: a transaction's intents become versions. -/
namespace Go.Proofs.Ytpandioolpnihaa
open Go Go.Wk
set_option linter.unusedVariables false
set_option linter.unusedSimpArgs false

def Ver.atTs (v : Ver) (ts : Int) : Ver := ⟨ts, v.txn, v.dead, v.val, v.keys⟩
def Abs.turn1 (ts : Int) (a : Abs) (k : ByteArray) : Abs := (a.put k ((a.i k).atTs ts)).setI k noV
theorem turn1_ok {a : Abs} {m : Nat} (h : a.Ok m) (ts : Int) (k : ByteArray) : (a.turn1 ts k).Ok (m + 1) := h.put k _

set_option maxHeartbeats 16000000 in
theorem f27_calls {w0 w Wp : World} {F : Nat → Prop} {b b1 b2 m : Nat} {E : List Ent} {I : List Itn} {a : Abs} {L : List Atom} {txn ts : Int} (H : Holds w (cAt b b1 b2 E I F Wp w0 L)) (hr : CRep w0 F Wp E I a) (hIl : I.length ≤ 10000) (ha : a.Ok m) (hm : m ≤ 10000) (hts : InK .u64 ts) :
    Calls Try.prog 27 [.pointer (some ⟨b, 0, none⟩), .int .u64 txn, .int .u64 ts].toArray w fun e w' => ∃ ks : List ByteArray, e = .returned (.int .i64 ks.length) ∧ IntentsOf a txn ks ∧ ∃ (E' : List Ent) (I' : List Itn) (F' : Nat → Prop) (Wp' : World), Holds w' (cAt b b1 b2 E' I' F' Wp' w0 L) ∧ CRep w0 F' Wp' E' I' (ks.foldl (Abs.turn1 ts) a) ∧ (ks.foldl (Abs.turn1 ts) a).Ok (m + ks.length) ∧ Grow w0 F Wp F' Wp' ∧ I'.length ≤ I.length ∧ E'.length ≤ E.length + ks.length ∧ ks.length ≤ I.length := by
  refine calls_of_W' Try.func27 rfl Try.ntmps27 rfl ?_
  refine W_seq ?_
  refine W_region ?_
  refine OL_y (y_assign rfl) (by decide) ?_
  refine OL_nil ?_
  refine W_seq ?_
  refine W_region ?_
  refine OL_y (y_move rfl) (by decide) ?_
  refine OL_y (y_move rfl) (by decide) ?_
  refine OL_c (op_call 17 en17 rfl [.pointer (some ⟨b, 0, none⟩), .int .u64 txn] rfl (by decide) ((f17_calls H hr (by omega)).mono ?_))
  rintro e w1_2 ⟨v5, ks, rfl, hks, hSk, hE17⟩
  refine ⟨_, rfl, ?_⟩
  obtain ⟨H, g1⟩ := H.poolC hE17 3 4 rfl rfl hr.base
  obtain ⟨F', hF'⟩ : ∃ F' : Nat → Prop, F' = fun k => F k ∨ (w.heap.size ≤ k ∧ k < w1_2.heap.size) := ⟨_, rfl⟩
  rw [← hF'] at H g1
  have hSk' : SlR tKey 24 (Dz w0 F') w1_2 v5 (ks.map unkb) := hSk.mono fun k h1 h2 => .inr (by rw [hF']; exact .inr ⟨h2, h1⟩)
  have hkl := hSk'.len1 (by decide)
  rw [List.length_map] at hkl
  have hkI : ks.length ≤ I.length := by
    have hnd : ks.Nodup := rise_nodup bLt_irrefl hks.rise
    have hsub : ∀ k ∈ ks, k ∈ I.map (·.key) := fun k hk => Classical.byContradiction fun hn => by
      have h1 := (hks.mem k).1 hk
      have h2 := hr.inn k hn
      rw [h2] at h1; exact h1.1 h1.2.symm
    have := List.Nodup.length_le_of_subset hnd hsub
    rwa [List.length_map] at this
  obtain ⟨a5, c5, hv5, hl5, hm5⟩ := hSk'.len
  rw [List.length_map] at hv5 hl5
  subst hv5
  refine OL_y (y_assign rfl) (by decide) ?_
  refine OL_nil ?_
  refine W_seq ?_
  refine W_seq ?_
  refine W_region ?_
  refine OL_y (y_move rfl) (by decide) ?_
  refine OL_y (y_len rfl ti30 rfl) (by decide) ?_
  refine OL_y (y_move rfl) (by decide) ?_
  refine OL_nil ?_
  refine W_range (N := ks.length) (by omega) (fun j f ds w' => ∃ (E' : List Ent) (I' : List Itn) (Fj : Nat → Prop) (Wj : World), f 0 = .pointer (some ⟨b, 0, none⟩) ∧ f 2 = .int .u64 ts ∧ f 7 = .slice a5 ks.length c5 ∧ f 14 = .slice a5 ks.length c5 ∧ ds = [] ∧ CRep w0 Fj Wj E' I' ((ks.take j).foldl (Abs.turn1 ts) a) ∧ ((ks.take j).foldl (Abs.turn1 ts) a).Ok (m + j) ∧ Grow w0 F Wp Fj Wj ∧ SlR tKey 24 (Dz w0 Fj) Wj (.slice a5 ks.length c5) (ks.map unkb) ∧ I'.length ≤ I.length ∧ E'.length ≤ E.length + j ∧ Holds w' (cAt b b1 b2 E' I' Fj Wj w0 L))
      ⟨E, I, F', w1_2, rfl, rfl, rfl, rfl, rfl, hr.grow g1, ha, g1, hSk', Nat.le_refl _, Nat.le_refl _, H⟩
      rfl rfl (by decide) (by decide) (by decide) rfl rfl ?_ rfl rfl ?_
  · rintro j f ds w2 hj ⟨E', I', Fj, Wj, h0, h2, h7, h14, rfl, hrj, haj, gj, hSj, hIj, hEj, H⟩ htj htm
    have hkj := List.getElem?_eq_getElem hj
    have hxj : (ks.map unkb)[j]? = some (unkb ks[j]) := by rw [List.getElem?_map, hkj]; rfl
    obtain ⟨b3, o3, cs3, e3, hz3, hc3, hr3⟩ := hSj.at hxj
    have hc3' := hc3.ext ((H.dz 3 4 rfl rfl hrj.base).2 _ hz3 hc3.lt)
    obtain ⟨vy, rfl, hvy⟩ := hr3
    have htk : (ks.take (j + 1)).foldl (Abs.turn1 ts) a = Abs.turn1 ts ((ks.take j).foldl (Abs.turn1 ts) a) ks[j] := by rw [List.take_add_one, hkj, Option.toList_some, List.foldl_append]; rfl
    generalize ks[j] = s at *
    generalize (ks.take j).foldl (Abs.turn1 ts) a = aj at *
    have hks2 : kb (unkb s) = s := kb_unkb s
    have h14' := h14.trans (congrArg (Value.slice · _ _) e3)
    obtain ⟨csI, hlk, hRI⟩ := hrj.look (kb (unkb s))
    rw [hks2] at hRI
    obtain ⟨jv, jk, rfl, hj1, hj2, hj3, hj4⟩ := ver_cells.1 hRI
    have hu : tVer.R (Dz w0 Fj) Wj [.int .u64 ts, .int .u64 (aj.i s).txn, .bool (aj.i s).dead, jv, jk] ((aj.i s).atTs ts) := ver_cells.2 ⟨_, _, rfl, hts, hj2, hj3, hj4⟩
    refine W_block ?_
    refine W_seq ?_
    refine W_region ?_
    refine OL_y (y_indexAddr ti30 ti23 h14' htj (by omega) (by omega)) (by decide) ?_
    refine OL_y (y_loadS (v := vy) ti23 rfl rfl hc3') (by decide) ?_
    refine OL_y (y_assign rfl) (by decide) ?_
    refine OL_nil ?_
    refine W_seq ?_
    refine W_drawD H mixed (by kernel_rfl) [] (fun wq w' => Holds w' (cAt b b1 b2 E' I' Fj Wj w0 L)) fun wd5 H hEd => ?_
    have hS : ∀ {ls : Array Bool}, Sx [] (fun w' => Holds w' (cAt b b1 b2 E' I' Fj Wj w0 L)) ls wd5 := fun {_} _ => H
    refine DA_p 0 rfl (by kernel_rfl) rfl (fun _ => y_move h0) hS (by decide) fun hS => ?_
    refine DA_p 1 rfl (by kernel_rfl) rfl (fun _ => y_nilCheck rfl ⟨_, rfl⟩) hS (by decide) fun hS => ?_
    refine DA_p 2 rfl (by kernel_rfl) rfl (fun _ => y_fieldAddr ti98 rfl ti96 rfl rfl) hS (by decide) fun hS => ?_
    refine DA_y 3 rfl (by kernel_rfl) rfl (by kernel_rfl) (fun w' h => y_loadS (v := .map (some b2)) ti96 rfl rfl (Cells.unit (h.getOwn 0 rfl) rfl)) hS (by decide) fun hS => ?_
    refine DA_p 4 rfl (by kernel_rfl) rfl (fun _ => y_move rfl) hS (by decide) fun hS => ?_
    refine DA_y 5 rfl (by kernel_rfl) rfl (by kernel_rfl) (fun w' h => y_toStr (w := w') Try.underlying23 Try.underlying5 Try.underlying9 rfl (hvy.keeps (h.dz 3 4 rfl rfl hrj.base))) hS (by decide) fun hS => ?_
    refine DA_y 6 rfl (by kernel_rfl) rfl (by kernel_rfl) (fun w' h => y_lookupG (w := w') hlk h 2 rfl ti96 ti32 (KeyOK.str Try.underlying9) rfl rfl) hS (by decide) fun hS => ?_
    refine DA_one 7 (by kernel_rfl) rfl (op_alloc H ti32 (by decide) fun b10 w5_7 H => ⟨fun _ => H.tail, ?_⟩)
    refine DA_one 8 (by kernel_rfl) rfl (op_store (v := .agg #[.int .u64 (aj.i s).ts, .int .u64 (aj.i s).txn, .bool (aj.i s).dead, jv, jk]) H 0 rfl ti32 rfl rfl rfl (by decide) (tVer.one hRI) fun w5_8 H => ⟨fun _ => H.tail, ?_⟩)
    refine DA_done (by kernel_rfl) ?_
    refine W_seq ?_
    refine W_region ?_
    refine OL_y (y_move h2) (by decide) ?_
    refine OL_y (y_fieldAddr ti32 rfl ti24 rfl rfl) (by decide) ?_
    refine OL_c (op_store (v := .int .u64 ts) H 0 rfl ti24 rfl rfl rfl (Nat.le_of_ble_eq_true rfl) (by simp [Value.cells, Value.oneCell']) fun w6_2 H => ?_)
    have H : Holds w6_2 (own b10 (.cells #[.int .u64 ts, .int .u64 (aj.i s).txn, .bool (aj.i s).dead, jv, jk] 32) :: cAt b b1 b2 E' I' Fj Wj w0 L) := H
    refine OL_nil ?_
    refine W_seq ?_
    refine W_region ?_
    refine OL_y (y_move h0) (by decide) ?_
    refine OL_y (y_move rfl) (by decide) ?_
    refine OL_y (y_loadA (cs := [.int .u64 ts, .int .u64 (aj.i s).txn, .bool (aj.i s).dead, jv, jk]) ti32 rfl rfl (Cells.of (H.getOwn 0 rfl) rfl) rfl) (by decide) ?_
    refine OL_c (op_call 23 en23 rfl [.pointer (some ⟨b, 0, none⟩), vy, .agg #[.int .u64 ts, .int .u64 (aj.i s).txn, .bool (aj.i s).dead, jv, jk]] rfl (by decide) ((f23_calls H.tail hrj hvy hu haj (by omega)).mono ?_))
    rintro e w7_3 ⟨rfl, E2, F2, W2, H, hr2, g2, hE2⟩
    refine ⟨_, rfl, ?_⟩
    rw [hks2] at hr2
    refine OL_nil ?_
    refine W_drawD H mixed (by kernel_rfl) [6] (fun wq w' => Holds w' (cAt b b1 b2 E2 I' F2 W2 w0 L)) fun wd8 H hEd => ?_
    have hS : ∀ {ls : Array Bool}, Sx [6] (fun w' => Holds w' (cAt b b1 b2 E2 I' F2 W2 w0 L)) ls wd8 := fun {_} _ => H
    refine DA_p 0 rfl (by kernel_rfl) rfl (fun _ => y_move h0) hS (by decide) fun hS => ?_
    refine DA_p 1 rfl (by kernel_rfl) rfl (fun _ => y_nilCheck rfl ⟨_, rfl⟩) hS (by decide) fun hS => ?_
    refine DA_p 2 rfl (by kernel_rfl) rfl (fun _ => y_fieldAddr ti98 rfl ti96 rfl rfl) hS (by decide) fun hS => ?_
    refine DA_y 3 rfl (by kernel_rfl) rfl (by kernel_rfl) (fun w' h => y_loadS (v := .map (some b2)) ti96 rfl rfl (Cells.unit (h.getOwn 0 rfl) rfl)) hS (by decide) fun hS => ?_
    refine DA_p 4 rfl (by kernel_rfl) rfl (fun _ => y_move rfl) hS (by decide) fun hS => ?_
    refine DA_y 5 rfl (by kernel_rfl) rfl (by kernel_rfl) (fun w' h => y_toStr (w := w') Try.underlying23 Try.underlying5 Try.underlying9 rfl ((show SlR (tInt .u8) 1 (Dz w0 F2) W2 vy (unkb s) from g2.slr hvy).keeps (h.dz 3 4 rfl rfl hr2.base))) hS (by decide) fun hS => ?_
    refine DA_one 6 (by kernel_rfl) rfl (op_delete (k := kb (unkb s)) H 2 rfl rfl ti96 (KeyOK.str Try.underlying9) (by intro d hd; cases hd) rfl rfl fun w8_6 H => ⟨fun h => absurd (h 6 (by simp)) (by decide), ?_⟩)
    refine DA_done (by kernel_rfl) ?_
    have H : Holds w8_6 (own b (.cells #[.map (some b1), .map (some b2)] 98) :: mp Value.string b1 (E2.map Ent.kv) :: mp Value.string b2 (mdel (I'.map Itn.kv) (kb (unkb s))) :: exc F2 W2 :: shr (fun k => k < w0.heap.size) w0 :: (E2.map Ent.atom ++ L)) := H
    rw [hks2, mdelI] at H
    refine ⟨htj, htm, E2, _, F2, W2, h0, h2, h7, h14, rfl, ?_, ?_, gj.trans g2, g2.slr hSj, Nat.le_trans (List.length_filter_le _ _) hIj, by omega, H⟩
    · rw [htk]; exact hr2.delI s
    · rw [htk]; exact turn1_ok haj ts s
  · rintro f ds w2 ⟨E', I', Fj, Wj, h0, h2, h7, h14, rfl, hrj, haj, gj, hSj, hIj, hEj, H⟩ htj htm
    rw [List.take_length] at hrj haj
    refine W_seq ?_
    refine W_region ?_
    refine OL_y (y_move h7) (by decide) ?_
    refine OL_y (y_len rfl ti30 rfl) (by decide) ?_
    refine OL_y (y_assign rfl) (by decide) ?_
    refine OL_nil ?_
    refine W_ret ?_
    show RetOK _ _ _ _ _ _
    exact ret1 (v := .int .i64 ks.length) Try.results27 rfl ⟨ks, rfl, hks, E', I', Fj, Wj, H, hrj, haj, gj, hIj, hEj, hkI⟩
end Go.Proofs.Ytpandioolpnihaa

/- Drop and Turn of the reference's store. -/
namespace Go.Proofs.Ytpandioolpnihaa
open Go Go.Wk
set_option linter.unusedVariables false
set_option linter.unusedSimpArgs false

theorem noV_cells {Z : Nat → Prop} {w : World} : tVer.R Z w [.int .u64 noV.ts, .int .u64 noV.txn, .bool noV.dead, .slice none 0 0, .slice none 0 0] noV := ver_cells.2 ⟨_, _, rfl, rfl, rfl, SlR.nil _ _ _ _, SlR.nil _ _ _ _⟩
theorem RRep.keysLe {w0 Wp : World} {F : Nat → Prop} {R : List RE} {a : Abs} (h : RRep w0 F Wp R a) {txn : Int} {ks : List ByteArray} (hk : IntentsOf a txn ks) : ks.length ≤ R.length := by
  have hnd : ks.Nodup := rise_nodup bLt_irrefl hk.rise
  have hsub : ∀ k ∈ ks, k ∈ R.map RE.k := fun k hk' => Classical.byContradiction fun hn => by
    have h1 := (hk.mem k).1 hk'
    have h2 := (h.vn k hn).2
    rw [h2] at h1; exact h1.1 h1.2.symm
  have := List.Nodup.length_le_of_subset hnd hsub
  rwa [List.length_map] at this

set_option maxHeartbeats 16000000 in
theorem f41_calls {w0 w Wp : World} {F : Nat → Prop} {b : Nat} {v : Value} {R : List RE} {a : Abs} {L : List Atom} {txn : Int} (H : Holds w (rAt b v R F Wp w0 L)) (hr : RRep w0 F Wp R a) (hl : R.length ≤ 13000) :
    Calls Try.prog 41 [.pointer (some ⟨b, 0, none⟩), .int .u64 txn].toArray w fun e w' => ∃ ks : List ByteArray, e = .returned (.int .i64 ks.length) ∧ IntentsOf a txn ks ∧ ∃ (v' : Value) (R' : List RE) (F' : Nat → Prop) (Wp' : World), Holds w' (rAt b v' R' F' Wp' w0 L) ∧ RRep w0 F' Wp' R' (a.clear ks) ∧ Grow w0 F Wp F' Wp' ∧ R'.length ≤ R.length + ks.length := by
  refine calls_of_W' Try.func41 rfl Try.ntmps41 rfl ?_
  refine W_seq ?_
  refine W_region ?_
  refine OL_y (y_assign rfl) (by decide) ?_
  refine OL_nil ?_
  refine W_seq ?_
  refine W_region ?_
  refine OL_y (y_move rfl) (by decide) ?_
  refine OL_y (y_move rfl) (by decide) ?_
  refine OL_c (op_call 18 en18 rfl [.pointer (some ⟨b, 0, none⟩), .int .u64 txn] rfl (by decide) ((f18_calls H hr (by omega)).mono ?_))
  rintro e w1_2 ⟨v5, ks, rfl, hks, hSk, hE18⟩
  refine ⟨_, rfl, ?_⟩
  have hsz := hE18.size
  obtain ⟨H, g1⟩ := H.poolC hE18 2 3 rfl rfl hr.base
  obtain ⟨F', hF'⟩ : ∃ F' : Nat → Prop, F' = fun k => F k ∨ (w.heap.size ≤ k ∧ k < w1_2.heap.size) := ⟨_, rfl⟩
  rw [← hF'] at H g1
  have hSk' : SlR tKey 24 (Dz w0 F') w1_2 v5 (ks.map unkb) := hSk.mono fun k h1 h2 => h2.elim (fun h => h.imp id (fun h => by rw [hF']; exact .inl h)) (fun h => .inr (by rw [hF']; exact .inr ⟨h, h1⟩))
  have hkl := hr.keysLe hks
  obtain ⟨a5, c5, hv5, hl5, hm5⟩ := hSk'.len
  rw [List.length_map] at hv5 hl5
  subst hv5
  refine OL_y (y_assign rfl) (by decide) ?_
  refine OL_nil ?_
  refine W_seq ?_
  refine W_seq ?_
  refine W_region ?_
  refine OL_y (y_move rfl) (by decide) ?_
  refine OL_y (y_len rfl ti30 rfl) (by decide) ?_
  refine OL_y (y_move rfl) (by decide) ?_
  refine OL_nil ?_
  refine W_range (N := ks.length) (by omega) (fun j f ds w' => ∃ (vj : Value) (Rj : List RE) (Fj : Nat → Prop) (Wj : World), f 0 = .pointer (some ⟨b, 0, none⟩) ∧ f 5 = .slice a5 ks.length c5 ∧ f 12 = .slice a5 ks.length c5 ∧ ds = [] ∧ RRep w0 Fj Wj Rj (a.clear (ks.take j)) ∧ Grow w0 F Wp Fj Wj ∧ SlR tKey 24 (Dz w0 Fj) Wj (.slice a5 ks.length c5) (ks.map unkb) ∧ Rj.length ≤ R.length + j ∧ Holds w' (rAt b vj Rj Fj Wj w0 L))
      ⟨v, R, F', w1_2, rfl, rfl, rfl, rfl, hr.grow g1, g1, hSk', by omega, H⟩
      rfl rfl (by decide) (by decide) (by decide) rfl rfl ?_ rfl rfl ?_
  · rintro j f ds w2 hj ⟨vj, Rj, Fj, Wj, h0, h5, h12, rfl, hrj, gj, hSj, hRj, H⟩ htj htm
    have hkj := List.getElem?_eq_getElem hj
    have hxj : (ks.map unkb)[j]? = some (unkb ks[j]) := by rw [List.getElem?_map, hkj]; rfl
    obtain ⟨b3, o3, cs3, e3, hz3, hc3, hr3⟩ := hSj.at hxj
    have hc3' := hc3.ext ((H.dz 2 3 rfl rfl hrj.base).2 _ hz3 hc3.lt)
    obtain ⟨vy, rfl, hvy⟩ := hr3
    have htk : ks.take (j + 1) = ks.take j ++ [ks[j]] := by rw [List.take_add_one, hkj]; rfl
    generalize ks[j] = s at *
    have hks2 : kb (unkb s) = s := kb_unkb s
    have h12' := h12.trans (congrArg (Value.slice · _ _) e3)
    refine W_block ?_
    refine W_seq ?_
    refine W_region ?_
    refine OL_y (y_indexAddr ti30 ti23 h12' htj (by omega) (by omega)) (by decide) ?_
    refine OL_y (y_loadS (v := vy) ti23 rfl rfl hc3') (by decide) ?_
    refine OL_y (y_assign rfl) (by decide) ?_
    refine OL_nil ?_
    refine W_seq ?_
    refine W_region ?_
    refine OL_y (y_move h0) (by decide) ?_
    refine OL_y (y_move rfl) (by decide) ?_
    refine OL_c (op_call 64 en64 rfl [.pointer (some ⟨b, 0, none⟩), vy] rfl (by decide) ((f64_calls H hrj hvy (by omega)).mono ?_))
    rintro e w5_2 ⟨i, v1, R1, F1, W1, rfl, H, hr1, g2, ⟨e1, hie, hek1⟩, hl1⟩
    refine ⟨_, rfl, ?_⟩
    obtain ⟨av1, cv1, hv1, hlv1, hmv1⟩ := H.rowLen 1 rfl
    subst hv1
    have hlt1 := (List.getElem?_eq_some_iff.1 hie).1
    obtain ⟨br1, cr1, hvr1, -, -⟩ := ownsRow_cells (H.getRow 1 rfl) (by omega)
    refine OL_y (y_assign rfl) (by decide) ?_
    refine OL_nil ?_
    refine W_region ?_
    refine OL_y (y_move h0) (by decide) ?_
    refine OL_y (y_nilCheck rfl ⟨_, rfl⟩) (by decide) ?_
    refine OL_y (y_fieldAddr ti66 rfl ti49 rfl rfl) (by decide) ?_
    refine OL_y (y_loadS (v := .slice av1 R1.length cv1) ti49 rfl rfl (Cells.unit (H.getOwn 0 rfl) rfl)) (by decide) ?_
    refine OL_y (y_move rfl) (by decide) ?_
    refine OL_y (v := .agg #[.int .u64 0, .int .u64 0, .bool false, .slice none 0 0, .slice none 0 0]) (y_build ti32 pl32 rfl) (by decide) ?_
    refine OL_y (y_indexAddr ti49 ti55 hvr1 rfl (by omega) (by omega)) (by decide) ?_
    refine OL_y (y_fieldAddr ti55 rfl ti32 rfl rfl) (by decide) ?_
    refine OL_c (op_storeRowA (u := .agg #[.int .u64 0, .int .u64 0, .bool false, .slice none 0 0, .slice none 0 0]) (o := 0 + i * 7 + 2) H 1 rfl (by rw [hvr1]; rfl) ti32 rfl rfl rfl (by rw [flat_len RE.len]; omega) (by simp [Value.cells, Value.oneCell']) fun w6_8 H => ?_)
    refine OL_nil ?_
    have H : Holds w6_8 (own b (.cells #[.slice av1 R1.length cv1] 66) :: row 55 7 (.slice av1 R1.length cv1) R1.length ((R1.flatMap RE.cs).take (0 + i * 7 + 2) ++ [.int .u64 0, .int .u64 0, .bool false, .slice none 0 0, .slice none 0 0] ++ (R1.flatMap RE.cs).drop (0 + i * 7 + 2 + 5)) :: exc F1 W1 :: shr (fun k => k < w0.heap.size) w0 :: L) := H
    obtain ⟨e2, he2⟩ : ∃ e2 : RE, e2 = ⟨e1.vk, e1.vs, .slice none 0 0, .slice none 0 0, ⟨e1.c.key, e1.c.vers, noV⟩⟩ := ⟨_, rfl⟩
    rw [Nat.zero_add, flat_int (e' := e2) hie _ rfl (by rw [he2]; rfl)] at H
    have hr2 := hr1.setI hie noV_cells
    rw [← he2, hek1, hks2] at hr2
    refine ⟨htj, htm, .slice av1 R1.length cv1, R1.set i e2, F1, W1, h0, h5, h12, rfl, by rw [htk, ← clear_snoc]; exact hr2, gj.trans g2, g2.slr hSj, by rw [List.length_set]; omega, ?_⟩
    show Holds w6_8 (own b _ :: row 55 7 _ (R1.set i e2).length _ :: _)
    rw [List.length_set]; exact H
  · rintro f ds w2 ⟨vj, Rj, Fj, Wj, h0, h5, h12, rfl, hrj, gj, hSj, hRj, H⟩ htj htm
    rw [List.take_length] at hrj
    refine W_seq ?_
    refine W_region ?_
    refine OL_y (y_move h5) (by decide) ?_
    refine OL_y (y_len rfl ti30 rfl) (by decide) ?_
    refine OL_y (y_assign rfl) (by decide) ?_
    refine OL_nil ?_
    refine W_ret ?_
    show RetOK _ _ _ _ _ _
    exact ret1 (v := .int .i64 ks.length) Try.results41 rfl ⟨ks, rfl, hks, vj, Rj, Fj, Wj, H, hrj, gj, hRj⟩

set_option maxHeartbeats 16000000 in
theorem f39_calls {w0 w Wp : World} {F : Nat → Prop} {b m : Nat} {v : Value} {R : List RE} {a : Abs} {L : List Atom} {txn ts : Int} (H : Holds w (rAt b v R F Wp w0 L)) (hr : RRep w0 F Wp R a) (hl : R.length ≤ 13000) (ha : a.Ok m) (hm : m ≤ 10000) (hts : InK .u64 ts) :
    Calls Try.prog 39 [.pointer (some ⟨b, 0, none⟩), .int .u64 txn, .int .u64 ts].toArray w fun e w' => ∃ ks : List ByteArray, e = .returned (.int .i64 ks.length) ∧ IntentsOf a txn ks ∧ ∃ (v' : Value) (R' : List RE) (F' : Nat → Prop) (Wp' : World), Holds w' (rAt b v' R' F' Wp' w0 L) ∧ RRep w0 F' Wp' R' (ks.foldl (Abs.turn1 ts) a) ∧ Grow w0 F Wp F' Wp' ∧ R'.length ≤ R.length + 2 * ks.length := by
  refine calls_of_W' Try.func39 rfl Try.ntmps39 rfl ?_
  refine W_seq ?_
  refine W_region ?_
  refine OL_y (y_assign rfl) (by decide) ?_
  refine OL_nil ?_
  refine W_seq ?_
  refine W_region ?_
  refine OL_y (y_move rfl) (by decide) ?_
  refine OL_y (y_move rfl) (by decide) ?_
  refine OL_c (op_call 18 en18 rfl [.pointer (some ⟨b, 0, none⟩), .int .u64 txn] rfl (by decide) ((f18_calls H hr (by omega)).mono ?_))
  rintro e w1_2 ⟨v5, ks, rfl, hks, hSk, hE18⟩
  refine ⟨_, rfl, ?_⟩
  have hsz := hE18.size
  obtain ⟨H, g1⟩ := H.poolC hE18 2 3 rfl rfl hr.base
  obtain ⟨F', hF'⟩ : ∃ F' : Nat → Prop, F' = fun k => F k ∨ (w.heap.size ≤ k ∧ k < w1_2.heap.size) := ⟨_, rfl⟩
  rw [← hF'] at H g1
  have hSk' : SlR tKey 24 (Dz w0 F') w1_2 v5 (ks.map unkb) := hSk.mono fun k h1 h2 => h2.elim (fun h => h.imp id (fun h => by rw [hF']; exact .inl h)) (fun h => .inr (by rw [hF']; exact .inr ⟨h, h1⟩))
  have hkl := hr.keysLe hks
  obtain ⟨a5, c5, hv5, hl5, hm5⟩ := hSk'.len
  rw [List.length_map] at hv5 hl5
  subst hv5
  refine OL_y (y_assign rfl) (by decide) ?_
  refine OL_nil ?_
  refine W_seq ?_
  refine W_seq ?_
  refine W_region ?_
  refine OL_y (y_move rfl) (by decide) ?_
  refine OL_y (y_len rfl ti30 rfl) (by decide) ?_
  refine OL_y (y_move rfl) (by decide) ?_
  refine OL_nil ?_
  refine W_range (N := ks.length) (by omega) (fun j f ds w' => ∃ (vj : Value) (Rj : List RE) (Fj : Nat → Prop) (Wj : World), f 0 = .pointer (some ⟨b, 0, none⟩) ∧ f 2 = .int .u64 ts ∧ f 7 = .slice a5 ks.length c5 ∧ f 15 = .slice a5 ks.length c5 ∧ ds = [] ∧ RRep w0 Fj Wj Rj ((ks.take j).foldl (Abs.turn1 ts) a) ∧ ((ks.take j).foldl (Abs.turn1 ts) a).Ok (m + j) ∧ Grow w0 F Wp Fj Wj ∧ SlR tKey 24 (Dz w0 Fj) Wj (.slice a5 ks.length c5) (ks.map unkb) ∧ Rj.length ≤ R.length + 2 * j ∧ Holds w' (rAt b vj Rj Fj Wj w0 L))
      ⟨v, R, F', w1_2, rfl, rfl, rfl, rfl, rfl, hr.grow g1, ha, g1, hSk', by omega, H⟩
      rfl rfl (by decide) (by decide) (by decide) rfl rfl ?_ rfl rfl ?_
  · rintro j f ds w2 hj ⟨vj, Rj, Fj, Wj, h0, h2, h7, h15, rfl, hrj, haj, gj, hSj, hRj, H⟩ htj htm
    have hkj := List.getElem?_eq_getElem hj
    have hxj : (ks.map unkb)[j]? = some (unkb ks[j]) := by rw [List.getElem?_map, hkj]; rfl
    obtain ⟨b3, o3, cs3, e3, hz3, hc3, hr3⟩ := hSj.at hxj
    have hc3' := hc3.ext ((H.dz 2 3 rfl rfl hrj.base).2 _ hz3 hc3.lt)
    obtain ⟨vy, rfl, hvy⟩ := hr3
    have htk : (ks.take (j + 1)).foldl (Abs.turn1 ts) a = Abs.turn1 ts ((ks.take j).foldl (Abs.turn1 ts) a) ks[j] := by rw [List.take_add_one, hkj, Option.toList_some, List.foldl_append]; rfl
    generalize ks[j] = s at *
    generalize (ks.take j).foldl (Abs.turn1 ts) a = aj at *
    have hks2 : kb (unkb s) = s := kb_unkb s
    have h15' := h15.trans (congrArg (Value.slice · _ _) e3)
    refine W_block ?_
    refine W_seq ?_
    refine W_region ?_
    refine OL_y (y_indexAddr ti30 ti23 h15' htj (by omega) (by omega)) (by decide) ?_
    refine OL_y (y_loadS (v := vy) ti23 rfl rfl hc3') (by decide) ?_
    refine OL_y (y_assign rfl) (by decide) ?_
    refine OL_nil ?_
    refine W_seq ?_
    refine W_region ?_
    refine OL_y (y_move h0) (by decide) ?_
    refine OL_y (y_move rfl) (by decide) ?_
    refine OL_c (op_call 64 en64 rfl [.pointer (some ⟨b, 0, none⟩), vy] rfl (by decide) ((f64_calls H hrj hvy (by omega)).mono ?_))
    rintro e w5_2 ⟨i, v1, R1, F1, W1, rfl, H, hr1, g2, ⟨e1, hie, hek1⟩, hl1⟩
    refine ⟨_, rfl, ?_⟩
    obtain ⟨av1, cv1, hv1, hlv1, hmv1⟩ := H.rowLen 1 rfl
    subst hv1
    have hlt1 := (List.getElem?_eq_some_iff.1 hie).1
    have hem1 := List.mem_of_getElem? hie
    obtain ⟨br1, cr1, hvr1, -, -⟩ := ownsRow_cells (H.getRow 1 rfl) (by omega)
    have hC := rowElAt RE.len (H.getRow 1 rfl) (b := br1) (by rw [hvr1]; rfl) hie
    have hint := hr1.int hem1
    rw [hks2] at hek1
    have hai : aj.i s = e1.c.intent := by rw [← hek1]; exact (hr1.va e1 hem1).2
    rw [← hai] at hint
    obtain ⟨_, _, heq, hj1, hj2, hj3, hj4⟩ := ver_cells.1 hint
    have heq3 := heq
    injection heq with _ heq; injection heq with _ heq; injection heq with _ heq; injection heq with heq1 heq; injection heq with heq2 _
    subst heq1 heq2
    have hu : tVer.R (Dz w0 F1) W1 [.int .u64 ts, .int .u64 (aj.i s).txn, .bool (aj.i s).dead, e1.iv, e1.ik] ((aj.i s).atTs ts) := ver_cells.2 ⟨_, _, rfl, hts, hj2, hj3, hj4⟩
    refine OL_y (y_assign rfl) (by decide) ?_
    refine OL_nil ?_
    refine W_seq ?_
    refine W_region ?_
    refine OL_y (y_move h0) (by decide) ?_
    refine OL_y (y_nilCheck rfl ⟨_, rfl⟩) (by decide) ?_
    refine OL_y (y_fieldAddr ti66 rfl ti49 rfl rfl) (by decide) ?_
    refine OL_y (y_loadS (v := .slice av1 R1.length cv1) ti49 rfl rfl (Cells.unit (H.getOwn 0 rfl) rfl)) (by decide) ?_
    refine OL_y (y_move rfl) (by decide) ?_
    refine OL_y (y_indexAddr ti49 ti55 hvr1 rfl (by omega) (by omega)) (by decide) ?_
    refine OL_y (y_fieldAddr ti55 rfl ti32 rfl rfl) (by decide) ?_
    refine OL_y (y_loadA (cs := [.int .u64 (aj.i s).ts, .int .u64 (aj.i s).txn, .bool (aj.i s).dead, e1.iv, e1.ik]) ti32 rfl rfl (hai ▸ hC.take 2 rfl) rfl) (by decide) ?_
    refine OL_var (v := .agg #[.int .u64 (aj.i s).ts, .int .u64 (aj.i s).txn, .bool (aj.i s).dead, e1.iv, e1.ik]) H ti32 rfl (by decide) (fun _ => rfl) rfl (tVer.one hint) fun b11 w6_8 H => ?_
    refine OL_nil ?_
    refine W_seq ?_
    refine W_region ?_
    refine OL_y (y_move h2) (by decide) ?_
    refine OL_y (y_fieldAddr ti32 rfl ti24 rfl rfl) (by decide) ?_
    refine OL_c (op_store (v := .int .u64 ts) H 0 rfl ti24 rfl rfl rfl (Nat.le_of_ble_eq_true rfl) (by simp [Value.cells, Value.oneCell']) fun w7_2 H => ?_)
    have H : Holds w7_2 (own b11 (.cells #[.int .u64 ts, .int .u64 (aj.i s).txn, .bool (aj.i s).dead, e1.iv, e1.ik] 32) :: rAt b (.slice av1 R1.length cv1) R1 F1 W1 w0 L) := H
    refine OL_nil ?_
    refine W_seq ?_
    refine W_region ?_
    refine OL_y (y_move h0) (by decide) ?_
    refine OL_y (y_nilCheck rfl ⟨_, rfl⟩) (by decide) ?_
    refine OL_y (y_fieldAddr ti66 rfl ti49 rfl rfl) (by decide) ?_
    refine OL_y (y_loadS (v := .slice av1 R1.length cv1) ti49 rfl rfl (Cells.unit (H.getOwn 1 rfl) rfl)) (by decide) ?_
    refine OL_y (y_move rfl) (by decide) ?_
    refine OL_y (v := .agg #[.int .u64 0, .int .u64 0, .bool false, .slice none 0 0, .slice none 0 0]) (y_build ti32 pl32 rfl) (by decide) ?_
    refine OL_y (y_indexAddr ti49 ti55 hvr1 rfl (by omega) (by omega)) (by decide) ?_
    refine OL_y (y_fieldAddr ti55 rfl ti32 rfl rfl) (by decide) ?_
    refine OL_c (op_storeRowA (u := .agg #[.int .u64 0, .int .u64 0, .bool false, .slice none 0 0, .slice none 0 0]) (o := 0 + i * 7 + 2) H 2 rfl (by rw [hvr1]; rfl) ti32 rfl rfl rfl (by rw [flat_len RE.len]; omega) (by simp [Value.cells, Value.oneCell']) fun w8_8 H => ?_)
    refine OL_nil ?_
    have H : Holds w8_8 (own b11 (.cells #[.int .u64 ts, .int .u64 (aj.i s).txn, .bool (aj.i s).dead, e1.iv, e1.ik] 32) :: own b (.cells #[.slice av1 R1.length cv1] 66) :: row 55 7 (.slice av1 R1.length cv1) R1.length ((R1.flatMap RE.cs).take (0 + i * 7 + 2) ++ [.int .u64 0, .int .u64 0, .bool false, .slice none 0 0, .slice none 0 0] ++ (R1.flatMap RE.cs).drop (0 + i * 7 + 2 + 5)) :: exc F1 W1 :: shr (fun k => k < w0.heap.size) w0 :: L) := H
    obtain ⟨e2, he2⟩ : ∃ e2 : RE, e2 = ⟨e1.vk, e1.vs, .slice none 0 0, .slice none 0 0, ⟨e1.c.key, e1.c.vers, noV⟩⟩ := ⟨_, rfl⟩
    rw [Nat.zero_add, flat_int (e' := e2) hie _ rfl (by rw [he2]; rfl)] at H
    have hr2 := hr1.setI hie noV_cells
    rw [← he2, hek1] at hr2
    have H : Holds w8_8 (own b11 (.cells #[.int .u64 ts, .int .u64 (aj.i s).txn, .bool (aj.i s).dead, e1.iv, e1.ik] 32) :: rAt b (.slice av1 R1.length cv1) (R1.set i e2) F1 W1 w0 L) := by
      show Holds w8_8 (own b11 _ :: own b _ :: row 55 7 _ (R1.set i e2).length _ :: _)
      rw [List.length_set]; exact H
    refine W_region ?_
    refine OL_y (y_move h0) (by decide) ?_
    refine OL_y (y_move rfl) (by decide) ?_
    refine OL_y (y_loadA (cs := [.int .u64 ts, .int .u64 (aj.i s).txn, .bool (aj.i s).dead, e1.iv, e1.ik]) ti32 rfl rfl (Cells.of (H.getOwn 0 rfl) rfl) rfl) (by decide) ?_
    refine OL_c (op_call 36 en36 rfl [.pointer (some ⟨b, 0, none⟩), vy, .agg #[.int .u64 ts, .int .u64 (aj.i s).txn, .bool (aj.i s).dead, e1.iv, e1.ik]] rfl (by decide) ((f36_calls H.tail hr2 (g2.slr hvy) hu (show (aj.setI s noV).Ok (m + j) from haj) (by omega) (by rw [List.length_set]; omega)).mono ?_))
    rintro e w9_3 ⟨rfl, v3, R3, F3, W3, H, hr3, g3, hl3⟩
    refine ⟨_, rfl, ?_⟩
    refine OL_nil ?_
    rw [hks2] at hr3
    rw [List.length_set] at hl3
    refine ⟨htj, htm, v3, R3, F3, W3, h0, h2, h7, h15, rfl, by rw [htk]; exact hr3, by rw [htk]; exact turn1_ok haj ts s, (gj.trans g2).trans g3, g3.slr (g2.slr hSj), by omega, H⟩
  · rintro f ds w2 ⟨vj, Rj, Fj, Wj, h0, h2, h7, h15, rfl, hrj, haj, gj, hSj, hRj, H⟩ htj htm
    rw [List.take_length] at hrj
    refine W_seq ?_
    refine W_region ?_
    refine OL_y (y_move h7) (by decide) ?_
    refine OL_y (y_len rfl ti30 rfl) (by decide) ?_
    refine OL_y (y_assign rfl) (by decide) ?_
    refine OL_nil ?_
    refine W_ret ?_
    show RetOK _ _ _ _ _ _
    exact ret1 (v := .int .i64 ks.length) Try.results39 rfl ⟨ks, rfl, hks, vj, Rj, Fj, Wj, H, hrj, gj, hRj⟩
end Go.Proofs.Ytpandioolpnihaa

/- At and Keys of the reference's store. -/
namespace Go.Proofs.Ytpandioolpnihaa
open Go Go.Wk
set_option linter.unusedVariables false
set_option linter.unusedSimpArgs false

theorem posV_of {vs : List Ver} {ts : Int} {i : Nat} (hi : i ≤ vs.length) (hlo : ∀ v ∈ vs.take i, ts < v.ts) (hhi : ∀ v, vs[i]? = some v → ¬ ts < v.ts) : posV vs ts = i := by
  have e : vs = vs.take i ++ vs.drop i := (List.take_append_drop i vs).symm
  unfold posV
  rw [e, List.takeWhile_append_of_pos (fun v hv => by simpa using hlo v hv)]
  have : (vs.drop i).takeWhile (fun v => decide (ts < v.ts)) = [] := by
    cases hd : vs.drop i with
    | nil => rfl
    | cons v l =>
      have hv : vs[i]? = some v := by
        have := congrArg (·[0]?) hd
        simpa [List.getElem?_drop] using this
      rw [List.takeWhile_cons, decide_eq_false (hhi v hv)]; rfl
  rw [this, List.append_nil, List.length_take]; omega

set_option maxHeartbeats 16000000 in
theorem f14_calls {w0 w Wp : World} {F : Nat → Prop} {b m : Nat} {v : Value} {R : List RE} {a : Abs} {L : List Atom} {vk : Value} {key : Key} {ts : Int} (H : Holds w (rAt b v R F Wp w0 L)) (hr : RRep w0 F Wp R a) (hk : SlR (tInt .u8) 1 (Dz w0 F) Wp vk key) (ha : a.Ok m) (hm : m ≤ 40000) (hl : R.length ≤ 39000) :
    Calls Try.prog 14 [.pointer (some ⟨b, 0, none⟩), vk, .int .u64 ts].toArray w fun e w' => ∃ cs : List Value, e = .returned (.tuple #[.agg cs.toArray, .bool (atV a (kb key) ts).isSome]) ∧ tVer.R (Dz w0 F) Wp cs ((atV a (kb key) ts).getD noV) ∧ Ext none' w w' := by
  have H0 := H
  obtain ⟨av, cv, hv, hlv, hmv⟩ := H0.rowLen 1 rfl
  subst hv
  have H := Holds.start w
  refine calls_of_W' Try.func14 rfl Try.ntmps14 rfl ?_
  refine W_seq ?_
  refine W_region ?_
  refine OL_c (op_alloc H ti32 (by decide) fun b6 w0_0 H => ?_)
  refine OL_y (v := .bool false) (y_assign rfl) (by decide) ?_
  refine OL_nil ?_
  refine W_seq ?_
  refine W_seq ?_
  refine W_region ?_
  refine OL_y (y_move rfl) (by decide) ?_
  refine OL_y (y_move rfl) (by decide) ?_
  refine OL_c (op_call 47 en47 rfl [.pointer (some ⟨b, 0, none⟩), vk] rfl (by decide) ((f47_calls (H0.ext0 (H.ext_of 1 rfl)) hr hk (by omega)).mono ?_))
  rintro e w1_2 ⟨rfl, hE47⟩
  refine ⟨_, rfl, ?_⟩
  have H := H.ext0 hE47
  refine OL_y (y_move rfl) (by decide) ?_
  refine OL_y (y_extract (v := .int .i64 (posR R (kb key))) rfl rfl) (by decide) ?_
  refine OL_y (y_extract (v := .bool (hasR R (kb key))) rfl rfl) (by decide) ?_
  refine OL_y (y_assign rfl) (by decide) ?_
  refine OL_y (y_assign rfl) (by decide) ?_
  refine OL_nil ?_
  have hq : ∃ q, hasR R (kb key) = q := ⟨_, rfl⟩
  obtain ⟨q, hq⟩ := hq
  rw [hq]
  refine W_seq ?_
  rcases q with _ | _
  · refine W_region ?_
    refine OL_y (v := .bool false) (y_move rfl) (by decide) ?_
    refine OL_nil ?_
    refine W_condf rfl ?_
    refine W_skip ?_
    refine W_seq ?_
    refine W_region ?_
    refine OL_y (v := .agg #[.int .u64 0, .int .u64 0, .bool false, .slice none 0 0, .slice none 0 0]) (y_build ti32 pl32 rfl) (by decide) ?_
    refine OL_c (op_store (v := .agg #[.int .u64 0, .int .u64 0, .bool false, .slice none 0 0, .slice none 0 0]) H 0 rfl ti32 rfl rfl rfl (by decide) (by simp [Value.cells, Value.oneCell']) fun w9_1 H => ?_)
    refine OL_y (v := .bool false) (y_assign rfl) (by decide) ?_
    refine OL_nil ?_
    refine W_ret ?_
    show RetOK _ _ _ _ _ _
    have hat : atV a (kb key) ts = none := by unfold atV; rw [(hr.hasnt hq).1]; rfl
    refine ret2ct Try.results14 rfl (run_loadVarA (cs := [.int .u64 0, .int .u64 0, .bool false, .slice none 0 0, .slice none 0 0]) ti32 rfl (Cells.of (H.getOwn 0 rfl) rfl) rfl) rfl ⟨_, by rw [hat]; rfl, ?_, H.ext_of 1 rfl⟩
    rw [hat]; exact noV_cells
  · refine W_region ?_
    refine OL_y (v := .bool true) (y_move rfl) (by decide) ?_
    refine OL_nil ?_
    refine W_condt rfl ?_
    refine W_seq ?_
    obtain ⟨e, hge, hek, hem, hev, hei⟩ := hr.has hq
    have hlt := (List.getElem?_eq_some_iff.1 hge).1
    have HS := H0.ext0 (H.ext_of 1 rfl)
    obtain ⟨br, cr, hvr, -, -⟩ := ownsRow_cells (HS.getRow 1 rfl) (by omega)
    have hC := rowElAt RE.len (HS.getRow 1 rfl) (b := br) (by rw [hvr]; rfl) hge
    have hSv := hr.vers hem
    obtain ⟨sa, cs1, hvs, hls, hms⟩ := hSv.len
    rw [hvs] at hSv
    obtain ⟨hsd, hvm⟩ := ha (kb key)
    rw [hev] at hsd hvm
    refine W_region ?_
    refine OL_y (y_move rfl) (by decide) ?_
    refine OL_y (y_nilCheck rfl ⟨_, rfl⟩) (by decide) ?_
    refine OL_y (y_fieldAddr ti66 rfl ti49 rfl rfl) (by decide) ?_
    refine OL_y (y_loadS (v := .slice av R.length cv) ti49 rfl rfl (Cells.unit (HS.getOwn 0 rfl) rfl)) (by decide) ?_
    refine OL_y (y_move rfl) (by decide) ?_
    refine OL_y (y_indexAddr ti49 ti55 hvr rfl (by omega) (by omega)) (by decide) ?_
    refine OL_y (y_fieldAddr ti55 rfl ti53 rfl rfl) (by decide) ?_
    refine OL_y (y_loadS (v := .slice sa e.c.vers.length cs1) ti53 rfl rfl (hvs ▸ hC.take 1 rfl)) (by decide) ?_
    refine OL_y (y_len rfl ti53 rfl) (by decide) ?_
    refine OL_y (y_move rfl) (by decide) ?_
    refine OL_nil ?_
    refine W_range (N := e.c.vers.length) (by simp [maxLen]; omega) (fun k f ds w' => f 2 = .int .u64 ts ∧ f 6 = .pointer (some ⟨b6, 0, none⟩) ∧ f 26 = .slice sa e.c.vers.length cs1 ∧ ds = [] ∧ (∀ x ∈ e.c.vers.take k, ts < x.ts) ∧ Holds w' [own b6 (.cells #[.int .u64 0, .int .u64 0, .bool false, .slice none 0 0, .slice none 0 0] 32), shr (fun k => k < w.heap.size) w])
        ⟨rfl, rfl, rfl, rfl, by simp, H⟩
        rfl rfl (by decide) (by decide) (by decide) rfl rfl ?_ rfl rfl ?_
    · rintro k f ds w3 hk3 ⟨h2, h6, h26, rfl, hlo, H⟩ hti htn
      have hxk := List.getElem?_eq_getElem hk3
      obtain ⟨b3, o3, cs3, e3, hz3, hc3, hr3⟩ := hSv.at hxk
      have HS3 := H0.ext0 (H.ext_of 1 rfl)
      have hc3' := hc3.ext ((HS3.dz 2 3 rfl rfl hr.base).2 _ hz3 hc3.lt)
      have htk : e.c.vers.take (k + 1) = e.c.vers.take k ++ [e.c.vers[k]] := by rw [List.take_add_one, hxk]; rfl
      generalize e.c.vers[k] = x at *
      obtain ⟨xv, xk, rfl, hx1, hx2, hx3, hx4⟩ := ver_cells.1 hr3
      have h26' := h26.trans (congrArg (Value.slice · _ _) e3)
      refine W_block ?_
      refine W_seq ?_
      refine W_region ?_
      refine OL_y (y_indexAddr ti53 ti32 h26' hti (by omega) (by omega)) (by decide) ?_
      refine OL_y (y_loadA (cs := [.int .u64 x.ts, .int .u64 x.txn, .bool x.dead, xv, xk]) ti32 rfl rfl hc3' rfl) (by decide) ?_
      refine OL_var (v := .agg #[.int .u64 x.ts, .int .u64 x.txn, .bool x.dead, xv, xk]) H ti32 rfl (by decide) (fun _ => rfl) rfl (tVer.one hr3) fun b11 w5_2 H => ?_
      refine OL_nil ?_
      refine W_seq ?_
      refine W_region ?_
      refine OL_y (y_fieldAddr ti32 rfl ti24 rfl rfl) (by decide) ?_
      refine OL_y (y_loadS (v := .int .u64 x.ts) ti24 rfl rfl (Cells.unit (H.getOwn 0 rfl) rfl)) (by decide) ?_
      refine OL_y (y_move h2) (by decide) ?_
      refine OL_y (y_leq rfl rfl) (by decide) ?_
      refine OL_nil ?_
      refine W_cond rfl (fun hc => ?_) (fun hc => ?_)
      · have hle := of_decide_eq_true hc
        refine W_seq ?_
        refine W_region ?_
        refine OL_y (y_loadA (cs := [.int .u64 x.ts, .int .u64 x.txn, .bool x.dead, xv, xk]) ti32 rfl rfl (Cells.of (H.getOwn 0 rfl) rfl) rfl) (by decide) ?_
        refine OL_c (op_store (v := .agg #[.int .u64 x.ts, .int .u64 x.txn, .bool x.dead, xv, xk]) H 1 rfl ti32 h6 rfl rfl (by decide) (tVer.one hr3) fun w7_1 H => ?_)
        refine OL_y (v := .bool true) (y_assign rfl) (by decide) ?_
        refine OL_nil ?_
        refine W_ret ?_
        show RetOK _ _ _ _ _ _
        have hp : posV e.c.vers ts = k := posV_of (by omega) hlo fun y hy => by rw [hxk] at hy; injection hy with hy; rw [← hy]; omega
        have hat : atV a (kb key) ts = some x := by unfold atV; rw [hev, hp]; exact hxk
        refine ret2ct Try.results14 h6 (run_loadVarA (cs := [.int .u64 x.ts, .int .u64 x.txn, .bool x.dead, xv, xk]) ti32 rfl (Cells.of (H.getOwn 1 rfl) rfl) rfl) rfl ⟨_, by rw [hat]; rfl, ?_, H.ext_of 2 rfl⟩
        rw [hat]; exact hr3
      · refine W_skip ?_
        have hlt := of_decide_eq_false hc
        refine ⟨hti, htn, h2, h6, h26, rfl, ?_, H.tail⟩
        rw [htk]; intro y hy
        rcases List.mem_append.1 hy with hy | hy
        · exact hlo y hy
        · rw [List.mem_singleton.1 hy]; omega
    · rintro f ds w3 ⟨h2, h6, h26, rfl, hlo, H⟩ hti htn
      rw [List.take_length] at hlo
      refine W_seq ?_
      refine W_region ?_
      refine OL_y (v := .agg #[.int .u64 0, .int .u64 0, .bool false, .slice none 0 0, .slice none 0 0]) (y_build ti32 pl32 rfl) (by decide) ?_
      refine OL_c (op_store (v := .agg #[.int .u64 0, .int .u64 0, .bool false, .slice none 0 0, .slice none 0 0]) H 0 rfl ti32 h6 rfl rfl (by decide) (by simp [Value.cells, Value.oneCell']) fun w9_1 H => ?_)
      refine OL_y (v := .bool false) (y_assign rfl) (by decide) ?_
      refine OL_nil ?_
      refine W_ret ?_
      show RetOK _ _ _ _ _ _
      have hp : posV e.c.vers ts = e.c.vers.length := posV_of (Nat.le_refl _) (by rw [List.take_length]; exact hlo) fun y hy => by rw [List.getElem?_eq_none (Nat.le_refl _)] at hy; cases hy
      have hat : atV a (kb key) ts = none := by unfold atV; rw [hev, hp]; exact List.getElem?_eq_none (Nat.le_refl _)
      refine ret2ct Try.results14 h6 (run_loadVarA (cs := [.int .u64 0, .int .u64 0, .bool false, .slice none 0 0, .slice none 0 0]) ti32 rfl (Cells.of (H.getOwn 0 rfl) rfl) rfl) rfl ⟨_, by rw [hat]; rfl, ?_, H.ext_of 1 rfl⟩
      rw [hat]; exact noV_cells

def isKey (a : Abs) (k : ByteArray) : Prop := a.v k ≠ [] ∨ (a.i k).txn ≠ 0
structure KeysOf (a : Abs) (ks : List ByteArray) : Prop where
  rise : ks.Pairwise bLt
  mem : ∀ k, k ∈ ks ↔ isKey a k

set_option maxHeartbeats 16000000 in
theorem f19_calls {w0 w Wp : World} {F : Nat → Prop} {b : Nat} {v : Value} {R : List RE} {a : Abs} {L : List Atom} (H : Holds w (rAt b v R F Wp w0 L)) (hr : RRep w0 F Wp R a) (hl : R.length ≤ 40000) :
    Calls Try.prog 19 [.pointer (some ⟨b, 0, none⟩)].toArray w fun e w' => ∃ (v : Value) (ks : List ByteArray), e = .returned v ∧ KeysOf a ks ∧ SlR tKey 24 (fun k => Dz w0 F k ∨ w.heap.size ≤ k) w' v (ks.map unkb) ∧ Ext none' w w' := by
  have H0 := H
  have hq : ∀ e ∈ R, ∀ x ∈ e.c.key, InK .u8 x := fun e he => (hr.key he).allIn
  obtain ⟨av, cv, hv, hlv, hmv⟩ := H0.rowLen 1 rfl
  subst hv
  obtain ⟨q, hqq⟩ : ∃ q : RE → Bool, q = fun e => decide (0 < e.c.vers.length ∨ e.c.intent.txn ≠ 0) := ⟨_, rfl⟩
  have hqe : ∀ e, q e = decide (0 < e.c.vers.length ∨ e.c.intent.txn ≠ 0) := fun e => by rw [hqq]
  have H := Holds.start w
  refine calls_of_W' Try.func19 rfl Try.ntmps19 rfl ?_
  refine W_seq ?_
  refine W_region ?_
  refine OL_y (y_assign rfl) (by decide) ?_
  refine OL_nil ?_
  refine W_seq ?_
  refine W_region ?_
  refine OL_y (y_assign rfl) (by decide) ?_
  refine OL_nil ?_
  refine W_seq ?_
  refine W_seq ?_
  refine W_region ?_
  refine OL_y (y_move rfl) (by decide) ?_
  refine OL_y (y_nilCheck rfl ⟨_, rfl⟩) (by decide) ?_
  refine OL_y (y_fieldAddr ti66 rfl ti49 rfl rfl) (by decide) ?_
  refine OL_y (y_loadS (v := .slice av R.length cv) ti49 rfl rfl (Cells.unit ((H0.ext0 (H.ext_of 0 rfl)).getOwn 0 rfl) rfl)) (by decide) ?_
  refine OL_y (y_len rfl ti49 rfl) (by decide) ?_
  refine OL_y (y_move rfl) (by decide) ?_
  refine OL_nil ?_
  have H := H.rowNil 23 1
  refine W_range (N := R.length) (by simp [maxLen]; omega) (fun k f ds w' => ∃ (v3 : Value) (cs : List Value), f 9 = .slice av R.length cv ∧ f 3 = v3 ∧ ds = [] ∧ Els tKey (Dz w0 F) Wp cs (((R.take k).filter q).map fun e => e.c.key) ∧
      Holds w' [row 23 1 v3 ((R.take k).filter q).length cs, shr (fun k => k < w.heap.size) w])
      ⟨.slice none 0 0, [], rfl, rfl, rfl, Els.nil _ _ _, H⟩
      rfl rfl (by decide) (by decide) (by decide) rfl rfl ?_ rfl rfl ?_
  · rintro k f ds w3 hk3 ⟨v3, cs, h9, h3, rfl, hE, H⟩ hti htn
    have hxk := List.getElem?_eq_getElem hk3
    have hem := List.getElem_mem hk3
    have HS := H0.ext0 (H.ext_of 1 rfl)
    obtain ⟨br, cr, hvr, -, -⟩ := ownsRow_cells (HS.getRow 1 rfl) (by omega)
    have hC := rowElAt RE.len (HS.getRow 1 rfl) (b := br) (by rw [hvr]; rfl) hxk
    have htk : ((R.take (k + 1)).filter q) = ((R.take k).filter q) ++ [R[k]].filter q := by rw [List.take_add_one, hxk, Option.toList_some, List.filter_append]
    have hcl : ((R.take k).filter q).length ≤ 40000 := Nat.le_trans (List.length_filter_le _ _) (by rw [List.length_take]; omega)
    have hone := tCl.one (hr.good _ hem)
    have hkS := hr.key hem
    have hvS := hr.vers hem
    generalize R[k] = e at *
    obtain ⟨ak, ck, hvk, hlk, hmk⟩ := hkS.len
    obtain ⟨aw, cw, hvw, hlw, hmw⟩ := hvS.len
    rw [hvk] at hkS
    have hcs : e.cs = [.slice ak e.c.key.length ck, .slice aw e.c.vers.length cw, .int .u64 e.c.intent.ts, .int .u64 e.c.intent.txn, .bool e.c.intent.dead, e.iv, e.ik] := by show [e.vk, e.vs, _, _, _, _, _] = _; rw [hvk, hvw]
    rw [hcs] at hC hone
    have h9' := h9.trans hvr
    refine W_block ?_
    refine W_seq ?_
    refine W_region ?_
    refine OL_y (y_indexAddr ti49 ti55 h9' hti (by omega) (by omega)) (by decide) ?_
    refine OL_y (y_loadA (cs := [.slice ak e.c.key.length ck, .slice aw e.c.vers.length cw, .int .u64 e.c.intent.ts, .int .u64 e.c.intent.txn, .bool e.c.intent.dead, e.iv, e.ik]) ti55 rfl rfl hC rfl) (by decide) ?_
    refine OL_var (v := .agg #[.slice ak e.c.key.length ck, .slice aw e.c.vers.length cw, .int .u64 e.c.intent.ts, .int .u64 e.c.intent.txn, .bool e.c.intent.dead, e.iv, e.ik]) H ti55 rfl (by decide) (fun _ => rfl) rfl (hone) fun b5 w4_2 H => ?_
    refine OL_nil ?_
    refine W_seq ?_
    by_cases hy : (0 : Int) < (e.c.vers.length : Nat)
    · refine W_region ?_
      refine OL_y (y_fieldAddr ti55 rfl ti53 rfl rfl) (by decide) ?_
      refine OL_y (y_loadS (v := .slice aw e.c.vers.length cw) ti53 rfl rfl (Cells.unit (H.getOwn 0 rfl) rfl)) (by decide) ?_
      refine OL_y (y_len rfl ti53 rfl) (by decide) ?_
      refine OL_y (v := .bool true) (y_gtrT hy rfl rfl) (by decide) ?_
      refine OL_y (v := .bool true) (y_move rfl) (by decide) ?_
      refine OL_s rfl (by decide) rfl rfl (by simp) ?_
      refine OL_s rfl (by decide) rfl rfl (by simp) ?_
      refine OL_s rfl (by decide) rfl rfl (by simp) ?_
      refine OL_s rfl (by decide) rfl rfl (by simp) ?_
      refine OL_y (y_pick (b := true) (v := .bool true) rfl rfl) (by decide) ?_
      refine OL_nil ?_
      refine W_condt rfl ?_
      refine W_region ?_
      refine OL_y (y_move h3) (by decide) ?_
      refine OL_y (y_fieldAddr ti55 rfl ti23 rfl rfl) (by decide) ?_
      refine OL_y (y_loadS (v := .slice ak e.c.key.length ck) ti23 rfl rfl (Cells.unit (H.getOwn 0 rfl) rfl)) (by decide) ?_
      refine OL_c (op_buildSlice H [.slice ak e.c.key.length ck] ti30 ti23 rfl rfl rfl (by simp [Value.cells]) rfl rfl (by decide) fun b28 w6_3 H => ?_)
      refine OL_c (op_append H 2 rfl rfl ti30 ti23 rfl rfl rfl rfl (Src.row (H.getRow 0 rfl)) rfl (by simp [Value.cells, Value.oneCell']) (by omega) (by simp only [maxLen]; omega) (by decide) fun v29 w6_4 H => ?_)
      refine OL_y (y_assign rfl) (by decide) ?_
      refine OL_nil ?_
      have hn : [e].filter q = [e] := by rw [List.filter_cons_of_pos (by rw [hqe, decide_eq_true_eq]; left; omega)]; rfl
      refine ⟨hti, htn, v29, cs ++ [Value.slice ak e.c.key.length ck], h9, rfl, rfl, ?_, ?_⟩
      · rw [htk, hn, List.map_append]; exact hE.snoc ⟨_, rfl, hkS⟩
      · rw [htk, hn, List.length_append]; exact H.tail.tail
    · refine W_region ?_
      refine OL_y (y_fieldAddr ti55 rfl ti53 rfl rfl) (by decide) ?_
      refine OL_y (y_loadS (v := .slice aw e.c.vers.length cw) ti53 rfl rfl (Cells.unit (H.getOwn 0 rfl) rfl)) (by decide) ?_
      refine OL_y (y_len rfl ti53 rfl) (by decide) ?_
      refine OL_y (v := .bool false) (y_gtrF hy rfl rfl) (by decide) ?_
      refine OL_y (v := .bool false) (y_move rfl) (by decide) ?_
      refine OL_yg rfl (by decide) rfl (y_fieldAddr ti55 rfl ti32 rfl rfl) (by decide) ?_
      refine OL_yg rfl (by decide) rfl (y_fieldAddr ti32 rfl ti24 rfl rfl) (by decide) ?_
      refine OL_yg rfl (by decide) rfl (y_loadS (v := .int .u64 e.c.intent.txn) ti24 rfl rfl (Cells.unit (H.getOwn 0 rfl) rfl)) (by decide) ?_
      refine OL_yg rfl (by decide) rfl (y_neq rfl rfl) (by decide) ?_
      refine OL_y (y_pick (b := false) rfl rfl) (by decide) ?_
      refine OL_nil ?_
      refine W_cond rfl (fun hc => ?_) (fun hc => ?_)
      · refine W_region ?_
        refine OL_y (y_move h3) (by decide) ?_
        refine OL_y (y_fieldAddr ti55 rfl ti23 rfl rfl) (by decide) ?_
        refine OL_y (y_loadS (v := .slice ak e.c.key.length ck) ti23 rfl rfl (Cells.unit (H.getOwn 0 rfl) rfl)) (by decide) ?_
        refine OL_c (op_buildSlice H [.slice ak e.c.key.length ck] ti30 ti23 rfl rfl rfl (by simp [Value.cells]) rfl rfl (by decide) fun b28 w6_3 H => ?_)
        refine OL_c (op_append H 2 rfl rfl ti30 ti23 rfl rfl rfl rfl (Src.row (H.getRow 0 rfl)) rfl (by simp [Value.cells, Value.oneCell']) (by omega) (by simp only [maxLen]; omega) (by decide) fun v29 w6_4 H => ?_)
        refine OL_y (y_assign rfl) (by decide) ?_
        refine OL_nil ?_
        have hne := of_decide_eq_true hc
        have hn : [e].filter q = [e] := by rw [List.filter_cons_of_pos (by rw [hqe, decide_eq_true_eq]; right; exact hne)]; rfl
        refine ⟨hti, htn, v29, cs ++ [Value.slice ak e.c.key.length ck], h9, rfl, rfl, ?_, ?_⟩
        · rw [htk, hn, List.map_append]; exact hE.snoc ⟨_, rfl, hkS⟩
        · rw [htk, hn, List.length_append]; exact H.tail.tail
      · refine W_skip ?_
        have hne := of_decide_eq_false hc
        have hn : [e].filter q = [] := by
          rw [List.filter_cons_of_neg]; · rfl
          rw [hqe, decide_eq_true_eq]; intro h; rcases h with h | h
          · omega
          · exact hne h
        refine ⟨hti, htn, v3, cs, h9, h3, rfl, ?_, ?_⟩
        · rw [htk, hn, List.append_nil]; exact hE
        · rw [htk, hn, List.append_nil]; exact H.tail
  · rintro f ds w3 ⟨v3, cs, h9, h3, rfl, hE, H⟩ hti htn
    rw [List.take_length] at hE H
    refine W_seq ?_
    refine W_region ?_
    refine OL_y (y_move h3) (by decide) ?_
    refine OL_y (y_assign rfl) (by decide) ?_
    refine OL_nil ?_
    refine W_ret ?_
    show RetOK _ _ _ _ _ _
    have hcl : (R.filter q).length ≤ 40000 := Nat.le_trans (List.length_filter_le _ _) hl
    have hun : ((R.filter q).map RE.k).map unkb = (R.filter q).map fun e => e.c.key := by
      rw [List.map_map]; apply List.map_congr_left; intro e he; exact unkb_kb (hq e (List.mem_filter.1 he).1)
    refine ret1 (v := v3) Try.results19 rfl ⟨_, (R.filter q).map RE.k, rfl, ⟨hr.rise.sublist (List.Sublist.map _ List.filter_sublist), fun k => ?_⟩, ?_, H.ext_of 1 rfl⟩
    · rw [List.mem_map]
      constructor
      · rintro ⟨e, he, rfl⟩
        obtain ⟨h1, h2⟩ := List.mem_filter.1 he
        rw [hqe, decide_eq_true_eq] at h2
        unfold isKey
        rw [(hr.va e h1).2, (hr.va e h1).1]
        exact h2.imp List.length_pos_iff.1 id
      · intro h1
        have hin : k ∈ R.map RE.k := Classical.byContradiction fun hn => by
          have := hr.vn k hn
          unfold isKey at h1
          rw [this.1, this.2] at h1; rcases h1 with h1 | h1 <;> exact h1 rfl
        obtain ⟨e, he, rfl⟩ := List.mem_map.1 hin
        refine ⟨e, List.mem_filter.2 ⟨he, ?_⟩, rfl⟩
        unfold isKey at h1
        rw [(hr.va e he).2, (hr.va e he).1] at h1
        rw [hqe, decide_eq_true_eq]
        exact h1.imp List.length_pos_iff.2 id
    · rw [hun]
      exact SlR.ofRow (H.getRow 0 rfl) (by decide) ((hE.keeps ((H0.ext0 (H.ext_of 1 rfl)).dz 2 3 rfl rfl hr.base)).mono fun k _ h => .inl h) (fun k hk => .inr (H.fresh 0 1 rfl rfl rfl k hk)) (by rw [List.length_map]; omega)
end Go.Proofs.Ytpandioolpnihaa

/- Clearing, plain: what is kept of a key's versions; how many are gone. -/
namespace Go.Proofs.Ytpandioolpnihaa
open Go Go.Wk
set_option linter.unusedVariables false
set_option linter.unusedSimpArgs false

/-- How many of a key's versions are kept. -/
def gcPos (vs : List Ver) (ts : Int) : Nat := posV vs ts + (match vs[posV vs ts]? with
  | some x => if x.dead then 0 else 1
  | none => 0)
def gcV (vs : List Ver) (ts : Int) : List Ver := vs.take (gcPos vs ts)
def Abs.gcK (a : Abs) (ts : Int) (ks : List ByteArray) : Abs := ⟨fun k => if ks.any (fun x => decide (x = k)) then gcV (a.v k) ts else a.v k, a.i⟩
def Abs.gc (a : Abs) (ts : Int) : Abs := ⟨fun k => gcV (a.v k) ts, a.i⟩
def gcN (a : Abs) (ts : Int) (ks : List ByteArray) : Nat := (ks.map fun k => (a.v k).length - gcPos (a.v k) ts).sum
theorem gcPos_le (vs : List Ver) (ts : Int) : gcPos vs ts ≤ vs.length := by
  unfold gcPos
  have h := pos_le vs ts
  cases hg : vs[posV vs ts]? with
  | none => simpa using h
  | some x =>
    have hl := (List.getElem?_eq_some_iff.1 hg).1
    simp only
    split <;> omega
theorem gcV_nil (ts : Int) : gcV [] ts = [] := by unfold gcV; simp
theorem gcK_nil (a : Abs) (ts : Int) : a.gcK ts [] = a := rfl
theorem gcK_snoc (a : Abs) (ts : Int) (ks : List ByteArray) (k : ByteArray) : (a.gcK ts ks).setV k (gcV (a.v k) ts) = a.gcK ts (ks ++ [k]) := by
  unfold Abs.gcK Abs.setV
  congr 1
  funext x
  simp only [List.any_append, List.any_cons, List.any_nil, Bool.or_false]
  by_cases h1 : x = k
  · subst h1; simp
  · have h2 : decide (k = x) = false := decide_eq_false fun h => h1 h.symm
    rw [if_neg h1, h2, Bool.or_false]
theorem gcK_out (a : Abs) (ts : Int) {ks : List ByteArray} {k : ByteArray} (h : k ∉ ks) : (a.gcK ts ks).v k = a.v k := by
  refine if_neg ?_
  rw [List.any_eq_true]
  rintro ⟨x, hx, he⟩
  rw [of_decide_eq_true he] at hx
  exact h hx
theorem gcK_all {a : Abs} {ts : Int} {ks : List ByteArray} (h : ∀ k, a.v k ≠ [] → k ∈ ks) : a.gcK ts ks = a.gc ts := by
  unfold Abs.gcK Abs.gc
  congr 1
  funext k
  split
  · rfl
  · rename_i hn
    by_cases hv : a.v k = []
    · rw [hv, gcV_nil]
    · exact absurd (List.any_eq_true.2 ⟨k, h k hv, decide_eq_true rfl⟩) hn
theorem gc_ok {a : Abs} {m : Nat} (h : a.Ok m) (ts : Int) : (a.gc ts).Ok m := fun k => ⟨(h k).1.sublist (List.take_sublist _ _), by show (List.take _ _).length ≤ m; rw [List.length_take]; have := (h k).2; omega⟩
theorem gcK_ok {a : Abs} {m : Nat} (h : a.Ok m) (ts : Int) (ks : List ByteArray) : (a.gcK ts ks).Ok m := fun k => by
  show Sd (if _ then _ else _) ∧ (if _ then _ else _ : List Ver).length ≤ m
  split
  · exact gc_ok h ts k
  · exact h k
theorem gcN_snoc (a : Abs) (ts : Int) (ks : List ByteArray) (k : ByteArray) : gcN a ts (ks ++ [k]) = gcN a ts ks + ((a.v k).length - gcPos (a.v k) ts) := by
  unfold gcN; rw [List.map_append, List.sum_append]; simp
theorem gcN_le {a : Abs} {m : Nat} (h : a.Ok m) (ts : Int) : ∀ ks : List ByteArray, gcN a ts ks ≤ ks.length * m
  | [] => Nat.zero_le _
  | k :: ks => by
    have h1 := gcN_le h ts ks
    have h2 := (h k).2
    have : gcN a ts (k :: ks) = ((a.v k).length - gcPos (a.v k) ts) + gcN a ts ks := rfl
    rw [this, List.length_cons, Nat.add_mul]; omega
theorem gcN_filter (a : Abs) (ts : Int) (q : ByteArray → Bool) : ∀ ks : List ByteArray, (∀ k ∈ ks, q k = false → a.v k = []) → gcN a ts (ks.filter q) = gcN a ts ks
  | [], _ => rfl
  | k :: ks, h => by
    have ih := gcN_filter a ts q ks fun x hx => h x (by simp [hx])
    have e : gcN a ts (k :: ks) = ((a.v k).length - gcPos (a.v k) ts) + gcN a ts ks := rfl
    rw [e]
    cases hq : q k with
    | true =>
      rw [List.filter_cons_of_pos hq]
      have e2 : gcN a ts (k :: ks.filter q) = ((a.v k).length - gcPos (a.v k) ts) + gcN a ts (ks.filter q) := rfl
      rw [e2, ih]
    | false =>
      rw [List.filter_cons_of_neg (by simp [hq]), ih, h k (by simp) hq]; simp

/-- A step of the reference's inner loop. -/
def keepS (ts : Int) (s : List Ver × Nat × Bool) (v : Ver) : List Ver × Nat × Bool :=
  if decide (ts < v.ts) || (!s.2.2 && !v.dead) then (s.1 ++ [v], s.2.1, s.2.2 || decide (v.ts ≤ ts)) else (s.1, s.2.1 + 1, s.2.2 || decide (v.ts ≤ ts))
abbrev keepL (ts : Int) (vs : List Ver) : List Ver × Nat × Bool := vs.foldl (keepS ts) ([], 0, false)
theorem keepL_snoc (ts : Int) (vs : List Ver) (v : Ver) : keepL ts (vs ++ [v]) = keepS ts (keepL ts vs) v := by
  unfold keepL; rw [List.foldl_append]; rfl
theorem keepL_len (ts : Int) (vs : List Ver) (s : List Ver × Nat × Bool) : (vs.foldl (keepS ts) s).1.length + (vs.foldl (keepS ts) s).2.1 = s.1.length + s.2.1 + vs.length := by
  induction vs generalizing s with
  | nil => simp
  | cons v vs ih =>
    rw [List.foldl_cons, ih]
    unfold keepS
    split <;> simp <;> omega
theorem keep_high (ts : Int) : ∀ (vs : List Ver) (l : List Ver) (n : Nat), (∀ v ∈ vs, ts < v.ts) → vs.foldl (keepS ts) (l, n, false) = (l ++ vs, n, false)
  | [], l, n, _ => by simp
  | v :: vs, l, n, h => by
    have h1 := h v (by simp)
    rw [List.foldl_cons]
    have : keepS ts (l, n, false) v = (l ++ [v], n, false) := by
      unfold keepS
      simp only [h1, decide_true, Bool.true_or, if_true, Bool.false_or]
      rw [decide_eq_false (by omega)]
    rw [this, keep_high ts vs _ n fun x hx => h x (by simp [hx])]
    simp
theorem keep_low (ts : Int) : ∀ (vs : List Ver) (l : List Ver) (n : Nat), (∀ v ∈ vs, v.ts ≤ ts) → vs.foldl (keepS ts) (l, n, true) = (l, n + vs.length, true)
  | [], l, n, _ => by simp
  | v :: vs, l, n, h => by
    have h1 := h v (by simp)
    rw [List.foldl_cons]
    have : keepS ts (l, n, true) v = (l, n + 1, true) := by
      unfold keepS
      rw [decide_eq_false (show ¬ ts < v.ts by omega)]
      simp
    rw [this, keep_low ts vs _ (n + 1) fun x hx => h x (by simp [hx])]
    simp only [List.length_cons]
    congr 2; omega
theorem keepL_gc {vs : List Ver} (hs : Sd vs) (ts : Int) : (keepL ts vs).1 = gcV vs ts ∧ (keepL ts vs).2.1 = vs.length - gcPos vs ts := by
  have hsplit : vs = vs.take (posV vs ts) ++ vs.drop (posV vs ts) := (List.take_append_drop _ _).symm
  have hT : ∀ v ∈ vs.take (posV vs ts), ts < v.ts := fun v hv => pos_lo hv
  have hp := pos_le vs ts
  have e0 : keepL ts vs = (vs.drop (posV vs ts)).foldl (keepS ts) (vs.take (posV vs ts), 0, false) := by
    conv => lhs; rw [hsplit]
    unfold keepL
    rw [List.foldl_append, keep_high ts _ [] 0 hT, List.nil_append]
  rw [e0]
  unfold gcV gcPos
  cases hg : vs[posV vs ts]? with
  | none =>
    rw [List.drop_of_length_le (List.getElem?_eq_none_iff.1 hg)]
    have := List.getElem?_eq_none_iff.1 hg
    simp only [List.foldl_nil, Nat.add_zero]
    exact ⟨trivial, by omega⟩
  | some x =>
    obtain ⟨hlt, he⟩ := List.getElem?_eq_some_iff.1 hg
    have hd : vs.drop (posV vs ts) = x :: vs.drop (posV vs ts + 1) := by rw [List.drop_eq_getElem_cons hlt, he]
    have hx := pos_at hg
    have hD : ∀ v ∈ vs.drop (posV vs ts + 1), v.ts ≤ ts := fun v hv => pos_hi hs (by rw [hd]; exact List.mem_cons_of_mem _ hv)
    have hn : decide (ts < x.ts) = false := decide_eq_false (by omega)
    have hy : decide (x.ts ≤ ts) = true := decide_eq_true hx
    rw [hd, List.foldl_cons]
    cases hdd : x.dead with
    | true =>
      have : keepS ts (vs.take (posV vs ts), 0, false) x = (vs.take (posV vs ts), 1, true) := by unfold keepS; simp [hn, hy, hdd]
      rw [this, keep_low ts _ _ _ hD]
      simp only [List.length_drop, hdd, if_true, Nat.add_zero, true_and]
      omega
    | false =>
      have : keepS ts (vs.take (posV vs ts), 0, false) x = (vs.take (posV vs ts) ++ [x], 0, true) := by unfold keepS; simp [hn, hy, hdd]
      rw [this, keep_low ts _ _ _ hD]
      simp only [List.length_drop, hdd, Bool.false_eq_true, if_false]
      refine ⟨?_, by omega⟩
      rw [List.take_add_one, hg]; rfl
end Go.Proofs.Ytpandioolpnihaa

/- Gc of the code's store. -/
namespace Go.Proofs.Ytpandioolpnihaa
open Go Go.Wk
set_option linter.unusedVariables false
set_option linter.unusedSimpArgs false

/-- Texts put in order. -/
theorem rise_exists : ∀ l : List ByteArray, ∃ ks : List ByteArray, ks.Pairwise bLt ∧ ∀ k, k ∈ ks ↔ k ∈ l
  | [] => ⟨[], .nil, by simp⟩
  | x :: l => by
    obtain ⟨ks, hr, hm⟩ := rise_exists l
    by_cases hx : x ∈ ks
    · refine ⟨ks, hr, fun k => ?_⟩
      rw [List.mem_cons, ← hm k]
      exact ⟨.inr, fun h => h.elim (fun h => h ▸ hx) id⟩
    · refine ⟨ks.filter (fun y => decide (bLt y x)) ++ x :: ks.filter (fun y => decide (bLt x y)), ?_, fun k => ?_⟩
      · refine List.pairwise_append.2 ⟨hr.sublist List.filter_sublist, List.pairwise_cons.2 ⟨fun y hy => of_decide_eq_true (List.mem_filter.1 hy).2, hr.sublist List.filter_sublist⟩, fun a ha b hb => ?_⟩
        have h1 : bLt a x := of_decide_eq_true (List.mem_filter.1 ha).2
        rcases List.mem_cons.1 hb with rfl | hb
        · exact h1
        · exact bLt_trans h1 (of_decide_eq_true (List.mem_filter.1 hb).2)
      · rw [List.mem_append, List.mem_cons, List.mem_cons, List.mem_filter, List.mem_filter, ← hm k, decide_eq_true_eq, decide_eq_true_eq]
        constructor
        · rintro (h | h | h)
          · exact .inr h.1
          · exact .inl h
          · exact .inr h.1
        · rintro (h | h)
          · exact .inr (.inl h)
          · by_cases h1 : bLt k x
            · exact .inl ⟨h, h1⟩
            · by_cases h2 : bLt x k
              · exact .inr (.inr ⟨h, h2⟩)
              · exact .inr (.inl (bLt_tri h1 h2))
theorem CRep.isKey {w0 Wp : World} {F : Nat → Prop} {E : List Ent} {I : List Itn} {a : Abs} (h : CRep w0 F Wp E I a) (k : ByteArray) : Go.Proofs.Ytpandioolpnihaa.isKey a k ↔ k ∈ (E.map Ent.kv).map (·.1) ∨ k ∈ (I.map Itn.kv).map (·.1) := by
  rw [List.map_map, List.map_map]
  show _ ↔ k ∈ E.map (·.key) ∨ k ∈ I.map (·.key)
  unfold Go.Proofs.Ytpandioolpnihaa.isKey
  constructor
  · rintro (h1 | h1)
    · exact .inl (Classical.byContradiction fun hn => h1 (h.vn k hn))
    · exact .inr (Classical.byContradiction fun hn => h1 (by rw [h.inn k hn]; rfl))
  · rintro (h1 | h1)
    · obtain ⟨e, he, rfl⟩ := List.mem_map.1 h1
      exact .inl (by rw [h.va e he]; exact h.en e he)
    · obtain ⟨i, hi, rfl⟩ := List.mem_map.1 h1
      exact .inr (by rw [h.ia i hi]; exact (h.iv i hi).2)
theorem CRep.keys {w0 Wp : World} {F : Nat → Prop} {E : List Ent} {I : List Itn} {a : Abs} (h : CRep w0 F Wp E I a) : ∃ ks, KeysOf a ks ∧ (∀ k ∈ ks, k.size ≤ 140737488351232) := by
  obtain ⟨ks, hr, hm⟩ := rise_exists ((E.map Ent.kv).map (·.1) ++ (I.map Itn.kv).map (·.1))
  refine ⟨ks, ⟨hr, fun k => by rw [hm k, List.mem_append, h.isKey k]⟩, fun k hk => ?_⟩
  have h1 := (hm k).1 hk
  rw [List.mem_append, List.map_map, List.map_map] at h1
  rcases h1 with h1 | h1
  · obtain ⟨e, he, rfl⟩ := List.mem_map.1 h1; exact h.ek e he
  · obtain ⟨e, he, rfl⟩ := List.mem_map.1 h1; exact h.ik e he
theorem CRep.del {w0 Wp : World} {F : Nat → Prop} {E1 E2 : List Ent} {I : List Itn} {a : Abs} {e : Ent} (h : CRep w0 F Wp (E1 ++ e :: E2) I a) : CRep w0 F Wp (E1 ++ E2) I (a.setV e.key []) := by
  have hs := nd_split h.nd
  have hm2 : ∀ x, x ∈ E1 ++ E2 → x ∈ E1 ++ e :: E2 := fun x hx => by rcases List.mem_append.1 hx with hx | hx <;> simp [hx]
  have hsub : (E1 ++ E2).Sublist (E1 ++ e :: E2) := List.Sublist.append_left (List.sublist_cons_self _ _) _
  refine ⟨h.base, fun x hx => h.ev x (hm2 x hx), fun x hx => h.en x (hm2 x hx), h.nd.sublist (hsub.map _), fun x hx => (if_neg (hs x hx)).trans (h.va x (hm2 x hx)), fun k hk => ?_, h.iv, h.ind, h.ia, h.inn, fun x hx => h.ek x (hm2 x hx), h.ik⟩
  show (if k = e.key then [] else a.v k) = []
  split
  · rfl
  · rename_i hne
    refine h.vn k fun hin => hk ?_
    obtain ⟨x, hx, rfl⟩ := List.mem_map.1 hin
    refine List.mem_map.2 ⟨x, ?_, rfl⟩
    rcases List.mem_append.1 hx with hx | hx
    · exact List.mem_append.2 (.inl hx)
    · rcases List.mem_cons.1 hx with rfl | hx
      · exact absurd rfl hne
      · exact List.mem_append.2 (.inr hx)
theorem mdel_ent {E1 E2 : List Ent} {e : Ent} (h : ((E1 ++ e :: E2).map (·.key)).Nodup) : mdel ((E1 ++ e :: E2).map Ent.kv) e.key = (E1 ++ E2).map Ent.kv := by
  have hs := nd_split h
  unfold mdel
  have hid : ∀ l : List Ent, (∀ x ∈ l, x.key ≠ e.key) → (l.map Ent.kv).filter (fun x => decide (x.1 ≠ e.key)) = l.map Ent.kv := fun l hl => by
    rw [List.filter_eq_self]
    intro x hx
    obtain ⟨y, hy, rfl⟩ := List.mem_map.1 hx
    simpa using hl y hy
  rw [List.map_append, List.map_cons, List.filter_append, List.filter_cons_of_neg (by simp), hid E1 fun x hx => hs x (List.mem_append.2 (.inl hx)), hid E2 fun x hx => hs x (List.mem_append.2 (.inr hx)), List.map_append]
theorem setV_same {a : Abs} {k : ByteArray} {vs : List Ver} (h : a.v k = vs) : a.setV k vs = a := by
  obtain ⟨v, i⟩ := a
  unfold Abs.setV
  congr 1
  funext x
  split
  · rename_i e; rw [e]; exact h.symm
  · rfl
theorem gcPos_dead {vs : List Ver} {ts : Int} {x : Ver} (h : vs[posV vs ts]? = some x) : gcPos vs ts = posV vs ts + (if x.dead then 0 else 1) := by unfold gcPos; rw [h]
theorem gcPos_end {vs : List Ver} {ts : Int} (h : posV vs ts = vs.length) : gcPos vs ts = vs.length := by unfold gcPos; rw [h, List.getElem?_eq_none (Nat.le_refl _)]; rfl

set_option maxHeartbeats 2000000 in
/-- slices.Clone of the first ones of a row. -/
theorem f52_take {w : World} {b n c i : Nat} {cs : List Value} (hrow : w.ownsRow 0 32 5 (.slice (some ⟨b, 0, none⟩) n c) n cs) (hi : i ≤ n) (hn : n ≤ 50000) (h1 : ∀ u ∈ cs, u.oneCell' = true) :
    Calls Try.prog 52 [.slice (some ⟨b, 0, none⟩) i c].toArray w fun e w' => ∃ v : Value, e = .returned v ∧ w'.ownsRow 0 32 5 v i (cs.take (i * 5)) ∧ (∀ k, v.ownBlock = some k → w.heap.size ≤ k) ∧ Ext none' w w' := by
  have H := Holds.start w
  have hrow' : ∀ {w' : World}, Ext none' w w' → w'.ownsRow 0 32 5 (.slice (some ⟨b, 0, none⟩) n c) n cs := fun {w'} hE => row_stable 32 5 _ n cs w w' hE.size hE.os hE.tape hE.output (fun k _ hk => hE.blk k hk (fun h => h)) hrow
  have hsrc : ∀ {w' : World}, Ext none' w w' → Go.Wk.Src w' (.slice (some ⟨b, 0, none⟩) i c) i (cs.take (i * 5)) := fun {w'} hE => by
    have := Src.takeRow (hrow' hE) i hi
    rw [cutA_zero] at this
    exact this.grow (by simp)
  have hcl : cs.length = n * 5 := hrow.1
  refine calls_of_W' Try.func52 rfl Try.ntmps52 rfl ?_
  refine W_seq ?_
  refine W_region ?_
  refine OL_y (y_assign rfl) (by decide) ?_
  refine OL_nil ?_
  refine W_seq ?_
  refine W_seq ?_
  refine W_region ?_
  refine OL_y (y_move rfl) (by decide) ?_
  refine OL_y (v := .bool false) (y_eqlNilSlice (a := some ⟨b, 0, none⟩) Try.underlying53 rfl rfl) (by decide) ?_
  refine OL_nil ?_
  refine W_condf rfl ?_
  refine W_skip ?_
  refine W_seq ?_
  refine W_region ?_
  refine OL_c (op_buildSlice H [] ti53 ti32 rfl rfl rfl (by simp) rfl rfl (by decide) fun b5 w3_0 H => ?_)
  refine OL_y (y_move rfl) (by decide) ?_
  refine OL_c (op_append (news := cs.take (i * 5)) H 0 rfl rfl ti53 ti32 rfl rfl rfl rfl (hsrc (H.ext_of 1 rfl)) (by rw [List.length_take]; omega) (fun u hu => h1 u (List.mem_of_mem_take hu)) (by omega) (by simp only [maxLen]; omega) (by decide) fun v7 w3_2 H => ?_)
  refine OL_y (y_assign rfl) (by decide) ?_
  refine OL_nil ?_
  refine W_ret ?_
  show RetOK _ _ _ _ _ _
  have H : Holds _ [row 32 5 v7 (0 + i) ([] ++ cs.take (i * 5)), shr (fun k => k < w.heap.size) w] := H
  rw [Nat.zero_add, List.nil_append] at H
  exact ret1 (v := v7) Try.results52 rfl ⟨_, rfl, H.getRow 0 rfl, fun k hk => H.fresh 0 1 rfl rfl rfl k hk, H.ext_of 1 rfl⟩
end Go.Proofs.Ytpandioolpnihaa

/- Gc of the code's store: the walk. -/
namespace Go.Proofs.Ytpandioolpnihaa
open Go Go.Wk
set_option linter.unusedVariables false
set_option linter.unusedSimpArgs false

theorem pickE {W : World} {A L : List Atom} {E1 E2 : List Ent} {e : Ent} (H : Holds W (A ++ ((E1 ++ e :: E2).map Ent.atom ++ L))) : Holds W (e.atom :: (A ++ ((E1 ++ E2).map Ent.atom ++ L))) := by
  rw [List.map_append, List.map_cons, ← List.append_assoc] at H
  rw [List.map_append, ← List.append_assoc]
  exact Holds.pick H
theorem unpickE {W : World} {A L : List Atom} {E1 E2 : List Ent} {e : Ent} (H : Holds W (e.atom :: (A ++ ((E1 ++ E2).map Ent.atom ++ L)))) : Holds W (A ++ ((E1 ++ e :: E2).map Ent.atom ++ L)) := by
  rw [List.map_append, List.map_cons, ← List.append_assoc]
  rw [List.map_append, ← List.append_assoc] at H
  exact Holds.unpick H

set_option maxHeartbeats 16000000 in
theorem f21_calls {w0 w Wp : World} {F : Nat → Prop} {sb g1 g2 m : Nat} {E : List Ent} {I : List Itn} {a : Abs} {L : List Atom} {ts : Int} (H : Holds w (cAt sb g1 g2 E I F Wp w0 L)) (hr : CRep w0 F Wp E I a) (ha : a.Ok m) (hm : m ≤ 40000) (hEl : E.length ≤ 40000) (hIl : I.length ≤ 40000) :
    Calls Try.prog 21 [.pointer (some ⟨sb, 0, none⟩), .int .u64 ts].toArray w fun e w' => ∃ ks : List ByteArray, e = .returned (.int .i64 (gcN a ts ks)) ∧ KeysOf a ks ∧ ∃ (E' : List Ent) (F' : Nat → Prop) (Wp' : World), Holds w' (cAt sb g1 g2 E' I F' Wp' w0 L) ∧ CRep w0 F' Wp' E' I (a.gc ts) ∧ Grow w0 F Wp F' Wp' ∧ E'.length ≤ E.length := by
  obtain ⟨ks, hks, hkz⟩ := hr.keys
  have hkl : ks.length ≤ 80000 := by
    have := List.Nodup.length_le_of_subset (rise_nodup bLt_irrefl hks.rise) (l₂ := (E.map Ent.kv).map (·.1) ++ (I.map Itn.kv).map (·.1)) fun k hk => List.mem_append.2 ((hr.isKey k).1 ((hks.mem k).1 hk))
    rw [List.length_append, List.length_map, List.length_map, List.length_map, List.length_map] at this; omega
  refine calls_of_W' Try.func21 rfl Try.ntmps21 rfl ?_
  refine W_seq ?_
  refine W_region ?_
  refine OL_c (op_box (v := .pointer (some ⟨sb, 0, none⟩)) H rfl (by decide) fun b2 w0_0 H => ?_)
  refine OL_c (op_box (v := .int .u64 ts) H rfl (by decide) fun b3 w0_1 H => ?_)
  refine OL_y (y_assign rfl) (by decide) ?_
  refine OL_nil ?_
  refine W_seq ?_
  refine W_region ?_
  refine OL_var (v := .int .i64 0) H ti3 rfl (by decide) (fun _ => rfl) rfl (by simp [Value.cells, Value.oneCell']) fun b5 w1_0 H => ?_
  refine OL_nil ?_
  refine W_seq ?_
  refine W_seq ?_
  refine W_region ?_
  refine OL_y (y_loadS (v := .pointer (some ⟨sb, 0, none⟩)) ti26 rfl rfl (Cells.unit (H.getOwn 2 rfl) rfl)) (by decide) ?_
  refine OL_c (op_call 20 en20 rfl [.pointer (some ⟨sb, 0, none⟩)] rfl (by decide) ((f20_calls).mono ?_))
  rintro e w2_1 ⟨bs, rfl, hE20, hbs, hbsn⟩
  refine ⟨_, rfl, ?_⟩
  have H := H.ext0 hE20
  have hsb := H.getOwn 3 rfl
  obtain ⟨o1, ho1, es1, clock1, rfl, hmo1⟩ := H.get (i := 4) rfl
  obtain ⟨o2, ho2, es2, clock2, rfl, hmo2⟩ := H.get (i := 5) rfl
  refine OL_nil ?_
  refine W_block ?_
  refine W_rangeFuncH yEnc yAt (yQ ks) (yE ks) (fun pre Ls => ∃ (E' : List Ent) (F' : Nat → Prop) (Wp' : World), Ls = own b5 (.cells #[.int .i64 (gcN a ts (pre.map (·.s)))] 3) :: own b3 (.cells #[.int .u64 ts] 24) :: own b2 (.cells #[.pointer (some ⟨sb, 0, none⟩)] 26) :: cAt sb g1 g2 E' I F' Wp' w0 L ∧ CRep w0 F' Wp' E' I (a.gcK ts (pre.map (·.s))) ∧ Grow w0 F Wp F' Wp' ∧ E'.length ≤ E.length) (fun _ _ _ => False) rfl en50 (by decide) H ⟨E, F, Wp, rfl, hr, Grow.refl hr.base, Nat.le_refl _⟩ ?_ ?_ ?_ ?_ ?_ ?_
  · rintro pre Ls ⟨E', F', Wp', rfl, -⟩ at_ hat hx k hk
    simp only [cAt, List.mem_cons, List.mem_append, List.mem_map] at hat
    rcases hat with rfl | rfl | rfl | rfl | rfl | rfl | rfl | rfl | ⟨e, _, rfl⟩ | hL
    · cases hx
    · cases hx
    · cases hx
    · cases hx
    · cases hx
    · cases hx
    · cases hx
    · exact (H.ok (shr (fun k => k < w0.heap.size) w0) (by simp)).2.1 k hk
    · cases hx
    · exact (H.ok at_ (by simp [hL])).2.1 k hk
  · rintro e pre Ls h; exact h.elim
  · intro w' hE
    exact f50_iter ((hE.blk bs (own_lt hbs) (fun h => h)).trans hbs) ((hE.blk sb (own_lt hsb) (fun h => h)).trans hsb) ⟨es1, clock1, (hE.blk g1 (own_lt ho1) (fun h => h)).trans ho1, ⟨es1, clock1, rfl, hmo1⟩⟩ ⟨es2, clock2, (hE.blk g2 (own_lt ho2) (fun h => h)).trans ho2, ⟨es2, clock2, rfl, hmo2⟩⟩ hkz (by rw [List.length_map, List.length_map]; omega) hks.rise (fun k => by rw [hks.mem k, hr.isKey k])
  · rintro l' aL aL' aD aO pre x Ls Wd ⟨E', F', Wp', rfl, hr', g', hl'⟩ hq HH
    refine W_region ?_
    refine OL_y (y_assign rfl) (by decide) ?_
    refine OL_nil ?_
    refine ⟨_, HH, fun W2 HH => ?_⟩
    have H := HH
    obtain ⟨hy1, hy2, hy3⟩ : yOk x := hq.2 x (by simp)
    have hpx : pre.map (·.s) ++ [x.s] <+: ks := by have := hq.1; rwa [List.map_append] at this
    have hnin : x.s ∉ pre.map (·.s) := by
      have hnd := (rise_nodup bLt_irrefl hks.rise).sublist hpx.sublist
      exact fun hin => (List.nodup_append.1 hnd).2.2 _ hin x.s (by simp) rfl
    have hav : (a.gcK ts (pre.map (·.s))).v x.s = a.v x.s := gcK_out a ts hnin
    have hN : gcN a ts ((pre ++ [x]).map (·.s)) = gcN a ts (pre.map (·.s)) + ((a.v x.s).length - gcPos (a.v x.s) ts) := by rw [List.map_append]; exact gcN_snoc a ts _ _
    have hA : a.gcK ts ((pre ++ [x]).map (·.s)) = (a.gcK ts (pre.map (·.s))).setV x.s (gcV (a.v x.s) ts) := by rw [List.map_append]; exact (gcK_snoc a ts _ _).symm
    have hNle : gcN a ts (pre.map (·.s)) ≤ 80000 * 40000 := by
      have h1 := gcN_le ha ts (pre.map (·.s))
      have h2 : (pre.map (·.s)).length ≤ 80000 := by have := hpx.length_le; rw [List.length_append] at this; omega
      exact Nat.le_trans h1 (Nat.mul_le_mul h2 hm)
    obtain ⟨hsd, hvm⟩ := ha x.s
    refine W_block ?_
    refine W_seq ?_
    by_cases hin : x.s ∈ E'.map (·.key)
    · obtain ⟨e0, he0, hek⟩ := List.mem_map.1 hin
      obtain ⟨E1, E2, rfl⟩ := List.append_of_mem he0
      refine W_drawQ H mixed (by kernel_rfl) (by kernel_rfl) fun wd4 H => ?_
      refine QL_y (y_loadS (v := .pointer (some ⟨sb, 0, none⟩)) ti26 rfl rfl (Cells.unit (H.getOwn 6 rfl) rfl)) (by decide) ?_
      refine QL_y (y_nilCheck rfl ⟨_, rfl⟩) (by decide) ?_
      refine QL_y (y_fieldAddr ti98 rfl ti95 rfl rfl) (by decide) ?_
      refine QL_y (y_loadS (v := .map (some g1)) ti95 rfl rfl (Cells.unit (H.getOwn 7 rfl) rfl)) (by decide) ?_
      refine QL_y (y_move rfl) (by decide) ?_
      refine QL_y (y_toStr Try.underlying23 Try.underlying5 Try.underlying9 rfl (SlR_bytes (Z := fun _ => True) (H.getOwn 3 rfl) trivial hy1 hy2 hy3)) (by decide) ?_
      refine QL_y (y_lookupS (v := e0.v) (by rw [kb_unkb, ← hek]; exact mget_ent hr'.nd) H 8 rfl ti95 ti53 (KeyOK.str Try.underlying9) rfl rfl) (by decide) ?_
      refine QL_y (y_assign rfl) (by decide) ?_
      refine QL_nil ?_
      have hEv := hr'.ev e0 he0
      have hvl : a.v x.s = e0.vers := by rw [← hav, ← hek]; exact hr'.va e0 he0
      have hne0 := hr'.en e0 he0
      rw [hvl] at hsd hvm hN hA hav
      have H := pickE (A := [aL', aD, aO, yAt x, own b5 (.cells #[.int .i64 (gcN a ts (pre.map (·.s)))] 3), own b3 (.cells #[.int .u64 ts] 24), own b2 (.cells #[.pointer (some ⟨sb, 0, none⟩)] 26), own sb (.cells #[.map (some g1), .map (some g2)] 98), mp Value.string g1 ((E1 ++ e0 :: E2).map Ent.kv), mp Value.string g2 (I.map Itn.kv), exc F' Wp', shr (fun k => k < w0.heap.size) w0]) H
      have hkd : Keeps (Dz w0 F') Wp' wd4 := H.dz 11 12 rfl rfl hr'.base
      obtain ⟨br, cr, hvr, -, -⟩ := ownsRow_cells (H.getRow 0 rfl) (List.length_pos_iff.2 hne0)
      have H : Holds wd4 (row 32 5 (.slice (some ⟨br, 0, none⟩) e0.vers.length cr) e0.vers.length e0.cs :: aL' :: aD :: aO :: yAt x :: own b5 (.cells #[.int .i64 (gcN a ts (pre.map (·.s)))] 3) :: own b3 (.cells #[.int .u64 ts] 24) :: own b2 (.cells #[.pointer (some ⟨sb, 0, none⟩)] 26) :: own sb (.cells #[.map (some g1), .map (some g2)] 98) :: mp Value.string g1 ((E1 ++ e0 :: E2).map Ent.kv) :: mp Value.string g2 (I.map Itn.kv) :: exc F' Wp' :: shr (fun k => k < w0.heap.size) w0 :: ((E1 ++ E2).map Ent.atom ++ L)) := by rw [← hvr]; exact H
      obtain ⟨_, _, hsl0, hle0, hmx0⟩ := H.rowLen 0 rfl
      injection hsl0 with _ _ hsl0
      subst hsl0
      have hSl : SlR tVer 72 (fun _ => True) wd4 (.slice (some ⟨br, 0, none⟩) e0.vers.length cr) e0.vers := SlR.ofRow (H.getRow 0 rfl) (by decide) ((hEv.keeps hkd).mono fun _ _ _ => trivial) (fun _ _ => trivial) (by omega)
      refine W_seq ?_
      refine W_region ?_
      refine OL_y (y_move hvr) (by decide) ?_
      refine OL_y (y_loadS (v := .int .u64 ts) ti24 rfl rfl (Cells.unit (H.getOwn 6 rfl) rfl)) (by decide) ?_
      refine OL_c (op_call 44 en44 rfl [.slice (some ⟨br, 0, none⟩) e0.vers.length cr, .int .u64 ts, .func (.func 45) #[] #[]] rfl (by decide) ((f44_calls ⟨Nat.le_refl _, fun _ _ _ => rfl⟩ hSl hsd (by omega)).mono ?_))
      rintro e w5_2 ⟨rfl, hE44⟩
      refine ⟨_, rfl, ?_⟩
      have H := H.ext0 hE44
      refine OL_y (y_move rfl) (by decide) ?_
      refine OL_y (y_extract (v := .int .i64 (posV e0.vers ts)) rfl rfl) (by decide) ?_
      refine OL_y (y_extract (v := .bool (hasV e0.vers ts)) rfl rfl) (by decide) ?_
      refine OL_y (y_assign rfl) (by decide) ?_
      refine OL_y (y_assign rfl) (by decide) ?_
      refine OL_nil ?_
      refine W_seq ?_
      refine W_seq ?_
      by_cases hp : ((posV e0.vers ts : Nat) : Int) = ((e0.vers.length : Nat) : Int)
      · refine W_region ?_
        refine OL_y (y_move rfl) (by decide) ?_
        refine OL_y (y_move hvr) (by decide) ?_
        refine OL_y (y_len rfl ti53 rfl) (by decide) ?_
        refine OL_y (v := .bool true) (y_eqlT hp rfl rfl) (by decide) ?_
        refine OL_nil ?_
        refine W_condt rfl ?_
        refine W_exit ?_
        have hg : gcPos e0.vers ts = e0.vers.length := gcPos_end (by omega)
        rw [show gcV e0.vers ts = e0.vers from by unfold gcV; rw [hg, List.take_length], setV_same hav] at hA
        rw [hg, Nat.sub_self] at hN
        refine ⟨_, ⟨E1 ++ e0 :: E2, F', Wp', rfl, by rw [hA]; exact hr', g', hl'⟩, ?_⟩
        rw [hN]
        have H := unpickE (A := [aL', aD, aO, yAt x, own b5 (.cells #[.int .i64 (gcN a ts (pre.map (·.s)))] 3), own b3 (.cells #[.int .u64 ts] 24), own b2 (.cells #[.pointer (some ⟨sb, 0, none⟩)] 26), own sb (.cells #[.map (some g1), .map (some g2)] 98), mp Value.string g1 ((E1 ++ e0 :: E2).map Ent.kv), mp Value.string g2 (I.map Itn.kv), exc F' Wp', shr (fun k => k < w0.heap.size) w0]) (e := e0) (show Holds _ (row 32 5 e0.v _ _ :: _) by rw [hvr]; exact H)
        exact H.sub (.cons_cons _ (.cons_cons _ (.cons_cons _ (.cons _ (.refl _)))))
      · refine W_region ?_
        refine OL_y (y_move rfl) (by decide) ?_
        refine OL_y (y_move hvr) (by decide) ?_
        refine OL_y (y_len rfl ti53 rfl) (by decide) ?_
        refine OL_y (v := .bool false) (y_eqlF hp rfl rfl) (by decide) ?_
        refine OL_nil ?_
        refine W_condf rfl ?_
        have hpl := pos_le e0.vers ts
        have hx0 : e0.vers[posV e0.vers ts]? = some (e0.vers[posV e0.vers ts]'(by omega)) := List.getElem?_eq_getElem (by omega)
        have hgd := gcPos_dead hx0
        generalize e0.vers[posV e0.vers ts]'(by omega) = x0 at *
        obtain ⟨b9, o9, cs9, e9, -, hc9, hr9⟩ := hSl.at hx0
        injection e9 with e9
        injection e9 with e91 e92 _
        subst e91 e92
        have hc9 := hc9.ext (hE44.blk _ hc9.lt (fun h => h))
        obtain ⟨xv, xk, rfl, -⟩ := ver_cells.1 hr9
        obtain ⟨dd, hd⟩ : ∃ dd, x0.dead = dd := ⟨_, rfl⟩
        rw [hd] at hc9 hgd
        refine W_skip ?_
        refine W_seq ?_
        refine W_seq ?_
        rcases dd with _ | _
        · refine W_region ?_
          refine OL_y (y_move hvr) (by decide) ?_
          refine OL_y (y_move rfl) (by decide) ?_
          refine OL_y (y_indexAddr ti53 ti32 rfl rfl (by omega) (by omega)) (by decide) ?_
          refine OL_y (y_fieldAddr ti32 rfl ti4 rfl rfl) (by decide) ?_
          refine OL_y (y_loadS (v := .bool false) ti4 rfl rfl (hc9.take 2 rfl)) (by decide) ?_
          refine OL_y (v := .bool true) (y_not (b := false) rfl) (by decide) ?_
          refine OL_nil ?_
          have hg : gcPos e0.vers ts = posV e0.vers ts + 1 := hgd
          refine W_condt rfl ?_
          refine W_region ?_
          refine OL_y (y_move rfl) (by decide) ?_
          refine OL_y (y_add64' ((posV e0.vers ts + 1 : Nat) : Int) rfl rfl (by omega) (by omega) (by omega)) (by decide) ?_
          refine OL_y (y_assign rfl) (by decide) ?_
          refine OL_nil ?_
          refine W_seq ?_
          have hgle := gcPos_le e0.vers ts
          refine W_region ?_
          refine OL_y (y_loadS (v := .int .i64 (gcN a ts (pre.map (·.s)))) ti3 rfl rfl (Cells.unit (H.getOwn 5 rfl) rfl)) (by decide) ?_
          refine OL_y (y_move hvr) (by decide) ?_
          refine OL_y (y_len rfl ti53 rfl) (by decide) ?_
          refine OL_y (y_move rfl) (by decide) ?_
          refine OL_y (y_sub64' ((e0.vers.length - gcPos e0.vers ts : Nat) : Int) rfl rfl (by omega) (by omega) (by omega)) (by decide) ?_
          refine OL_y (y_add64' ((gcN a ts (pre.map (·.s)) + (e0.vers.length - gcPos e0.vers ts) : Nat) : Int) rfl rfl (by omega) (by omega) (by omega)) (by decide) ?_
          refine OL_c (op_store (v := .int .i64 (gcN a ts (pre.map (·.s)) + (e0.vers.length - gcPos e0.vers ts) : Nat)) H 5 rfl ti3 rfl rfl rfl (Nat.le_of_ble_eq_true rfl) (by simp [Value.cells, Value.oneCell']) fun w9_6 H => ?_)
          rw [← hN] at H
          refine OL_nil ?_
          have H : Holds w9_6 (row 32 5 (.slice (some ⟨br, 0, none⟩) e0.vers.length cr) e0.vers.length e0.cs :: aL' :: aD :: aO :: yAt x :: own b5 (.cells #[.int .i64 (gcN a ts ((pre ++ [x]).map (·.s)) : Nat)] 3) :: own b3 (.cells #[.int .u64 ts] 24) :: own b2 (.cells #[.pointer (some ⟨sb, 0, none⟩)] 26) :: own sb (.cells #[.map (some g1), .map (some g2)] 98) :: mp Value.string g1 ((E1 ++ e0 :: E2).map Ent.kv) :: mp Value.string g2 (I.map Itn.kv) :: exc F' Wp' :: shr (fun k => k < w0.heap.size) w0 :: ((E1 ++ E2).map Ent.atom ++ L)) := H
          refine W_seq ?_
          refine W_drawD H mixed (by kernel_rfl) [10] (fun wq w' => Holds w' (row 32 5 (.slice (some ⟨br, 0, none⟩) e0.vers.length cr) e0.vers.length e0.cs :: aL' :: aD :: aO :: yAt x :: own b5 (.cells #[.int .i64 (gcN a ts ((pre ++ [x]).map (·.s)) : Nat)] 3) :: own b3 (.cells #[.int .u64 ts] 24) :: own b2 (.cells #[.pointer (some ⟨sb, 0, none⟩)] 26) :: own sb (.cells #[.map (some g1), .map (some g2)] 98) :: mp Value.string g1 ((E1 ++ e0 :: E2).map Ent.kv) :: mp Value.string g2 (I.map Itn.kv) :: exc F' Wp' :: shr (fun k => k < w0.heap.size) w0 :: ((E1 ++ E2).map Ent.atom ++ L))) fun wd10 H hEd => ?_
          have hS : ∀ {ls : Array Bool}, Sx [10] (fun w' => Holds w' (row 32 5 (.slice (some ⟨br, 0, none⟩) e0.vers.length cr) e0.vers.length e0.cs :: aL' :: aD :: aO :: yAt x :: own b5 (.cells #[.int .i64 (gcN a ts ((pre ++ [x]).map (·.s)) : Nat)] 3) :: own b3 (.cells #[.int .u64 ts] 24) :: own b2 (.cells #[.pointer (some ⟨sb, 0, none⟩)] 26) :: own sb (.cells #[.map (some g1), .map (some g2)] 98) :: mp Value.string g1 ((E1 ++ e0 :: E2).map Ent.kv) :: mp Value.string g2 (I.map Itn.kv) :: exc F' Wp' :: shr (fun k => k < w0.heap.size) w0 :: ((E1 ++ E2).map Ent.atom ++ L))) ls wd10 := fun {_} _ => H
          refine DA_y 0 rfl (by kernel_rfl) rfl (by kernel_rfl) (fun w' h => y_loadS (v := .pointer (some ⟨sb, 0, none⟩)) ti26 rfl rfl (Cells.unit (h.getOwn 7 rfl) rfl)) hS (by decide) fun hS => ?_
          refine DA_p 1 rfl (by kernel_rfl) rfl (fun _ => y_nilCheck rfl ⟨_, rfl⟩) hS (by decide) fun hS => ?_
          refine DA_p 2 rfl (by kernel_rfl) rfl (fun _ => y_fieldAddr ti98 rfl ti95 rfl rfl) hS (by decide) fun hS => ?_
          refine DA_y 3 rfl (by kernel_rfl) rfl (by kernel_rfl) (fun w' h => y_loadS (v := .map (some g1)) ti95 rfl rfl (Cells.unit (h.getOwn 8 rfl) rfl)) hS (by decide) fun hS => ?_
          refine DA_p 4 rfl (by kernel_rfl) rfl (fun _ => y_move rfl) hS (by decide) fun hS => ?_
          refine DA_y 5 rfl (by kernel_rfl) rfl (by kernel_rfl) (fun w' h => y_toStr (w := w') Try.underlying23 Try.underlying5 Try.underlying9 rfl (SlR_bytes (Z := fun _ => True) (h.getOwn 4 rfl) trivial hy1 hy2 hy3)) hS (by decide) fun hS => ?_
          refine DA_p 6 rfl (by kernel_rfl) rfl (fun _ => y_move hvr) hS (by decide) fun hS => ?_
          refine DA_p 7 rfl (by kernel_rfl) rfl (fun _ => y_move rfl) hS (by decide) fun hS => ?_
          refine DA_p (v := .slice (some ⟨br, 0, none⟩) (gcPos e0.vers ts) cr) 8 rfl (by kernel_rfl) rfl (fun _ => by rw [hg]; exact y_sliceH0 (hi := ((posV e0.vers ts + 1 : Nat) : Int)) ti53 ti32 rfl rfl (by omega) (by omega)) hS (by decide) fun hS => ?_
          refine DA_one 9 (by kernel_rfl) rfl (op_call 52 en52 rfl [.slice (some ⟨br, 0, none⟩) (gcPos e0.vers ts) cr] rfl (by decide) ((f52_take (H.getRow 0 rfl) hgle (by omega) (hEv.one (by decide))).mono ?_))
          rintro e w10_9 ⟨v53, rfl, hrow53, hf53, hE53⟩
          refine ⟨_, rfl, fun _ => H.ext0 hE53, ?_⟩
          have H := H.new hE53 (row_ok hrow53) hf53
          refine DA_one 10 (by kernel_rfl) rfl (op_mapUpdate (k := kb (unkb x.s)) (v := v53) H 10 rfl ti95 (KeyOK.str Try.underlying9) rfl rfl rfl fun w10_10 H => ⟨fun h => absurd (h 10 (by simp)) (by decide), ?_⟩)
          refine DA_done (by kernel_rfl) ?_
          obtain ⟨e1, he1⟩ : ∃ e1 : Ent, e1 = ⟨e0.key, v53, e0.cs.take (gcPos e0.vers ts * 5), e0.vers.take (gcPos e0.vers ts)⟩ := ⟨_, rfl⟩
          have H : Holds w10_10 (row 32 5 v53 (gcPos e0.vers ts) (e0.cs.take (gcPos e0.vers ts * 5)) :: row 32 5 (.slice (some ⟨br, 0, none⟩) e0.vers.length cr) e0.vers.length e0.cs :: aL' :: aD :: aO :: yAt x :: own b5 (.cells #[.int .i64 (gcN a ts ((pre ++ [x]).map (·.s)) : Nat)] 3) :: own b3 (.cells #[.int .u64 ts] 24) :: own b2 (.cells #[.pointer (some ⟨sb, 0, none⟩)] 26) :: own sb (.cells #[.map (some g1), .map (some g2)] 98) :: mp Value.string g1 (mset ((E1 ++ e0 :: E2).map Ent.kv) (kb (unkb x.s)) v53) :: mp Value.string g2 (I.map Itn.kv) :: exc F' Wp' :: shr (fun k => k < w0.heap.size) w0 :: ((E1 ++ E2).map Ent.atom ++ L)) := H
          have H := H.sub (.cons_cons _ (.cons _ (.refl _)))
          rw [kb_unkb, ← hek, mset_ent hr'.nd v53 (e0.cs.take (gcPos e0.vers ts * 5)) (e0.vers.take (gcPos e0.vers ts)), ← he1] at H
          have hlt1 : (e0.vers.take (gcPos e0.vers ts)).length = gcPos e0.vers ts := by rw [List.length_take]; omega
          rw [← hek] at hA
          refine W_seq ?_
          refine W_region ?_
          refine OL_y (y_move rfl) (by decide) ?_
          refine OL_y (v := .bool false) (y_eqlF (by omega) rfl rfl) (by decide) ?_
          refine OL_nil ?_
          refine W_condf rfl ?_
          refine W_skip ?_
          have hr1 := hr'.rep v53 (e0.cs.take (gcPos e0.vers ts * 5)) (e0.vers.take (gcPos e0.vers ts)) (hEv.take _ hgle) (by intro h; have := congrArg List.length h; rw [hlt1] at this; simp only [List.length_nil] at this; omega)
          rw [← he1] at hr1
          refine ⟨_, ⟨E1 ++ e1 :: E2, F', Wp', rfl, by rw [hA]; exact hr1, g', by simpa using hl'⟩, ?_⟩
          have H := unpickE (A := [aL', aD, aO, yAt x, own b5 (.cells #[.int .i64 (gcN a ts ((pre ++ [x]).map (·.s)) : Nat)] 3), own b3 (.cells #[.int .u64 ts] 24), own b2 (.cells #[.pointer (some ⟨sb, 0, none⟩)] 26), own sb (.cells #[.map (some g1), .map (some g2)] 98), mp Value.string g1 ((E1 ++ e1 :: E2).map Ent.kv), mp Value.string g2 (I.map Itn.kv), exc F' Wp', shr (fun k => k < w0.heap.size) w0]) (e := e1) (by subst he1; show Holds _ (row 32 5 v53 (e0.vers.take (gcPos e0.vers ts)).length _ :: _); rw [hlt1]; exact H)
          exact H.sub (.cons_cons _ (.cons_cons _ (.cons_cons _ (.cons _ (.refl _)))))
        · refine W_region ?_
          refine OL_y (y_move hvr) (by decide) ?_
          refine OL_y (y_move rfl) (by decide) ?_
          refine OL_y (y_indexAddr ti53 ti32 rfl rfl (by omega) (by omega)) (by decide) ?_
          refine OL_y (y_fieldAddr ti32 rfl ti4 rfl rfl) (by decide) ?_
          refine OL_y (y_loadS (v := .bool true) ti4 rfl rfl (hc9.take 2 rfl)) (by decide) ?_
          refine OL_y (v := .bool false) (y_not (b := true) rfl) (by decide) ?_
          refine OL_nil ?_
          have hg : gcPos e0.vers ts = posV e0.vers ts := hgd
          refine W_condf rfl ?_
          refine W_skip ?_
          refine W_seq ?_
          have hgle := gcPos_le e0.vers ts
          refine W_region ?_
          refine OL_y (y_loadS (v := .int .i64 (gcN a ts (pre.map (·.s)))) ti3 rfl rfl (Cells.unit (H.getOwn 5 rfl) rfl)) (by decide) ?_
          refine OL_y (y_move hvr) (by decide) ?_
          refine OL_y (y_len rfl ti53 rfl) (by decide) ?_
          refine OL_y (y_move rfl) (by decide) ?_
          refine OL_y (y_sub64' ((e0.vers.length - gcPos e0.vers ts : Nat) : Int) rfl rfl (by omega) (by omega) (by omega)) (by decide) ?_
          refine OL_y (y_add64' ((gcN a ts (pre.map (·.s)) + (e0.vers.length - gcPos e0.vers ts) : Nat) : Int) rfl rfl (by omega) (by omega) (by omega)) (by decide) ?_
          refine OL_c (op_store (v := .int .i64 (gcN a ts (pre.map (·.s)) + (e0.vers.length - gcPos e0.vers ts) : Nat)) H 5 rfl ti3 rfl rfl rfl (Nat.le_of_ble_eq_true rfl) (by simp [Value.cells, Value.oneCell']) fun w9_6 H => ?_)
          rw [← hN] at H
          refine OL_nil ?_
          have H : Holds w9_6 (row 32 5 (.slice (some ⟨br, 0, none⟩) e0.vers.length cr) e0.vers.length e0.cs :: aL' :: aD :: aO :: yAt x :: own b5 (.cells #[.int .i64 (gcN a ts ((pre ++ [x]).map (·.s)) : Nat)] 3) :: own b3 (.cells #[.int .u64 ts] 24) :: own b2 (.cells #[.pointer (some ⟨sb, 0, none⟩)] 26) :: own sb (.cells #[.map (some g1), .map (some g2)] 98) :: mp Value.string g1 ((E1 ++ e0 :: E2).map Ent.kv) :: mp Value.string g2 (I.map Itn.kv) :: exc F' Wp' :: shr (fun k => k < w0.heap.size) w0 :: ((E1 ++ E2).map Ent.atom ++ L)) := H
          refine W_seq ?_
          refine W_drawD H mixed (by kernel_rfl) [10] (fun wq w' => Holds w' (row 32 5 (.slice (some ⟨br, 0, none⟩) e0.vers.length cr) e0.vers.length e0.cs :: aL' :: aD :: aO :: yAt x :: own b5 (.cells #[.int .i64 (gcN a ts ((pre ++ [x]).map (·.s)) : Nat)] 3) :: own b3 (.cells #[.int .u64 ts] 24) :: own b2 (.cells #[.pointer (some ⟨sb, 0, none⟩)] 26) :: own sb (.cells #[.map (some g1), .map (some g2)] 98) :: mp Value.string g1 ((E1 ++ e0 :: E2).map Ent.kv) :: mp Value.string g2 (I.map Itn.kv) :: exc F' Wp' :: shr (fun k => k < w0.heap.size) w0 :: ((E1 ++ E2).map Ent.atom ++ L))) fun wd10 H hEd => ?_
          have hS : ∀ {ls : Array Bool}, Sx [10] (fun w' => Holds w' (row 32 5 (.slice (some ⟨br, 0, none⟩) e0.vers.length cr) e0.vers.length e0.cs :: aL' :: aD :: aO :: yAt x :: own b5 (.cells #[.int .i64 (gcN a ts ((pre ++ [x]).map (·.s)) : Nat)] 3) :: own b3 (.cells #[.int .u64 ts] 24) :: own b2 (.cells #[.pointer (some ⟨sb, 0, none⟩)] 26) :: own sb (.cells #[.map (some g1), .map (some g2)] 98) :: mp Value.string g1 ((E1 ++ e0 :: E2).map Ent.kv) :: mp Value.string g2 (I.map Itn.kv) :: exc F' Wp' :: shr (fun k => k < w0.heap.size) w0 :: ((E1 ++ E2).map Ent.atom ++ L))) ls wd10 := fun {_} _ => H
          refine DA_y 0 rfl (by kernel_rfl) rfl (by kernel_rfl) (fun w' h => y_loadS (v := .pointer (some ⟨sb, 0, none⟩)) ti26 rfl rfl (Cells.unit (h.getOwn 7 rfl) rfl)) hS (by decide) fun hS => ?_
          refine DA_p 1 rfl (by kernel_rfl) rfl (fun _ => y_nilCheck rfl ⟨_, rfl⟩) hS (by decide) fun hS => ?_
          refine DA_p 2 rfl (by kernel_rfl) rfl (fun _ => y_fieldAddr ti98 rfl ti95 rfl rfl) hS (by decide) fun hS => ?_
          refine DA_y 3 rfl (by kernel_rfl) rfl (by kernel_rfl) (fun w' h => y_loadS (v := .map (some g1)) ti95 rfl rfl (Cells.unit (h.getOwn 8 rfl) rfl)) hS (by decide) fun hS => ?_
          refine DA_p 4 rfl (by kernel_rfl) rfl (fun _ => y_move rfl) hS (by decide) fun hS => ?_
          refine DA_y 5 rfl (by kernel_rfl) rfl (by kernel_rfl) (fun w' h => y_toStr (w := w') Try.underlying23 Try.underlying5 Try.underlying9 rfl (SlR_bytes (Z := fun _ => True) (h.getOwn 4 rfl) trivial hy1 hy2 hy3)) hS (by decide) fun hS => ?_
          refine DA_p 6 rfl (by kernel_rfl) rfl (fun _ => y_move hvr) hS (by decide) fun hS => ?_
          refine DA_p 7 rfl (by kernel_rfl) rfl (fun _ => y_move rfl) hS (by decide) fun hS => ?_
          refine DA_p (v := .slice (some ⟨br, 0, none⟩) (gcPos e0.vers ts) cr) 8 rfl (by kernel_rfl) rfl (fun _ => by rw [hg]; exact y_sliceH0 (hi := ((posV e0.vers ts : Nat) : Int)) ti53 ti32 rfl rfl (by omega) (by omega)) hS (by decide) fun hS => ?_
          refine DA_one 9 (by kernel_rfl) rfl (op_call 52 en52 rfl [.slice (some ⟨br, 0, none⟩) (gcPos e0.vers ts) cr] rfl (by decide) ((f52_take (H.getRow 0 rfl) hgle (by omega) (hEv.one (by decide))).mono ?_))
          rintro e w10_9 ⟨v53, rfl, hrow53, hf53, hE53⟩
          refine ⟨_, rfl, fun _ => H.ext0 hE53, ?_⟩
          have H := H.new hE53 (row_ok hrow53) hf53
          refine DA_one 10 (by kernel_rfl) rfl (op_mapUpdate (k := kb (unkb x.s)) (v := v53) H 10 rfl ti95 (KeyOK.str Try.underlying9) rfl rfl rfl fun w10_10 H => ⟨fun h => absurd (h 10 (by simp)) (by decide), ?_⟩)
          refine DA_done (by kernel_rfl) ?_
          obtain ⟨e1, he1⟩ : ∃ e1 : Ent, e1 = ⟨e0.key, v53, e0.cs.take (gcPos e0.vers ts * 5), e0.vers.take (gcPos e0.vers ts)⟩ := ⟨_, rfl⟩
          have H : Holds w10_10 (row 32 5 v53 (gcPos e0.vers ts) (e0.cs.take (gcPos e0.vers ts * 5)) :: row 32 5 (.slice (some ⟨br, 0, none⟩) e0.vers.length cr) e0.vers.length e0.cs :: aL' :: aD :: aO :: yAt x :: own b5 (.cells #[.int .i64 (gcN a ts ((pre ++ [x]).map (·.s)) : Nat)] 3) :: own b3 (.cells #[.int .u64 ts] 24) :: own b2 (.cells #[.pointer (some ⟨sb, 0, none⟩)] 26) :: own sb (.cells #[.map (some g1), .map (some g2)] 98) :: mp Value.string g1 (mset ((E1 ++ e0 :: E2).map Ent.kv) (kb (unkb x.s)) v53) :: mp Value.string g2 (I.map Itn.kv) :: exc F' Wp' :: shr (fun k => k < w0.heap.size) w0 :: ((E1 ++ E2).map Ent.atom ++ L)) := H
          have H := H.sub (.cons_cons _ (.cons _ (.refl _)))
          rw [kb_unkb, ← hek, mset_ent hr'.nd v53 (e0.cs.take (gcPos e0.vers ts * 5)) (e0.vers.take (gcPos e0.vers ts)), ← he1] at H
          have hlt1 : (e0.vers.take (gcPos e0.vers ts)).length = gcPos e0.vers ts := by rw [List.length_take]; omega
          rw [← hek] at hA
          refine W_seq ?_
          by_cases hz : ((posV e0.vers ts : Nat) : Int) = 0
          · refine W_region ?_
            refine OL_y (y_move rfl) (by decide) ?_
            refine OL_y (v := .bool true) (y_eqlT hz rfl rfl) (by decide) ?_
            refine OL_nil ?_
            refine W_condt rfl ?_
            refine W_drawD H mixed (by kernel_rfl) [6] (fun wq w' => Holds w' (row 32 5 v53 (gcPos e0.vers ts) (e0.cs.take (gcPos e0.vers ts * 5)) :: aL' :: aD :: aO :: yAt x :: own b5 (.cells #[.int .i64 (gcN a ts ((pre ++ [x]).map (·.s)) : Nat)] 3) :: own b3 (.cells #[.int .u64 ts] 24) :: own b2 (.cells #[.pointer (some ⟨sb, 0, none⟩)] 26) :: own sb (.cells #[.map (some g1), .map (some g2)] 98) :: mp Value.string g1 ((E1 ++ e1 :: E2).map Ent.kv) :: mp Value.string g2 (I.map Itn.kv) :: exc F' Wp' :: shr (fun k => k < w0.heap.size) w0 :: ((E1 ++ E2).map Ent.atom ++ L))) fun wd12 H hEd => ?_
            have hS : ∀ {ls : Array Bool}, Sx [6] (fun w' => Holds w' (row 32 5 v53 (gcPos e0.vers ts) (e0.cs.take (gcPos e0.vers ts * 5)) :: aL' :: aD :: aO :: yAt x :: own b5 (.cells #[.int .i64 (gcN a ts ((pre ++ [x]).map (·.s)) : Nat)] 3) :: own b3 (.cells #[.int .u64 ts] 24) :: own b2 (.cells #[.pointer (some ⟨sb, 0, none⟩)] 26) :: own sb (.cells #[.map (some g1), .map (some g2)] 98) :: mp Value.string g1 ((E1 ++ e1 :: E2).map Ent.kv) :: mp Value.string g2 (I.map Itn.kv) :: exc F' Wp' :: shr (fun k => k < w0.heap.size) w0 :: ((E1 ++ E2).map Ent.atom ++ L))) ls wd12 := fun {_} _ => H
            refine DA_y 0 rfl (by kernel_rfl) rfl (by kernel_rfl) (fun w' h => y_loadS (v := .pointer (some ⟨sb, 0, none⟩)) ti26 rfl rfl (Cells.unit (h.getOwn 7 rfl) rfl)) hS (by decide) fun hS => ?_
            refine DA_p 1 rfl (by kernel_rfl) rfl (fun _ => y_nilCheck rfl ⟨_, rfl⟩) hS (by decide) fun hS => ?_
            refine DA_p 2 rfl (by kernel_rfl) rfl (fun _ => y_fieldAddr ti98 rfl ti95 rfl rfl) hS (by decide) fun hS => ?_
            refine DA_y 3 rfl (by kernel_rfl) rfl (by kernel_rfl) (fun w' h => y_loadS (v := .map (some g1)) ti95 rfl rfl (Cells.unit (h.getOwn 8 rfl) rfl)) hS (by decide) fun hS => ?_
            refine DA_p 4 rfl (by kernel_rfl) rfl (fun _ => y_move rfl) hS (by decide) fun hS => ?_
            refine DA_y 5 rfl (by kernel_rfl) rfl (by kernel_rfl) (fun w' h => y_toStr (w := w') Try.underlying23 Try.underlying5 Try.underlying9 rfl (SlR_bytes (Z := fun _ => True) (h.getOwn 4 rfl) trivial hy1 hy2 hy3)) hS (by decide) fun hS => ?_
            refine DA_one 6 (by kernel_rfl) rfl (op_delete (k := kb (unkb x.s)) H 9 rfl rfl ti95 (KeyOK.str Try.underlying9) (by intro d hd; cases hd) rfl rfl fun w12_6 H => ⟨fun h => absurd (h 6 (by simp)) (by decide), ?_⟩)
            refine DA_done (by kernel_rfl) ?_
            have H : Holds w12_6 (row 32 5 v53 (gcPos e0.vers ts) (e0.cs.take (gcPos e0.vers ts * 5)) :: aL' :: aD :: aO :: yAt x :: own b5 (.cells #[.int .i64 (gcN a ts ((pre ++ [x]).map (·.s)) : Nat)] 3) :: own b3 (.cells #[.int .u64 ts] 24) :: own b2 (.cells #[.pointer (some ⟨sb, 0, none⟩)] 26) :: own sb (.cells #[.map (some g1), .map (some g2)] 98) :: mp Value.string g1 (mdel ((E1 ++ e1 :: E2).map Ent.kv) (kb (unkb x.s))) :: mp Value.string g2 (I.map Itn.kv) :: exc F' Wp' :: shr (fun k => k < w0.heap.size) w0 :: ((E1 ++ E2).map Ent.atom ++ L)) := H
            have hk1 : e1.key = x.s := by rw [he1]; exact hek
            have hnd1 : ((E1 ++ e1 :: E2).map (·.key)).Nodup := by have := hr'.nd; rw [List.map_append, List.map_cons] at this ⊢; rw [he1]; exact this
            rw [kb_unkb, ← hk1, mdel_ent hnd1] at H
            have hr1 := hr'.del
            have hgv : gcV e0.vers ts = [] := by unfold gcV; rw [hg, show posV e0.vers ts = 0 by omega]; rfl
            rw [hgv] at hA
            refine ⟨_, ⟨E1 ++ E2, F', Wp', rfl, by rw [hA]; exact hr1, g', by rw [List.length_append] at hl' ⊢; rw [List.length_cons] at hl'; omega⟩, ?_⟩
            exact H.tail.sub (.cons_cons _ (.cons_cons _ (.cons_cons _ (.cons _ (.refl _)))))
          · refine W_region ?_
            refine OL_y (y_move rfl) (by decide) ?_
            refine OL_y (v := .bool false) (y_eqlF hz rfl rfl) (by decide) ?_
            refine OL_nil ?_
            refine W_condf rfl ?_
            refine W_skip ?_
            have hr1 := hr'.rep v53 (e0.cs.take (gcPos e0.vers ts * 5)) (e0.vers.take (gcPos e0.vers ts)) (hEv.take _ hgle) (by intro h; have := congrArg List.length h; rw [hlt1] at this; simp only [List.length_nil] at this; omega)
            rw [← he1] at hr1
            refine ⟨_, ⟨E1 ++ e1 :: E2, F', Wp', rfl, by rw [hA]; exact hr1, g', by simpa using hl'⟩, ?_⟩
            have H := unpickE (A := [aL', aD, aO, yAt x, own b5 (.cells #[.int .i64 (gcN a ts ((pre ++ [x]).map (·.s)) : Nat)] 3), own b3 (.cells #[.int .u64 ts] 24), own b2 (.cells #[.pointer (some ⟨sb, 0, none⟩)] 26), own sb (.cells #[.map (some g1), .map (some g2)] 98), mp Value.string g1 ((E1 ++ e1 :: E2).map Ent.kv), mp Value.string g2 (I.map Itn.kv), exc F' Wp', shr (fun k => k < w0.heap.size) w0]) (e := e1) (by subst he1; show Holds _ (row 32 5 v53 (e0.vers.take (gcPos e0.vers ts)).length _ :: _); rw [hlt1]; exact H)
            exact H.sub (.cons_cons _ (.cons_cons _ (.cons_cons _ (.cons _ (.refl _)))))
    · refine W_drawQ H mixed (by kernel_rfl) (by kernel_rfl) fun wd4 H => ?_
      refine QL_y (y_loadS (v := .pointer (some ⟨sb, 0, none⟩)) ti26 rfl rfl (Cells.unit (H.getOwn 6 rfl) rfl)) (by decide) ?_
      refine QL_y (y_nilCheck rfl ⟨_, rfl⟩) (by decide) ?_
      refine QL_y (y_fieldAddr ti98 rfl ti95 rfl rfl) (by decide) ?_
      refine QL_y (y_loadS (v := .map (some g1)) ti95 rfl rfl (Cells.unit (H.getOwn 7 rfl) rfl)) (by decide) ?_
      refine QL_y (y_move rfl) (by decide) ?_
      refine QL_y (y_toStr Try.underlying23 Try.underlying5 Try.underlying9 rfl (SlR_bytes (Z := fun _ => True) (H.getOwn 3 rfl) trivial hy1 hy2 hy3)) (by decide) ?_
      refine QL_y (y_lookupN (mget_none.2 (by rw [kb_unkb, List.map_map]; exact hin)) H 8 rfl ti95 ti53 (KeyOK.str Try.underlying9) rfl rfl) (by decide) ?_
      refine QL_y (y_assign rfl) (by decide) ?_
      refine QL_nil ?_
      have hvl : a.v x.s = [] := by rw [← hav]; exact hr'.vn _ hin
      refine W_seq ?_
      refine W_region ?_
      refine OL_y (y_move rfl) (by decide) ?_
      refine OL_y (y_loadS (v := .int .u64 ts) ti24 rfl rfl (Cells.unit (H.getOwn 5 rfl) rfl)) (by decide) ?_
      refine OL_c (op_call 44 en44 rfl [.slice none 0 0, .int .u64 ts, .func (.func 45) #[] #[]] rfl (by decide) ((f44_calls (Z := fun _ => True) ⟨Nat.le_refl _, fun _ _ _ => rfl⟩ (SlR.nil tVer 72 _ _) (List.Pairwise.nil : Sd []) (by decide)).mono ?_))
      rintro e w5_2 ⟨rfl, hE44⟩
      refine ⟨_, rfl, ?_⟩
      have H := H.ext0 hE44
      refine OL_y (y_move rfl) (by decide) ?_
      refine OL_y (y_extract (v := .int .i64 0) rfl rfl) (by decide) ?_
      refine OL_y (y_extract (v := .bool false) rfl rfl) (by decide) ?_
      refine OL_y (y_assign rfl) (by decide) ?_
      refine OL_y (y_assign rfl) (by decide) ?_
      refine OL_nil ?_
      refine W_seq ?_
      refine W_seq ?_
      refine W_region ?_
      refine OL_y (y_move rfl) (by decide) ?_
      refine OL_y (y_move rfl) (by decide) ?_
      refine OL_y (y_len rfl ti53 rfl) (by decide) ?_
      refine OL_y (v := .bool true) (y_eqlT rfl rfl rfl) (by decide) ?_
      refine OL_nil ?_
      refine W_condt rfl ?_
      refine W_exit ?_
      rw [hvl, gcV_nil, setV_same (hav.trans hvl)] at hA
      rw [hvl] at hN
      refine ⟨_, ⟨E', F', Wp', rfl, by rw [hA]; exact hr', g', hl'⟩, ?_⟩
      rw [hN]
      exact H.sub (.cons_cons _ (.cons_cons _ (.cons_cons _ (.cons _ (.refl _)))))
  · rintro D xs Ls W hxs ⟨E', F', Wp', rfl, hr', g', hl'⟩ HH
    refine W_seq ?_
    have H := HH
    refine W_region ?_
    refine OL_y (y_loadS (v := .int .i64 (gcN a ts (xs.map (·.s)))) ti3 rfl rfl (Cells.unit (H.getOwn 1 rfl) rfl)) (by decide) ?_
    refine OL_y (y_assign rfl) (by decide) ?_
    refine OL_nil ?_
    refine W_ret ?_
    show RetOK _ _ _ _ _ _
    refine RetOK.mark (H.getOwn 0 rfl) ?_
    have H := H.put 0 rfl (.deferred none)
    have hxk : xs.map (·.s) = ks := hxs
    rw [hxk, gcK_all (fun k hk => (hks.mem k).2 (.inl hk))] at hr'
    refine ret1 (v := .int .i64 (gcN a ts (xs.map (·.s)))) Try.results21 rfl ⟨ks, by rw [hxk], hks, E', F', Wp', H.tail.tail.tail.tail, hr', g', hl'⟩
  · rintro D pre Ls W e hp h; exact h.elim
end Go.Proofs.Ytpandioolpnihaa

/- New: an empty store of the code. -/
namespace Go.Proofs.Ytpandioolpnihaa
open Go Go.Wk
set_option linter.unusedVariables false
set_option linter.unusedSimpArgs false

set_option maxHeartbeats 2000000 in
theorem f35_calls {w0 w Wp : World} {F : Nat → Prop} {L : List Atom} (H : Holds w (exc F Wp :: shr (fun k => k < w0.heap.size) w0 :: L)) :
    Calls Try.prog 35 [].toArray w fun e w' => ∃ b b1 b2 : Nat, e = .returned (.pointer (some ⟨b, 0, none⟩)) ∧ Holds w' (cAt b b1 b2 [] [] F Wp w0 L) := by
  refine calls_of_W' Try.func35 rfl Try.ntmps35 rfl ?_
  refine W_seq ?_
  refine W_region ?_
  refine OL_y (y_assign rfl) (by decide) ?_
  refine OL_nil ?_
  refine W_seq ?_
  refine W_region ?_
  refine OL_c (op_makeMap Value.string H (by decide) fun bm1 w1_0 H => ?_)
  refine OL_c (op_makeMap Value.string H (by decide) fun bm2 w1_1 H => ?_)
  refine OL_y (v := .agg #[.map (some bm1), .map (some bm2)]) (y_build ti98 pl98 rfl) (by decide) ?_
  refine OL_c (op_box (v := .agg #[.map (some bm1), .map (some bm2)]) H rfl (by decide) fun b4 w1_3 H => ?_)
  refine OL_y (y_assign rfl) (by decide) ?_
  refine OL_nil ?_
  refine W_ret ?_
  show RetOK _ _ _ _ _ _
  refine ret1 Try.results35 rfl ⟨b4, bm1, bm2, rfl, ?_⟩
  exact H.perm (List.Perm.cons _ (List.Perm.swap _ _ _))
end Go.Proofs.Ytpandioolpnihaa

/- The chapter's example: a store that is awake. -/
namespace Go.Proofs.Ytpandioolpnihaa
open Go Go.Wk
set_option linter.unusedVariables false
set_option linter.unusedSimpArgs false

def uAt (t : Int) : Ver := ⟨t, 0, false, [], []⟩
theorem empty_ok : Abs.empty.Ok 0 := fun k => ⟨List.Pairwise.nil, Nat.le_refl _⟩
theorem uAt_R {Z : Nat → Prop} {w : World} {t : Int} (h : InK .u64 t) : tVer.R Z w [.int .u64 t, .int .u64 0, .bool false, .slice none 0 0, .slice none 0 0] (uAt t) := ver_cells.2 ⟨_, _, rfl, h, (by show InK .u64 0; unfold InK; decide), SlR.nil _ _ _ _, SlR.nil _ _ _ _⟩
theorem put_v (a : Abs) (k : ByteArray) (u : Ver) : (a.put k u).v k = putV (a.v k) u := if_pos rfl
theorem awake_at : atV ((Abs.empty.put (kb [107]) (uAt 3)).put (kb [107]) (uAt 5)) (kb [107]) 4 = some (uAt 3) := by
  have hv : ((Abs.empty.put (kb [107]) (uAt 3)).put (kb [107]) (uAt 5)).v (kb [107]) = putV (putV [] (uAt 3)) (uAt 5) := by
    rw [put_v, put_v]; rfl
  unfold atV
  rw [hv]; decide
theorem k107 : ∀ x ∈ ([107] : Key), InK .u8 x := by intro x hx; rw [List.mem_singleton.1 hx]; unfold InK; decide

set_option maxHeartbeats 16000000 in
theorem f11_calls {w : World} : Calls Try.prog 11 [].toArray w fun e w' => e = .returned (.bool true) ∧ Ext none' w w' := by
  have H := (Holds.start w).pool0
  refine calls_of_W' Try.func11 rfl Try.ntmps11 rfl ?_
  refine W_seq ?_
  refine W_region ?_
  refine OL_y (v := .bool false) (y_assign rfl) (by decide) ?_
  refine OL_nil ?_
  refine W_seq ?_
  refine W_region ?_
  refine OL_c (op_call 35 en35 rfl [] rfl (by decide) ((f35_calls H).mono ?_))
  rintro e w1_0 ⟨sb, g1, g2, rfl, H⟩
  refine ⟨_, rfl, ?_⟩
  have hr : CRep w none' w [] [] Abs.empty := CRep.new (Ext.refl _ _)
  refine OL_y (y_assign rfl) (by decide) ?_
  refine OL_nil ?_
  refine W_seq ?_
  refine W_region ?_
  refine OL_y (y_move rfl) (by decide) ?_
  refine OL_c (op_buildSlice H [.int .u8 107] ti23 ti5 rfl rfl rfl (by simp [Value.cells]) rfl rfl (by decide) fun b6 w2_1 H => ?_)
  refine OL_c (op_convSame (cs := [.int .u8 107]) H 0 rfl Try.underlying23 Try.underlying5 rfl (by decide) fun C7 fr7 w2_2 hC7 hm7 hc7 H => ?_)
  have hb7 := H.getOwn 0 rfl
  obtain ⟨H, q1⟩ := H.poolX rfl 3 4 rfl rfl hr.base
  have hr := hr.grow q1
  have hk7 : SlR (tInt .u8) 1 (Dz w fun k => none' k ∨ k = b6) w2_2 (.slice (some ⟨b6, 0, none⟩) 1 1) [107] := SlR_block hb7 hC7 k107 rfl (by decide) hc7 (by decide) (.inr (.inr rfl))
  refine OL_y (v := .agg #[.int .u64 3, .int .u64 0, .bool false, .slice none 0 0, .slice none 0 0]) (y_build ti32 pl32 (by kernel_rfl)) (by decide) ?_
  refine OL_c (op_call 23 en23 rfl [.pointer (some ⟨sb, 0, none⟩), .slice (some ⟨b6, 0, none⟩) 1 1, .agg #[.int .u64 3, .int .u64 0, .bool false, .slice none 0 0, .slice none 0 0]] rfl (by decide) ((f23_calls H hr hk7 (uAt_R (by unfold InK; decide)) empty_ok (by decide)).mono ?_))
  rintro e w2_4 ⟨rfl, E1, F1, W1, H, hr1, g1, hl1⟩
  refine ⟨_, rfl, ?_⟩
  refine OL_nil ?_
  refine W_seq ?_
  refine W_region ?_
  refine OL_y (y_move rfl) (by decide) ?_
  refine OL_c (op_buildSlice H [.int .u8 107] ti23 ti5 rfl rfl rfl (by simp [Value.cells]) rfl rfl (by decide) fun b11 w3_1 H => ?_)
  refine OL_c (op_convSame (cs := [.int .u8 107]) H 0 rfl Try.underlying23 Try.underlying5 rfl (by decide) fun C8 fr8 w3_2 hC8 hm8 hc8 H => ?_)
  have hb8 := H.getOwn 0 rfl
  obtain ⟨H, q2⟩ := H.poolX rfl 3 4 rfl rfl hr1.base
  have hr2 := hr1.grow q2
  have hk8 : SlR (tInt .u8) 1 (Dz w fun k => F1 k ∨ k = b11) w3_2 (.slice (some ⟨b11, 0, none⟩) 1 1) [107] := SlR_block hb8 hC8 k107 rfl (by decide) hc8 (by decide) (.inr (.inr rfl))
  refine OL_y (v := .agg #[.int .u64 5, .int .u64 0, .bool false, .slice none 0 0, .slice none 0 0]) (y_build ti32 pl32 (by kernel_rfl)) (by decide) ?_
  refine OL_c (op_call 23 en23 rfl [.pointer (some ⟨sb, 0, none⟩), .slice (some ⟨b11, 0, none⟩) 1 1, .agg #[.int .u64 5, .int .u64 0, .bool false, .slice none 0 0, .slice none 0 0]] rfl (by decide) ((f23_calls H hr2 hk8 (uAt_R (by unfold InK; decide)) (empty_ok.put _ _) (by decide)).mono ?_))
  rintro e w3_4 ⟨rfl, E2, F2, W2, H, hr3, g3, hl3⟩
  refine ⟨_, rfl, ?_⟩
  refine OL_nil ?_
  refine W_seq ?_
  refine W_region ?_
  refine OL_y (y_move rfl) (by decide) ?_
  refine OL_c (op_buildSlice H [.int .u8 107] ti23 ti5 rfl rfl rfl (by simp [Value.cells]) rfl rfl (by decide) fun b17 w4_1 H => ?_)
  refine OL_c (op_convSame (cs := [.int .u8 107]) H 0 rfl Try.underlying23 Try.underlying5 rfl (by decide) fun C9 fr9 w4_2 hC9 hm9 hc9 H => ?_)
  have hb9 := H.getOwn 0 rfl
  obtain ⟨H, q3⟩ := H.poolX rfl 3 4 rfl rfl hr3.base
  have hr4 := hr3.grow q3
  have hk9 : SlR (tInt .u8) 1 (Dz w fun k => F2 k ∨ k = b17) w4_2 (.slice (some ⟨b17, 0, none⟩) 1 1) [107] := SlR_block hb9 hC9 k107 rfl (by decide) hc9 (by decide) (.inr (.inr rfl))
  refine OL_c (op_call 13 en13 rfl [.pointer (some ⟨sb, 0, none⟩), .slice (some ⟨b17, 0, none⟩) 1 1, .int .u64 4] rfl (by decide) ((f13_calls H hr4 hk9 ((empty_ok.put _ _).put _ _) (by decide)).mono ?_))
  rintro e w4_3 ⟨cs13, rfl, hR13, hE13⟩
  refine ⟨_, rfl, ?_⟩
  have H := H.ext0 hE13
  rw [awake_at] at hR13
  obtain ⟨v1, v2, rfl, -⟩ := ver_cells.1 hR13
  rw [awake_at]
  refine OL_y (y_move rfl) (by decide) ?_
  refine OL_y (y_extract (v := .agg #[.int .u64 3, .int .u64 0, .bool false, v1, v2]) rfl rfl) (by decide) ?_
  refine OL_y (y_extract (v := .bool true) rfl rfl) (by decide) ?_
  refine OL_var (v := .agg #[.int .u64 3, .int .u64 0, .bool false, v1, v2]) H ti32 rfl (by decide) (fun _ => rfl) rfl (tVer.one hR13) fun b2 w4_7 H => ?_
  refine OL_y (y_assign rfl) (by decide) ?_
  refine OL_nil ?_
  refine W_seq ?_
  refine W_region ?_
  refine OL_y (y_move (v := .bool true) rfl) (by decide) ?_
  refine OL_y (v := .bool true) (y_move rfl) (by decide) ?_
  refine OL_yg rfl (by decide) rfl (y_fieldAddr ti32 rfl ti24 rfl rfl) (by decide) ?_
  refine OL_yg rfl (by decide) rfl (y_loadS (v := .int .u64 3) ti24 rfl rfl (Cells.unit (H.getOwn 0 rfl) rfl)) (by decide) ?_
  refine OL_yg (v := .bool true) rfl (by decide) rfl (y_eqlT rfl rfl rfl) (by decide) ?_
  refine OL_y (y_pick (b := true) (v := .bool true) rfl rfl) (by decide) ?_
  refine OL_y (y_assign rfl) (by decide) ?_
  refine OL_nil ?_
  refine W_ret ?_
  show RetOK _ _ _ _ _ _
  exact ret1 (v := .bool true) Try.results11 rfl ⟨rfl, H.ext_of 5 rfl⟩
end Go.Proofs.Ytpandioolpnihaa

/- Gc of the reference's store. -/
namespace Go.Proofs.Ytpandioolpnihaa
open Go Go.Wk
set_option linter.unusedVariables false
set_option linter.unusedSimpArgs false

theorem RRep.setV {w0 Wp : World} {F : Nat → Prop} {R : List RE} {a : Abs} (h : RRep w0 F Wp R a) {i : Nat} {e : RE} (hi : R[i]? = some e) {v : Value} {vs : List Ver} (hu : SlR tVer 72 (Dz w0 F) Wp v vs) :
    RRep w0 F Wp (R.set i ⟨e.vk, v, e.iv, e.ik, ⟨e.c.key, vs, e.c.intent⟩⟩) (a.setV e.k vs) := by
  have hem := List.mem_of_getElem? hi
  have hg2 := h.good e hem
  obtain ⟨_, _, _, eq0, hq1, -, hq2⟩ := cl_cells.1 hg2
  injection eq0 with eq1 eq0; injection eq0 with _ eq2
  subst eq1 eq2
  exact h.rep hi ⟨e.vk, v, e.iv, e.ik, ⟨e.c.key, vs, e.c.intent⟩⟩ rfl (cl_cells.2 ⟨_, _, _, rfl, hq1, hu, hq2⟩) (a.setV e.k vs) (if_pos rfl) (h.va e hem).2 fun k hk => ⟨if_neg hk, rfl⟩

set_option maxHeartbeats 16000000 in
theorem f42_calls {w0 w Wp : World} {F : Nat → Prop} {b m : Nat} {v : Value} {R : List RE} {a : Abs} {L : List Atom} {ts : Int} (H : Holds w (rAt b v R F Wp w0 L)) (hr : RRep w0 F Wp R a) (hl : R.length ≤ 40000) (ha : a.Ok m) (hm : m ≤ 40000) :
    Calls Try.prog 42 [.pointer (some ⟨b, 0, none⟩), .int .u64 ts].toArray w fun e w' => e = .returned (.int .i64 (gcN a ts (R.map RE.k))) ∧ ∃ (v' : Value) (R' : List RE) (F' : Nat → Prop) (Wp' : World), Holds w' (rAt b v' R' F' Wp' w0 L) ∧ RRep w0 F' Wp' R' (a.gc ts) ∧ Grow w0 F Wp F' Wp' ∧ R'.map RE.k = R.map RE.k := by
  obtain ⟨av, cv, hv, hlv, hmv⟩ := H.rowLen 1 rfl
  subst hv
  have hnd : (R.map RE.k).Nodup := rise_nodup bLt_irrefl hr.rise
  refine calls_of_W' Try.func42 rfl Try.ntmps42 rfl ?_
  refine W_seq ?_
  refine W_region ?_
  refine OL_y (y_assign rfl) (by decide) ?_
  refine OL_nil ?_
  refine W_seq ?_
  refine W_region ?_
  refine OL_y (y_assign rfl) (by decide) ?_
  refine OL_nil ?_
  refine W_seq ?_
  refine W_seq ?_
  refine W_region ?_
  refine OL_y (y_move rfl) (by decide) ?_
  refine OL_y (y_nilCheck rfl ⟨_, rfl⟩) (by decide) ?_
  refine OL_y (y_fieldAddr ti66 rfl ti49 rfl rfl) (by decide) ?_
  refine OL_y (y_loadS (v := .slice av R.length cv) ti49 rfl rfl (Cells.unit (H.getOwn 0 rfl) rfl)) (by decide) ?_
  refine OL_y (y_len rfl ti49 rfl) (by decide) ?_
  refine OL_y (y_move rfl) (by decide) ?_
  refine OL_nil ?_
  refine W_range (N := R.length) (by simp [maxLen]; omega) (fun i f ds w' => ∃ (Ri : List RE) (Fi : Nat → Prop) (Wi : World), f 0 = .pointer (some ⟨b, 0, none⟩) ∧ f 1 = .int .u64 ts ∧ f 5 = .int .i64 (gcN a ts ((R.map RE.k).take i)) ∧ f 16 = .slice av R.length cv ∧ ds = [] ∧ RRep w0 Fi Wi Ri (a.gcK ts ((R.map RE.k).take i)) ∧ Grow w0 F Wp Fi Wi ∧ Ri.map RE.k = R.map RE.k ∧ Ri.length = R.length ∧ Holds w' (rAt b (.slice av R.length cv) Ri Fi Wi w0 L))
      ⟨R, F, Wp, rfl, rfl, rfl, rfl, rfl, hr, Grow.refl hr.base, rfl, rfl, H⟩
      rfl rfl (by decide) (by decide) (by decide) rfl rfl ?_ rfl rfl ?_
  · rintro i f ds w3 hi3 ⟨Ri, Fi, Wi, h0, h1, h5, h16, rfl, hri, gi, hki, hli, H⟩ hti htn
    have hie := List.getElem?_eq_getElem (show i < Ri.length by omega)
    have hem := List.mem_of_getElem? hie
    obtain ⟨br, cr, hvr, -, -⟩ := ownsRow_cells (H.getRow 1 rfl) (by omega)
    have hC := rowElAt RE.len (H.getRow 1 rfl) (b := br) (by rw [hvr]; rfl) hie
    have hone := tCl.one (hri.good _ hem)
    have hvS := hri.vers hem
    have hkk : (R.map RE.k)[i]? = some (RE.k (Ri[i]'(by omega))) := by rw [← hki, List.getElem?_map, hie]; rfl
    have htk : (R.map RE.k).take (i + 1) = (R.map RE.k).take i ++ [RE.k (Ri[i]'(by omega))] := by rw [List.take_add_one, hkk]; rfl
    have hav := (hri.va _ hem).1
    generalize Ri[i]'(by omega) = e at *
    have hnin : e.k ∉ (R.map RE.k).take i := by
      intro hin
      obtain ⟨hlt, he⟩ := List.getElem?_eq_some_iff.1 hkk
      have := (List.nodup_append.1 (by rw [← htk]; exact hnd.sublist (List.take_sublist _ _) : ((R.map RE.k).take i ++ [e.k]).Nodup)).2.2 _ hin e.k (by simp)
      exact this rfl
    rw [gcK_out a ts hnin] at hav
    obtain ⟨hsd, hvm⟩ := ha e.k
    rw [hav] at hsd hvm
    obtain ⟨hg1, hg2⟩ := keepL_gc hsd ts
    have hNle : gcN a ts ((R.map RE.k).take i) ≤ 40000 * 40000 := by
      have h1 := gcN_le ha ts ((R.map RE.k).take i)
      have h2 : ((R.map RE.k).take i).length ≤ 40000 := by rw [List.length_take, List.length_map]; omega
      exact Nat.le_trans h1 (Nat.mul_le_mul h2 hm)
    obtain ⟨sa, cs1, hvs, hls, hms⟩ := hvS.len
    rw [hvs] at hvS
    have hcs : e.cs = [e.vk, .slice sa e.c.vers.length cs1, .int .u64 e.c.intent.ts, .int .u64 e.c.intent.txn, .bool e.c.intent.dead, e.iv, e.ik] := by show [_, e.vs, _, _, _, _, _] = _; rw [hvs]
    rw [hcs] at hC hone
    have h16' := h16.trans hvr
    refine W_block ?_
    refine W_seq ?_
    refine W_region ?_
    refine OL_y (y_move hti) (by decide) ?_
    refine OL_y (y_indexAddr ti49 ti55 h16' hti (by omega) (by omega)) (by decide) ?_
    refine OL_y (y_loadA (cs := [e.vk, .slice sa e.c.vers.length cs1, .int .u64 e.c.intent.ts, .int .u64 e.c.intent.txn, .bool e.c.intent.dead, e.iv, e.ik]) ti55 rfl rfl hC rfl) (by decide) ?_
    refine OL_c (op_alloc H ti55 (by decide) fun b7 w4_3 H => ?_)
    refine OL_y (y_assign rfl) (by decide) ?_
    refine OL_c (op_store (v := .agg #[e.vk, .slice sa e.c.vers.length cs1, .int .u64 e.c.intent.ts, .int .u64 e.c.intent.txn, .bool e.c.intent.dead, e.iv, e.ik]) H 0 rfl ti55 rfl rfl rfl (by decide) hone fun w4_5 H => ?_)
    refine OL_nil ?_
    refine W_seq ?_
    refine W_region ?_
    refine OL_y (y_assign rfl) (by decide) ?_
    refine OL_nil ?_
    refine W_seq ?_
    refine W_region ?_
    refine OL_y (v := .bool false) (y_assign rfl) (by decide) ?_
    refine OL_nil ?_
    refine W_seq ?_
    refine W_seq ?_
    refine W_region ?_
    refine OL_y (y_fieldAddr ti55 rfl ti53 rfl rfl) (by decide) ?_
    refine OL_y (y_loadS (v := .slice sa e.c.vers.length cs1) ti53 rfl rfl (Cells.unit (H.getOwn 0 rfl) rfl)) (by decide) ?_
    refine OL_y (y_len rfl ti53 rfl) (by decide) ?_
    refine OL_y (y_move rfl) (by decide) ?_
    refine OL_nil ?_
    have H := H.tail.rowNil 32 5
    refine W_range (N := e.c.vers.length) (by simp [maxLen]; omega) (fun k f ds w' => ∃ (v8 : Value) (cs8 : List Value), f 0 = .pointer (some ⟨b, 0, none⟩) ∧ f 1 = .int .u64 ts ∧ f 5 = .int .i64 (gcN a ts ((R.map RE.k).take i) + (keepL ts (e.c.vers.take k)).2.1 : Nat) ∧ f 6 = .int .i64 (i : Nat) ∧ f 8 = v8 ∧ f 9 = .bool (keepL ts (e.c.vers.take k)).2.2 ∧ f 16 = .slice av R.length cv ∧ f 17 = .int .i64 (R.length : Nat) ∧ f 18 = .int .i64 (i : Nat) ∧ f 24 = .slice sa e.c.vers.length cs1 ∧ ds = [] ∧ Els tVer (Dz w0 Fi) Wi cs8 (keepL ts (e.c.vers.take k)).1 ∧ Holds w' (row 32 5 v8 (keepL ts (e.c.vers.take k)).1.length cs8 :: rAt b (.slice av R.length cv) Ri Fi Wi w0 L))
        ⟨.slice none 0 0, [], h0, h1, h5, rfl, rfl, rfl, h16, htn, hti, rfl, rfl, Els.nil _ _ _, H⟩
        rfl rfl (by decide) (by decide) (by decide) rfl rfl ?_ rfl rfl ?_
    · rintro k f ds w8 hk3 ⟨v8, cs8, h0, h1, h5, h6, h8, h9, h16, h17, h18, h24, rfl, hE, H⟩ htk2 htn2
      have hxk := List.getElem?_eq_getElem hk3
      obtain ⟨b3, o3, cs3, e3, hz3, hc3, hr3⟩ := hvS.at hxk
      have hc3' := hc3.ext ((H.dz 3 4 rfl rfl hri.base).2 _ hz3 hc3.lt)
      have hts : keepL ts (e.c.vers.take (k + 1)) = keepL ts (e.c.vers.take k ++ [e.c.vers[k]]) := by rw [List.take_add_one, hxk]; rfl
      rw [keepL_snoc] at hts
      have hpl : (keepL ts (e.c.vers.take k)).1.length + (keepL ts (e.c.vers.take k)).2.1 = min k e.c.vers.length := by rw [← List.length_take, keepL_len]; simp
      generalize e.c.vers[k] = x at *
      generalize keepL ts (e.c.vers.take k) = p at *
      obtain ⟨pl, pn, pm⟩ := p
      simp only at h5 h9 hE H hts hpl
      obtain ⟨xv, xk, rfl, hx1, hx2, hx3, hx4⟩ := ver_cells.1 hr3
      have h24' := h24.trans (congrArg (Value.slice · _ _) e3)
      refine W_block ?_
      refine W_seq ?_
      refine W_region ?_
      refine OL_y (y_indexAddr ti53 ti32 h24' htk2 (by omega) (by omega)) (by decide) ?_
      refine OL_y (y_loadA (cs := [.int .u64 x.ts, .int .u64 x.txn, .bool x.dead, xv, xk]) ti32 rfl rfl hc3' rfl) (by decide) ?_
      refine OL_var (v := .agg #[.int .u64 x.ts, .int .u64 x.txn, .bool x.dead, xv, xk]) H ti32 rfl (by decide) (fun _ => rfl) rfl (tVer.one hr3) fun b11 w9_2 H => ?_
      refine OL_nil ?_
      refine W_seq ?_
      by_cases hg : ts < x.ts
      · rcases pm with _ | _
        · refine W_region ?_
          refine OL_y (y_fieldAddr ti32 rfl ti24 rfl rfl) (by decide) ?_
          refine OL_y (y_loadS (v := .int .u64 x.ts) ti24 rfl rfl (Cells.unit (H.getOwn 0 rfl) rfl)) (by decide) ?_
          refine OL_y (y_move h1) (by decide) ?_
          refine OL_y (v := .bool true) (y_gtrT hg rfl rfl) (by decide) ?_
          refine OL_y (v := .bool true) (y_move rfl) (by decide) ?_
          refine OL_s rfl (by decide) rfl rfl (by simp) ?_
          refine OL_s rfl (by decide) rfl rfl (by simp) ?_
          refine OL_s rfl (by decide) rfl rfl (by simp) ?_
          refine OL_u rfl (by decide) rfl (by simp) ?_
          refine OL_u rfl (by decide) rfl (by simp) ?_
          refine OL_u rfl (by decide) rfl (by simp) ?_
          refine OL_s rfl (by decide) rfl rfl (by simp) ?_
          refine OL_y (y_pick (b := true) (v := .bool true) rfl rfl) (by decide) ?_
          refine OL_y (v := .bool true) (y_assign rfl) (by decide) ?_
          refine OL_nil ?_
          refine W_seq ?_
          refine W_region ?_
          refine OL_y (v := .bool false) (y_move h9) (by decide) ?_
          refine OL_y (v := .bool false) (y_move rfl) (by decide) ?_
          refine OL_yg rfl (by decide) rfl (y_fieldAddr ti32 rfl ti24 rfl rfl) (by decide) ?_
          refine OL_yg rfl (by decide) rfl (y_loadS (v := .int .u64 x.ts) ti24 rfl rfl (Cells.unit (H.getOwn 0 rfl) rfl)) (by decide) ?_
          refine OL_yg rfl (by decide) rfl (y_move h1) (by decide) ?_
          refine OL_yg (v := .bool false) rfl (by decide) rfl (y_leqF (by omega) rfl rfl) (by decide) ?_
          refine OL_y (y_pick (b := false) (v := .bool false) rfl rfl) (by decide) ?_
          refine OL_y (v := .bool false) (y_assign rfl) (by decide) ?_
          refine OL_nil ?_
          refine W_seq ?_
          refine W_region ?_
          refine OL_y (v := .bool true) (y_move rfl) (by decide) ?_
          refine OL_nil ?_
          refine W_condt rfl ?_
          refine W_region ?_
          refine OL_y (y_move h8) (by decide) ?_
          refine OL_y (y_loadA (cs := [.int .u64 x.ts, .int .u64 x.txn, .bool x.dead, xv, xk]) ti32 rfl rfl (Cells.of (H.getOwn 0 rfl) rfl) rfl) (by decide) ?_
          refine OL_c (op_buildSlice H [.agg #[.int .u64 x.ts, .int .u64 x.txn, .bool x.dead, xv, xk]] ti53 ti32 rfl rfl rfl (by simp [Value.cells]) rfl rfl (by decide) fun b53 w13_2 H => ?_)
          refine OL_c (op_append H 2 rfl rfl ti53 ti32 rfl rfl rfl rfl (Src.row (H.getRow 0 rfl)) rfl (by intro c hc; exact tVer.one hr3 c (by simpa [Value.cells] using hc)) (by omega) (by simp only [maxLen]; omega) (by decide) fun v54 w13_3 H => ?_)
          refine OL_y (y_assign rfl) (by decide) ?_
          refine OL_nil ?_
          have e2 : keepL ts (e.c.vers.take (k + 1)) = (pl ++ [x], pn, false) := by rw [hts]; unfold keepS; simp [hg, Int.not_le.2 hg]
          refine ⟨htk2, htn2, v54, _, h0, h1, by rw [e2]; exact h5, h6, rfl, by rw [e2]; rfl, h16, h17, h18, h24, rfl, by rw [e2]; exact hE.snoc hr3, ?_⟩
          rw [e2, List.length_append]; exact H.tail.tail
        · refine W_region ?_
          refine OL_y (y_fieldAddr ti32 rfl ti24 rfl rfl) (by decide) ?_
          refine OL_y (y_loadS (v := .int .u64 x.ts) ti24 rfl rfl (Cells.unit (H.getOwn 0 rfl) rfl)) (by decide) ?_
          refine OL_y (y_move h1) (by decide) ?_
          refine OL_y (v := .bool true) (y_gtrT hg rfl rfl) (by decide) ?_
          refine OL_y (v := .bool true) (y_move rfl) (by decide) ?_
          refine OL_s rfl (by decide) rfl rfl (by simp) ?_
          refine OL_s rfl (by decide) rfl rfl (by simp) ?_
          refine OL_s rfl (by decide) rfl rfl (by simp) ?_
          refine OL_u rfl (by decide) rfl (by simp) ?_
          refine OL_u rfl (by decide) rfl (by simp) ?_
          refine OL_u rfl (by decide) rfl (by simp) ?_
          refine OL_s rfl (by decide) rfl rfl (by simp) ?_
          refine OL_y (y_pick (b := true) (v := .bool true) rfl rfl) (by decide) ?_
          refine OL_y (v := .bool true) (y_assign rfl) (by decide) ?_
          refine OL_nil ?_
          refine W_seq ?_
          refine W_region ?_
          refine OL_y (v := .bool true) (y_move h9) (by decide) ?_
          refine OL_y (v := .bool true) (y_move rfl) (by decide) ?_
          refine OL_s rfl (by decide) rfl rfl (by simp) ?_
          refine OL_s rfl (by decide) rfl rfl (by simp) ?_
          refine OL_s rfl (by decide) rfl rfl (by simp) ?_
          refine OL_s rfl (by decide) rfl rfl (by simp) ?_
          refine OL_y (y_pick (b := true) (v := .bool true) rfl rfl) (by decide) ?_
          refine OL_y (v := .bool true) (y_assign rfl) (by decide) ?_
          refine OL_nil ?_
          refine W_seq ?_
          refine W_region ?_
          refine OL_y (v := .bool true) (y_move rfl) (by decide) ?_
          refine OL_nil ?_
          refine W_condt rfl ?_
          refine W_region ?_
          refine OL_y (y_move h8) (by decide) ?_
          refine OL_y (y_loadA (cs := [.int .u64 x.ts, .int .u64 x.txn, .bool x.dead, xv, xk]) ti32 rfl rfl (Cells.of (H.getOwn 0 rfl) rfl) rfl) (by decide) ?_
          refine OL_c (op_buildSlice H [.agg #[.int .u64 x.ts, .int .u64 x.txn, .bool x.dead, xv, xk]] ti53 ti32 rfl rfl rfl (by simp [Value.cells]) rfl rfl (by decide) fun b53 w13_2 H => ?_)
          refine OL_c (op_append H 2 rfl rfl ti53 ti32 rfl rfl rfl rfl (Src.row (H.getRow 0 rfl)) rfl (by intro c hc; exact tVer.one hr3 c (by simpa [Value.cells] using hc)) (by omega) (by simp only [maxLen]; omega) (by decide) fun v54 w13_3 H => ?_)
          refine OL_y (y_assign rfl) (by decide) ?_
          refine OL_nil ?_
          have e2 : keepL ts (e.c.vers.take (k + 1)) = (pl ++ [x], pn, true) := by rw [hts]; unfold keepS; simp [hg]
          refine ⟨htk2, htn2, v54, _, h0, h1, by rw [e2]; exact h5, h6, rfl, by rw [e2]; rfl, h16, h17, h18, h24, rfl, by rw [e2]; exact hE.snoc hr3, ?_⟩
          rw [e2, List.length_append]; exact H.tail.tail
      · rcases pm with _ | _
        · rcases hd : x.dead with _ | _
          · refine W_region ?_
            refine OL_y (y_fieldAddr ti32 rfl ti24 rfl rfl) (by decide) ?_
            refine OL_y (y_loadS (v := .int .u64 x.ts) ti24 rfl rfl (Cells.unit (H.getOwn 0 rfl) rfl)) (by decide) ?_
            refine OL_y (y_move h1) (by decide) ?_
            refine OL_y (v := .bool false) (y_gtrF hg rfl rfl) (by decide) ?_
            refine OL_y (v := .bool false) (y_move rfl) (by decide) ?_
            refine OL_yg (v := .bool false) rfl (by decide) rfl (y_move h9) (by decide) ?_
            refine OL_yg (v := .bool true) rfl (by decide) rfl (y_not (b := false) rfl) (by decide) ?_
            refine OL_yg (v := .bool true) rfl (by decide) rfl (y_move rfl) (by decide) ?_
            refine OL_yg rfl (by decide) rfl (y_fieldAddr ti32 rfl ti4 rfl rfl) (by decide) ?_
            refine OL_yg rfl (by decide) rfl (y_loadS (v := .bool false) ti4 rfl rfl (Cells.unit (H.getOwn 0 rfl) (congrArg (fun z => some (Value.bool z)) hd))) (by decide) ?_
            refine OL_yg (v := .bool true) rfl (by decide) rfl (y_not (b := false) rfl) (by decide) ?_
            refine OL_yg rfl (by decide) rfl (y_pick (b := true) (v := .bool true) rfl rfl) (by decide) ?_
            refine OL_y (y_pick (b := false) (v := .bool true) rfl rfl) (by decide) ?_
            refine OL_y (v := .bool true) (y_assign rfl) (by decide) ?_
            refine OL_nil ?_
            refine W_seq ?_
            refine W_region ?_
            refine OL_y (v := .bool false) (y_move h9) (by decide) ?_
            refine OL_y (v := .bool false) (y_move rfl) (by decide) ?_
            refine OL_yg rfl (by decide) rfl (y_fieldAddr ti32 rfl ti24 rfl rfl) (by decide) ?_
            refine OL_yg rfl (by decide) rfl (y_loadS (v := .int .u64 x.ts) ti24 rfl rfl (Cells.unit (H.getOwn 0 rfl) rfl)) (by decide) ?_
            refine OL_yg rfl (by decide) rfl (y_move h1) (by decide) ?_
            refine OL_yg (v := .bool true) rfl (by decide) rfl (y_leqT (by omega) rfl rfl) (by decide) ?_
            refine OL_y (y_pick (b := false) (v := .bool true) rfl rfl) (by decide) ?_
            refine OL_y (v := .bool true) (y_assign rfl) (by decide) ?_
            refine OL_nil ?_
            refine W_seq ?_
            refine W_region ?_
            refine OL_y (v := .bool true) (y_move rfl) (by decide) ?_
            refine OL_nil ?_
            refine W_condt rfl ?_
            refine W_region ?_
            refine OL_y (y_move h8) (by decide) ?_
            refine OL_y (y_loadA (cs := [.int .u64 x.ts, .int .u64 x.txn, .bool x.dead, xv, xk]) ti32 rfl rfl (Cells.of (H.getOwn 0 rfl) rfl) rfl) (by decide) ?_
            refine OL_c (op_buildSlice H [.agg #[.int .u64 x.ts, .int .u64 x.txn, .bool x.dead, xv, xk]] ti53 ti32 rfl rfl rfl (by simp [Value.cells]) rfl rfl (by decide) fun b53 w13_2 H => ?_)
            refine OL_c (op_append H 2 rfl rfl ti53 ti32 rfl rfl rfl rfl (Src.row (H.getRow 0 rfl)) rfl (by intro c hc; exact tVer.one hr3 c (by simpa [Value.cells] using hc)) (by omega) (by simp only [maxLen]; omega) (by decide) fun v54 w13_3 H => ?_)
            refine OL_y (y_assign rfl) (by decide) ?_
            refine OL_nil ?_
            have e2 : keepL ts (e.c.vers.take (k + 1)) = (pl ++ [x], pn, true) := by rw [hts]; unfold keepS; simp [hg, hd]; omega
            refine ⟨htk2, htn2, v54, _, h0, h1, by rw [e2]; exact h5, h6, rfl, by rw [e2]; rfl, h16, h17, h18, h24, rfl, by rw [e2]; exact hE.snoc hr3, ?_⟩
            rw [e2, List.length_append]; exact H.tail.tail
          · refine W_region ?_
            refine OL_y (y_fieldAddr ti32 rfl ti24 rfl rfl) (by decide) ?_
            refine OL_y (y_loadS (v := .int .u64 x.ts) ti24 rfl rfl (Cells.unit (H.getOwn 0 rfl) rfl)) (by decide) ?_
            refine OL_y (y_move h1) (by decide) ?_
            refine OL_y (v := .bool false) (y_gtrF hg rfl rfl) (by decide) ?_
            refine OL_y (v := .bool false) (y_move rfl) (by decide) ?_
            refine OL_yg (v := .bool false) rfl (by decide) rfl (y_move h9) (by decide) ?_
            refine OL_yg (v := .bool true) rfl (by decide) rfl (y_not (b := false) rfl) (by decide) ?_
            refine OL_yg (v := .bool true) rfl (by decide) rfl (y_move rfl) (by decide) ?_
            refine OL_yg rfl (by decide) rfl (y_fieldAddr ti32 rfl ti4 rfl rfl) (by decide) ?_
            refine OL_yg rfl (by decide) rfl (y_loadS (v := .bool true) ti4 rfl rfl (Cells.unit (H.getOwn 0 rfl) (congrArg (fun z => some (Value.bool z)) hd))) (by decide) ?_
            refine OL_yg (v := .bool false) rfl (by decide) rfl (y_not (b := true) rfl) (by decide) ?_
            refine OL_yg rfl (by decide) rfl (y_pick (b := true) (v := .bool false) rfl rfl) (by decide) ?_
            refine OL_y (y_pick (b := false) (v := .bool false) rfl rfl) (by decide) ?_
            refine OL_y (v := .bool false) (y_assign rfl) (by decide) ?_
            refine OL_nil ?_
            refine W_seq ?_
            refine W_region ?_
            refine OL_y (v := .bool false) (y_move h9) (by decide) ?_
            refine OL_y (v := .bool false) (y_move rfl) (by decide) ?_
            refine OL_yg rfl (by decide) rfl (y_fieldAddr ti32 rfl ti24 rfl rfl) (by decide) ?_
            refine OL_yg rfl (by decide) rfl (y_loadS (v := .int .u64 x.ts) ti24 rfl rfl (Cells.unit (H.getOwn 0 rfl) rfl)) (by decide) ?_
            refine OL_yg rfl (by decide) rfl (y_move h1) (by decide) ?_
            refine OL_yg (v := .bool true) rfl (by decide) rfl (y_leqT (by omega) rfl rfl) (by decide) ?_
            refine OL_y (y_pick (b := false) (v := .bool true) rfl rfl) (by decide) ?_
            refine OL_y (v := .bool true) (y_assign rfl) (by decide) ?_
            refine OL_nil ?_
            refine W_seq ?_
            refine W_region ?_
            refine OL_y (v := .bool false) (y_move rfl) (by decide) ?_
            refine OL_nil ?_
            refine W_condf rfl ?_
            refine W_region ?_
            refine OL_y (y_move h5) (by decide) ?_
            refine OL_y (y_add64' ((gcN a ts ((R.map RE.k).take i) + (pn + 1) : Nat) : Int) rfl rfl (by omega) (by omega) (by omega)) (by decide) ?_
            refine OL_y (y_assign rfl) (by decide) ?_
            refine OL_nil ?_
            have e2 : keepL ts (e.c.vers.take (k + 1)) = (pl, pn + 1, true) := by rw [hts]; unfold keepS; simp [hg, hd]; omega
            refine ⟨htk2, htn2, v8, _, h0, h1, by rw [e2]; rfl, h6, h8, by rw [e2]; rfl, h16, h17, h18, h24, rfl, by rw [e2]; exact hE, ?_⟩
            rw [e2]; exact H.tail
        · refine W_region ?_
          refine OL_y (y_fieldAddr ti32 rfl ti24 rfl rfl) (by decide) ?_
          refine OL_y (y_loadS (v := .int .u64 x.ts) ti24 rfl rfl (Cells.unit (H.getOwn 0 rfl) rfl)) (by decide) ?_
          refine OL_y (y_move h1) (by decide) ?_
          refine OL_y (v := .bool false) (y_gtrF hg rfl rfl) (by decide) ?_
          refine OL_y (v := .bool false) (y_move rfl) (by decide) ?_
          refine OL_yg (v := .bool true) rfl (by decide) rfl (y_move h9) (by decide) ?_
          refine OL_yg (v := .bool false) rfl (by decide) rfl (y_not (b := true) rfl) (by decide) ?_
          refine OL_yg (v := .bool false) rfl (by decide) rfl (y_move rfl) (by decide) ?_
          refine OL_s rfl (by decide) rfl rfl (by simp) ?_
          refine OL_s rfl (by decide) rfl rfl (by simp) ?_
          refine OL_s rfl (by decide) rfl rfl (by simp) ?_
          refine OL_yg rfl (by decide) rfl (y_pick (b := false) (v := .bool false) rfl rfl) (by decide) ?_
          refine OL_y (y_pick (b := false) (v := .bool false) rfl rfl) (by decide) ?_
          refine OL_y (v := .bool false) (y_assign rfl) (by decide) ?_
          refine OL_nil ?_
          refine W_seq ?_
          refine W_region ?_
          refine OL_y (v := .bool true) (y_move h9) (by decide) ?_
          refine OL_y (v := .bool true) (y_move rfl) (by decide) ?_
          refine OL_s rfl (by decide) rfl rfl (by simp) ?_
          refine OL_s rfl (by decide) rfl rfl (by simp) ?_
          refine OL_s rfl (by decide) rfl rfl (by simp) ?_
          refine OL_s rfl (by decide) rfl rfl (by simp) ?_
          refine OL_y (y_pick (b := true) (v := .bool true) rfl rfl) (by decide) ?_
          refine OL_y (v := .bool true) (y_assign rfl) (by decide) ?_
          refine OL_nil ?_
          refine W_seq ?_
          refine W_region ?_
          refine OL_y (v := .bool false) (y_move rfl) (by decide) ?_
          refine OL_nil ?_
          refine W_condf rfl ?_
          refine W_region ?_
          refine OL_y (y_move h5) (by decide) ?_
          refine OL_y (y_add64' ((gcN a ts ((R.map RE.k).take i) + (pn + 1) : Nat) : Int) rfl rfl (by omega) (by omega) (by omega)) (by decide) ?_
          refine OL_y (y_assign rfl) (by decide) ?_
          refine OL_nil ?_
          have e2 : keepL ts (e.c.vers.take (k + 1)) = (pl, pn + 1, true) := by rw [hts]; unfold keepS; simp [hg]
          refine ⟨htk2, htn2, v8, _, h0, h1, by rw [e2]; rfl, h6, h8, by rw [e2]; rfl, h16, h17, h18, h24, rfl, by rw [e2]; exact hE, ?_⟩
          rw [e2]; exact H.tail
    · rintro f ds w8 ⟨v8, cs8, h0, h1, h5, h6, h8, h9, h16, h17, h18, h24, rfl, hE, H⟩ htk2 htn2
      rw [List.take_length] at hE H h5
      rw [hg1] at hE H
      rw [hg2, ← hav, ← gcN_snoc, ← htk] at h5
      obtain ⟨a7, c7, hv7, hl7, hm7⟩ := H.rowLen 0 rfl
      subst hv7
      obtain ⟨br2, cr2, hvr2, -, -⟩ := ownsRow_cells (H.getRow 2 rfl) (by omega)
      refine W_region ?_
      refine OL_y (y_move h0) (by decide) ?_
      refine OL_y (y_nilCheck rfl ⟨_, rfl⟩) (by decide) ?_
      refine OL_y (y_fieldAddr ti66 rfl ti49 rfl rfl) (by decide) ?_
      refine OL_y (y_loadS (v := .slice av R.length cv) ti49 rfl rfl (Cells.unit (H.getOwn 1 rfl) rfl)) (by decide) ?_
      refine OL_y (y_move h6) (by decide) ?_
      refine OL_y (y_move h8) (by decide) ?_
      refine OL_y (y_indexAddr ti49 ti55 (hli ▸ hvr2) rfl (by omega) (by omega)) (by decide) ?_
      refine OL_y (y_fieldAddr ti55 rfl ti53 rfl rfl) (by decide) ?_
      refine OL_c (op_storeRow (o := 0 + i * 7 + 1) H 2 rfl (by rw [hvr2]; rfl) ti53 rfl rfl rfl (by rw [flat_len RE.len]; omega) rfl fun w16_8 H => ?_)
      refine OL_nil ?_
      obtain ⟨e', he'⟩ : ∃ e' : RE, e' = ⟨e.vk, .slice a7 (gcV e.c.vers ts).length c7, e.iv, e.ik, ⟨e.c.key, gcV e.c.vers ts, e.c.intent⟩⟩ := ⟨_, rfl⟩
      have hgl : (gcV e.c.vers ts).length ≤ 40000 := by unfold gcV; rw [List.length_take]; omega
      have H : Holds w16_8 (row 32 5 (.slice a7 (gcV e.c.vers ts).length c7) (gcV e.c.vers ts).length cs8 :: own b (.cells #[.slice av R.length cv] 66) :: row 55 7 (.slice av R.length cv) Ri.length ((Ri.flatMap RE.cs).set (0 + i * 7 + 1) (.slice a7 (gcV e.c.vers ts).length c7)) :: exc Fi Wi :: shr (fun k => k < w0.heap.size) w0 :: L) := H
      rw [Nat.zero_add, flat_set RE.len Ri i 1 e e' _ (by decide) hie (by rw [he']; rfl)] at H
      have hkd := H.dz 3 4 rfl rfl hri.base
      have hS7 : SlR tVer 72 (Dz w0 fun k => Fi k ∨ (Value.slice a7 (gcV e.c.vers ts).length c7).ownBlock = some k) w16_8 (.slice a7 (gcV e.c.vers ts).length c7) (gcV e.c.vers ts) := SlR.ofRow (H.getRow 0 rfl) (by decide) ((hE.keeps hkd).mono fun k _ hk => hk.imp id .inl) (fun k hk => .inr (.inr hk)) (by omega)
      obtain ⟨H, g2⟩ := H.poolX rfl 2 3 rfl rfl hri.base
      have hr2 := (hri.grow g2).setV hie hS7
      rw [← he'] at hr2
      have ek : e'.k = e.k := by rw [he']
      refine ⟨h18, h17, Ri.set i e', _, w16_8, h0, h1, h5, h16, rfl, by rw [htk, ← gcK_snoc, hav]; exact hr2, gi.trans g2, ?_, by rw [List.length_set]; exact hli, ?_⟩
      · rw [List.map_set, ek, ← hki]
        apply List.ext_getElem?
        intro j
        by_cases hj : i = j
        · subst hj
          rw [List.getElem?_set_self (by rw [List.length_map]; omega), List.getElem?_map, hie]; rfl
        · rw [List.getElem?_set_ne hj]
      · show Holds w16_8 (own b _ :: row 55 7 _ (Ri.set i e').length _ :: _)
        rw [List.length_set]; exact H
  · rintro f ds w3 ⟨Ri, Fi, Wi, h0, h1, h5, h16, rfl, hri, gi, hki, hli, H⟩ hti htn
    rw [List.take_of_length_le (by rw [List.length_map]; omega)] at h5 hri
    refine W_seq ?_
    refine W_region ?_
    refine OL_y (y_move h5) (by decide) ?_
    refine OL_y (y_assign rfl) (by decide) ?_
    refine OL_nil ?_
    refine W_ret ?_
    show RetOK _ _ _ _ _ _
    rw [gcK_all (fun k hk => Classical.byContradiction fun hn => hk (hr.vn k hn).1)] at hri
    exact ret1 (v := .int .i64 (gcN a ts (R.map RE.k))) Try.results42 rfl ⟨rfl, _, Ri, Fi, Wi, H, hri, gi, hki⟩
end Go.Proofs.Ytpandioolpnihaa

/- Both stores: the same is done to both, and both answer alike. -/
namespace Go.Wk
open Go
theorem Holds.dup {w : World} {Z : Nat → Prop} {w0 : World} {L : List Atom} (H : Holds w (shr Z w0 :: L)) : Holds w (shr Z w0 :: shr Z w0 :: L) :=
  H.cons (H.ok _ (by simp)) fun b hb => by
    rcases List.mem_cons.1 hb with rfl | hb
    · intro e; rcases e with e | e <;> cases e
    · exact (List.pairwise_cons.1 H.apart).1 b hb
theorem ret4 {P : Program} {fn : Func} {R : Ending → World → Prop} {f : Fr} {w : World} {t u x y : Nat} {a b c d : Value} (h : fn.results = #[.tmp t, .tmp u, .tmp x, .tmp y]) (h1 : f t = a) (h2 : f u = b) (h3 : f x = c) (h4 : f y = d) (hR : R (.returned (.tuple #[a, b, c, d])) w) : RetOK P fn R f [] w :=
  ⟨.tuple #[a, b, c, d], fun ac ha => by
    have e1 : ac.tmps.getD t undef = a := by rw [ha.2 t, h1]
    have e2 : ac.tmps.getD u undef = b := by rw [ha.2 u, h2]
    have e3 : ac.tmps.getD x undef = c := by rw [ha.2 x, h3]
    have e4 : ac.tmps.getD y undef = d := by rw [ha.2 y, h4]
    simp [results, h]
    simp only [← Array.getD_eq_getD_getElem?, e1, e2, e3, e4]
    exact ⟨trivial, trivial, trivial, trivial⟩, hR⟩
/-- Data that lay there at the begin, as the pool has it. -/
theorem SlR.dzOf {α : Type} {T : Ty α} {bytes : Nat} {w0 Wp : World} {F : Nat → Prop} {v : Value} {xs : List α} (h : SlR T bytes (fun k => k < w0.heap.size) w0 v xs) (b : Ext none' w0 Wp) : SlR T bytes (Dz w0 F) Wp v xs := (h.keeps b.keeps0).mono fun _ _ hk => .inl hk
theorem Ty.dzOf {α : Type} {T : Ty α} {w0 Wp : World} {F : Nat → Prop} {cs : List Value} {x : α} (h : T.R (fun k => k < w0.heap.size) w0 cs x) (b : Ext none' w0 Wp) : T.R (Dz w0 F) Wp cs x := T.mono (T.keeps h b.keeps0) fun _ _ hk => .inl hk
end Go.Wk
namespace Go.Proofs.Ytpandioolpnihaa
open Go Go.Wk
set_option linter.unusedVariables false
set_option linter.unusedSimpArgs false

section
variable {W w0 Wp W2 : World} {F F2 : Nat → Prop} {sb g1 g2 rb : Nat} {E : List Ent} {I : List Itn} {v : Value} {R : List RE} {x : Atom} {L : List Atom}
theorem boxIn (H : Holds W (x :: cAt sb g1 g2 E I F Wp w0 (rAt rb v R F2 W2 w0 L))) : Holds W (cAt sb g1 g2 E I F Wp w0 (rAt rb v R F2 W2 w0 (x :: L))) := by
  refine H.perm ?_
  have e : ∀ Y, cAt sb g1 g2 E I F Wp w0 (rAt rb v R F2 W2 w0 Y) = (cAt sb g1 g2 E I F Wp w0 [] ++ [own rb (.cells #[v] 66), row 55 7 v R.length (R.flatMap RE.cs), exc F2 W2, shr (fun k => k < w0.heap.size) w0]) ++ Y := fun Y => by simp [cAt]
  rw [e, e]
  exact List.perm_middle.symm
theorem boxOut (H : Holds W (cAt sb g1 g2 E I F Wp w0 (rAt rb v R F2 W2 w0 (x :: L)))) : Holds W (x :: cAt sb g1 g2 E I F Wp w0 (rAt rb v R F2 W2 w0 L)) := by
  refine H.perm ?_
  have e : ∀ Y, cAt sb g1 g2 E I F Wp w0 (rAt rb v R F2 W2 w0 Y) = (cAt sb g1 g2 E I F Wp w0 [] ++ [own rb (.cells #[v] 66), row 55 7 v R.length (R.flatMap RE.cs), exc F2 W2, shr (fun k => k < w0.heap.size) w0]) ++ Y := fun Y => by simp [cAt]
  rw [e, e]
  exact List.perm_middle
theorem refIn (H : Holds W (cAt sb g1 g2 E I F Wp w0 (rAt rb v R F2 W2 w0 L))) : Holds W (rAt rb v R F2 W2 w0 (cAt sb g1 g2 E I F Wp w0 L)) := by
  refine H.perm ?_
  have e1 : cAt sb g1 g2 E I F Wp w0 (rAt rb v R F2 W2 w0 L) = (cAt sb g1 g2 E I F Wp w0 [] ++ rAt rb v R F2 W2 w0 []) ++ L := by simp [cAt]
  have e2 : rAt rb v R F2 W2 w0 (cAt sb g1 g2 E I F Wp w0 L) = (rAt rb v R F2 W2 w0 [] ++ cAt sb g1 g2 E I F Wp w0 []) ++ L := by simp [cAt]
  rw [e1, e2]
  exact List.perm_append_comm.append_right L
theorem refOut (H : Holds W (rAt rb v R F2 W2 w0 (cAt sb g1 g2 E I F Wp w0 L))) : Holds W (cAt sb g1 g2 E I F Wp w0 (rAt rb v R F2 W2 w0 L)) := by
  refine H.perm ?_
  have e1 : cAt sb g1 g2 E I F Wp w0 (rAt rb v R F2 W2 w0 L) = (cAt sb g1 g2 E I F Wp w0 [] ++ rAt rb v R F2 W2 w0 []) ++ L := by simp [cAt]
  have e2 : rAt rb v R F2 W2 w0 (cAt sb g1 g2 E I F Wp w0 L) = (rAt rb v R F2 W2 w0 [] ++ cAt sb g1 g2 E I F Wp w0 []) ++ L := by simp [cAt]
  rw [e1, e2]
  exact List.perm_append_comm.append_right L
theorem justL (H : Holds W (cAt sb g1 g2 E I F Wp w0 (rAt rb v R F2 W2 w0 L))) : Holds W (shr (fun k => k < w0.heap.size) w0 :: L) := by
  refine H.sub (.cons _ (.cons _ (.cons _ (.cons _ (.cons_cons _ ?_)))))
  exact List.sublist_append_of_sublist_right (.cons _ (.cons _ (.cons _ (.cons _ (.refl _)))))
end
theorem Abs.Ok.mono {a : Abs} {m n : Nat} (h : a.Ok m) (hn : m ≤ n) : a.Ok n := fun k => ⟨(h k).1, Nat.le_trans (h k).2 hn⟩
theorem CRep.intLe {w0 Wp : World} {F : Nat → Prop} {E : List Ent} {I : List Itn} {a : Abs} (h : CRep w0 F Wp E I a) {txn : Int} {ks : List ByteArray} (hk : IntentsOf a txn ks) : ks.length ≤ I.length := by
  have hnd : ks.Nodup := rise_nodup bLt_irrefl hk.rise
  have hsub : ∀ k ∈ ks, k ∈ I.map (·.key) := fun k hk' => Classical.byContradiction fun hn => by
    have h1 := (hk.mem k).1 hk'
    have h2 := h.inn k hn
    rw [h2] at h1; exact h1.1 h1.2.symm
  have := List.Nodup.length_le_of_subset hnd hsub
  rwa [List.length_map] at this
theorem intents_unique {a : Abs} {txn : Int} {ks ks' : List ByteArray} (h : IntentsOf a txn ks) (h' : IntentsOf a txn ks') : ks = ks' := rise_unique bLt_irrefl bLt_trans h.rise h'.rise fun k => by rw [h.mem k, h'.mem k]
theorem RRep.gcN {w0 Wp : World} {F : Nat → Prop} {R : List RE} {a : Abs} (h : RRep w0 F Wp R a) {ks : List ByteArray} (hk : KeysOf a ks) (ts : Int) : Go.Proofs.Ytpandioolpnihaa.gcN a ts (R.map RE.k) = Go.Proofs.Ytpandioolpnihaa.gcN a ts ks := by
  obtain ⟨q, hq⟩ : ∃ q : ByteArray → Bool, ∀ k, q k = true ↔ Go.Proofs.Ytpandioolpnihaa.isKey a k := ⟨fun k => ks.any fun x => decide (x = k), fun k => by rw [List.any_eq_true, ← hk.mem k]; exact ⟨fun ⟨x, h1, h2⟩ => of_decide_eq_true h2 ▸ h1, fun h1 => ⟨k, h1, decide_eq_true rfl⟩⟩⟩
  have hf : (R.map RE.k).filter q = ks := rise_unique bLt_irrefl bLt_trans (h.rise.sublist List.filter_sublist) hk.rise fun k => by
    rw [List.mem_filter, hq k, hk.mem k]
    refine ⟨fun h => h.2, fun h1 => ⟨Classical.byContradiction fun hn => ?_, h1⟩⟩
    have := h.vn k hn
    unfold Go.Proofs.Ytpandioolpnihaa.isKey at h1
    rw [this.1, this.2] at h1; rcases h1 with h1 | h1 <;> exact h1 rfl
  rw [← hf]
  refine (gcN_filter a ts q _ fun k _ hn => ?_).symm
  refine Classical.byContradiction fun h1 => ?_
  have : q k = true := (hq k).2 (.inl h1)
  rw [this] at hn; cases hn
theorem intend_ok {a : Abs} {m : Nat} (h : a.Ok m) (k : ByteArray) (u : Ver) : (a.intend k u).Ok m := by unfold Abs.intend; split; exact h; exact h
theorem RRep.new {w0 : World} {F : Nat → Prop} {Wp : World} (h : Ext none' w0 Wp) : RRep w0 F Wp [] Abs.empty := ⟨h, by simp, List.Pairwise.nil, by simp, fun _ _ => ⟨rfl, rfl⟩⟩
/-- Both stores stand, and say the same. -/
def Both (w0 W : World) (sb g1 g2 rb j : Nat) (L : List Atom) : Prop := ∃ (E : List Ent) (I : List Itn) (F : Nat → Prop) (Wp : World) (v : Value) (R : List RE) (F2 : Nat → Prop) (W2 : World) (a : Abs),
  CRep w0 F Wp E I a ∧ RRep w0 F2 W2 R a ∧ a.Ok (50 * j) ∧ I.length ≤ j ∧ E.length ≤ 50 * j ∧ R.length ≤ 100 * j ∧ Holds W (cAt sb g1 g2 E I F Wp w0 (rAt rb v R F2 W2 w0 L))

set_option maxHeartbeats 32000000 in
theorem f12_calls {w0 w : World} {L : List Atom} {vl : Value} {l : List Stp} (H : Holds w (shr (fun k => k < w0.heap.size) w0 :: L)) (hl : SlR tStp 112 (fun k => k < w0.heap.size) w0 vl l) :
    Calls Try.prog 12 [vl].toArray w fun e w' => ∃ (sb g1 g2 rb : Nat) (great : Bool), e = .returned (.tuple #[.pointer (some ⟨sb, 0, none⟩), .pointer (some ⟨rb, 0, none⟩), .bool true, .bool great]) ∧ Holds w' (shr (fun k => k < w0.heap.size) w0 :: L) ∧ (great = false → Both w0 w' sb g1 g2 rb 40 L) := by
  obtain ⟨al, cl, rfl, hll, hml⟩ := hl.len
  have hN := hl.len1 (by decide)
  have hb0 : Ext none' w0 w := H.ext_of 0 rfl
  have H : Holds w (exc none' w :: shr (fun k => k < w0.heap.size) w0 :: exc none' w :: shr (fun k => k < w0.heap.size) w0 :: L) := H.dup.pool0.pool0.perm (List.perm_middle (l₁ := [exc none' w, shr (fun k => k < w0.heap.size) w0])).symm
  refine calls_of_W' Try.func12 rfl Try.ntmps12 rfl ?_
  refine W_seq ?_
  refine W_region ?_
  refine OL_y (y_assign rfl) (by decide) ?_
  refine OL_y (y_assign rfl) (by decide) ?_
  refine OL_y (v := .bool false) (y_assign rfl) (by decide) ?_
  refine OL_y (v := .bool false) (y_assign rfl) (by decide) ?_
  refine OL_nil ?_
  refine W_seq ?_
  refine W_region ?_
  refine OL_c (op_call 35 en35 rfl [] rfl (by decide) ((f35_calls H).mono ?_))
  rintro e w1_0 ⟨sb, g1, g2, rfl, H⟩
  refine ⟨_, rfl, ?_⟩
  refine OL_y (v := .agg #[.slice none 0 0]) (y_build ti66 pl66 (by kernel_rfl)) (by decide) ?_
  refine OL_c (op_box (v := .agg #[.slice none 0 0]) H rfl (by decide) fun b12 w1_2 H => ?_)
  have H := H.rowNil 55 7
  have H : Holds w1_2 (cAt sb g1 g2 [] [] none' w w0 (rAt b12 (.slice none 0 0) [] none' w w0 L)) := by
    refine H.perm ?_
    refine (List.Perm.swap _ _ _).trans ?_
    exact (List.perm_append_comm (l₁ := [own b12 (.cells #[.slice none 0 0] 66), row 55 7 (.slice none 0 0) 0 []]) (l₂ := [own sb (.cells #[.map (some g1), .map (some g2)] 98), mp Value.string g1 [], mp Value.string g2 [], exc none' w, shr (fun k => k < w0.heap.size) w0])).append_right (exc none' w :: shr (fun k => k < w0.heap.size) w0 :: L)
  have hB : Both w0 w1_2 sb g1 g2 b12 0 L := ⟨[], [], none', w, .slice none 0 0, [], none', w, Abs.empty, CRep.new hb0, RRep.new hb0, empty_ok, by simp, by simp, by simp, H⟩
  --H
  refine OL_y (y_assign rfl) (by decide) ?_
  refine OL_y (y_assign rfl) (by decide) ?_
  refine OL_nil ?_
  refine W_seq ?_
  refine W_seq ?_
  refine W_region ?_
  refine OL_y (y_move rfl) (by decide) ?_
  refine OL_y (y_len rfl ti22 rfl) (by decide) ?_
  refine OL_y (y_gtr rfl rfl) (by decide) ?_
  refine OL_nil ?_
  refine W_cond rfl (fun hc => ?_) (fun hc => ?_)
  · refine W_seq ?_
    refine W_region ?_
    refine OL_y (y_move rfl) (by decide) ?_
    refine OL_y (y_move rfl) (by decide) ?_
    refine OL_y (y_assign rfl) (by decide) ?_
    refine OL_y (y_assign rfl) (by decide) ?_
    refine OL_y (v := .bool true) (y_assign rfl) (by decide) ?_
    refine OL_y (v := .bool true) (y_assign rfl) (by decide) ?_
    refine OL_nil ?_
    refine W_ret ?_
    show RetOK _ _ _ _ _ _
    exact ret4 Try.results12 rfl rfl rfl rfl ⟨sb, g1, g2, b12, true, rfl, justL H, fun h => by cases h⟩
  · refine W_skip ?_
    refine W_seq ?_
    refine W_seq ?_
    have hl40 : l.length ≤ 40 := by have := of_decide_eq_false hc; omega
    refine W_region ?_
    refine OL_y (y_move rfl) (by decide) ?_
    refine OL_y (y_len rfl ti22 rfl) (by decide) ?_
    refine OL_y (y_move rfl) (by decide) ?_
    refine OL_nil ?_
    refine W_range (N := l.length) (by simp [maxLen]; omega) (fun j f ds w' => f 6 = .pointer (some ⟨sb, 0, none⟩) ∧ f 7 = .pointer (some ⟨b12, 0, none⟩) ∧ f 18 = .slice al l.length cl ∧ ds = [] ∧ Both w0 w' sb g1 g2 b12 j L)
        ⟨rfl, rfl, rfl, rfl, hB⟩
        rfl rfl (by decide) (by decide) (by decide) rfl rfl ?_ rfl rfl ?_
    · rintro j f ds w5 hj ⟨h6, h7, h18, rfl, E, I, F, Wp, vR, R, F2, W2, a, hr, hrr, ha, hI, hE, hR, H⟩ hti htn
      have hxj := List.getElem?_eq_getElem hj
      obtain ⟨b3, o3, cs3, e3, hz3, hc3, hr3⟩ := hl.at hxj
      have hc3' := hc3.ext ((H.keepsAll 4 rfl (fun _ => True)).2 _ trivial hc3.lt)
      generalize l[j] = d at *
      obtain ⟨vk, vs, rfl, hd1, hdk, hdv, hdt⟩ := stp_cells.1 hr3
      have hone9 := tStp.one hr3
      obtain ⟨ak, ck, rfl, hlk, hmk⟩ := hdk.len
      obtain ⟨vv, vt, rfl, hv1, hv2, hv3, hv4⟩ := ver_cells.1 hdv
      have h18' := h18.trans (congrArg (Value.slice · _ _) e3)
      refine W_block ?_
      refine W_seq ?_
      refine W_region ?_
      refine OL_y (y_indexAddr ti22 ti92 h18' hti (by omega) (by omega)) (by decide) ?_
      refine OL_y (y_loadA (cs := [.int .i64 d.kind, .slice ak d.key.length ck, .int .u64 d.v.ts, .int .u64 d.v.txn, .bool d.v.dead, vv, vt, .int .u64 d.ts]) ti92 rfl rfl hc3' rfl) (by decide) ?_
      refine OL_var (v := .agg #[.int .i64 d.kind, .slice ak d.key.length ck, .int .u64 d.v.ts, .int .u64 d.v.txn, .bool d.v.dead, vv, vt, .int .u64 d.ts]) H ti92 rfl (by decide) (fun _ => rfl) rfl (hone9) fun b9 w6_2 H => ?_
      obtain ⟨sm, hsm⟩ : ∃ sm, smallB d.v = sm := ⟨_, rfl⟩
      refine OL_nil ?_
      refine W_seq ?_
      refine W_seq ?_
      by_cases hk : (50 : Int) < (d.key.length : Nat)
      · refine W_region ?_
        refine OL_y (y_fieldAddr ti92 rfl ti23 rfl rfl) (by decide) ?_
        refine OL_y (y_loadS (v := .slice ak d.key.length ck) ti23 rfl rfl (Cells.unit (H.getOwn 0 rfl) rfl)) (by decide) ?_
        refine OL_y (y_len rfl ti23 rfl) (by decide) ?_
        refine OL_y (v := .bool true) (y_gtrT hk rfl rfl) (by decide) ?_
        refine OL_y (v := .bool true) (y_move rfl) (by decide) ?_
        refine OL_s rfl (by decide) rfl rfl (by simp) ?_
        refine OL_s rfl (by decide) rfl rfl (by simp) ?_
        refine OL_s rfl (by decide) rfl rfl (by simp) ?_
        refine OL_s rfl (by decide) rfl rfl (by simp) ?_
        refine OL_y (y_pick (b := true) (v := .bool true) rfl rfl) (by decide) ?_
        refine OL_nil ?_
        refine W_condt rfl ?_
        refine W_seq ?_
        refine W_region ?_
        refine OL_y (y_move h6) (by decide) ?_
        refine OL_y (y_move h7) (by decide) ?_
        refine OL_y (y_assign rfl) (by decide) ?_
        refine OL_y (y_assign rfl) (by decide) ?_
        refine OL_y (v := .bool true) (y_assign rfl) (by decide) ?_
        refine OL_y (v := .bool true) (y_assign rfl) (by decide) ?_
        refine OL_nil ?_
        refine W_ret ?_
        show RetOK _ _ _ _ _ _
        exact ret4 Try.results12 rfl rfl rfl rfl ⟨sb, g1, g2, b12, true, rfl, justL H.tail, fun h => by cases h⟩
      · rcases sm with _ | _
        · refine W_region ?_
          refine OL_y (y_fieldAddr ti92 rfl ti23 rfl rfl) (by decide) ?_
          refine OL_y (y_loadS (v := .slice ak d.key.length ck) ti23 rfl rfl (Cells.unit (H.getOwn 0 rfl) rfl)) (by decide) ?_
          refine OL_y (y_len rfl ti23 rfl) (by decide) ?_
          refine OL_y (v := .bool false) (y_gtrF hk rfl rfl) (by decide) ?_
          refine OL_y (v := .bool false) (y_move rfl) (by decide) ?_
          refine OL_yg rfl (by decide) rfl (y_fieldAddr ti92 rfl ti32 rfl rfl) (by decide) ?_
          refine OL_yg rfl (by decide) rfl (y_loadA (cs := [.int .u64 d.v.ts, .int .u64 d.v.txn, .bool d.v.dead, vv, vt]) ti32 rfl rfl (Cells.of (H.getOwn 0 rfl) rfl) rfl) (by decide) ?_
          refine OL_g rfl (by decide) rfl (op_call 22 en22 rfl [.agg #[.int .u64 d.v.ts, .int .u64 d.v.txn, .bool d.v.dead, vv, vt]] rfl (by decide) ((f22_calls (tVer.keeps hdv (H.keepsAll 5 rfl _))).mono ?_))
          rintro e w7_7 ⟨rfl, hE22⟩
          refine ⟨_, rfl, ?_⟩
          have H := H.ext0 hE22
          rw [hsm]
          refine OL_yg (v := .bool true) rfl (by decide) rfl (y_not (b := false) rfl) (by decide) ?_
          refine OL_y (y_pick (b := false) (v := .bool true) rfl rfl) (by decide) ?_
          refine OL_nil ?_
          refine W_condt rfl ?_
          refine W_seq ?_
          refine W_region ?_
          refine OL_y (y_move h6) (by decide) ?_
          refine OL_y (y_move h7) (by decide) ?_
          refine OL_y (y_assign rfl) (by decide) ?_
          refine OL_y (y_assign rfl) (by decide) ?_
          refine OL_y (v := .bool true) (y_assign rfl) (by decide) ?_
          refine OL_y (v := .bool true) (y_assign rfl) (by decide) ?_
          refine OL_nil ?_
          refine W_ret ?_
          show RetOK _ _ _ _ _ _
          exact ret4 Try.results12 rfl rfl rfl rfl ⟨sb, g1, g2, b12, true, rfl, justL H.tail, fun h => by cases h⟩
        · refine W_region ?_
          refine OL_y (y_fieldAddr ti92 rfl ti23 rfl rfl) (by decide) ?_
          refine OL_y (y_loadS (v := .slice ak d.key.length ck) ti23 rfl rfl (Cells.unit (H.getOwn 0 rfl) rfl)) (by decide) ?_
          refine OL_y (y_len rfl ti23 rfl) (by decide) ?_
          refine OL_y (v := .bool false) (y_gtrF hk rfl rfl) (by decide) ?_
          refine OL_y (v := .bool false) (y_move rfl) (by decide) ?_
          refine OL_yg rfl (by decide) rfl (y_fieldAddr ti92 rfl ti32 rfl rfl) (by decide) ?_
          refine OL_yg rfl (by decide) rfl (y_loadA (cs := [.int .u64 d.v.ts, .int .u64 d.v.txn, .bool d.v.dead, vv, vt]) ti32 rfl rfl (Cells.of (H.getOwn 0 rfl) rfl) rfl) (by decide) ?_
          refine OL_g rfl (by decide) rfl (op_call 22 en22 rfl [.agg #[.int .u64 d.v.ts, .int .u64 d.v.txn, .bool d.v.dead, vv, vt]] rfl (by decide) ((f22_calls (tVer.keeps hdv (H.keepsAll 5 rfl _))).mono ?_))
          rintro e w7_7 ⟨rfl, hE22⟩
          refine ⟨_, rfl, ?_⟩
          have H := H.ext0 hE22
          rw [hsm]
          refine OL_yg (v := .bool false) rfl (by decide) rfl (y_not (b := true) rfl) (by decide) ?_
          refine OL_y (y_pick (b := false) (v := .bool false) rfl rfl) (by decide) ?_
          refine OL_nil ?_
          refine W_condf rfl ?_
          refine W_skip ?_
          refine W_seq ?_
          have hdk' : ∀ {G : Nat → Prop} {Wq : World}, Ext none' w0 Wq → SlR (tInt .u8) 1 (Dz w0 G) Wq (.slice ak d.key.length ck) d.key := fun {G Wq} hb => hdk.dzOf hb
          have hdv' : ∀ {G : Nat → Prop} {Wq : World}, Ext none' w0 Wq → tVer.R (Dz w0 G) Wq [.int .u64 d.v.ts, .int .u64 d.v.txn, .bool d.v.dead, vv, vt] d.v := fun {G Wq} hb => Ty.dzOf hdv hb
          refine W_region ?_
          refine OL_y (y_fieldAddr ti92 rfl ti3 rfl rfl) (by decide) ?_
          refine OL_y (y_loadS (v := .int .i64 d.kind) ti3 rfl rfl (Cells.unit (H.getOwn 0 rfl) rfl)) (by decide) ?_
          refine OL_nil ?_
          refine W_block ?_
          refine W_seq ?_
          by_cases hk0 : d.kind = 0
          · refine W_region ?_
            refine OL_y (v := .bool true) (y_eqlT hk0 rfl rfl) (by decide) ?_
            refine OL_y (v := .bool true) (y_assign rfl) (by decide) ?_
            refine OL_nil ?_
            refine W_condt rfl ?_
            refine W_seq ?_
            refine W_region ?_
            refine OL_y (y_move h6) (by decide) ?_
            refine OL_y (y_fieldAddr ti92 rfl ti23 rfl rfl) (by decide) ?_
            refine OL_y (y_loadS (v := .slice ak d.key.length ck) ti23 rfl rfl (Cells.unit (H.getOwn 0 rfl) rfl)) (by decide) ?_
            refine OL_y (y_fieldAddr ti92 rfl ti32 rfl rfl) (by decide) ?_
            refine OL_y (y_loadA (cs := [.int .u64 d.v.ts, .int .u64 d.v.txn, .bool d.v.dead, vv, vt]) ti32 rfl rfl (Cells.of (H.getOwn 0 rfl) rfl) rfl) (by decide) ?_
            refine OL_c (op_call 23 en23 rfl [.pointer (some ⟨sb, 0, none⟩), .slice ak d.key.length ck, .agg #[.int .u64 d.v.ts, .int .u64 d.v.txn, .bool d.v.dead, vv, vt]] rfl (by decide) ((f23_calls (boxIn H) hr (hdk' hr.base) (hdv' hr.base) ha (by omega)).mono ?_))
            rintro e w13_5 ⟨rfl, E', F', Wp', H, hr', gr, hE'⟩
            refine ⟨_, rfl, ?_⟩
            have H := boxOut H
            refine OL_nil ?_
            refine W_region ?_
            refine OL_y (y_move h7) (by decide) ?_
            refine OL_y (y_fieldAddr ti92 rfl ti23 rfl rfl) (by decide) ?_
            refine OL_y (y_loadS (v := .slice ak d.key.length ck) ti23 rfl rfl (Cells.unit (H.getOwn 0 rfl) rfl)) (by decide) ?_
            refine OL_y (y_fieldAddr ti92 rfl ti32 rfl rfl) (by decide) ?_
            refine OL_y (y_loadA (cs := [.int .u64 d.v.ts, .int .u64 d.v.txn, .bool d.v.dead, vv, vt]) ti32 rfl rfl (Cells.of (H.getOwn 0 rfl) rfl) rfl) (by decide) ?_
            refine OL_c (op_call 36 en36 rfl [.pointer (some ⟨b12, 0, none⟩), .slice ak d.key.length ck, .agg #[.int .u64 d.v.ts, .int .u64 d.v.txn, .bool d.v.dead, vv, vt]] rfl (by decide) ((f36_calls (refIn (boxIn H)) hrr (hdk' hrr.base) (hdv' hrr.base) ha (by omega) (by omega)).mono ?_))
            rintro e w14_5 ⟨rfl, vR', R', F2', W2', H, hrr', grr, hR'⟩
            refine ⟨_, rfl, ?_⟩
            have H := boxOut (refOut H)
            refine OL_nil ?_
            exact ⟨hti, htn, h6, h7, h18, rfl, E', I, F', Wp', vR', R', F2', W2', _, hr', hrr', (ha.put _ _).mono (by omega), by omega, by omega, by omega, H.tail⟩
          · refine W_region ?_
            refine OL_y (v := .bool false) (y_eqlF hk0 rfl rfl) (by decide) ?_
            refine OL_y (v := .bool false) (y_assign rfl) (by decide) ?_
            refine OL_nil ?_
            refine W_condf rfl ?_
            refine W_seq ?_
            by_cases hk1 : d.kind = 1
            · refine W_region ?_
              refine OL_y (v := .bool true) (y_eqlT hk1 rfl rfl) (by decide) ?_
              refine OL_y (v := .bool true) (y_assign rfl) (by decide) ?_
              refine OL_nil ?_
              refine W_condt rfl ?_
              refine W_seq ?_
              refine W_drawD H mixed (by kernel_rfl) [] (fun wq w' => w'.heap[b9]? = some (.cells #[.int .i64 d.kind, .slice ak d.key.length ck, .int .u64 d.v.ts, .int .u64 d.v.txn, .bool d.v.dead, vv, vt, .int .u64 d.ts] 92)) fun wd16 H hEd => ?_
              have hS : ∀ {ls : Array Bool}, Sx [] (fun w' => w'.heap[b9]? = some (.cells #[.int .i64 d.kind, .slice ak d.key.length ck, .int .u64 d.v.ts, .int .u64 d.v.txn, .bool d.v.dead, vv, vt, .int .u64 d.ts] 92)) ls wd16 := fun {_} _ => H.getOwn 0 rfl
              refine DA_p 0 rfl (by kernel_rfl) rfl (fun _ => y_move h6) hS (by decide) fun hS => ?_
              refine DA_p 1 rfl (by kernel_rfl) rfl (fun _ => y_fieldAddr ti92 rfl ti23 rfl rfl) hS (by decide) fun hS => ?_
              refine DA_y 2 rfl (by kernel_rfl) rfl (by kernel_rfl) (fun w' h => y_loadS (v := .slice ak d.key.length ck) ti23 rfl rfl (Cells.unit (h) rfl)) hS (by decide) fun hS => ?_
              refine DA_p 3 rfl (by kernel_rfl) rfl (fun _ => y_fieldAddr ti92 rfl ti32 rfl rfl) hS (by decide) fun hS => ?_
              refine DA_y 4 rfl (by kernel_rfl) rfl (by kernel_rfl) (fun w' h => y_loadA (cs := [.int .u64 d.v.ts, .int .u64 d.v.txn, .bool d.v.dead, vv, vt]) ti32 rfl rfl (Cells.of (h) rfl) rfl) hS (by decide) fun hS => ?_
              refine DA_p 6 rfl (by kernel_rfl) rfl (fun _ => y_move h7) hS (by decide) fun hS => ?_
              refine DA_p 7 rfl (by kernel_rfl) rfl (fun _ => y_fieldAddr ti92 rfl ti23 rfl rfl) hS (by decide) fun hS => ?_
              refine DA_y 8 rfl (by kernel_rfl) rfl (by kernel_rfl) (fun w' h => y_loadS (v := .slice ak d.key.length ck) ti23 rfl rfl (Cells.unit (h) rfl)) hS (by decide) fun hS => ?_
              refine DA_p 9 rfl (by kernel_rfl) rfl (fun _ => y_fieldAddr ti92 rfl ti32 rfl rfl) hS (by decide) fun hS => ?_
              refine DA_y 10 rfl (by kernel_rfl) rfl (by kernel_rfl) (fun w' h => y_loadA (cs := [.int .u64 d.v.ts, .int .u64 d.v.txn, .bool d.v.dead, vv, vt]) ti32 rfl rfl (Cells.of (h) rfl) rfl) hS (by decide) fun hS => ?_
              refine DA_one 5 (by kernel_rfl) rfl (op_call 37 en37 rfl [.pointer (some ⟨sb, 0, none⟩), .slice ak d.key.length ck, .agg #[.int .u64 d.v.ts, .int .u64 d.v.txn, .bool d.v.dead, vv, vt]] rfl (by decide) ((f37_calls (boxIn H) hr (hdk' hr.base) (hdv' hr.base)).mono ?_))
              rintro e w16_5 ⟨rfl, I', F', Wp', H, hr', gr, hI'⟩
              refine ⟨_, rfl, fun _ => (boxOut H).getOwn 0 rfl, ?_⟩
              have H := boxOut H
              refine DA_one 11 (by kernel_rfl) rfl (op_call 38 en38 rfl [.pointer (some ⟨b12, 0, none⟩), .slice ak d.key.length ck, .agg #[.int .u64 d.v.ts, .int .u64 d.v.txn, .bool d.v.dead, vv, vt]] rfl (by decide) ((f38_calls (refIn (boxIn H)) hrr (hdk' hrr.base) (hdv' hrr.base) (by omega)).mono ?_))
              rintro e w16_11 ⟨rfl, vR', R', F2', W2', H, hrr', grr, hR'⟩
              refine ⟨_, rfl, fun _ => (boxOut (refOut H)).getOwn 0 rfl, ?_⟩
              have H := boxOut (refOut H)
              refine DA_p (v := .bool false) 12 rfl (by kernel_rfl) rfl (fun _ => y_neqF rfl rfl rfl) (fun _ => H.getOwn 0 rfl) (by decide) fun _ => ?_
              refine DA_done (by kernel_rfl) ?_
              refine W_condf rfl ?_
              refine W_skip ?_
              exact ⟨hti, htn, h6, h7, h18, rfl, E, I', F', Wp', vR', R', F2', W2', _, hr', hrr', (intend_ok ha _ _).mono (by omega), by omega, by omega, by omega, H.tail⟩
            · refine W_region ?_
              refine OL_y (v := .bool false) (y_eqlF hk1 rfl rfl) (by decide) ?_
              refine OL_y (v := .bool false) (y_assign rfl) (by decide) ?_
              refine OL_nil ?_
              refine W_condf rfl ?_
              refine W_seq ?_
              by_cases hk2 : d.kind = 2
              · refine W_region ?_
                refine OL_y (v := .bool true) (y_eqlT hk2 rfl rfl) (by decide) ?_
                refine OL_y (v := .bool true) (y_assign rfl) (by decide) ?_
                refine OL_nil ?_
                refine W_condt rfl ?_
                refine W_seq ?_
                refine W_drawD H mixed (by kernel_rfl) [] (fun wq w' => w'.heap[b9]? = some (.cells #[.int .i64 d.kind, .slice ak d.key.length ck, .int .u64 d.v.ts, .int .u64 d.v.txn, .bool d.v.dead, vv, vt, .int .u64 d.ts] 92)) fun wd19 H hEd => ?_
                have hS : ∀ {ls : Array Bool}, Sx [] (fun w' => w'.heap[b9]? = some (.cells #[.int .i64 d.kind, .slice ak d.key.length ck, .int .u64 d.v.ts, .int .u64 d.v.txn, .bool d.v.dead, vv, vt, .int .u64 d.ts] 92)) ls wd19 := fun {_} _ => H.getOwn 0 rfl
                refine DA_p 0 rfl (by kernel_rfl) rfl (fun _ => y_move h6) hS (by decide) fun hS => ?_
                refine DA_p 1 rfl (by kernel_rfl) rfl (fun _ => y_fieldAddr ti92 rfl ti32 rfl rfl) hS (by decide) fun hS => ?_
                refine DA_p 2 rfl (by kernel_rfl) rfl (fun _ => y_fieldAddr ti32 rfl ti24 rfl rfl) hS (by decide) fun hS => ?_
                refine DA_y 3 rfl (by kernel_rfl) rfl (by kernel_rfl) (fun w' h => y_loadS (v := .int .u64 d.v.txn) ti24 rfl rfl (Cells.unit (h) rfl)) hS (by decide) fun hS => ?_
                refine DA_p 4 rfl (by kernel_rfl) rfl (fun _ => y_fieldAddr ti92 rfl ti24 rfl rfl) hS (by decide) fun hS => ?_
                refine DA_y 5 rfl (by kernel_rfl) rfl (by kernel_rfl) (fun w' h => y_loadS (v := .int .u64 d.ts) ti24 rfl rfl (Cells.unit (h) rfl)) hS (by decide) fun hS => ?_
                refine DA_p 7 rfl (by kernel_rfl) rfl (fun _ => y_move h7) hS (by decide) fun hS => ?_
                refine DA_p 8 rfl (by kernel_rfl) rfl (fun _ => y_fieldAddr ti92 rfl ti32 rfl rfl) hS (by decide) fun hS => ?_
                refine DA_p 9 rfl (by kernel_rfl) rfl (fun _ => y_fieldAddr ti32 rfl ti24 rfl rfl) hS (by decide) fun hS => ?_
                refine DA_y 10 rfl (by kernel_rfl) rfl (by kernel_rfl) (fun w' h => y_loadS (v := .int .u64 d.v.txn) ti24 rfl rfl (Cells.unit (h) rfl)) hS (by decide) fun hS => ?_
                refine DA_p 11 rfl (by kernel_rfl) rfl (fun _ => y_fieldAddr ti92 rfl ti24 rfl rfl) hS (by decide) fun hS => ?_
                refine DA_y 12 rfl (by kernel_rfl) rfl (by kernel_rfl) (fun w' h => y_loadS (v := .int .u64 d.ts) ti24 rfl rfl (Cells.unit (h) rfl)) hS (by decide) fun hS => ?_
                refine DA_one 6 (by kernel_rfl) rfl (op_call 27 en27 rfl [.pointer (some ⟨sb, 0, none⟩), .int .u64 d.v.txn, .int .u64 d.ts] rfl (by decide) ((f27_calls (boxIn H) hr (by omega) ha (by omega) hdt).mono ?_))
                rintro e w19_6 ⟨ks, rfl, hks, E', I', F', Wp', H, hr', ha', gr, hI', hE', hkI⟩
                refine ⟨_, rfl, fun _ => (boxOut H).getOwn 0 rfl, ?_⟩
                have H := boxOut H
                refine DA_one 13 (by kernel_rfl) rfl (op_call 39 en39 rfl [.pointer (some ⟨b12, 0, none⟩), .int .u64 d.v.txn, .int .u64 d.ts] rfl (by decide) ((f39_calls (refIn (boxIn H)) hrr (by omega) ha (by omega) hdt).mono ?_))
                rintro e w19_13 ⟨ks2, rfl, hks2, vR', R', F2', W2', H, hrr', grr, hR'⟩
                refine ⟨_, rfl, fun _ => (boxOut (refOut H)).getOwn 0 rfl, ?_⟩
                have H := boxOut (refOut H)
                have hkk := intents_unique hks2 hks
                subst hkk
                refine DA_p (v := .bool false) 14 rfl (by kernel_rfl) rfl (fun _ => y_neqF rfl rfl rfl) (fun _ => H.getOwn 0 rfl) (by decide) fun _ => ?_
                refine DA_done (by kernel_rfl) ?_
                refine W_condf rfl ?_
                refine W_skip ?_
                exact ⟨hti, htn, h6, h7, h18, rfl, E', I', F', Wp', vR', R', F2', W2', _, hr', hrr', ha'.mono (by omega), by omega, by omega, by omega, H.tail⟩
              · refine W_region ?_
                refine OL_y (v := .bool false) (y_eqlF hk2 rfl rfl) (by decide) ?_
                refine OL_y (v := .bool false) (y_assign rfl) (by decide) ?_
                refine OL_nil ?_
                refine W_condf rfl ?_
                refine W_seq ?_
                by_cases hk3 : d.kind = 3
                · refine W_region ?_
                  refine OL_y (v := .bool true) (y_eqlT hk3 rfl rfl) (by decide) ?_
                  refine OL_y (v := .bool true) (y_assign rfl) (by decide) ?_
                  refine OL_nil ?_
                  refine W_condt rfl ?_
                  refine W_seq ?_
                  refine W_drawD H mixed (by kernel_rfl) [] (fun wq w' => w'.heap[b9]? = some (.cells #[.int .i64 d.kind, .slice ak d.key.length ck, .int .u64 d.v.ts, .int .u64 d.v.txn, .bool d.v.dead, vv, vt, .int .u64 d.ts] 92)) fun wd22 H hEd => ?_
                  have hS : ∀ {ls : Array Bool}, Sx [] (fun w' => w'.heap[b9]? = some (.cells #[.int .i64 d.kind, .slice ak d.key.length ck, .int .u64 d.v.ts, .int .u64 d.v.txn, .bool d.v.dead, vv, vt, .int .u64 d.ts] 92)) ls wd22 := fun {_} _ => H.getOwn 0 rfl
                  refine DA_p 0 rfl (by kernel_rfl) rfl (fun _ => y_move h6) hS (by decide) fun hS => ?_
                  refine DA_p 1 rfl (by kernel_rfl) rfl (fun _ => y_fieldAddr ti92 rfl ti32 rfl rfl) hS (by decide) fun hS => ?_
                  refine DA_p 2 rfl (by kernel_rfl) rfl (fun _ => y_fieldAddr ti32 rfl ti24 rfl rfl) hS (by decide) fun hS => ?_
                  refine DA_y 3 rfl (by kernel_rfl) rfl (by kernel_rfl) (fun w' h => y_loadS (v := .int .u64 d.v.txn) ti24 rfl rfl (Cells.unit (h) rfl)) hS (by decide) fun hS => ?_
                  refine DA_p 5 rfl (by kernel_rfl) rfl (fun _ => y_move h7) hS (by decide) fun hS => ?_
                  refine DA_p 6 rfl (by kernel_rfl) rfl (fun _ => y_fieldAddr ti92 rfl ti32 rfl rfl) hS (by decide) fun hS => ?_
                  refine DA_p 7 rfl (by kernel_rfl) rfl (fun _ => y_fieldAddr ti32 rfl ti24 rfl rfl) hS (by decide) fun hS => ?_
                  refine DA_y 8 rfl (by kernel_rfl) rfl (by kernel_rfl) (fun w' h => y_loadS (v := .int .u64 d.v.txn) ti24 rfl rfl (Cells.unit (h) rfl)) hS (by decide) fun hS => ?_
                  refine DA_one 4 (by kernel_rfl) rfl (op_call 40 en40 rfl [.pointer (some ⟨sb, 0, none⟩), .int .u64 d.v.txn] rfl (by decide) ((f40_calls (boxIn H) hr (by omega)).mono ?_))
                  rintro e w22_4 ⟨ks, rfl, hks, I', F', Wp', H, hr', gr, hI'⟩
                  refine ⟨_, rfl, fun _ => (boxOut H).getOwn 0 rfl, ?_⟩
                  have H := boxOut H
                  have hkI := hr.intLe hks
                  refine DA_one 9 (by kernel_rfl) rfl (op_call 41 en41 rfl [.pointer (some ⟨b12, 0, none⟩), .int .u64 d.v.txn] rfl (by decide) ((f41_calls (refIn (boxIn H)) hrr (by omega)).mono ?_))
                  rintro e w22_9 ⟨ks2, rfl, hks2, vR', R', F2', W2', H, hrr', grr, hR'⟩
                  refine ⟨_, rfl, fun _ => (boxOut (refOut H)).getOwn 0 rfl, ?_⟩
                  have H := boxOut (refOut H)
                  have hkk := intents_unique hks2 hks
                  subst hkk
                  refine DA_p (v := .bool false) 10 rfl (by kernel_rfl) rfl (fun _ => y_neqF rfl rfl rfl) (fun _ => H.getOwn 0 rfl) (by decide) fun _ => ?_
                  refine DA_done (by kernel_rfl) ?_
                  refine W_condf rfl ?_
                  refine W_skip ?_
                  exact ⟨hti, htn, h6, h7, h18, rfl, E, I', F', Wp', vR', R', F2', W2', _, hr', hrr', Abs.Ok.mono (a := a.clear ks2) ha (by omega), by omega, by omega, by omega, H.tail⟩
                · refine W_region ?_
                  refine OL_y (v := .bool false) (y_eqlF hk3 rfl rfl) (by decide) ?_
                  refine OL_y (v := .bool false) (y_assign rfl) (by decide) ?_
                  refine OL_nil ?_
                  refine W_condf rfl ?_
                  refine W_seq ?_
                  refine W_drawD H mixed (by kernel_rfl) [] (fun wq w' => w'.heap[b9]? = some (.cells #[.int .i64 d.kind, .slice ak d.key.length ck, .int .u64 d.v.ts, .int .u64 d.v.txn, .bool d.v.dead, vv, vt, .int .u64 d.ts] 92)) fun wd10 H hEd => ?_
                  have hS : ∀ {ls : Array Bool}, Sx [] (fun w' => w'.heap[b9]? = some (.cells #[.int .i64 d.kind, .slice ak d.key.length ck, .int .u64 d.v.ts, .int .u64 d.v.txn, .bool d.v.dead, vv, vt, .int .u64 d.ts] 92)) ls wd10 := fun {_} _ => H.getOwn 0 rfl
                  refine DA_p 0 rfl (by kernel_rfl) rfl (fun _ => y_move h6) hS (by decide) fun hS => ?_
                  refine DA_p 1 rfl (by kernel_rfl) rfl (fun _ => y_fieldAddr ti92 rfl ti24 rfl rfl) hS (by decide) fun hS => ?_
                  refine DA_y 2 rfl (by kernel_rfl) rfl (by kernel_rfl) (fun w' h => y_loadS (v := .int .u64 d.ts) ti24 rfl rfl (Cells.unit (h) rfl)) hS (by decide) fun hS => ?_
                  refine DA_p 4 rfl (by kernel_rfl) rfl (fun _ => y_move h7) hS (by decide) fun hS => ?_
                  refine DA_p 5 rfl (by kernel_rfl) rfl (fun _ => y_fieldAddr ti92 rfl ti24 rfl rfl) hS (by decide) fun hS => ?_
                  refine DA_y 6 rfl (by kernel_rfl) rfl (by kernel_rfl) (fun w' h => y_loadS (v := .int .u64 d.ts) ti24 rfl rfl (Cells.unit (h) rfl)) hS (by decide) fun hS => ?_
                  refine DA_one 3 (by kernel_rfl) rfl (op_call 21 en21 rfl [.pointer (some ⟨sb, 0, none⟩), .int .u64 d.ts] rfl (by decide) ((f21_calls (boxIn H) hr ha (by omega) (by omega) (by omega)).mono ?_))
                  rintro e w10_3 ⟨ks, rfl, hks, E', F', Wp', H, hr', gr, hE'⟩
                  refine ⟨_, rfl, fun _ => (boxOut H).getOwn 0 rfl, ?_⟩
                  have H := boxOut H
                  refine DA_one 7 (by kernel_rfl) rfl (op_call 42 en42 rfl [.pointer (some ⟨b12, 0, none⟩), .int .u64 d.ts] rfl (by decide) ((f42_calls (refIn (boxIn H)) hrr (by omega) ha (by omega)).mono ?_))
                  rintro e w10_7 ⟨rfl, vR', R', F2', W2', H, hrr', grr, hR'⟩
                  refine ⟨_, rfl, fun _ => (boxOut (refOut H)).getOwn 0 rfl, ?_⟩
                  have H := boxOut (refOut H)
                  rw [hrr.gcN hks]
                  have hRl : R'.length = R.length := by have := congrArg List.length hR'; rwa [List.length_map, List.length_map] at this
                  refine DA_p (v := .bool false) 8 rfl (by kernel_rfl) rfl (fun _ => y_neqF rfl rfl rfl) (fun _ => H.getOwn 0 rfl) (by decide) fun _ => ?_
                  refine DA_done (by kernel_rfl) ?_
                  refine W_condf rfl ?_
                  refine W_skip ?_
                  exact ⟨hti, htn, h6, h7, h18, rfl, E', I, F', Wp', vR', R', F2', W2', _, hr', hrr', (gc_ok ha _).mono (by omega), by omega, by omega, by omega, H.tail⟩
    · rintro f ds w5 ⟨h6, h7, h18, rfl, hB⟩ hti htn
      refine W_seq ?_
      refine W_region ?_
      refine OL_y (y_move h6) (by decide) ?_
      refine OL_y (y_move h7) (by decide) ?_
      refine OL_y (y_assign rfl) (by decide) ?_
      refine OL_y (y_assign rfl) (by decide) ?_
      refine OL_y (v := .bool true) (y_assign rfl) (by decide) ?_
      refine OL_y (v := .bool false) (y_assign rfl) (by decide) ?_
      refine OL_nil ?_
      refine W_ret ?_
      show RetOK _ _ _ _ _ _
      obtain ⟨E, I, F, Wp, vR, R, F2, W2, a, hr, hrr, ha, hI, hE, hR, H⟩ := hB
      exact ret4 Try.results12 rfl rfl rfl rfl ⟨sb, g1, g2, b12, false, rfl, justL H, fun _ => ⟨E, I, F, Wp, vR, R, F2, W2, a, hr, hrr, ha.mono (by omega), by omega, by omega, by omega, H⟩⟩
end Go.Proofs.Ytpandioolpnihaa

/- Plain laws of a store: what is read behind a clearing, behind a put, behind a turning. -/
namespace Go.Proofs.Ytpandioolpnihaa
open Go Go.Wk
set_option linter.unusedVariables false
set_option linter.unusedSimpArgs false

theorem f15_eq {Z Z' : Nat → Prop} {w : World} {c1 c2 : List Value} {u v : Ver} (h : u = v) (hu : tVer.R Z w c1 u) (hv : tVer.R Z' w c2 v) : Calls Try.prog 15 [.agg c1.toArray, .agg c2.toArray].toArray w fun e w' => e = .returned (.bool true) ∧ Ext none' w w' := by
  have := f15_calls hu hv
  rwa [decide_eq_true h] at this
theorem posV_take (t : Int) : ∀ (vs : List Ver) (g : Nat), posV (vs.take g) t = min (posV vs t) g
  | [], g => by simp [posV]
  | v :: vs, 0 => by simp [posV]
  | v :: vs, g + 1 => by
    rw [List.take_succ_cons]
    by_cases h : t < v.ts
    · rw [posV_lt h, posV_lt h, posV_take t vs g]; omega
    · rw [posV_ge h, posV_ge h]; simp
theorem posV_mono {t t' : Int} (h : t ≤ t') : ∀ vs : List Ver, posV vs t' ≤ posV vs t
  | [] => Nat.le_refl _
  | v :: vs => by
    by_cases h1 : t' < v.ts
    · rw [posV_lt h1, posV_lt (show t < v.ts by omega)]; have := posV_mono h vs; omega
    · rw [posV_ge h1]; omega
/-- Behind a clearing. -/
theorem gc_at (a : Abs) {ts later : Int} (h : ts ≤ later) (k : ByteArray) : (atV a k later = none ∧ atV (a.gc ts) k later = none) ∨ ∃ x, atV a k later = some x ∧ (atV (a.gc ts) k later = some x ∨ (x.dead = true ∧ atV (a.gc ts) k later = none)) := by
  have e : atV (a.gc ts) k later = ((a.v k).take (gcPos (a.v k) ts))[min (posV (a.v k) later) (gcPos (a.v k) ts)]? := by
    show (gcV (a.v k) ts)[posV (gcV (a.v k) ts) later]? = _
    unfold gcV; rw [posV_take]
  rw [e]
  unfold atV
  generalize a.v k = vs
  have h1 := posV_mono h vs
  by_cases hlt : posV vs later < gcPos vs ts
  · rw [Nat.min_eq_left (by omega), List.getElem?_take_of_lt hlt]
    cases hg : vs[posV vs later]? with
    | none => exact .inl ⟨rfl, rfl⟩
    | some x => exact .inr ⟨x, rfl, .inl rfl⟩
  · have hn : (vs.take (gcPos vs ts))[min (posV vs later) (gcPos vs ts)]? = none := List.getElem?_eq_none (by rw [List.length_take]; omega)
    rw [hn]
    cases hg : vs[posV vs later]? with
    | none => exact .inl ⟨rfl, rfl⟩
    | some x =>
      have hge : posV vs ts ≤ gcPos vs ts := by unfold gcPos; omega
      have hp : posV vs later = posV vs ts := by omega
      rw [hp] at hg
      have hd := gcPos_dead hg
      refine .inr ⟨x, rfl, .inr ⟨?_, rfl⟩⟩
      cases hx : x.dead with
      | true => rfl
      | false => rw [hx] at hd; simp only [Bool.false_eq_true, if_false] at hd; omega
theorem putV_split (vs : List Ver) (u : Ver) : ∃ D, putV vs u = vs.take (posV vs u.ts) ++ u :: D := by
  unfold putV
  split
  · rename_i hh
    have hlt := has_lt hh
    exact ⟨_, by rw [List.set_eq_take_append_cons_drop, if_pos hlt]⟩
  · exact ⟨_, rfl⟩
theorem putV_at {vs : List Ver} (u : Ver) : (putV vs u)[posV (putV vs u) u.ts]? = some u := by
  obtain ⟨D, hD⟩ := putV_split vs u
  have hl : (vs.take (posV vs u.ts)).length = posV vs u.ts := by rw [List.length_take]; have := pos_le vs u.ts; omega
  have hp : posV (putV vs u) u.ts = posV vs u.ts := by
    rw [hD]
    refine posV_of (by rw [List.length_append, hl]; omega) (fun v hv => ?_) fun v hv => ?_
    · rw [List.take_left' hl] at hv; exact pos_lo hv
    · rw [List.getElem?_append_right (by omega), hl, Nat.sub_self] at hv
      injection hv with hv; subst hv; omega
  rw [hp, hD, List.getElem?_append_right (by omega), hl, Nat.sub_self]; rfl
/-- What is put is read at its time. -/
theorem put_at (a : Abs) (k : ByteArray) (u : Ver) : atV (a.put k u) k u.ts = some u := by
  unfold atV; rw [put_v]; exact putV_at u
/-- And later, until a later one. -/
theorem put_later (a : Abs) (k : ByteArray) (u : Ver) {ts : Int} (h : u.ts ≤ ts) : ∃ x, atV (a.put k u) k ts = some x ∧ u.ts ≤ x.ts ∧ x.ts ≤ ts := by
  unfold atV; rw [put_v]
  obtain ⟨D, hD⟩ := putV_split (a.v k) u
  have hl : ((a.v k).take (posV (a.v k) u.ts)).length = posV (a.v k) u.ts := by rw [List.length_take]; have := pos_le (a.v k) u.ts; omega
  have hm := posV_mono h (putV (a.v k) u)
  have hp : posV (putV (a.v k) u) u.ts = posV (a.v k) u.ts := by
    rw [hD]
    refine posV_of (by rw [List.length_append, hl]; omega) (fun v hv => ?_) fun v hv => ?_
    · rw [List.take_left' hl] at hv; exact pos_lo hv
    · rw [List.getElem?_append_right (by omega), hl, Nat.sub_self] at hv
      injection hv with hv; subst hv; omega
  have hlen : posV (putV (a.v k) u) ts < (putV (a.v k) u).length := by
    have : (putV (a.v k) u).length = posV (a.v k) u.ts + (D.length + 1) := by rw [hD, List.length_append, hl, List.length_cons]
    omega
  have hg := List.getElem?_eq_getElem hlen
  refine ⟨_, hg, ?_, pos_at hg⟩
  generalize (putV (a.v k) u)[posV (putV (a.v k) u) ts] = x at *
  rw [hp] at hm
  generalize posV (putV (a.v k) u) ts = p at *
  rw [hD] at hg
  by_cases hpl : p < posV (a.v k) u.ts
  · rw [List.getElem?_append_left (by omega)] at hg
    have := pos_lo (List.mem_of_getElem? hg); omega
  · rw [List.getElem?_append_right (by omega), show p - ((a.v k).take (posV (a.v k) u.ts)).length = 0 by omega] at hg
    injection hg with hg; subst hg; omega
theorem turn_i (ts : Int) : ∀ (ks : List ByteArray) (a : Abs) (k : ByteArray), (ks.foldl (Abs.turn1 ts) a).i k = if ks.any (fun x => decide (x = k)) then noV else a.i k
  | [], a, k => rfl
  | x :: ks, a, k => by
    rw [List.foldl_cons, turn_i ts ks, List.any_cons]
    by_cases hx : x = k
    · subst hx
      have e : (a.turn1 ts x).i x = noV := if_pos rfl
      rw [e]; simp
    · have e : (a.turn1 ts x).i k = a.i k := if_neg fun h => hx h.symm
      rw [e, decide_eq_false hx, Bool.false_or]
theorem turn_v_out (ts : Int) : ∀ (ks : List ByteArray) (a : Abs) (k : ByteArray), k ∉ ks → (ks.foldl (Abs.turn1 ts) a).v k = a.v k
  | [], a, k, _ => rfl
  | x :: ks, a, k, h => by
    rw [List.foldl_cons, turn_v_out ts ks _ k fun h1 => h (List.mem_cons_of_mem _ h1)]
    exact if_neg fun e => h (by rw [e]; exact List.mem_cons_self)
/-- An intent that is turned is read at its time. -/
theorem turn_at (ts : Int) : ∀ (ks : List ByteArray) (a : Abs) (k : ByteArray), ks.Nodup → k ∈ ks → atV (ks.foldl (Abs.turn1 ts) a) k ts = some ((a.i k).atTs ts)
  | [], a, k, _, h => by cases h
  | x :: ks, a, k, hn, h => by
    obtain ⟨hx, hn'⟩ := List.nodup_cons.1 hn
    rw [List.foldl_cons]
    by_cases e : k = x
    · subst e
      have h1 : (ks.foldl (Abs.turn1 ts) (a.turn1 ts k)).v k = (a.put k ((a.i k).atTs ts)).v k := turn_v_out ts ks _ k hx
      unfold atV; rw [h1]
      exact put_at a k ((a.i k).atTs ts)
    · have hk : k ∈ ks := (List.mem_cons.1 h).resolve_left e
      rw [turn_at ts ks (a.turn1 ts x) k hn' hk]
      have e2 : (a.turn1 ts x).i k = a.i k := if_neg e
      rw [e2]
/-- Behind a turning no intent is left of the transaction. -/
theorem turn_none {a : Abs} {txn ts : Int} {ks ks' : List ByteArray} (hk : IntentsOf a txn ks) (h : IntentsOf (ks.foldl (Abs.turn1 ts) a) txn ks') : ks' = [] := by
  cases ks' with
  | nil => rfl
  | cons k l =>
    exfalso
    obtain ⟨h1, h2⟩ := (h.mem k).1 (by simp)
    rw [turn_i] at h2
    split at h2
    · exact h1 h2.symm
    · rename_i hn
      exact hn (List.any_eq_true.2 ⟨k, (hk.mem k).2 ⟨h1, h2⟩, decide_eq_true rfl⟩)
end Go.Proofs.Ytpandioolpnihaa
