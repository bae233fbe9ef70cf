/- Part 5 of the texts that a law of the seat leans on: the ground of the walks, the facts of the program, its functions one by one. -/
import Derived.Test.YtpandioolpnihaaAll4
/- Scan of the reference's store. -/
namespace Go.Proofs.Ytpandioolpnihaa
open Go Go.Wk
set_option linter.unusedVariables false
set_option linter.unusedSimpArgs false

def upTo (vs : List Ver) (ts : Int) : List Ver := vs.filter fun v => decide (v.ts ≤ ts)
def cellOf (a : Abs) (ts : Int) (k : ByteArray) : Cl := ⟨unkb k, upTo (a.v k) ts, a.i k⟩
def shown (a : Abs) (lo hi : Key) (ts : Int) (k : ByteArray) : Prop := withinB (unkb k) lo hi = true ∧ (upTo (a.v k) ts ≠ [] ∨ (a.i k).txn ≠ 0)
structure ScanOf (a : Abs) (lo hi : Key) (ts : Int) (ks : List ByteArray) : Prop where
  rise : ks.Pairwise bLt
  mem : ∀ k, k ∈ ks ↔ shown a lo hi ts k
theorem upTo_snoc (vs : List Ver) (v : Ver) (ts : Int) : upTo (vs ++ [v]) ts = upTo vs ts ++ (if v.ts ≤ ts then [v] else []) := by
  unfold upTo
  rw [List.filter_append]
  by_cases h : v.ts ≤ ts <;> simp [h]
abbrev reCl (ts : Int) (e : RE) : Cl := ⟨e.c.key, upTo e.c.vers ts, e.c.intent⟩
theorem RRep.dz0 {w0 w Wp : World} {F : Nat → Prop} {b : Nat} {v : Value} {R : List RE} {L : List Atom} (H : Holds w (rAt b v R F Wp w0 L)) : ∀ k, Dz w0 F k → k < w.heap.size := fun k hk => hk.elim
  ((H.ok (shr (fun k => k < w0.heap.size) w0) (by simp)).2.1 k) ((H.ok (exc F Wp) (by simp)).2.1 k)

set_option maxHeartbeats 16000000 in
theorem f26_calls {Zl : Nat → Prop} {w0 w Wp : World} {F : Nat → Prop} {b m : Nat} {v : Value} {R : List RE} {a : Abs} {L : List Atom} {vl vh : Value} {lo hi : Key} {ts : Int} (H : Holds w (rAt b v R F Wp w0 L)) (hr : RRep w0 F Wp R a) (hl : R.length ≤ 40000) (ha : a.Ok m) (hm : m ≤ 40000) (hlo : SlR (tInt .u8) 1 Zl w vl lo) (hhi : SlR (tInt .u8) 1 Zl w vh hi) :
    Calls Try.prog 26 [.pointer (some ⟨b, 0, none⟩), vl, vh, .int .u64 ts].toArray w fun e w' => ∃ (v : Value) (ks : List ByteArray), e = .returned v ∧ ScanOf a lo hi ts ks ∧ SlR tCl 120 (fun _ => True) w' v (ks.map (cellOf a ts)) ∧ Ext none' w w' := by
  have H0 := H
  have hq : ∀ e ∈ R, ∀ x ∈ e.c.key, InK .u8 x := fun e he => (hr.key he).allIn
  have hDz := RRep.dz0 H0
  have hkd := H0.dz 2 3 rfl rfl hr.base
  obtain ⟨av, cv, hv, hlv, hmv⟩ := H0.rowLen 1 rfl
  subst hv
  obtain ⟨q, hqq⟩ : ∃ q : RE → Bool, q = fun e => withinB e.c.key lo hi && decide (upTo e.c.vers ts ≠ [] ∨ e.c.intent.txn ≠ 0) := ⟨_, rfl⟩
  have hqe : ∀ e, q e = (withinB e.c.key lo hi && decide (upTo e.c.vers ts ≠ [] ∨ e.c.intent.txn ≠ 0)) := fun e => by rw [hqq]
  have H := Holds.start w
  refine calls_of_W' Try.func26 rfl Try.ntmps26 rfl ?_
  refine W_seq ?_
  refine W_region ?_
  refine OL_y (y_assign rfl) (by decide) ?_
  refine OL_nil ?_
  refine W_seq ?_
  refine W_region ?_
  refine OL_y (y_assign rfl) (by decide) ?_
  refine OL_nil ?_
  refine W_seq ?_
  refine W_seq ?_
  refine W_region ?_
  refine OL_y (y_move rfl) (by decide) ?_
  refine OL_y (y_nilCheck rfl ⟨_, rfl⟩) (by decide) ?_
  refine OL_y (y_fieldAddr ti66 rfl ti49 rfl rfl) (by decide) ?_
  refine OL_y (y_loadS (v := .slice av R.length cv) ti49 rfl rfl (Cells.unit ((H0.ext0 (H.ext_of 0 rfl)).getOwn 0 rfl) rfl)) (by decide) ?_
  refine OL_y (y_len rfl ti49 rfl) (by decide) ?_
  refine OL_y (y_move rfl) (by decide) ?_
  refine OL_nil ?_
  have H := (H.share (Dz w0 F) (fun k hk => Nat.lt_of_lt_of_le (hDz k hk) (H.ext_of 0 rfl).size) (by intro a ha hx; simp only [List.mem_singleton] at ha; subst ha; cases hx)).rowNil 55 7
  refine W_range (N := R.length) (by simp [maxLen]; omega) (fun i f ds w' => ∃ (v9 : Value) (cs9 : List Value) (Zp : Nat → Prop) (Wq : World), f 1 = vl ∧ f 2 = vh ∧ f 3 = .int .u64 ts ∧ f 9 = v9 ∧ f 18 = .slice av R.length cv ∧ ds = [] ∧ Els tCl Zp Wq cs9 (((R.take i).filter q).map (reCl ts)) ∧ (∀ k, Dz w0 F k → Zp k) ∧
      Holds w' [row 55 7 v9 ((R.take i).filter q).length cs9, shr Zp Wq, shr (fun k => k < w.heap.size) w])
      ⟨.slice none 0 0, [], _, _, rfl, rfl, rfl, rfl, rfl, rfl, Els.nil _ _ _, fun _ h => h, H⟩
      rfl rfl (by decide) (by decide) (by decide) rfl rfl ?_ rfl rfl ?_
  · rintro i f ds w3 hi3 ⟨v9, cs9, Zp, Wq, h1, h2, h3, h9, h18, rfl, hE9, hZ, H⟩ hti htn
    have hxk := List.getElem?_eq_getElem hi3
    have hem := List.getElem_mem hi3
    have HS := H0.ext0 (H.ext_of 2 rfl)
    obtain ⟨br, cr, hvr, -, -⟩ := ownsRow_cells (HS.getRow 1 rfl) (by omega)
    have hC := rowElAt RE.len (HS.getRow 1 rfl) (b := br) (by rw [hvr]; rfl) hxk
    have htk : ((R.take (i + 1)).filter q) = ((R.take i).filter q) ++ [R[i]].filter q := by rw [List.take_add_one, hxk, Option.toList_some, List.filter_append]
    have hcl : ((R.take i).filter q).length ≤ 40000 := Nat.le_trans (List.length_filter_le _ _) (by rw [List.length_take]; omega)
    have hone := tCl.one (hr.good _ hem)
    have hkS := (hr.key hem).keeps hkd
    have hvS := (hr.vers hem).keeps hkd
    have hiS := tVer.keeps (hr.int hem) hkd
    have hva := (hr.va _ hem).1
    generalize R[i] = e at *
    obtain ⟨hsd, hvm⟩ := ha e.k
    rw [hva] at hsd hvm
    obtain ⟨ak, ck, hvk, hlk, hmk⟩ := hkS.len
    obtain ⟨aw, cw, hvw, hlw, hmw⟩ := hvS.len
    rw [hvk] at hkS
    rw [hvw] at hvS
    have hcs : e.cs = [.slice ak e.c.key.length ck, .slice aw e.c.vers.length cw, .int .u64 e.c.intent.ts, .int .u64 e.c.intent.txn, .bool e.c.intent.dead, e.iv, e.ik] := by show [e.vk, e.vs, _, _, _, _, _] = _; rw [hvk, hvw]
    rw [hcs] at hC hone
    have hone12 : ∀ u ∈ [.slice ak e.c.key.length ck, .slice none 0 0, .int .u64 e.c.intent.ts, .int .u64 e.c.intent.txn, .bool e.c.intent.dead, e.iv, e.ik], u.oneCell' = true := by
      intro u hu
      simp only [List.mem_cons, List.not_mem_nil, or_false] at hu
      rcases hu with rfl | rfl | hu
      · rfl
      · rfl
      · exact hone u (by simp only [List.mem_cons, List.not_mem_nil, or_false]; exact .inr (.inr hu))
    have h18' := h18.trans hvr
    refine W_block ?_
    refine W_seq ?_
    refine W_region ?_
    refine OL_y (y_indexAddr ti49 ti55 h18' hti (by omega) (by omega)) (by decide) ?_
    refine OL_y (y_loadA (cs := [.slice ak e.c.key.length ck, .slice aw e.c.vers.length cw, .int .u64 e.c.intent.ts, .int .u64 e.c.intent.txn, .bool e.c.intent.dead, e.iv, e.ik]) ti55 rfl rfl hC rfl) (by decide) ?_
    refine OL_var (v := .agg #[.slice ak e.c.key.length ck, .slice aw e.c.vers.length cw, .int .u64 e.c.intent.ts, .int .u64 e.c.intent.txn, .bool e.c.intent.dead, e.iv, e.ik]) H ti55 rfl (by decide) (fun _ => rfl) rfl (hone) fun b11 w4_2 H => ?_
    refine OL_nil ?_
    refine W_seq ?_
    refine W_region ?_
    refine OL_y (y_fieldAddr ti55 rfl ti23 rfl rfl) (by decide) ?_
    refine OL_y (y_loadS (v := .slice ak e.c.key.length ck) ti23 rfl rfl (Cells.unit (H.getOwn 0 rfl) rfl)) (by decide) ?_
    refine OL_y (y_fieldAddr ti55 rfl ti32 rfl rfl) (by decide) ?_
    refine OL_y (y_loadA (cs := [.int .u64 e.c.intent.ts, .int .u64 e.c.intent.txn, .bool e.c.intent.dead, e.iv, e.ik]) ti32 rfl rfl (Cells.of (H.getOwn 0 rfl) rfl) rfl) (by decide) ?_
    refine OL_y (v := .agg #[.slice ak e.c.key.length ck, .slice none 0 0, .int .u64 e.c.intent.ts, .int .u64 e.c.intent.txn, .bool e.c.intent.dead, e.iv, e.ik]) (y_build ti55 pl55 (by kernel_rfl)) (by decide) ?_
    refine OL_var (v := .agg #[.slice ak e.c.key.length ck, .slice none 0 0, .int .u64 e.c.intent.ts, .int .u64 e.c.intent.txn, .bool e.c.intent.dead, e.iv, e.ik]) H ti55 rfl (by decide) (fun _ => rfl) rfl (hone12) fun b12 w5_5 H => ?_
    refine OL_nil ?_
    refine W_seq ?_
    refine W_seq ?_
    refine W_region ?_
    refine OL_y (y_fieldAddr ti55 rfl ti53 rfl rfl) (by decide) ?_
    refine OL_y (y_loadS (v := .slice aw e.c.vers.length cw) ti53 rfl rfl (Cells.unit (H.getOwn 1 rfl) rfl)) (by decide) ?_
    refine OL_y (y_len rfl ti53 rfl) (by decide) ?_
    refine OL_y (y_move rfl) (by decide) ?_
    refine OL_nil ?_
    have H := H.rowNil 32 5
    refine W_range (N := e.c.vers.length) (by simp [maxLen]; omega) (fun k f ds w' => ∃ (v12 : Value) (cs12 : List Value), f 1 = vl ∧ f 2 = vh ∧ f 3 = .int .u64 ts ∧ f 9 = v9 ∧ f 11 = .pointer (some ⟨b11, 0, none⟩) ∧ f 12 = .pointer (some ⟨b12, 0, none⟩) ∧ f 18 = .slice av R.length cv ∧ f 19 = .int .i64 (R.length : Nat) ∧ f 20 = .int .i64 (i : Nat) ∧ f 30 = .slice aw e.c.vers.length cw ∧ ds = [] ∧ v12.oneCell' = true ∧ v12.cells = #[v12] ∧ Els tVer (Dz w0 F) w cs12 (upTo (e.c.vers.take k) ts) ∧
        Holds w' [row 32 5 v12 (upTo (e.c.vers.take k) ts).length cs12, own b12 (.cells #[.slice ak e.c.key.length ck, v12, .int .u64 e.c.intent.ts, .int .u64 e.c.intent.txn, .bool e.c.intent.dead, e.iv, e.ik] 55), own b11 (.cells #[.slice ak e.c.key.length ck, .slice aw e.c.vers.length cw, .int .u64 e.c.intent.ts, .int .u64 e.c.intent.txn, .bool e.c.intent.dead, e.iv, e.ik] 55), row 55 7 v9 ((R.take i).filter q).length cs9, shr Zp Wq, shr (fun k => k < w.heap.size) w])
        ⟨.slice none 0 0, [], h1, h2, h3, h9, rfl, rfl, h18, htn, hti, rfl, rfl, rfl, rfl, Els.nil _ _ _, H⟩
        rfl rfl (by decide) (by decide) (by decide) rfl rfl ?_ rfl rfl ?_
    · rintro k f ds w7 hk3 ⟨v12, cs12, h1, h2, h3, h9, h11, h12, h18, h19, h20, h30, rfl, h1c, hvc, hE12, H⟩ htk2 htn2
      have hxk2 := List.getElem?_eq_getElem hk3
      obtain ⟨b3, o3, cs3, e3, hz3, hc3, hr3⟩ := hvS.at hxk2
      have hc3' := hc3.ext ((H.keepsAll 5 rfl (Dz w0 F)).2 _ hz3 hc3.lt)
      have hts : upTo (e.c.vers.take (k + 1)) ts = upTo (e.c.vers.take k ++ [e.c.vers[k]]) ts := by rw [List.take_add_one, hxk2]; rfl
      rw [upTo_snoc] at hts
      have hpl : (upTo (e.c.vers.take k) ts).length ≤ 40000 := Nat.le_trans (List.length_filter_le _ _) (by rw [List.length_take]; omega)
      generalize e.c.vers[k] = x at *
      obtain ⟨xv, xk, rfl, hx1, hx2, hx3, hx4⟩ := ver_cells.1 hr3
      have h30' := h30.trans (congrArg (Value.slice · _ _) e3)
      refine W_block ?_
      refine W_seq ?_
      refine W_region ?_
      refine OL_y (y_indexAddr ti53 ti32 h30' htk2 (by omega) (by omega)) (by decide) ?_
      refine OL_y (y_loadA (cs := [.int .u64 x.ts, .int .u64 x.txn, .bool x.dead, xv, xk]) ti32 rfl rfl hc3' rfl) (by decide) ?_
      refine OL_var (v := .agg #[.int .u64 x.ts, .int .u64 x.txn, .bool x.dead, xv, xk]) H ti32 rfl (by decide) (fun _ => rfl) rfl (tVer.one hr3) fun b14 w8_2 H => ?_
      refine OL_nil ?_
      refine W_seq ?_
      refine W_region ?_
      refine OL_y (y_fieldAddr ti32 rfl ti24 rfl rfl) (by decide) ?_
      refine OL_y (y_loadS (v := .int .u64 x.ts) ti24 rfl rfl (Cells.unit (H.getOwn 0 rfl) rfl)) (by decide) ?_
      refine OL_y (y_move h3) (by decide) ?_
      refine OL_y (y_leq rfl rfl) (by decide) ?_
      refine OL_nil ?_
      refine W_cond rfl (fun hc => ?_) (fun hc => ?_)
      · have hle := of_decide_eq_true hc
        refine W_region ?_
        refine OL_y (y_fieldAddr ti55 rfl ti53 rfl h12) (by decide) ?_
        refine OL_y (y_loadS (v := v12) ti53 rfl rfl (Cells.unit (H.getOwn 2 rfl) rfl)) (by decide) ?_
        refine OL_y (y_loadA (cs := [.int .u64 x.ts, .int .u64 x.txn, .bool x.dead, xv, xk]) ti32 rfl rfl (Cells.of (H.getOwn 0 rfl) rfl) rfl) (by decide) ?_
        refine OL_c (op_buildSlice H [.agg #[.int .u64 x.ts, .int .u64 x.txn, .bool x.dead, xv, xk]] ti53 ti32 rfl rfl rfl (by simp [Value.cells]) rfl rfl (by decide) fun b43 w10_3 H => ?_)
        refine OL_c (op_append H 2 rfl rfl ti53 ti32 rfl rfl rfl rfl (Src.row (H.getRow 0 rfl)) rfl (by intro c hc; exact tVer.one hr3 c (by simpa [Value.cells] using hc)) (by omega) (by simp only [maxLen]; omega) (by decide) fun v44 w10_4 H => ?_)
        obtain ⟨a44, c44, rfl, hl44, hm44⟩ := H.rowLen 2 rfl
        have H := H.tail.tail
        refine OL_y (y_fieldAddr ti55 rfl ti53 rfl h12) (by decide) ?_
        refine OL_c (op_store (v := .slice a44 ((upTo (e.c.vers.take k) ts).length + 1) c44) H 1 rfl ti53 rfl rfl rfl (Nat.le_of_ble_eq_true rfl) (by simp [Value.cells, Value.oneCell']) fun w10_6 H => ?_)
        refine OL_nil ?_
        have e2 : upTo (e.c.vers.take (k + 1)) ts = upTo (e.c.vers.take k) ts ++ [x] := by rw [hts, if_pos hle]
        refine ⟨htk2, htn2, .slice a44 ((upTo (e.c.vers.take k) ts).length + 1) c44, cs12 ++ [Value.int .u64 x.ts, .int .u64 x.txn, .bool x.dead, xv, xk], h1, h2, h3, h9, h11, h12, h18, h19, h20, h30, rfl, rfl, rfl, by rw [e2]; exact hE12.snoc hr3, ?_⟩
        rw [e2, List.length_append]; exact H
      · refine W_skip ?_
        have hle := of_decide_eq_false hc
        have e2 : upTo (e.c.vers.take (k + 1)) ts = upTo (e.c.vers.take k) ts := by rw [hts, if_neg hle, List.append_nil]
        refine ⟨htk2, htn2, v12, cs12, h1, h2, h3, h9, h11, h12, h18, h19, h20, h30, rfl, h1c, hvc, by rw [e2]; exact hE12, ?_⟩
        rw [e2]; exact H.tail
    · rintro f ds w7 ⟨v12, cs12, h1, h2, h3, h9, h11, h12, h18, h19, h20, h30, rfl, h1c, hvc, hE12, H⟩ htk2 htn2
      rw [List.take_length] at hE12 H
      have hpl : (upTo e.c.vers ts).length ≤ 40000 := Nat.le_trans (List.length_filter_le _ _) (by omega)
      obtain ⟨a12, c12, hv12, hl12, hm12⟩ := H.rowLen 0 rfl
      subst hv12
      obtain ⟨wb, hwb⟩ : ∃ wb, withinB e.c.key lo hi = wb := ⟨_, rfl⟩
      refine W_seq ?_
      rcases wb with _ | _
      · refine W_region ?_
        refine OL_y (y_fieldAddr ti55 rfl ti23 rfl h11) (by decide) ?_
        refine OL_y (y_loadS (v := .slice ak e.c.key.length ck) ti23 rfl rfl (Cells.unit (H.getOwn 2 rfl) rfl)) (by decide) ?_
        refine OL_y (y_move h1) (by decide) ?_
        refine OL_y (y_move h2) (by decide) ?_
        refine OL_c (op_call 55 en55 rfl [.slice ak e.c.key.length ck, vl, vh] rfl (by decide) ((f55_calls (hkS.keeps (H.keepsAll 5 rfl _)) (hlo.keeps (H.keepsAll 5 rfl _)) (hhi.keeps (H.keepsAll 5 rfl _))).mono ?_))
        rintro e w12_4 ⟨rfl, hE55⟩
        refine ⟨_, rfl, ?_⟩
        have H := H.ext0 hE55
        rw [hwb]
        refine OL_y (y_move (v := .bool false) rfl) (by decide) ?_
        refine OL_s rfl (by decide) rfl rfl (by simp) ?_
        refine OL_s rfl (by decide) rfl rfl (by simp) ?_
        refine OL_s rfl (by decide) rfl rfl (by simp) ?_
        refine OL_s rfl (by decide) rfl rfl (by simp) ?_
        refine OL_s rfl (by decide) rfl rfl (by simp) ?_
        refine OL_u rfl (by decide) rfl (by simp) ?_
        refine OL_u rfl (by decide) rfl (by simp) ?_
        refine OL_u rfl (by decide) rfl (by simp) ?_
        refine OL_u rfl (by decide) rfl (by simp) ?_
        refine OL_s rfl (by decide) rfl rfl (by simp) ?_
        refine OL_y (y_pick (b := false) (v := .bool false) rfl rfl) (by decide) ?_
        refine OL_nil ?_
        refine W_condf rfl ?_
        refine W_skip ?_
        have hqt : [e].filter q = [] := by
          rw [List.filter_cons_of_neg (by rw [hqe, hwb]; simp)]; rfl
        refine ⟨h20, h19, v9, cs9, Zp, Wq, h1, h2, h3, h9, h18, rfl, ?_, hZ, ?_⟩
        · rw [htk, hqt, List.append_nil]; exact hE9
        · rw [htk, hqt, List.append_nil]; exact H.tail.tail.tail
      · by_cases hn : (0 : Int) < ((upTo e.c.vers ts).length : Nat)
        · refine W_region ?_
          refine OL_y (y_fieldAddr ti55 rfl ti23 rfl h11) (by decide) ?_
          refine OL_y (y_loadS (v := .slice ak e.c.key.length ck) ti23 rfl rfl (Cells.unit (H.getOwn 2 rfl) rfl)) (by decide) ?_
          refine OL_y (y_move h1) (by decide) ?_
          refine OL_y (y_move h2) (by decide) ?_
          refine OL_c (op_call 55 en55 rfl [.slice ak e.c.key.length ck, vl, vh] rfl (by decide) ((f55_calls (hkS.keeps (H.keepsAll 5 rfl _)) (hlo.keeps (H.keepsAll 5 rfl _)) (hhi.keeps (H.keepsAll 5 rfl _))).mono ?_))
          rintro e w12_4 ⟨rfl, hE55⟩
          refine ⟨_, rfl, ?_⟩
          have H := H.ext0 hE55
          rw [hwb]
          refine OL_y (y_move (v := .bool true) rfl) (by decide) ?_
          refine OL_yg rfl (by decide) rfl (y_fieldAddr ti55 rfl ti53 rfl h12) (by decide) ?_
          refine OL_yg rfl (by decide) rfl (y_loadS (v := .slice a12 (upTo e.c.vers ts).length c12) ti53 rfl rfl (Cells.unit (H.getOwn 1 rfl) rfl)) (by decide) ?_
          refine OL_yg rfl (by decide) rfl (y_len rfl ti53 rfl) (by decide) ?_
          refine OL_yg (v := .bool true) rfl (by decide) rfl (y_gtrT hn rfl rfl) (by decide) ?_
          refine OL_yg (v := .bool true) rfl (by decide) rfl (y_move rfl) (by decide) ?_
          refine OL_s rfl (by decide) rfl rfl (by simp) ?_
          refine OL_s rfl (by decide) rfl rfl (by simp) ?_
          refine OL_s rfl (by decide) rfl rfl (by simp) ?_
          refine OL_s rfl (by decide) rfl rfl (by simp) ?_
          refine OL_yg rfl (by decide) rfl (y_pick (b := true) (v := .bool true) rfl rfl) (by decide) ?_
          refine OL_y (y_pick (b := true) (v := .bool true) rfl rfl) (by decide) ?_
          refine OL_nil ?_
          refine W_condt rfl ?_
          have hone9 : ∀ u ∈ [.slice ak e.c.key.length ck, .slice a12 (upTo e.c.vers ts).length c12, .int .u64 e.c.intent.ts, .int .u64 e.c.intent.txn, .bool e.c.intent.dead, e.iv, e.ik], u.oneCell' = true := by
            intro u hu
            simp only [List.mem_cons, List.not_mem_nil, or_false] at hu
            rcases hu with rfl | rfl | hu
            · rfl
            · rfl
            · exact hone u (by simp only [List.mem_cons, List.not_mem_nil, or_false]; exact .inr (.inr hu))
          refine W_region ?_
          refine OL_y (y_move h9) (by decide) ?_
          refine OL_y (y_loadA (cs := [.slice ak e.c.key.length ck, .slice a12 (upTo e.c.vers ts).length c12, .int .u64 e.c.intent.ts, .int .u64 e.c.intent.txn, .bool e.c.intent.dead, e.iv, e.ik]) ti55 rfl h12 (Cells.of (H.getOwn 1 rfl) rfl) rfl) (by decide) ?_
          refine OL_c (op_buildSlice H [.agg #[.slice ak e.c.key.length ck, .slice a12 (upTo e.c.vers ts).length c12, .int .u64 e.c.intent.ts, .int .u64 e.c.intent.txn, .bool e.c.intent.dead, e.iv, e.ik]] ti49 ti55 rfl rfl rfl (by simp [Value.cells]) rfl rfl (by decide) fun b66 w13_2 H => ?_)
          refine OL_c (op_append H 4 rfl rfl ti49 ti55 rfl rfl rfl rfl (Src.row (H.getRow 0 rfl)) rfl (by intro c hc; exact hone9 c (by simpa [Value.cells] using hc)) (by omega) (by simp only [maxLen]; omega) (by decide) fun v67 w13_3 H => ?_)
          refine OL_y (y_assign rfl) (by decide) ?_
          refine OL_nil ?_
          have hqt : [e].filter q = [e] := by
            rw [List.filter_cons_of_pos (by rw [hqe, hwb, Bool.true_and, decide_eq_true_eq]; left; intro h; rw [h] at hn; exact absurd hn (by decide))]; rfl
          have H := H.tail
          have H2 := H.pool rfl 3 rfl
          have hT : tCl.R (fun k => Zp k ∨ (Value.slice a12 (upTo e.c.vers ts).length c12).ownBlock = some k) w13_3 [.slice ak e.c.key.length ck, .slice a12 (upTo e.c.vers ts).length c12, .int .u64 e.c.intent.ts, .int .u64 e.c.intent.txn, .bool e.c.intent.dead, e.iv, e.ik] (reCl ts e) := cl_cells.2 ⟨_, _, _, rfl, (hkS.keeps (H.keepsAll 5 rfl _)).mono fun k _ h => Or.inl (hZ k h), SlR.ofRow (xs := upTo e.c.vers ts) (Z := fun k => Zp k ∨ (Value.slice a12 (upTo e.c.vers ts).length c12).ownBlock = some k) (H.getRow 0 rfl) (by decide) ((hE12.keeps (H.keepsAll 5 rfl _)).mono fun k _ h => Or.inl (hZ k h)) (fun k hk => Or.inr hk) (by omega), tVer.mono (Z' := fun k => Zp k ∨ (Value.slice a12 (upTo e.c.vers ts).length c12).ownBlock = some k) (tVer.keeps hiS (H.keepsAll 5 rfl _)) fun k _ h => Or.inl (hZ k h)⟩
          refine ⟨h20, h19, v67, cs9 ++ [Value.slice ak e.c.key.length ck, .slice a12 (upTo e.c.vers ts).length c12, .int .u64 e.c.intent.ts, .int .u64 e.c.intent.txn, .bool e.c.intent.dead, e.iv, e.ik], fun k => Zp k ∨ (Value.slice a12 (upTo e.c.vers ts).length c12).ownBlock = some k, w13_3, h1, h2, h3, rfl, h18, rfl, ?_, fun k hk => Or.inl (hZ k hk), ?_⟩
          · rw [htk, hqt, List.map_append]
            exact ((hE9.keeps (H.keeps (i := 4) rfl)).mono fun _ _ h => .inl h).snoc hT
          · rw [htk, hqt, List.length_append]; exact H2.tail.tail
        · refine W_region ?_
          refine OL_y (y_fieldAddr ti55 rfl ti23 rfl h11) (by decide) ?_
          refine OL_y (y_loadS (v := .slice ak e.c.key.length ck) ti23 rfl rfl (Cells.unit (H.getOwn 2 rfl) rfl)) (by decide) ?_
          refine OL_y (y_move h1) (by decide) ?_
          refine OL_y (y_move h2) (by decide) ?_
          refine OL_c (op_call 55 en55 rfl [.slice ak e.c.key.length ck, vl, vh] rfl (by decide) ((f55_calls (hkS.keeps (H.keepsAll 5 rfl _)) (hlo.keeps (H.keepsAll 5 rfl _)) (hhi.keeps (H.keepsAll 5 rfl _))).mono ?_))
          rintro e w12_4 ⟨rfl, hE55⟩
          refine ⟨_, rfl, ?_⟩
          have H := H.ext0 hE55
          rw [hwb]
          refine OL_y (y_move (v := .bool true) rfl) (by decide) ?_
          refine OL_yg rfl (by decide) rfl (y_fieldAddr ti55 rfl ti53 rfl h12) (by decide) ?_
          refine OL_yg rfl (by decide) rfl (y_loadS (v := .slice a12 (upTo e.c.vers ts).length c12) ti53 rfl rfl (Cells.unit (H.getOwn 1 rfl) rfl)) (by decide) ?_
          refine OL_yg rfl (by decide) rfl (y_len rfl ti53 rfl) (by decide) ?_
          refine OL_yg (v := .bool false) rfl (by decide) rfl (y_gtrF hn rfl rfl) (by decide) ?_
          refine OL_yg (v := .bool false) rfl (by decide) rfl (y_move rfl) (by decide) ?_
          refine OL_yg rfl (by decide) rfl (y_fieldAddr ti55 rfl ti32 rfl h12) (by decide) ?_
          refine OL_yg rfl (by decide) rfl (y_fieldAddr ti32 rfl ti24 rfl rfl) (by decide) ?_
          refine OL_yg rfl (by decide) rfl (y_loadS (v := .int .u64 e.c.intent.txn) ti24 rfl rfl (Cells.unit (H.getOwn 1 rfl) rfl)) (by decide) ?_
          refine OL_yg rfl (by decide) rfl (y_neq rfl rfl) (by decide) ?_
          refine OL_yg rfl (by decide) rfl (y_pick (b := false) rfl rfl) (by decide) ?_
          refine OL_y (y_pick (b := true) rfl rfl) (by decide) ?_
          refine OL_nil ?_
          refine W_cond rfl (fun hc => ?_) (fun hc => ?_)
          · have hone9 : ∀ u ∈ [.slice ak e.c.key.length ck, .slice a12 (upTo e.c.vers ts).length c12, .int .u64 e.c.intent.ts, .int .u64 e.c.intent.txn, .bool e.c.intent.dead, e.iv, e.ik], u.oneCell' = true := by
              intro u hu
              simp only [List.mem_cons, List.not_mem_nil, or_false] at hu
              rcases hu with rfl | rfl | hu
              · rfl
              · rfl
              · exact hone u (by simp only [List.mem_cons, List.not_mem_nil, or_false]; exact .inr (.inr hu))
            refine W_region ?_
            refine OL_y (y_move h9) (by decide) ?_
            refine OL_y (y_loadA (cs := [.slice ak e.c.key.length ck, .slice a12 (upTo e.c.vers ts).length c12, .int .u64 e.c.intent.ts, .int .u64 e.c.intent.txn, .bool e.c.intent.dead, e.iv, e.ik]) ti55 rfl h12 (Cells.of (H.getOwn 1 rfl) rfl) rfl) (by decide) ?_
            refine OL_c (op_buildSlice H [.agg #[.slice ak e.c.key.length ck, .slice a12 (upTo e.c.vers ts).length c12, .int .u64 e.c.intent.ts, .int .u64 e.c.intent.txn, .bool e.c.intent.dead, e.iv, e.ik]] ti49 ti55 rfl rfl rfl (by simp [Value.cells]) rfl rfl (by decide) fun b66 w13_2 H => ?_)
            refine OL_c (op_append H 4 rfl rfl ti49 ti55 rfl rfl rfl rfl (Src.row (H.getRow 0 rfl)) rfl (by intro c hc; exact hone9 c (by simpa [Value.cells] using hc)) (by omega) (by simp only [maxLen]; omega) (by decide) fun v67 w13_3 H => ?_)
            refine OL_y (y_assign rfl) (by decide) ?_
            refine OL_nil ?_
            have hne := of_decide_eq_true hc
            have hqt : [e].filter q = [e] := by
              rw [List.filter_cons_of_pos (by rw [hqe, hwb, Bool.true_and, decide_eq_true_eq]; right; exact hne)]; rfl
            have H := H.tail
            have H2 := H.pool rfl 3 rfl
            have hT : tCl.R (fun k => Zp k ∨ (Value.slice a12 (upTo e.c.vers ts).length c12).ownBlock = some k) w13_3 [.slice ak e.c.key.length ck, .slice a12 (upTo e.c.vers ts).length c12, .int .u64 e.c.intent.ts, .int .u64 e.c.intent.txn, .bool e.c.intent.dead, e.iv, e.ik] (reCl ts e) := cl_cells.2 ⟨_, _, _, rfl, (hkS.keeps (H.keepsAll 5 rfl _)).mono fun k _ h => Or.inl (hZ k h), SlR.ofRow (xs := upTo e.c.vers ts) (Z := fun k => Zp k ∨ (Value.slice a12 (upTo e.c.vers ts).length c12).ownBlock = some k) (H.getRow 0 rfl) (by decide) ((hE12.keeps (H.keepsAll 5 rfl _)).mono fun k _ h => Or.inl (hZ k h)) (fun k hk => Or.inr hk) (by omega), tVer.mono (Z' := fun k => Zp k ∨ (Value.slice a12 (upTo e.c.vers ts).length c12).ownBlock = some k) (tVer.keeps hiS (H.keepsAll 5 rfl _)) fun k _ h => Or.inl (hZ k h)⟩
            refine ⟨h20, h19, v67, cs9 ++ [Value.slice ak e.c.key.length ck, .slice a12 (upTo e.c.vers ts).length c12, .int .u64 e.c.intent.ts, .int .u64 e.c.intent.txn, .bool e.c.intent.dead, e.iv, e.ik], fun k => Zp k ∨ (Value.slice a12 (upTo e.c.vers ts).length c12).ownBlock = some k, w13_3, h1, h2, h3, rfl, h18, rfl, ?_, fun k hk => Or.inl (hZ k hk), ?_⟩
            · rw [htk, hqt, List.map_append]
              exact ((hE9.keeps (H.keeps (i := 4) rfl)).mono fun _ _ h => .inl h).snoc hT
            · rw [htk, hqt, List.length_append]; exact H2.tail.tail
          · refine W_skip ?_
            have hne := of_decide_eq_false hc
            have hnil : upTo e.c.vers ts = [] := List.eq_nil_of_length_eq_zero (by omega)
            have hqt : [e].filter q = [] := by
              rw [List.filter_cons_of_neg (by rw [hqe, hwb, hnil, Bool.true_and, decide_eq_true_eq]; intro h; rcases h with h | h; exact h rfl; exact hne h)]; rfl
            refine ⟨h20, h19, v9, cs9, Zp, Wq, h1, h2, h3, h9, h18, rfl, ?_, hZ, ?_⟩
            · rw [htk, hqt, List.append_nil]; exact hE9
            · rw [htk, hqt, List.append_nil]; exact H.tail.tail.tail
  · rintro f ds w3 ⟨v9, cs9, Zp, Wq, h1, h2, h3, h9, h18, rfl, hE9, hZ, H⟩ hti htn
    rw [List.take_length] at hE9 H
    refine W_seq ?_
    refine W_region ?_
    refine OL_y (y_move h9) (by decide) ?_
    refine OL_y (y_assign rfl) (by decide) ?_
    refine OL_nil ?_
    refine W_ret ?_
    show RetOK _ _ _ _ _ _
    have hcl : (R.filter q).length ≤ 40000 := Nat.le_trans (List.length_filter_le _ _) hl
    have hun : ((R.filter q).map RE.k).map (cellOf a ts) = (R.filter q).map (reCl ts) := by
      rw [List.map_map]; apply List.map_congr_left; intro e he
      have he' := (List.mem_filter.1 he).1
      show (⟨unkb (kb e.c.key), upTo (a.v e.k) ts, a.i e.k⟩ : Cl) = _
      rw [unkb_kb (hq e he'), (hr.va e he').1, (hr.va e he').2]
    refine ret1 (v := v9) Try.results26 rfl ⟨_, (R.filter q).map RE.k, rfl, ⟨hr.rise.sublist (List.Sublist.map _ List.filter_sublist), fun k => ?_⟩, ?_, H.ext_of 2 rfl⟩
    · rw [List.mem_map]
      constructor
      · rintro ⟨e, he, rfl⟩
        obtain ⟨h1, h2⟩ := List.mem_filter.1 he
        rw [hqe, Bool.and_eq_true, decide_eq_true_eq] at h2
        unfold shown
        rw [(hr.va e h1).2, (hr.va e h1).1, unkb_kb (hq e h1)]
        exact h2
      · intro h1
        have hin : k ∈ R.map RE.k := Classical.byContradiction fun hn => by
          have := hr.vn k hn
          unfold shown at h1
          rw [this.1, this.2] at h1; rcases h1.2 with h1 | h1 <;> exact h1 rfl
        obtain ⟨e, he, rfl⟩ := List.mem_map.1 hin
        refine ⟨e, List.mem_filter.2 ⟨he, ?_⟩, rfl⟩
        unfold shown at h1
        rw [(hr.va e he).2, (hr.va e he).1, unkb_kb (hq e he)] at h1
        rw [hqe, Bool.and_eq_true, decide_eq_true_eq]
        exact h1
    · rw [hun]
      exact SlR.ofRow (H.getRow 0 rfl) (by decide) ((hE9.keeps (H.keeps (i := 1) rfl)).mono fun k _ h => trivial) (fun k hk => trivial) (by rw [List.length_map]; omega)
end Go.Proofs.Ytpandioolpnihaa

/- Scan of the code's store. -/
namespace Go.Wk
open Go
section
variable {α : Type} {T : Ty α} {w0 Wp Wp' : World} {F F' : Nat → Prop} {cs : List Value} {v : Value} {x : α} {xs : List α} {bytes : Nat}
theorem Grow.keeps1 (g : Grow w0 F Wp F' Wp') : Keeps F Wp Wp' := ⟨g.keeps.1, fun k hz hk => g.keeps.2 k (.inr hz) hk⟩
theorem Grow.R1 (g : Grow w0 F Wp F' Wp') (h : T.R F Wp cs x) : T.R F' Wp' cs x := T.mono (T.keeps h g.keeps1) fun k _ hk => g.sub k hk
theorem Grow.els1 (g : Grow w0 F Wp F' Wp') (h : Els T F Wp cs xs) : Els T F' Wp' cs xs := ⟨h.1, fun i x hx => g.R1 (h.2 i x hx)⟩
theorem Grow.slr1 (g : Grow w0 F Wp F' Wp') (h : SlR T bytes F Wp v xs) : SlR T bytes F' Wp' v xs := (h.keeps g.keeps1).mono fun k _ hk => g.sub k hk
end
theorem Holds.keepsX {W Wg : World} {L : List Atom} {G : Nat → Prop} (H : Holds W L) (i : Nat) (hi : L[i]? = some (exc G Wg)) : Keeps G Wg W := by
  obtain ⟨a, _, _, _, e⟩ := H.get hi
  exact ⟨a, fun k hz _ => e k hz⟩

end Go.Wk
namespace Go.Proofs.Ytpandioolpnihaa
open Go Go.Wk
set_option linter.unusedVariables false
set_option linter.unusedSimpArgs false

set_option maxHeartbeats 16000000 in
theorem f25_calls {Zl : Nat → Prop} {w0 w Wp : World} {F : Nat → Prop} {sb g1 g2 m : Nat} {E : List Ent} {I : List Itn} {a : Abs} {L : List Atom} {vl vh : Value} {lo hi : Key} {ts : Int} (H : Holds w (cAt sb g1 g2 E I F Wp w0 L)) (hr : CRep w0 F Wp E I a) (ha : a.Ok m) (hm : m ≤ 40000) (hEl : E.length ≤ 40000) (hIl : I.length ≤ 40000)
    (hlo : SlR (tInt .u8) 1 Zl w vl lo) (hhi : SlR (tInt .u8) 1 Zl w vh hi) :
    Calls Try.prog 25 [.pointer (some ⟨sb, 0, none⟩), vl, vh, .int .u64 ts].toArray w fun e w' => ∃ (v : Value) (ks : List ByteArray), e = .returned v ∧ ScanOf a lo hi ts ks ∧ SlR tCl 120 (fun k => w.heap.size ≤ k) w' v (ks.map (cellOf a ts)) ∧ Ext none' w w' := by
  obtain ⟨ks, hks, hkz⟩ := hr.keys
  have hkl : ks.length ≤ 80000 := by
    have := List.Nodup.length_le_of_subset (rise_nodup bLt_irrefl hks.rise) (l₂ := (E.map Ent.kv).map (·.1) ++ (I.map Itn.kv).map (·.1)) fun k hk => List.mem_append.2 ((hr.isKey k).1 ((hks.mem k).1 hk))
    rw [List.length_append, List.length_map, List.length_map, List.length_map, List.length_map] at this; omega
  obtain ⟨q, hqq⟩ : ∃ q : ByteArray → Bool, q = fun k => withinB (unkb k) lo hi && decide (upTo (a.v k) ts ≠ [] ∨ (a.i k).txn ≠ 0) := ⟨_, rfl⟩
  have hqe : ∀ k, q k = (withinB (unkb k) lo hi && decide (upTo (a.v k) ts ≠ [] ∨ (a.i k).txn ≠ 0)) := fun k => by rw [hqq]
  obtain ⟨al, cl, rfl, _, _⟩ := hlo.len
  obtain ⟨ah, ch, rfl, _, _⟩ := hhi.len
  have H0 := H
  have H := Holds.start w
  refine calls_of_W' Try.func25 rfl Try.ntmps25 rfl ?_
  refine W_seq ?_
  refine W_region ?_
  refine OL_c (op_box (v := .pointer (some ⟨sb, 0, none⟩)) H rfl (by decide) fun b4 w0_0 H => ?_)
  refine OL_c (op_box (v := .slice al lo.length cl) H rfl (by decide) fun b5 w0_1 H => ?_)
  refine OL_c (op_box (v := .slice ah hi.length ch) H rfl (by decide) fun b6 w0_2 H => ?_)
  refine OL_c (op_box (v := .int .u64 ts) H rfl (by decide) fun b7 w0_3 H => ?_)
  refine OL_y (y_assign rfl) (by decide) ?_
  refine OL_nil ?_
  refine W_seq ?_
  refine W_region ?_
  refine OL_c (op_alloc H ti49 (by decide) fun b9 w1_0 H => ?_)
  refine OL_nil ?_
  refine W_seq ?_
  refine W_seq ?_
  refine W_region ?_
  refine OL_y (y_loadS (v := .pointer (some ⟨sb, 0, none⟩)) ti26 rfl rfl (Cells.unit (H.getOwn 4 rfl) rfl)) (by decide) ?_
  refine OL_c (op_call 20 en20 rfl [.pointer (some ⟨sb, 0, none⟩)] rfl (by decide) ((f20_calls).mono ?_))
  rintro e w2_1 ⟨bs, rfl, hE20, hbs, hbsn⟩
  refine ⟨_, rfl, ?_⟩
  have H := H.ext0 hE20
  have hEw : Ext none' w w2_1 := H.ext_of 5 rfl
  have HS := H0.ext0 hEw
  have hsb := HS.getOwn 0 rfl
  obtain ⟨o1, ho1, es1, clock1, rfl, hmo1⟩ := HS.get (i := 1) rfl
  obtain ⟨o2, ho2, es2, clock2, rfl, hmo2⟩ := HS.get (i := 2) rfl
  have H : Holds w2_1 [own b9 (.cells #[.slice none 0 0] 49), row 55 7 (.slice none 0 0) 0 [], exc none' w2_1, own b4 (.cells #[.pointer (some ⟨sb, 0, none⟩)] 26), own b5 (.cells #[.slice al lo.length cl] 23), own b6 (.cells #[.slice ah hi.length ch] 23), own b7 (.cells #[.int .u64 ts] 24), shr (fun k => k < w.heap.size) w] := by
    have H1 := (H.pool0).rowNil 55 7
    refine H1.perm ?_
    refine (List.perm_append_comm (l₁ := [_, _]) (l₂ := [own b9 (.cells #[.slice none 0 0] 49), own b7 (.cells #[.int .u64 ts] 24), own b6 (.cells #[.slice ah hi.length ch] 23), own b5 (.cells #[.slice al lo.length cl] 23), own b4 (.cells #[.pointer (some ⟨sb, 0, none⟩)] 26), shr (fun k => k < w.heap.size) w])).trans ?_
    refine List.Perm.cons _ ?_
    have p1 : ([own b7 (.cells #[.int .u64 ts] 24), own b6 (.cells #[.slice ah hi.length ch] 23), own b5 (.cells #[.slice al lo.length cl] 23), own b4 (.cells #[.pointer (some ⟨sb, 0, none⟩)] 26), shr (fun k => k < w.heap.size) w] ++ [row 55 7 (.slice none 0 0) 0 [], exc none' w2_1]).Perm ([row 55 7 (.slice none 0 0) 0 [], exc none' w2_1] ++ [own b7 (.cells #[.int .u64 ts] 24), own b6 (.cells #[.slice ah hi.length ch] 23), own b5 (.cells #[.slice al lo.length cl] 23), own b4 (.cells #[.pointer (some ⟨sb, 0, none⟩)] 26), shr (fun k => k < w.heap.size) w]) := List.perm_append_comm
    refine p1.trans (List.Perm.cons _ (List.Perm.cons _ ?_))
    have p2 : ([own b7 (.cells #[.int .u64 ts] 24), own b6 (.cells #[.slice ah hi.length ch] 23), own b5 (.cells #[.slice al lo.length cl] 23), own b4 (.cells #[.pointer (some ⟨sb, 0, none⟩)] 26)]).Perm [own b4 (.cells #[.pointer (some ⟨sb, 0, none⟩)] 26), own b5 (.cells #[.slice al lo.length cl] 23), own b6 (.cells #[.slice ah hi.length ch] 23), own b7 (.cells #[.int .u64 ts] 24)] := List.reverse_perm [_, _, _, _]
    exact p2.append_right [_]
  refine OL_nil ?_
  refine W_block ?_
  refine W_rangeFuncH yEnc yAt (yQ ks) (yE ks) (fun pre Ls => ∃ (v9 : Value) (cs9 : List Value) (G : Nat → Prop) (Wg : World), Ls = [own b9 (.cells #[v9] 49), row 55 7 v9 ((pre.map Yk.s).filter q).length cs9, exc G Wg, own b4 (.cells #[.pointer (some ⟨sb, 0, none⟩)] 26), own b5 (.cells #[.slice al lo.length cl] 23), own b6 (.cells #[.slice ah hi.length ch] 23), own b7 (.cells #[.int .u64 ts] 24), shr (fun k => k < w.heap.size) w] ∧ Ext none' w Wg ∧ (∀ k, G k → w.heap.size ≤ k) ∧ Els tCl G Wg cs9 (((pre.map Yk.s).filter q).map (cellOf a ts))) (fun _ _ _ => False) rfl en50 (by decide) H ⟨.slice none 0 0, [], none', w2_1, rfl, hEw, fun _ h => h.elim, Els.nil _ _ _⟩ ?_ ?_ ?_ ?_ ?_ ?_
  · rintro pre Ls ⟨v9, cs9, G, Wg, rfl, -⟩ at_ hat hx k hk
    simp only [List.mem_cons, List.not_mem_nil, or_false] at hat
    rcases hat with rfl | rfl | rfl | rfl | rfl | rfl | rfl | rfl
    · cases hx
    · cases hx
    · cases hx
    · cases hx
    · cases hx
    · cases hx
    · cases hx
    · exact Nat.lt_of_lt_of_le hk hEw.size
  · rintro e pre Ls h; exact h.elim
  · intro w' hE
    exact f50_iter ((hE.blk bs (own_lt hbs) (fun h => h)).trans hbs) ((hE.blk sb (own_lt hsb) (fun h => h)).trans hsb) ⟨es1, clock1, (hE.blk g1 (own_lt ho1) (fun h => h)).trans ho1, ⟨es1, clock1, rfl, hmo1⟩⟩ ⟨es2, clock2, (hE.blk g2 (own_lt ho2) (fun h => h)).trans ho2, ⟨es2, clock2, rfl, hmo2⟩⟩ hkz (by rw [List.length_map, List.length_map]; omega) hks.rise (fun k => by rw [hks.mem k, hr.isKey k])
  · rintro l' aL aL' aD aO pre x Ls Wd ⟨v9, cs9, G, Wg, rfl, hbase, hGn, hE9⟩ hq HH
    refine W_region ?_
    refine OL_y (y_assign rfl) (by decide) ?_
    refine OL_nil ?_
    refine ⟨_, HH, fun W2 HH => ?_⟩
    have H := HH
    obtain ⟨hy1, hy2, hy3⟩ : yOk x := hq.2 x (by simp)
    have hpx : pre.map Yk.s ++ [x.s] <+: ks := by have := hq.1; rwa [List.map_append] at this
    have hpl : (pre.map Yk.s).length ≤ 80000 := by have := hpx.length_le; rw [List.length_append] at this; omega
    have hfl : ((pre.map Yk.s).filter q).length ≤ 80000 := Nat.le_trans (List.length_filter_le _ _) hpl
    have hmap : (pre ++ [x]).map Yk.s = pre.map Yk.s ++ [x.s] := by rw [List.map_append]; rfl
    obtain ⟨a9, c9, hv9, hl9, hm9⟩ := H.rowLen 5 rfl
    subst hv9
    obtain ⟨hsd, hvm⟩ := ha x.s
    obtain ⟨v38, hlkV, hSl⟩ := lookV H0 hr x.s (by omega)
    obtain ⟨av, cv, rfl, hlv, hmv⟩ := hSl.len
    obtain ⟨csI, hlkI, hRI⟩ := hr.look x.s
    obtain ⟨jv, jk, rfl, -⟩ := ver_cells.1 hRI
    obtain ⟨wb, hwb⟩ : ∃ wb, withinB (unkb x.s) lo hi = wb := ⟨_, rfl⟩
    refine W_block ?_
    refine W_seq ?_
    refine W_seq ?_
    rcases wb with _ | _
    · refine W_region ?_
      refine OL_y (y_move rfl) (by decide) ?_
      refine OL_y (y_loadS (v := .slice al lo.length cl) ti23 rfl rfl (Cells.unit (H.getOwn 8 rfl) rfl)) (by decide) ?_
      refine OL_y (y_loadS (v := .slice ah hi.length ch) ti23 rfl rfl (Cells.unit (H.getOwn 9 rfl) rfl)) (by decide) ?_
      refine OL_c (op_call 54 en54 rfl [.slice (some ⟨x.b, 0, none⟩) x.s.size x.cap, .slice al lo.length cl, .slice ah hi.length ch] rfl (by decide) ((f54_calls (SlR_bytes (Z := fun _ => True) (H.getOwn 3 rfl) trivial hy1 hy2 hy3) (hlo.keeps (H.keepsAll 11 rfl _)) (hhi.keeps (H.keepsAll 11 rfl _))).mono ?_))
      rintro e w4_3 ⟨rfl, hE54⟩
      refine ⟨_, rfl, ?_⟩
      have H := H.ext0 hE54
      rw [hwb]
      refine OL_y (v := .bool true) (y_not (b := false) rfl) (by decide) ?_
      refine OL_nil ?_
      refine W_condt rfl ?_
      refine W_exit ?_
      have hqf : q x.s = false := by rw [hqe, hwb]; rfl
      have hf : ((pre ++ [x]).map Yk.s).filter q = (pre.map Yk.s).filter q := by rw [hmap, List.filter_append, List.filter_cons_of_neg (by rw [hqf]; simp), List.filter_nil, List.append_nil]
      refine ⟨_, ⟨.slice a9 ((pre.map Yk.s).filter q).length c9, cs9, G, Wg, rfl, hbase, hGn, by rw [hf]; exact hE9⟩, ?_⟩
      rw [hf]
      exact H.sub (.cons_cons _ (.cons_cons _ (.cons_cons _ (.cons _ (.refl _)))))
    · refine W_region ?_
      refine OL_y (y_move rfl) (by decide) ?_
      refine OL_y (y_loadS (v := .slice al lo.length cl) ti23 rfl rfl (Cells.unit (H.getOwn 8 rfl) rfl)) (by decide) ?_
      refine OL_y (y_loadS (v := .slice ah hi.length ch) ti23 rfl rfl (Cells.unit (H.getOwn 9 rfl) rfl)) (by decide) ?_
      refine OL_c (op_call 54 en54 rfl [.slice (some ⟨x.b, 0, none⟩) x.s.size x.cap, .slice al lo.length cl, .slice ah hi.length ch] rfl (by decide) ((f54_calls (SlR_bytes (Z := fun _ => True) (H.getOwn 3 rfl) trivial hy1 hy2 hy3) (hlo.keeps (H.keepsAll 11 rfl _)) (hhi.keeps (H.keepsAll 11 rfl _))).mono ?_))
      rintro e w4_3 ⟨rfl, hE54⟩
      refine ⟨_, rfl, ?_⟩
      have H := H.ext0 hE54
      rw [hwb]
      refine OL_y (v := .bool false) (y_not (b := true) rfl) (by decide) ?_
      refine OL_nil ?_
      refine W_condf rfl ?_
      refine W_skip ?_
      refine W_seq ?_
      refine W_cut (fun f ds w' => ∃ (b11 : Nat) (iv ik : Value) (G : Nat → Prop) (Wg : World), f 4 = .pointer (some ⟨b4, 0, none⟩) ∧ f 7 = .pointer (some ⟨b7, 0, none⟩) ∧ f 9 = .pointer (some ⟨b9, 0, none⟩) ∧ f 10 = .slice (some ⟨x.b, 0, none⟩) x.s.size x.cap ∧ f 11 = .pointer (some ⟨b11, 0, none⟩) ∧ ds = [] ∧ Ext none' w Wg ∧ (∀ k, G k → w.heap.size ≤ k) ∧ Els tCl G Wg cs9 (((pre.map Yk.s).filter q).map (cellOf a ts)) ∧ tVer.R G Wg [.int .u64 (a.i x.s).ts, .int .u64 (a.i x.s).txn, .bool (a.i x.s).dead, iv, ik] (a.i x.s) ∧ Holds w' [own b11 (.cells #[.slice (some ⟨x.b, 0, none⟩) x.s.size x.cap, .slice none 0 0, .int .u64 (a.i x.s).ts, .int .u64 (a.i x.s).txn, .bool (a.i x.s).dead, iv, ik] 55), aL', aD, aO, yAt x, own b9 (.cells #[.slice a9 ((pre.map Yk.s).filter q).length c9] 49), row 55 7 (.slice a9 ((pre.map Yk.s).filter q).length c9) ((pre.map Yk.s).filter q).length cs9, exc G Wg, own b4 (.cells #[.pointer (some ⟨sb, 0, none⟩)] 26), own b5 (.cells #[.slice al lo.length cl] 23), own b6 (.cells #[.slice ah hi.length ch] 23), own b7 (.cells #[.int .u64 ts] 24), shr (fun k => k < w.heap.size) w]) ?_ ?_
      · refine W_drawD H mixed (by kernel_rfl) [] (fun wq w' => Ext none' w w' ∧ w'.heap[b4]? = some (.cells #[.pointer (some ⟨sb, 0, none⟩)] 26) ∧ w'.heap[x.b]? = some (.cells (bytesRow x.s x.cap) 5 ((bytesRow x.s x.cap).size, (bytesRow x.s x.cap).size + 1))) fun wd5 H hEd => ?_
        have hS : ∀ {ls : Array Bool}, Sx [] (fun w' => Ext none' w w' ∧ w'.heap[b4]? = some (.cells #[.pointer (some ⟨sb, 0, none⟩)] 26) ∧ w'.heap[x.b]? = some (.cells (bytesRow x.s x.cap) 5 ((bytesRow x.s x.cap).size, (bytesRow x.s x.cap).size + 1))) ls wd5 := fun {_} _ => ⟨H.ext_of 11 rfl, H.getOwn 7 rfl, H.getOwn 3 rfl⟩
        refine DA_p 0 rfl (by kernel_rfl) rfl (fun _ => y_move rfl) hS (by decide) fun hS => ?_
        refine DA_y 1 rfl (by kernel_rfl) rfl (by kernel_rfl) (fun w' h => y_loadS (v := .pointer (some ⟨sb, 0, none⟩)) ti26 rfl rfl (Cells.unit h.2.1 rfl)) hS (by decide) fun hS => ?_
        refine DA_p 2 rfl (by kernel_rfl) rfl (fun _ => y_nilCheck rfl ⟨_, rfl⟩) hS (by decide) fun hS => ?_
        refine DA_p 3 rfl (by kernel_rfl) rfl (fun _ => y_fieldAddr ti98 rfl ti96 rfl rfl) hS (by decide) fun hS => ?_
        refine DA_y 4 rfl (by kernel_rfl) rfl (by kernel_rfl) (fun w' h => y_loadS (v := .map (some g2)) ti96 rfl rfl (Cells.unit ((H0.ext0 h.1).getOwn 0 rfl) rfl)) hS (by decide) fun hS => ?_
        refine DA_p 5 rfl (by kernel_rfl) rfl (fun _ => y_move rfl) hS (by decide) fun hS => ?_
        refine DA_y 6 rfl (by kernel_rfl) rfl (by kernel_rfl) (fun w' h => y_toStr (w := w') Try.underlying23 Try.underlying5 Try.underlying9 rfl (SlR_bytes (Z := fun _ => True) h.2.2 trivial hy1 hy2 hy3)) hS (by decide) fun hS => ?_
        refine DA_y 7 rfl (by kernel_rfl) rfl (by kernel_rfl) (fun w' h => y_lookupG (w := w') (k := kb (unkb x.s)) (v := .agg #[.int .u64 (a.i x.s).ts, .int .u64 (a.i x.s).txn, .bool (a.i x.s).dead, jv, jk]) (by rw [kb_unkb]; exact hlkI) (H0.ext0 h.1) 2 rfl ti96 ti32 (KeyOK.str Try.underlying9) rfl rfl) hS (by decide) fun hS => ?_
        have hszw := (H.ext_of 11 rfl).size
        refine DA_two 8 10 (by kernel_rfl) rfl rfl ?_ ?_
        · refine op_call 46 en46 rfl [.agg #[.int .u64 (a.i x.s).ts, .int .u64 (a.i x.s).txn, .bool (a.i x.s).dead, jv, jk]] rfl (by decide) ((f46_calls (tVer.keeps hRI ((H0.ext0 (H.ext_of 11 rfl)).dz 3 4 rfl rfl hr.base))).mono ?_)
          rintro e w5_8 ⟨cs', rfl, hR46, hE46⟩
          obtain ⟨H, g5⟩ := H.poolC hE46 6 11 rfl rfl hbase
          refine ⟨_, rfl, fun _ => ⟨H.ext_of 11 rfl, H.getOwn 7 rfl, H.getOwn 3 rfl⟩, ?_⟩
          have hR' := tVer.mono (Z' := fun k => G k ∨ (wd5.heap.size ≤ k ∧ k < w5_8.heap.size)) hR46 fun k h1 h2 => .inr ⟨h2, h1⟩
          obtain ⟨iv, ik, rfl, -⟩ := ver_cells.1 hR46
          have hone5 : ∀ u ∈ [.slice (some ⟨x.b, 0, none⟩) x.s.size x.cap, .slice none 0 0, .int .u64 (a.i x.s).ts, .int .u64 (a.i x.s).txn, .bool (a.i x.s).dead, iv, ik], u.oneCell' = true := by
            intro u hu
            rcases List.mem_cons.1 hu with rfl | hu
            · rfl
            rcases List.mem_cons.1 hu with rfl | hu
            · rfl
            exact tVer.one hR' u hu
          refine DA_p (v := .agg #[.slice (some ⟨x.b, 0, none⟩) x.s.size x.cap, .slice none 0 0, .int .u64 (a.i x.s).ts, .int .u64 (a.i x.s).txn, .bool (a.i x.s).dead, iv, ik]) 9 rfl (by kernel_rfl) rfl (fun _ => y_build ti55 pl55 (by kernel_rfl)) (fun _ => ⟨H.ext_of 11 rfl, H.getOwn 7 rfl, H.getOwn 3 rfl⟩) (by decide) fun _ => ?_
          refine DA_one 10 (by kernel_rfl) rfl (op_alloc H ti55 (by decide) fun b11 w5_10 H => ⟨fun _ => ⟨H.ext_of 12 rfl, H.getOwn 8 rfl, H.getOwn 4 rfl⟩, ?_⟩)
          refine DA_one 11 (by kernel_rfl) rfl (op_store (v := .agg #[.slice (some ⟨x.b, 0, none⟩) x.s.size x.cap, .slice none 0 0, .int .u64 (a.i x.s).ts, .int .u64 (a.i x.s).txn, .bool (a.i x.s).dead, iv, ik]) H 0 rfl ti55 rfl rfl rfl (by decide) hone5 fun w5_11 H => ⟨fun _ => ⟨H.ext_of 12 rfl, H.getOwn 8 rfl, H.getOwn 4 rfl⟩, ?_⟩)
          refine DA_done (by kernel_rfl) ?_
          exact ⟨b11, iv, ik, _, _, rfl, rfl, rfl, rfl, rfl, rfl, g5.base, fun k hk => hk.elim (hGn k) fun h => Nat.le_trans hszw h.1, g5.els1 hE9, hR', H⟩
        · refine op_alloc H ti55 (by decide) fun b11 w5_10 H => ⟨fun _ => ⟨H.ext_of 12 rfl, H.getOwn 8 rfl, H.getOwn 4 rfl⟩, ?_⟩
          have hsz10 := (H.ext_of 12 rfl).size
          refine DA_one 8 (by kernel_rfl) rfl (op_call 46 en46 rfl [.agg #[.int .u64 (a.i x.s).ts, .int .u64 (a.i x.s).txn, .bool (a.i x.s).dead, jv, jk]] rfl (by decide) ((f46_calls (tVer.keeps hRI ((H0.ext0 (H.ext_of 12 rfl)).dz 3 4 rfl rfl hr.base))).mono ?_))
          rintro e w5_8 ⟨cs', rfl, hR46, hE46⟩
          obtain ⟨H, g5⟩ := H.poolC hE46 7 12 rfl rfl hbase
          refine ⟨_, rfl, fun _ => ⟨H.ext_of 12 rfl, H.getOwn 8 rfl, H.getOwn 4 rfl⟩, ?_⟩
          have hR' := tVer.mono (Z' := fun k => G k ∨ (w5_10.heap.size ≤ k ∧ k < w5_8.heap.size)) hR46 fun k h1 h2 => .inr ⟨h2, h1⟩
          obtain ⟨iv, ik, rfl, -⟩ := ver_cells.1 hR46
          have hone5 : ∀ u ∈ [.slice (some ⟨x.b, 0, none⟩) x.s.size x.cap, .slice none 0 0, .int .u64 (a.i x.s).ts, .int .u64 (a.i x.s).txn, .bool (a.i x.s).dead, iv, ik], u.oneCell' = true := by
            intro u hu
            rcases List.mem_cons.1 hu with rfl | hu
            · rfl
            rcases List.mem_cons.1 hu with rfl | hu
            · rfl
            exact tVer.one hR' u hu
          refine DA_p (v := .agg #[.slice (some ⟨x.b, 0, none⟩) x.s.size x.cap, .slice none 0 0, .int .u64 (a.i x.s).ts, .int .u64 (a.i x.s).txn, .bool (a.i x.s).dead, iv, ik]) 9 rfl (by kernel_rfl) rfl (fun _ => y_build ti55 pl55 (by kernel_rfl)) (fun _ => ⟨H.ext_of 12 rfl, H.getOwn 8 rfl, H.getOwn 4 rfl⟩) (by decide) fun _ => ?_
          refine DA_one 11 (by kernel_rfl) rfl (op_store (v := .agg #[.slice (some ⟨x.b, 0, none⟩) x.s.size x.cap, .slice none 0 0, .int .u64 (a.i x.s).ts, .int .u64 (a.i x.s).txn, .bool (a.i x.s).dead, iv, ik]) H 0 rfl ti55 rfl rfl rfl (by decide) hone5 fun w5_11 H => ⟨fun _ => ⟨H.ext_of 12 rfl, H.getOwn 8 rfl, H.getOwn 4 rfl⟩, ?_⟩)
          refine DA_done (by kernel_rfl) ?_
          exact ⟨b11, iv, ik, _, _, rfl, rfl, rfl, rfl, rfl, rfl, g5.base, fun k hk => hk.elim (hGn k) fun h => Nat.le_trans hsz10 h.1, g5.els1 hE9, hR', H⟩
      rintro f ds w5 ⟨b11, iv, ik, G, Wg, h4, h7, h9, h10, h11, rfl, hbase, hGn, hE9, hRi, H⟩
      refine W_seq ?_
      refine W_seq ?_
      refine W_drawQ H mixed (by kernel_rfl) (by kernel_rfl) fun wd6 H => ?_
      refine QL_y (y_loadS (v := .pointer (some ⟨sb, 0, none⟩)) ti26 rfl h4 (Cells.unit (H.getOwn 8 rfl) rfl)) (by decide) ?_
      refine QL_y (y_nilCheck rfl ⟨_, rfl⟩) (by decide) ?_
      refine QL_y (y_fieldAddr ti98 rfl ti95 rfl rfl) (by decide) ?_
      refine QL_y (y_loadS (v := .map (some g1)) ti95 rfl rfl (Cells.unit ((H0.ext0 (H.ext_of 12 rfl)).getOwn 0 rfl) rfl)) (by decide) ?_
      refine QL_y (y_move h10) (by decide) ?_
      refine QL_y (y_toStr Try.underlying23 Try.underlying5 Try.underlying9 rfl (SlR_bytes (Z := fun _ => True) (H.getOwn 4 rfl) trivial hy1 hy2 hy3)) (by decide) ?_
      refine QL_y (y_lookupG (k := kb (unkb x.s)) (v := .slice av (a.v x.s).length cv) (by rw [kb_unkb]; exact hlkV) (H0.ext0 (H.ext_of 12 rfl)) 1 rfl ti95 ti53 (KeyOK.str Try.underlying9) rfl rfl) (by decide) ?_
      refine QL_y (y_len rfl ti53 rfl) (by decide) ?_
      refine QL_y (y_move rfl) (by decide) ?_
      refine QL_nil ?_
      have H := H.rowNil 32 5
      refine W_range (N := (a.v x.s).length) (by simp only [maxLen]; omega) (fun k f ds w' => ∃ (v12 : Value) (cs12 : List Value) (G : Nat → Prop) (Wg : World), f 7 = .pointer (some ⟨b7, 0, none⟩) ∧ f 9 = .pointer (some ⟨b9, 0, none⟩) ∧ f 11 = .pointer (some ⟨b11, 0, none⟩) ∧ f 38 = .slice av (a.v x.s).length cv ∧ ds = [] ∧ v12.oneCell' = true ∧ v12.cells = #[v12] ∧ Ext none' w Wg ∧ (∀ k, G k → w.heap.size ≤ k) ∧ Els tCl G Wg cs9 (((pre.map Yk.s).filter q).map (cellOf a ts)) ∧ tVer.R G Wg [.int .u64 (a.i x.s).ts, .int .u64 (a.i x.s).txn, .bool (a.i x.s).dead, iv, ik] (a.i x.s) ∧ Els tVer G Wg cs12 (upTo ((a.v x.s).take k) ts) ∧
          Holds w' [row 32 5 v12 (upTo ((a.v x.s).take k) ts).length cs12, own b11 (.cells #[.slice (some ⟨x.b, 0, none⟩) x.s.size x.cap, v12, .int .u64 (a.i x.s).ts, .int .u64 (a.i x.s).txn, .bool (a.i x.s).dead, iv, ik] 55), aL', aD, aO, yAt x, own b9 (.cells #[.slice a9 ((pre.map Yk.s).filter q).length c9] 49), row 55 7 (.slice a9 ((pre.map Yk.s).filter q).length c9) ((pre.map Yk.s).filter q).length cs9, exc G Wg, own b4 (.cells #[.pointer (some ⟨sb, 0, none⟩)] 26), own b5 (.cells #[.slice al lo.length cl] 23), own b6 (.cells #[.slice ah hi.length ch] 23), own b7 (.cells #[.int .u64 ts] 24), shr (fun k => k < w.heap.size) w])
          ⟨.slice none 0 0, [], G, Wg, h7, h9, h11, rfl, rfl, rfl, rfl, hbase, hGn, hE9, hRi, Els.nil _ _ _, H⟩
          rfl rfl (by decide) (by decide) (by decide) rfl rfl ?_ rfl rfl ?_
      · rintro k f ds w7 hk3 ⟨v12, cs12, G, Wg, h7, h9, h11, h38, rfl, h1c, hvc, hbase, hGn, hE9, hRi, hE12, H⟩ htk2 htn2
        have hxk2 := List.getElem?_eq_getElem hk3
        obtain ⟨b3, o3, cs3, e3, -, hc3, hr3⟩ := hSl.at hxk2
        have hc3' := hc3.ext ((H.keepsAll 13 rfl (fun _ => True)).2 _ trivial hc3.lt)
        have hts : upTo ((a.v x.s).take (k + 1)) ts = upTo ((a.v x.s).take k ++ [(a.v x.s)[k]]) ts := by rw [List.take_add_one, hxk2]; rfl
        rw [upTo_snoc] at hts
        have hupl : (upTo ((a.v x.s).take k) ts).length ≤ 40000 := Nat.le_trans (List.length_filter_le _ _) (by rw [List.length_take]; omega)
        generalize (a.v x.s)[k] = u at *
        obtain ⟨xv, xk, rfl, hx1, hx2, hx3, hx4⟩ := ver_cells.1 hr3
        have h38' := h38.trans (congrArg (Value.slice · _ _) e3)
        refine W_block ?_
        refine W_seq ?_
        refine W_region ?_
        refine OL_y (y_indexAddr ti53 ti32 h38' htk2 (by omega) (by omega)) (by decide) ?_
        refine OL_y (y_loadA (cs := [.int .u64 u.ts, .int .u64 u.txn, .bool u.dead, xv, xk]) ti32 rfl rfl hc3' rfl) (by decide) ?_
        refine OL_var (v := .agg #[.int .u64 u.ts, .int .u64 u.txn, .bool u.dead, xv, xk]) H ti32 rfl (by decide) (fun _ => rfl) rfl (tVer.one hr3) fun b13 w8_2 H => ?_
        refine OL_nil ?_
        refine W_seq ?_
        refine W_region ?_
        refine OL_y (y_fieldAddr ti32 rfl ti24 rfl rfl) (by decide) ?_
        refine OL_y (y_loadS (v := .int .u64 u.ts) ti24 rfl rfl (Cells.unit (H.getOwn 0 rfl) rfl)) (by decide) ?_
        refine OL_y (y_loadS (v := .int .u64 ts) ti24 rfl h7 (Cells.unit (H.getOwn 13 rfl) rfl)) (by decide) ?_
        refine OL_y (y_leq rfl rfl) (by decide) ?_
        refine OL_nil ?_
        refine W_cond rfl (fun hc => ?_) (fun hc => ?_)
        · have hle := of_decide_eq_true hc
          refine W_drawD H mixed (by kernel_rfl) [7] (fun wq w' => w'.heap[b11]? = some (.cells #[.slice (some ⟨x.b, 0, none⟩) x.s.size x.cap, v12, .int .u64 (a.i x.s).ts, .int .u64 (a.i x.s).txn, .bool (a.i x.s).dead, iv, ik] 55) ∧ w'.heap[b13]? = some (.cells #[.int .u64 u.ts, .int .u64 u.txn, .bool u.dead, xv, xk] 32)) fun wd10 H hEd => ?_
          have hS : ∀ {ls : Array Bool}, Sx [7] (fun w' => w'.heap[b11]? = some (.cells #[.slice (some ⟨x.b, 0, none⟩) x.s.size x.cap, v12, .int .u64 (a.i x.s).ts, .int .u64 (a.i x.s).txn, .bool (a.i x.s).dead, iv, ik] 55) ∧ w'.heap[b13]? = some (.cells #[.int .u64 u.ts, .int .u64 u.txn, .bool u.dead, xv, xk] 32)) ls wd10 := fun {_} _ => ⟨H.getOwn 2 rfl, H.getOwn 0 rfl⟩
          refine DA_p 0 rfl (by kernel_rfl) rfl (fun _ => y_fieldAddr ti55 rfl ti53 rfl h11) hS (by decide) fun hS => ?_
          refine DA_y 1 rfl (by kernel_rfl) rfl (by kernel_rfl) (fun w' h => y_loadS (v := v12) ti53 rfl rfl (Cells.unit h.1 rfl)) hS (by decide) fun hS => ?_
          refine DA_y 2 rfl (by kernel_rfl) rfl (by kernel_rfl) (fun w' h => y_loadA (cs := [.int .u64 u.ts, .int .u64 u.txn, .bool u.dead, xv, xk]) ti32 rfl rfl (Cells.of h.2 rfl) rfl) hS (by decide) fun hS => ?_
          refine DA_one 3 (by kernel_rfl) rfl (op_call 46 en46 rfl [.agg #[.int .u64 u.ts, .int .u64 u.txn, .bool u.dead, xv, xk]] rfl (by decide) ((f46_calls (tVer.keeps hr3 (H.keepsAll 14 rfl _))).mono ?_))
          rintro e w10_3 ⟨cs', rfl, hR46, hE46⟩
          refine ⟨_, rfl, fun _ => ⟨(H.ext0 hE46).getOwn 2 rfl, (H.ext0 hE46).getOwn 0 rfl⟩, ?_⟩
          have hsz10 := (H.ext_of 14 rfl).size
          obtain ⟨H, g10⟩ := H.poolC hE46 9 14 rfl rfl hbase
          have hR' := tVer.mono (Z' := fun k => G k ∨ (wd10.heap.size ≤ k ∧ k < w10_3.heap.size)) hR46 fun k h1 h2 => .inr ⟨h2, h1⟩
          have hcl' : cs'.length = 5 := tVer.len hR'
          refine DA_one 4 (by kernel_rfl) rfl (op_buildSlice H [.agg cs'.toArray] ti53 ti32 rfl rfl rfl (by intro v hv; rw [List.mem_singleton.1 hv]; exact hcl') rfl rfl (by decide) fun b52 w10_4 H => ⟨fun _ => ⟨H.getOwn 3 rfl, H.getOwn 1 rfl⟩, ?_⟩)
          refine DA_one 5 (by kernel_rfl) rfl (op_append (news := cs') H 2 rfl rfl ti53 ti32 rfl rfl rfl rfl (show Go.Wk.Src w10_4 (.slice (some ⟨b52, 0, none⟩) 1 1) 1 cs' by have := Src.row (H.getRow 0 rfl); simpa [Value.cells] using this) (by rw [hcl']) (tVer.one hR') (by omega) (by simp only [maxLen]; omega) (by decide) fun v53 w10_5 H => ⟨fun _ => ⟨H.getOwn 3 rfl, H.getOwn 1 rfl⟩, ?_⟩)
          obtain ⟨a53, c53, rfl, hl53, hm53⟩ := H.rowLen 2 rfl
          refine DA_p 6 rfl (by kernel_rfl) rfl (fun _ => y_fieldAddr ti55 rfl ti53 rfl h11) (fun _ => ⟨H.getOwn 3 rfl, H.getOwn 1 rfl⟩) (by decide) fun _ => ?_
          refine DA_one 7 (by kernel_rfl) rfl (op_store (v := .slice a53 ((upTo ((a.v x.s).take k) ts).length + 1) c53) H 3 rfl ti53 rfl rfl rfl (Nat.le_of_ble_eq_true rfl) (by simp [Value.cells, Value.oneCell']) fun w10_7 H => ⟨fun h => absurd (h 7 (by simp)) (by decide), ?_⟩)
          refine DA_done (by kernel_rfl) ?_
          have e2 : upTo ((a.v x.s).take (k + 1)) ts = upTo ((a.v x.s).take k) ts ++ [u] := by rw [hts, if_pos hle]
          refine ⟨htk2, htn2, .slice a53 ((upTo ((a.v x.s).take k) ts).length + 1) c53, cs12 ++ cs', _, _, h7, h9, h11, h38, rfl, rfl, rfl, g10.base, fun k hk => hk.elim (hGn k) (fun h => Nat.le_trans hsz10 h.1), g10.els1 hE9, g10.R1 hRi, by rw [e2]; exact (g10.els1 hE12).snoc hR', ?_⟩
          rw [e2, List.length_append]; exact H.tail.tail
        · refine W_skip ?_
          have hle := of_decide_eq_false hc
          have e2 : upTo ((a.v x.s).take (k + 1)) ts = upTo ((a.v x.s).take k) ts := by rw [hts, if_neg hle, List.append_nil]
          refine ⟨htk2, htn2, v12, cs12, G, Wg, h7, h9, h11, h38, rfl, h1c, hvc, hbase, hGn, hE9, hRi, by rw [e2]; exact hE12, ?_⟩
          rw [e2]; exact H.tail
      · rintro f ds w7 ⟨v12, cs12, G, Wg, h7, h9, h11, h38, rfl, h1c, hvc, hbase, hGn, hE9, hRi, hE12, H⟩ htk2 htn2
        rw [List.take_length] at hE12 H
        have hupl : (upTo (a.v x.s) ts).length ≤ 40000 := Nat.le_trans (List.length_filter_le _ _) (by omega)
        obtain ⟨a12, c12, hv12, hl12, hm12⟩ := H.rowLen 0 rfl
        subst hv12
        refine W_seq ?_
        by_cases hn : (0 : Int) < ((upTo (a.v x.s) ts).length : Nat)
        · refine W_region ?_
          refine OL_y (y_fieldAddr ti55 rfl ti53 rfl h11) (by decide) ?_
          refine OL_y (y_loadS (v := .slice a12 (upTo (a.v x.s) ts).length c12) ti53 rfl rfl (Cells.unit (H.getOwn 1 rfl) rfl)) (by decide) ?_
          refine OL_y (y_len rfl ti53 rfl) (by decide) ?_
          refine OL_y (v := .bool true) (y_gtrT hn rfl rfl) (by decide) ?_
          refine OL_y (v := .bool true) (y_move rfl) (by decide) ?_
          refine OL_s rfl (by decide) rfl rfl (by simp) ?_
          refine OL_s rfl (by decide) rfl rfl (by simp) ?_
          refine OL_s rfl (by decide) rfl rfl (by simp) ?_
          refine OL_s rfl (by decide) rfl rfl (by simp) ?_
          refine OL_y (y_pick (b := true) (v := .bool true) rfl rfl) (by decide) ?_
          refine OL_nil ?_
          refine W_condt rfl ?_
          have hone13 : ∀ u ∈ [.slice (some ⟨x.b, 0, none⟩) x.s.size x.cap, .slice a12 (upTo (a.v x.s) ts).length c12, .int .u64 (a.i x.s).ts, .int .u64 (a.i x.s).txn, .bool (a.i x.s).dead, iv, ik], u.oneCell' = true := by
            intro u hu
            rcases List.mem_cons.1 hu with rfl | hu
            · rfl
            rcases List.mem_cons.1 hu with rfl | hu
            · rfl
            exact tVer.one hRi u hu
          refine W_region ?_
          refine OL_y (y_loadS (v := .slice a9 ((pre.map Yk.s).filter q).length c9) ti49 rfl h9 (Cells.unit (H.getOwn 6 rfl) rfl)) (by decide) ?_
          refine OL_y (y_loadA (cs := [.slice (some ⟨x.b, 0, none⟩) x.s.size x.cap, .slice a12 (upTo (a.v x.s) ts).length c12, .int .u64 (a.i x.s).ts, .int .u64 (a.i x.s).txn, .bool (a.i x.s).dead, iv, ik]) ti55 rfl h11 (Cells.of (H.getOwn 1 rfl) rfl) rfl) (by decide) ?_
          refine OL_c (op_buildSlice H [.agg #[.slice (some ⟨x.b, 0, none⟩) x.s.size x.cap, .slice a12 (upTo (a.v x.s) ts).length c12, .int .u64 (a.i x.s).ts, .int .u64 (a.i x.s).txn, .bool (a.i x.s).dead, iv, ik]] ti49 ti55 rfl rfl rfl (by simp [Value.cells]) rfl rfl (by decide) fun b68 w13_2 H => ?_)
          refine OL_c (op_append H 8 rfl rfl ti49 ti55 rfl rfl rfl rfl (Src.row (H.getRow 0 rfl)) rfl (by intro c hc; exact hone13 c (by simpa [Value.cells] using hc)) (by omega) (by simp only [maxLen]; omega) (by decide) fun v69 w13_3 H => ?_)
          obtain ⟨a69, c69, rfl, hl69, hm69⟩ := H.rowLen 8 rfl
          refine OL_c (op_store (v := .slice a69 (((pre.map Yk.s).filter q).length + 1) c69) H 7 rfl ti49 h9 rfl rfl (Nat.le_of_ble_eq_true rfl) (by simp [Value.cells, Value.oneCell']) fun w13_4 H => ?_)
          refine OL_nil ?_
          have hqt : q x.s = true := by rw [hqe, hwb, Bool.true_and, decide_eq_true_eq]; left; intro h; rw [h] at hn; exact absurd hn (by decide)
          have hf : ((pre ++ [x]).map Yk.s).filter q = (pre.map Yk.s).filter q ++ [x.s] := by rw [hmap, List.filter_append, List.filter_cons_of_pos hqt, List.filter_nil]
          have H := H.tail
          have hrow12 := H.getRow 0 rfl
          have hf12 := H.fresh 0 13 rfl rfl rfl
          have hfy := H.fresh 5 13 rfl rfl rfl x.b rfl
          have hkG : Keeps G Wg w13_4 := H.keepsX 8 rfl
          have hyb := H.getOwn 5 rfl
          obtain ⟨H, g13⟩ := H.poolX rfl 7 12 rfl rfl hbase
          have H := H.tail
          have H := Holds.pick (A := [aL', aD, aO]) (B := []) (C := []) H
          obtain ⟨H, g14⟩ := H.poolX rfl 5 10 rfl rfl g13.base
          have hvr : SlR tVer 72 (fun k => G k ∨ (Value.slice a12 (upTo (a.v x.s) ts).length c12).ownBlock = some k) w13_4 (.slice a12 (upTo (a.v x.s) ts).length c12) (upTo (a.v x.s) ts) := SlR.ofRow hrow12 (by decide) ((hE12.keeps hkG).mono fun _ _ h => Or.inl h) (fun k hk => Or.inr hk) (by omega)
          have hT : tCl.R (fun k => (G k ∨ (Value.slice a12 (upTo (a.v x.s) ts).length c12).ownBlock = some k) ∨ k = x.b) w13_4 [.slice (some ⟨x.b, 0, none⟩) x.s.size x.cap, .slice a12 (upTo (a.v x.s) ts).length c12, .int .u64 (a.i x.s).ts, .int .u64 (a.i x.s).txn, .bool (a.i x.s).dead, iv, ik] (cellOf a ts x.s) := cl_cells.2 ⟨_, _, _, rfl, SlR_bytes hyb (Or.inr rfl) hy1 hy2 hy3, g14.slr1 hvr, g14.R1 (g13.R1 hRi)⟩
          refine ⟨_, ⟨.slice a69 (((pre.map Yk.s).filter q).length + 1) c69, cs9 ++ [Value.slice (some ⟨x.b, 0, none⟩) x.s.size x.cap, .slice a12 (upTo (a.v x.s) ts).length c12, .int .u64 (a.i x.s).ts, .int .u64 (a.i x.s).txn, .bool (a.i x.s).dead, iv, ik], fun k => (G k ∨ (Value.slice a12 (upTo (a.v x.s) ts).length c12).ownBlock = some k) ∨ k = x.b, w13_4, rfl, g14.base, fun k hk => hk.elim (fun h => h.elim (hGn k) (hf12 k)) (fun h => by rw [h]; exact hfy), by rw [hf, List.map_append]; exact (g14.els1 (g13.els1 hE9)).snoc hT⟩, ?_⟩
          rw [hf, List.length_append]; exact H
        · refine W_region ?_
          refine OL_y (y_fieldAddr ti55 rfl ti53 rfl h11) (by decide) ?_
          refine OL_y (y_loadS (v := .slice a12 (upTo (a.v x.s) ts).length c12) ti53 rfl rfl (Cells.unit (H.getOwn 1 rfl) rfl)) (by decide) ?_
          refine OL_y (y_len rfl ti53 rfl) (by decide) ?_
          refine OL_y (v := .bool false) (y_gtrF hn rfl rfl) (by decide) ?_
          refine OL_y (v := .bool false) (y_move rfl) (by decide) ?_
          refine OL_yg rfl (by decide) rfl (y_fieldAddr ti55 rfl ti32 rfl h11) (by decide) ?_
          refine OL_yg rfl (by decide) rfl (y_fieldAddr ti32 rfl ti24 rfl rfl) (by decide) ?_
          refine OL_yg rfl (by decide) rfl (y_loadS (v := .int .u64 (a.i x.s).txn) ti24 rfl rfl (Cells.unit (H.getOwn 1 rfl) rfl)) (by decide) ?_
          refine OL_yg rfl (by decide) rfl (y_neq rfl rfl) (by decide) ?_
          refine OL_y (y_pick (b := false) (v := .bool (decide ((a.i x.s).txn ≠ 0))) rfl rfl) (by decide) ?_
          refine OL_nil ?_
          refine W_cond rfl (fun hc => ?_) (fun hc => ?_)
          · have hone13 : ∀ u ∈ [.slice (some ⟨x.b, 0, none⟩) x.s.size x.cap, .slice a12 (upTo (a.v x.s) ts).length c12, .int .u64 (a.i x.s).ts, .int .u64 (a.i x.s).txn, .bool (a.i x.s).dead, iv, ik], u.oneCell' = true := by
              intro u hu
              rcases List.mem_cons.1 hu with rfl | hu
              · rfl
              rcases List.mem_cons.1 hu with rfl | hu
              · rfl
              exact tVer.one hRi u hu
            refine W_region ?_
            refine OL_y (y_loadS (v := .slice a9 ((pre.map Yk.s).filter q).length c9) ti49 rfl h9 (Cells.unit (H.getOwn 6 rfl) rfl)) (by decide) ?_
            refine OL_y (y_loadA (cs := [.slice (some ⟨x.b, 0, none⟩) x.s.size x.cap, .slice a12 (upTo (a.v x.s) ts).length c12, .int .u64 (a.i x.s).ts, .int .u64 (a.i x.s).txn, .bool (a.i x.s).dead, iv, ik]) ti55 rfl h11 (Cells.of (H.getOwn 1 rfl) rfl) rfl) (by decide) ?_
            refine OL_c (op_buildSlice H [.agg #[.slice (some ⟨x.b, 0, none⟩) x.s.size x.cap, .slice a12 (upTo (a.v x.s) ts).length c12, .int .u64 (a.i x.s).ts, .int .u64 (a.i x.s).txn, .bool (a.i x.s).dead, iv, ik]] ti49 ti55 rfl rfl rfl (by simp [Value.cells]) rfl rfl (by decide) fun b68 w13_2 H => ?_)
            refine OL_c (op_append H 8 rfl rfl ti49 ti55 rfl rfl rfl rfl (Src.row (H.getRow 0 rfl)) rfl (by intro c hc; exact hone13 c (by simpa [Value.cells] using hc)) (by omega) (by simp only [maxLen]; omega) (by decide) fun v69 w13_3 H => ?_)
            obtain ⟨a69, c69, rfl, hl69, hm69⟩ := H.rowLen 8 rfl
            refine OL_c (op_store (v := .slice a69 (((pre.map Yk.s).filter q).length + 1) c69) H 7 rfl ti49 h9 rfl rfl (Nat.le_of_ble_eq_true rfl) (by simp [Value.cells, Value.oneCell']) fun w13_4 H => ?_)
            refine OL_nil ?_
            have hne := of_decide_eq_true hc
            have hqt : q x.s = true := by rw [hqe, hwb, Bool.true_and, decide_eq_true_eq]; right; exact hne
            have hf : ((pre ++ [x]).map Yk.s).filter q = (pre.map Yk.s).filter q ++ [x.s] := by rw [hmap, List.filter_append, List.filter_cons_of_pos hqt, List.filter_nil]
            have H := H.tail
            have hrow12 := H.getRow 0 rfl
            have hf12 := H.fresh 0 13 rfl rfl rfl
            have hfy := H.fresh 5 13 rfl rfl rfl x.b rfl
            have hkG : Keeps G Wg w13_4 := H.keepsX 8 rfl
            have hyb := H.getOwn 5 rfl
            obtain ⟨H, g13⟩ := H.poolX rfl 7 12 rfl rfl hbase
            have H := H.tail
            have H := Holds.pick (A := [aL', aD, aO]) (B := []) (C := []) H
            obtain ⟨H, g14⟩ := H.poolX rfl 5 10 rfl rfl g13.base
            have hvr : SlR tVer 72 (fun k => G k ∨ (Value.slice a12 (upTo (a.v x.s) ts).length c12).ownBlock = some k) w13_4 (.slice a12 (upTo (a.v x.s) ts).length c12) (upTo (a.v x.s) ts) := SlR.ofRow hrow12 (by decide) ((hE12.keeps hkG).mono fun _ _ h => Or.inl h) (fun k hk => Or.inr hk) (by omega)
            have hT : tCl.R (fun k => (G k ∨ (Value.slice a12 (upTo (a.v x.s) ts).length c12).ownBlock = some k) ∨ k = x.b) w13_4 [.slice (some ⟨x.b, 0, none⟩) x.s.size x.cap, .slice a12 (upTo (a.v x.s) ts).length c12, .int .u64 (a.i x.s).ts, .int .u64 (a.i x.s).txn, .bool (a.i x.s).dead, iv, ik] (cellOf a ts x.s) := cl_cells.2 ⟨_, _, _, rfl, SlR_bytes hyb (Or.inr rfl) hy1 hy2 hy3, g14.slr1 hvr, g14.R1 (g13.R1 hRi)⟩
            refine ⟨_, ⟨.slice a69 (((pre.map Yk.s).filter q).length + 1) c69, cs9 ++ [Value.slice (some ⟨x.b, 0, none⟩) x.s.size x.cap, .slice a12 (upTo (a.v x.s) ts).length c12, .int .u64 (a.i x.s).ts, .int .u64 (a.i x.s).txn, .bool (a.i x.s).dead, iv, ik], fun k => (G k ∨ (Value.slice a12 (upTo (a.v x.s) ts).length c12).ownBlock = some k) ∨ k = x.b, w13_4, rfl, g14.base, fun k hk => hk.elim (fun h => h.elim (hGn k) (hf12 k)) (fun h => by rw [h]; exact hfy), by rw [hf, List.map_append]; exact (g14.els1 (g13.els1 hE9)).snoc hT⟩, ?_⟩
            rw [hf, List.length_append]; exact H
          · refine W_skip ?_
            have hne := of_decide_eq_false hc
            have hnil : upTo (a.v x.s) ts = [] := List.eq_nil_of_length_eq_zero (by omega)
            have hqf : q x.s = false := by rw [hqe, hwb, hnil, Bool.true_and, decide_eq_false_iff_not]; intro h; rcases h with h | h; exact h rfl; exact hne h
            have hf : ((pre ++ [x]).map Yk.s).filter q = (pre.map Yk.s).filter q := by rw [hmap, List.filter_append, List.filter_cons_of_neg (by rw [hqf]; simp), List.filter_nil, List.append_nil]
            refine ⟨_, ⟨.slice a9 ((pre.map Yk.s).filter q).length c9, cs9, G, Wg, rfl, hbase, hGn, by rw [hf]; exact hE9⟩, ?_⟩
            rw [hf]
            exact H.tail.tail.sub (.cons_cons _ (.cons_cons _ (.cons_cons _ (.cons _ (.refl _)))))
  · rintro D xs Ls W hxs ⟨v9, cs9, G, Wg, rfl, hbase, hGn, hE9⟩ HH
    refine W_seq ?_
    have H := HH
    obtain ⟨a9, c9, hv9, hl9, hm9⟩ := H.rowLen 2 rfl
    subst hv9
    refine W_region ?_
    refine OL_y (y_loadS (v := .slice a9 ((xs.map Yk.s).filter q).length c9) ti49 rfl rfl (Cells.unit (H.getOwn 1 rfl) rfl)) (by decide) ?_
    refine OL_y (y_assign rfl) (by decide) ?_
    refine OL_nil ?_
    refine W_ret ?_
    show RetOK _ _ _ _ _ _
    refine RetOK.mark (H.getOwn 0 rfl) ?_
    have H := H.put 0 rfl (.deferred none)
    have hxk : xs.map Yk.s = ks := hxs
    rw [hxk] at hE9 H ⊢
    have hfl : (ks.filter q).length ≤ 80000 := Nat.le_trans (List.length_filter_le _ _) hkl
    refine ret1 (v := .slice a9 (ks.filter q).length c9) Try.results25 (by rw [← hxk]; rfl) ⟨_, ks.filter q, rfl, ⟨hks.rise.sublist List.filter_sublist, fun k => ?_⟩, ?_, H.ext_of 8 rfl⟩
    · rw [List.mem_filter, hqe, Bool.and_eq_true, decide_eq_true_eq]
      refine ⟨fun h => h.2, fun h => ⟨(hks.mem k).2 (h.2.imp (fun h1 h2 => h1 (by rw [h2]; rfl)) id), h⟩⟩
    · exact SlR.ofRow (H.getRow 2 rfl) (by decide) ((hE9.keeps (H.keepsX 3 rfl)).mono fun k _ h => hGn k h) (fun k hk => H.fresh 2 8 rfl rfl rfl k hk) (by rw [List.length_map]; omega)
  · rintro D pre Ls W e hp h; exact h.elim
end Go.Proofs.Ytpandioolpnihaa

/- Rows of cells compared. -/
namespace Go.Proofs.Ytpandioolpnihaa
open Go Go.Wk
set_option linter.unusedVariables false
set_option linter.unusedSimpArgs false

set_option maxHeartbeats 16000000 in
theorem f24_calls {Z Z' : Nat → Prop} {w : World} {va vb : Value} {xs ys : List Cl} (hx : SlR tCl 120 Z w va xs) (hy : SlR tCl 120 Z' w vb ys) :
    Calls Try.prog 24 [va, vb].toArray w fun e w' => e = .returned (.bool (decide (xs = ys))) ∧ Ext none' w w' := by
  have H := Holds.start w
  have hN := hx.len1 (by decide)
  have hM := hy.len1 (by decide)
  obtain ⟨a0, c0, rfl, hl0, hm0⟩ := hx.len
  obtain ⟨a1, c1, rfl, hl1, hm1⟩ := hy.len
  refine calls_of_W' Try.func24 rfl Try.ntmps24 rfl ?_
  refine W_seq ?_
  refine W_region ?_
  refine OL_y (v := .bool false) (y_assign rfl) (by decide) ?_
  refine OL_nil ?_
  refine W_seq ?_
  refine W_seq ?_
  refine W_region ?_
  refine OL_y (y_move rfl) (by decide) ?_
  refine OL_y (y_len rfl ti49 rfl) (by decide) ?_
  refine OL_y (y_move rfl) (by decide) ?_
  refine OL_y (y_len rfl ti49 rfl) (by decide) ?_
  refine OL_y (y_neq rfl rfl) (by decide) ?_
  refine OL_nil ?_
  refine W_cond rfl (fun hc => ?_) (fun hc => ?_)
  · refine W_seq ?_
    refine W_region ?_
    refine OL_y (v := .bool false) (y_assign rfl) (by decide) ?_
    refine OL_nil ?_
    refine W_ret ?_
    show RetOK _ _ _ _ _ _
    have hc := of_decide_eq_true hc
    exact ret1 (v := .bool false) Try.results24 rfl ⟨by rw [decide_eq_false (fun h => hc (by rw [h]))], H.ext_of 0 rfl⟩
  · refine W_skip ?_
    refine W_seq ?_
    refine W_seq ?_
    have hlen : xs.length = ys.length := by have := of_decide_eq_false hc; omega
    refine W_region ?_
    refine OL_y (y_move rfl) (by decide) ?_
    refine OL_y (y_len rfl ti49 rfl) (by decide) ?_
    refine OL_y (y_move rfl) (by decide) ?_
    refine OL_nil ?_
    refine W_range (N := xs.length) (by omega) (fun j f ds w' => f 0 = .slice a0 xs.length c0 ∧ f 1 = .slice a1 ys.length c1 ∧ ds = [] ∧ xs.take j = ys.take j ∧ Holds w' [shr (fun k => k < w.heap.size) w])
        ⟨rfl, rfl, rfl, by simp, H⟩
        rfl rfl (by decide) (by decide) (by decide) rfl rfl ?_ rfl rfl ?_
    · rintro j f ds w2 hj ⟨h0, h1, rfl, heq, H⟩ hti htn
      have hxj := List.getElem?_eq_getElem hj
      have hyj : ys[j]? = some (ys[j]'(by omega)) := List.getElem?_eq_getElem (by omega)
      obtain ⟨b2, o2, cs2, e2, hz2, hc2, hr2⟩ := hx.at hxj
      obtain ⟨b3, o3, cs3, e3, hz3, hc3, hr3⟩ := hy.at hyj
      have htx : xs.take (j + 1) = xs.take j ++ [xs[j]] := by rw [List.take_add_one, hxj]; rfl
      have hty : ys.take (j + 1) = ys.take j ++ [ys[j]'(by omega)] := by rw [List.take_add_one, hyj]; rfl
      generalize xs[j] = x at *
      generalize ys[j]'(by omega) = y at *
      obtain ⟨xk, xv, _, rfl, hxk, hxv, hxi⟩ := cl_cells.1 hr2
      obtain ⟨yk, yv, _, rfl, hyk, hyv, hyi⟩ := cl_cells.1 hr3
      obtain ⟨xa, xb, rfl, -⟩ := ver_cells.1 hxi
      obtain ⟨ya, yb, rfl, -⟩ := ver_cells.1 hyi
      obtain ⟨ax, cx, rfl, hlx, hmx⟩ := hxv.len
      obtain ⟨ay, cy, rfl, hly, hmy⟩ := hyv.len
      have hLx := hxv.len1 (by decide)
      have hLy := hyv.len1 (by decide)
      have hCx : ∀ {w'}, Holds w' [shr (fun k => k < w.heap.size) w] → Cells w' b2 (o2 + j * 7) [xk, .slice ax x.vers.length cx, .int .u64 x.intent.ts, .int .u64 x.intent.txn, .bool x.intent.dead, xa, xb] := fun {w'} h => hc2.ext ((h.keepsAll 0 rfl Z).2 _ hz2 hc2.lt)
      have hCy : ∀ {w'}, Holds w' [shr (fun k => k < w.heap.size) w] → Cells w' b3 (o3 + j * 7) [yk, .slice ay y.vers.length cy, .int .u64 y.intent.ts, .int .u64 y.intent.txn, .bool y.intent.dead, ya, yb] := fun {w'} h => hc3.ext ((h.keepsAll 0 rfl Z').2 _ hz3 hc3.lt)
      refine W_block ?_
      refine W_seq ?_
      refine W_region ?_
      refine OL_y (y_move hti) (by decide) ?_
      refine OL_y (y_assign rfl) (by decide) ?_
      refine OL_nil ?_
      refine W_seq ?_
      refine W_seq ?_
      by_cases hk : kb x.key = kb y.key
      · by_cases hi : x.intent = y.intent
        · by_cases hl : ((x.vers.length : Nat) : Int) = ((y.vers.length : Nat) : Int)
          · refine W_drawD H mixed (by kernel_rfl) [] (fun wq w' => Holds w' [shr (fun k => k < w.heap.size) w]) fun wd6 H hEd => ?_
            have hS : ∀ {ls : Array Bool}, Sx [] (fun w' => Holds w' [shr (fun k => k < w.heap.size) w]) ls wd6 := fun {_} _ => H
            refine DA_p 0 rfl (by kernel_rfl) rfl (fun _ => y_move h0) hS (by decide) fun hS => ?_
            refine DA_p 1 rfl (by kernel_rfl) rfl (fun _ => y_move rfl) hS (by decide) fun hS => ?_
            refine DA_p 2 rfl (by kernel_rfl) rfl (fun _ => y_indexAddr ti49 ti55 (congrArg (Value.slice · _ _) e2) rfl (by omega) (by omega)) hS (by decide) fun hS => ?_
            refine DA_p 3 rfl (by kernel_rfl) rfl (fun _ => y_fieldAddr ti55 rfl ti23 rfl rfl) hS (by decide) fun hS => ?_
            refine DA_y 4 rfl (by kernel_rfl) rfl (by kernel_rfl) (fun w' h => y_loadS (v := xk) ti23 rfl rfl ((hCx h).take 0 rfl)) hS (by decide) fun hS => ?_
            refine DA_y 5 rfl (by kernel_rfl) rfl (by kernel_rfl) (fun w' h => y_toStr (w := w') Try.underlying23 Try.underlying5 Try.underlying9 rfl (hxk.keeps (h.keepsAll 0 rfl _))) hS (by decide) fun hS => ?_
            refine DA_p 6 rfl (by kernel_rfl) rfl (fun _ => y_move h1) hS (by decide) fun hS => ?_
            refine DA_p 7 rfl (by kernel_rfl) rfl (fun _ => y_move rfl) hS (by decide) fun hS => ?_
            refine DA_p 8 rfl (by kernel_rfl) rfl (fun _ => y_indexAddr ti49 ti55 (congrArg (Value.slice · _ _) e3) rfl (by omega) (by omega)) hS (by decide) fun hS => ?_
            refine DA_p 9 rfl (by kernel_rfl) rfl (fun _ => y_fieldAddr ti55 rfl ti23 rfl rfl) hS (by decide) fun hS => ?_
            refine DA_y 10 rfl (by kernel_rfl) rfl (by kernel_rfl) (fun w' h => y_loadS (v := yk) ti23 rfl rfl ((hCy h).take 0 rfl)) hS (by decide) fun hS => ?_
            refine DA_y 11 rfl (by kernel_rfl) rfl (by kernel_rfl) (fun w' h => y_toStr (w := w') Try.underlying23 Try.underlying5 Try.underlying9 rfl (hyk.keeps (h.keepsAll 0 rfl _))) hS (by decide) fun hS => ?_
            refine DA_p (v := .bool false) 12 rfl (by kernel_rfl) rfl (fun _ => y_neqSF hk rfl rfl) hS (by decide) fun hS => ?_
            refine DA_p (v := .bool false) 13 rfl (by kernel_rfl) rfl (fun _ => y_move rfl) hS (by decide) fun hS => ?_
            refine DA_pg 14 rfl rfl (by decide) rfl (by kernel_rfl) rfl (fun _ => y_move h0) hS (by decide) fun hS => ?_
            refine DA_pg 15 rfl rfl (by decide) rfl (by kernel_rfl) rfl (fun _ => y_move rfl) hS (by decide) fun hS => ?_
            refine DA_pg 16 rfl rfl (by decide) rfl (by kernel_rfl) rfl (fun _ => y_indexAddr ti49 ti55 (congrArg (Value.slice · _ _) e2) rfl (by omega) (by omega)) hS (by decide) fun hS => ?_
            refine DA_pg 17 rfl rfl (by decide) rfl (by kernel_rfl) rfl (fun _ => y_fieldAddr ti55 rfl ti32 rfl rfl) hS (by decide) fun hS => ?_
            refine DA_yg 18 rfl rfl (by decide) rfl (by kernel_rfl) rfl (by kernel_rfl) (fun w' h => y_loadA (cs := [.int .u64 x.intent.ts, .int .u64 x.intent.txn, .bool x.intent.dead, xa, xb]) ti32 rfl rfl ((hCx h).take 2 rfl) rfl) hS (by decide) fun hS => ?_
            refine DA_pg 19 rfl rfl (by decide) rfl (by kernel_rfl) rfl (fun _ => y_move h1) hS (by decide) fun hS => ?_
            refine DA_pg 20 rfl rfl (by decide) rfl (by kernel_rfl) rfl (fun _ => y_move rfl) hS (by decide) fun hS => ?_
            refine DA_pg 21 rfl rfl (by decide) rfl (by kernel_rfl) rfl (fun _ => y_indexAddr ti49 ti55 (congrArg (Value.slice · _ _) e3) rfl (by omega) (by omega)) hS (by decide) fun hS => ?_
            refine DA_pg 22 rfl rfl (by decide) rfl (by kernel_rfl) rfl (fun _ => y_fieldAddr ti55 rfl ti32 rfl rfl) hS (by decide) fun hS => ?_
            refine DA_yg 23 rfl rfl (by decide) rfl (by kernel_rfl) rfl (by kernel_rfl) (fun w' h => y_loadA (cs := [.int .u64 y.intent.ts, .int .u64 y.intent.txn, .bool y.intent.dead, ya, yb]) ti32 rfl rfl ((hCy h).take 2 rfl) rfl) hS (by decide) fun hS => ?_
            refine DA_oneg 24 (by kernel_rfl) rfl rfl (by decide) rfl (op_call 15 en15 rfl [.agg #[.int .u64 x.intent.ts, .int .u64 x.intent.txn, .bool x.intent.dead, xa, xb], .agg #[.int .u64 y.intent.ts, .int .u64 y.intent.txn, .bool y.intent.dead, ya, yb]] rfl (by decide) ((f15_calls (tVer.keeps hxi (H.keepsAll 0 rfl _)) (tVer.keeps hyi (H.keepsAll 0 rfl _))).mono ?_))
            rintro e w6_24 ⟨rfl, hE15⟩
            refine ⟨_, rfl, fun _ => H.ext0 hE15, ?_⟩
            have H := H.ext0 hE15
            rw [decide_eq_true hi]
            have hS : ∀ {ls : Array Bool}, Sx [] (fun w' => Holds w' [shr (fun k => k < w.heap.size) w]) ls w6_24 := fun {_} _ => H
            refine DA_pg (v := .bool false) 25 rfl rfl (by decide) rfl (by kernel_rfl) rfl (fun _ => y_not (b := true) rfl) hS (by decide) fun hS => ?_
            refine DA_p 26 rfl (by kernel_rfl) rfl (fun _ => y_pick (b := false) (v := .bool false) rfl rfl) hS (by decide) fun hS => ?_
            refine DA_p (v := .bool false) 27 rfl (by kernel_rfl) rfl (fun _ => y_move rfl) hS (by decide) fun hS => ?_
            refine DA_pg 28 rfl rfl (by decide) rfl (by kernel_rfl) rfl (fun _ => y_move h0) hS (by decide) fun hS => ?_
            refine DA_pg 29 rfl rfl (by decide) rfl (by kernel_rfl) rfl (fun _ => y_move rfl) hS (by decide) fun hS => ?_
            refine DA_pg 30 rfl rfl (by decide) rfl (by kernel_rfl) rfl (fun _ => y_indexAddr ti49 ti55 (congrArg (Value.slice · _ _) e2) rfl (by omega) (by omega)) hS (by decide) fun hS => ?_
            refine DA_pg 31 rfl rfl (by decide) rfl (by kernel_rfl) rfl (fun _ => y_fieldAddr ti55 rfl ti53 rfl rfl) hS (by decide) fun hS => ?_
            refine DA_yg 32 rfl rfl (by decide) rfl (by kernel_rfl) rfl (by kernel_rfl) (fun w' h => y_loadS (v := .slice ax x.vers.length cx) ti53 rfl rfl ((hCx h).take 1 rfl)) hS (by decide) fun hS => ?_
            refine DA_pg 33 rfl rfl (by decide) rfl (by kernel_rfl) rfl (fun _ => y_len rfl ti53 rfl) hS (by decide) fun hS => ?_
            refine DA_pg 34 rfl rfl (by decide) rfl (by kernel_rfl) rfl (fun _ => y_move h1) hS (by decide) fun hS => ?_
            refine DA_pg 35 rfl rfl (by decide) rfl (by kernel_rfl) rfl (fun _ => y_move rfl) hS (by decide) fun hS => ?_
            refine DA_pg 36 rfl rfl (by decide) rfl (by kernel_rfl) rfl (fun _ => y_indexAddr ti49 ti55 (congrArg (Value.slice · _ _) e3) rfl (by omega) (by omega)) hS (by decide) fun hS => ?_
            refine DA_pg 37 rfl rfl (by decide) rfl (by kernel_rfl) rfl (fun _ => y_fieldAddr ti55 rfl ti53 rfl rfl) hS (by decide) fun hS => ?_
            refine DA_yg 38 rfl rfl (by decide) rfl (by kernel_rfl) rfl (by kernel_rfl) (fun w' h => y_loadS (v := .slice ay y.vers.length cy) ti53 rfl rfl ((hCy h).take 1 rfl)) hS (by decide) fun hS => ?_
            refine DA_pg 39 rfl rfl (by decide) rfl (by kernel_rfl) rfl (fun _ => y_len rfl ti53 rfl) hS (by decide) fun hS => ?_
            refine DA_pg (v := .bool false) 40 rfl rfl (by decide) rfl (by kernel_rfl) rfl (fun _ => y_neqF hl rfl rfl) hS (by decide) fun hS => ?_
            refine DA_p 41 rfl (by kernel_rfl) rfl (fun _ => y_pick (b := false) (v := .bool false) rfl rfl) hS (by decide) fun hS => ?_
            refine DA_done (by kernel_rfl) ?_
            refine W_condf rfl ?_
            refine W_skip ?_
            refine W_seq ?_
            refine W_region ?_
            refine OL_y (y_move h0) (by decide) ?_
            refine OL_y (y_move rfl) (by decide) ?_
            refine OL_y (y_indexAddr ti49 ti55 (congrArg (Value.slice · _ _) e2) rfl (by omega) (by omega)) (by decide) ?_
            refine OL_y (y_fieldAddr ti55 rfl ti53 rfl rfl) (by decide) ?_
            refine OL_y (y_loadS (v := .slice ax x.vers.length cx) ti53 rfl rfl ((hCx H).take 1 rfl)) (by decide) ?_
            refine OL_y (y_len rfl ti53 rfl) (by decide) ?_
            refine OL_y (y_move rfl) (by decide) ?_
            refine OL_nil ?_
            refine W_range (N := x.vers.length) (by omega) (fun k f ds w' => f 0 = .slice a0 xs.length c0 ∧ f 1 = .slice a1 ys.length c1 ∧ f 5 = .int .i64 (j : Nat) ∧ f 13 = .int .i64 (xs.length : Nat) ∧ f 14 = .int .i64 (j : Nat) ∧ ds = [] ∧ x.vers.take k = y.vers.take k ∧ Holds w' [shr (fun k => k < w.heap.size) w])
                ⟨h0, h1, rfl, htn, hti, rfl, by simp, H⟩
                rfl rfl (by decide) (by decide) (by decide) rfl rfl ?_ rfl rfl ?_
            · rintro k f ds w9 hk2 ⟨h0, h1, h5, h13, h14, rfl, heq2, H⟩ htk2 htn2
              have hxk2 := List.getElem?_eq_getElem hk2
              have hyk2 : y.vers[k]? = some (y.vers[k]'(by omega)) := List.getElem?_eq_getElem (by omega)
              obtain ⟨b4, o4, cs4, e4, hz4, hc4, hr4⟩ := hxv.at hxk2
              obtain ⟨b5, o5, cs5, e5, hz5, hc5, hr5⟩ := hyv.at hyk2
              have htx2 : x.vers.take (k + 1) = x.vers.take k ++ [x.vers[k]] := by rw [List.take_add_one, hxk2]; rfl
              have hty2 : y.vers.take (k + 1) = y.vers.take k ++ [y.vers[k]'(by omega)] := by rw [List.take_add_one, hyk2]; rfl
              generalize x.vers[k] = u at *
              generalize y.vers[k]'(by omega) = v at *
              refine W_block ?_
              refine W_seq ?_
              refine W_region ?_
              refine OL_y (y_move htk2) (by decide) ?_
              refine OL_y (y_assign rfl) (by decide) ?_
              refine OL_nil ?_
              refine W_seq ?_
              refine W_drawD H mixed (by kernel_rfl) [] (fun wq w' => Holds w' [shr (fun k => k < w.heap.size) w]) fun wd11 H hEd => ?_
              have hS : ∀ {ls : Array Bool}, Sx [] (fun w' => Holds w' [shr (fun k => k < w.heap.size) w]) ls wd11 := fun {_} _ => H
              refine DA_p 0 rfl (by kernel_rfl) rfl (fun _ => y_move h0) hS (by decide) fun hS => ?_
              refine DA_p 1 rfl (by kernel_rfl) rfl (fun _ => y_move h5) hS (by decide) fun hS => ?_
              refine DA_p 2 rfl (by kernel_rfl) rfl (fun _ => y_indexAddr ti49 ti55 (congrArg (Value.slice · _ _) e2) rfl (by omega) (by omega)) hS (by decide) fun hS => ?_
              refine DA_p 3 rfl (by kernel_rfl) rfl (fun _ => y_fieldAddr ti55 rfl ti53 rfl rfl) hS (by decide) fun hS => ?_
              refine DA_y 4 rfl (by kernel_rfl) rfl (by kernel_rfl) (fun w' h => y_loadS (v := .slice ax x.vers.length cx) ti53 rfl rfl ((hCx h).take 1 rfl)) hS (by decide) fun hS => ?_
              refine DA_p 5 rfl (by kernel_rfl) rfl (fun _ => y_move rfl) hS (by decide) fun hS => ?_
              refine DA_p 6 rfl (by kernel_rfl) rfl (fun _ => y_indexAddr ti53 ti32 (congrArg (Value.slice · _ _) e4) rfl (by omega) (by omega)) hS (by decide) fun hS => ?_
              refine DA_y 7 rfl (by kernel_rfl) rfl (by kernel_rfl) (fun w' h => y_loadA (cs := cs4) ti32 rfl rfl (hc4.ext ((h.keepsAll 0 rfl Z).2 _ hz4 hc4.lt)) (tVer.len hr4).symm) hS (by decide) fun hS => ?_
              refine DA_p 8 rfl (by kernel_rfl) rfl (fun _ => y_move h1) hS (by decide) fun hS => ?_
              refine DA_p 9 rfl (by kernel_rfl) rfl (fun _ => y_move h5) hS (by decide) fun hS => ?_
              refine DA_p 10 rfl (by kernel_rfl) rfl (fun _ => y_indexAddr ti49 ti55 (congrArg (Value.slice · _ _) e3) rfl (by omega) (by omega)) hS (by decide) fun hS => ?_
              refine DA_p 11 rfl (by kernel_rfl) rfl (fun _ => y_fieldAddr ti55 rfl ti53 rfl rfl) hS (by decide) fun hS => ?_
              refine DA_y 12 rfl (by kernel_rfl) rfl (by kernel_rfl) (fun w' h => y_loadS (v := .slice ay y.vers.length cy) ti53 rfl rfl ((hCy h).take 1 rfl)) hS (by decide) fun hS => ?_
              refine DA_p 13 rfl (by kernel_rfl) rfl (fun _ => y_move rfl) hS (by decide) fun hS => ?_
              refine DA_p 14 rfl (by kernel_rfl) rfl (fun _ => y_indexAddr ti53 ti32 (congrArg (Value.slice · _ _) e5) rfl (by omega) (by omega)) hS (by decide) fun hS => ?_
              refine DA_y 15 rfl (by kernel_rfl) rfl (by kernel_rfl) (fun w' h => y_loadA (cs := cs5) ti32 rfl rfl (hc5.ext ((h.keepsAll 0 rfl Z').2 _ hz5 hc5.lt)) (tVer.len hr5).symm) hS (by decide) fun hS => ?_
              refine DA_one 16 (by kernel_rfl) rfl (op_call 15 en15 rfl [.agg cs4.toArray, .agg cs5.toArray] rfl (by decide) ((f15_calls (tVer.keeps hr4 (H.keepsAll 0 rfl _)) (tVer.keeps hr5 (H.keepsAll 0 rfl _))).mono ?_))
              rintro e w11_16 ⟨rfl, hE15⟩
              refine ⟨_, rfl, fun _ => H.ext0 hE15, ?_⟩
              have H := H.ext0 hE15
              have hS : ∀ {ls : Array Bool}, Sx [] (fun w' => Holds w' [shr (fun k => k < w.heap.size) w]) ls w11_16 := fun {_} _ => H
              refine DA_p 17 rfl (by kernel_rfl) rfl (fun _ => y_not rfl) hS (by decide) fun hS => ?_
              refine DA_done (by kernel_rfl) ?_
              refine W_cond rfl (fun hc => ?_) (fun hc => ?_)
              · refine W_seq ?_
                refine W_region ?_
                refine OL_y (v := .bool false) (y_assign rfl) (by decide) ?_
                refine OL_nil ?_
                refine W_ret ?_
                show RetOK _ _ _ _ _ _
                have hne : ¬ u = v := by simpa using hc
                refine ret1 (v := .bool false) Try.results24 rfl ⟨?_, H.ext_of 0 rfl⟩
                rw [decide_eq_false]; intro h; subst h
                rw [hxj] at hyj; injection hyj with hyj
                subst hyj
                rw [hxk2] at hyk2; injection hyk2 with hyk2; exact hne hyk2
              · refine W_skip ?_
                have hee : u = v := by simpa using hc
                exact ⟨htk2, htn2, h0, h1, h5, h13, h14, rfl, by rw [htx2, hty2, heq2, hee], H⟩
            · rintro f ds w9 ⟨h0, h1, h5, h13, h14, rfl, heq2, H⟩ htk2 htn2
              rw [List.take_length, show x.vers.length = y.vers.length by omega, List.take_length] at heq2
              have hkk : x.key = y.key := kb_inj hxk.allIn hyk.allIn hk
              have hxy : x = y := by obtain ⟨q1, q2, q3⟩ := x; obtain ⟨q4, q5, q6⟩ := y; simp only at hkk hi heq2; rw [hkk, hi, heq2]
              exact ⟨h14, h13, h0, h1, rfl, by rw [htx, hty, heq, hxy], H⟩
          · refine W_drawD H mixed (by kernel_rfl) [] (fun wq w' => Holds w' [shr (fun k => k < w.heap.size) w]) fun wd6 H hEd => ?_
            have hS : ∀ {ls : Array Bool}, Sx [] (fun w' => Holds w' [shr (fun k => k < w.heap.size) w]) ls wd6 := fun {_} _ => H
            refine DA_p 0 rfl (by kernel_rfl) rfl (fun _ => y_move h0) hS (by decide) fun hS => ?_
            refine DA_p 1 rfl (by kernel_rfl) rfl (fun _ => y_move rfl) hS (by decide) fun hS => ?_
            refine DA_p 2 rfl (by kernel_rfl) rfl (fun _ => y_indexAddr ti49 ti55 (congrArg (Value.slice · _ _) e2) rfl (by omega) (by omega)) hS (by decide) fun hS => ?_
            refine DA_p 3 rfl (by kernel_rfl) rfl (fun _ => y_fieldAddr ti55 rfl ti23 rfl rfl) hS (by decide) fun hS => ?_
            refine DA_y 4 rfl (by kernel_rfl) rfl (by kernel_rfl) (fun w' h => y_loadS (v := xk) ti23 rfl rfl ((hCx h).take 0 rfl)) hS (by decide) fun hS => ?_
            refine DA_y 5 rfl (by kernel_rfl) rfl (by kernel_rfl) (fun w' h => y_toStr (w := w') Try.underlying23 Try.underlying5 Try.underlying9 rfl (hxk.keeps (h.keepsAll 0 rfl _))) hS (by decide) fun hS => ?_
            refine DA_p 6 rfl (by kernel_rfl) rfl (fun _ => y_move h1) hS (by decide) fun hS => ?_
            refine DA_p 7 rfl (by kernel_rfl) rfl (fun _ => y_move rfl) hS (by decide) fun hS => ?_
            refine DA_p 8 rfl (by kernel_rfl) rfl (fun _ => y_indexAddr ti49 ti55 (congrArg (Value.slice · _ _) e3) rfl (by omega) (by omega)) hS (by decide) fun hS => ?_
            refine DA_p 9 rfl (by kernel_rfl) rfl (fun _ => y_fieldAddr ti55 rfl ti23 rfl rfl) hS (by decide) fun hS => ?_
            refine DA_y 10 rfl (by kernel_rfl) rfl (by kernel_rfl) (fun w' h => y_loadS (v := yk) ti23 rfl rfl ((hCy h).take 0 rfl)) hS (by decide) fun hS => ?_
            refine DA_y 11 rfl (by kernel_rfl) rfl (by kernel_rfl) (fun w' h => y_toStr (w := w') Try.underlying23 Try.underlying5 Try.underlying9 rfl (hyk.keeps (h.keepsAll 0 rfl _))) hS (by decide) fun hS => ?_
            refine DA_p (v := .bool false) 12 rfl (by kernel_rfl) rfl (fun _ => y_neqSF hk rfl rfl) hS (by decide) fun hS => ?_
            refine DA_p (v := .bool false) 13 rfl (by kernel_rfl) rfl (fun _ => y_move rfl) hS (by decide) fun hS => ?_
            refine DA_pg 14 rfl rfl (by decide) rfl (by kernel_rfl) rfl (fun _ => y_move h0) hS (by decide) fun hS => ?_
            refine DA_pg 15 rfl rfl (by decide) rfl (by kernel_rfl) rfl (fun _ => y_move rfl) hS (by decide) fun hS => ?_
            refine DA_pg 16 rfl rfl (by decide) rfl (by kernel_rfl) rfl (fun _ => y_indexAddr ti49 ti55 (congrArg (Value.slice · _ _) e2) rfl (by omega) (by omega)) hS (by decide) fun hS => ?_
            refine DA_pg 17 rfl rfl (by decide) rfl (by kernel_rfl) rfl (fun _ => y_fieldAddr ti55 rfl ti32 rfl rfl) hS (by decide) fun hS => ?_
            refine DA_yg 18 rfl rfl (by decide) rfl (by kernel_rfl) rfl (by kernel_rfl) (fun w' h => y_loadA (cs := [.int .u64 x.intent.ts, .int .u64 x.intent.txn, .bool x.intent.dead, xa, xb]) ti32 rfl rfl ((hCx h).take 2 rfl) rfl) hS (by decide) fun hS => ?_
            refine DA_pg 19 rfl rfl (by decide) rfl (by kernel_rfl) rfl (fun _ => y_move h1) hS (by decide) fun hS => ?_
            refine DA_pg 20 rfl rfl (by decide) rfl (by kernel_rfl) rfl (fun _ => y_move rfl) hS (by decide) fun hS => ?_
            refine DA_pg 21 rfl rfl (by decide) rfl (by kernel_rfl) rfl (fun _ => y_indexAddr ti49 ti55 (congrArg (Value.slice · _ _) e3) rfl (by omega) (by omega)) hS (by decide) fun hS => ?_
            refine DA_pg 22 rfl rfl (by decide) rfl (by kernel_rfl) rfl (fun _ => y_fieldAddr ti55 rfl ti32 rfl rfl) hS (by decide) fun hS => ?_
            refine DA_yg 23 rfl rfl (by decide) rfl (by kernel_rfl) rfl (by kernel_rfl) (fun w' h => y_loadA (cs := [.int .u64 y.intent.ts, .int .u64 y.intent.txn, .bool y.intent.dead, ya, yb]) ti32 rfl rfl ((hCy h).take 2 rfl) rfl) hS (by decide) fun hS => ?_
            refine DA_oneg 24 (by kernel_rfl) rfl rfl (by decide) rfl (op_call 15 en15 rfl [.agg #[.int .u64 x.intent.ts, .int .u64 x.intent.txn, .bool x.intent.dead, xa, xb], .agg #[.int .u64 y.intent.ts, .int .u64 y.intent.txn, .bool y.intent.dead, ya, yb]] rfl (by decide) ((f15_calls (tVer.keeps hxi (H.keepsAll 0 rfl _)) (tVer.keeps hyi (H.keepsAll 0 rfl _))).mono ?_))
            rintro e w6_24 ⟨rfl, hE15⟩
            refine ⟨_, rfl, fun _ => H.ext0 hE15, ?_⟩
            have H := H.ext0 hE15
            rw [decide_eq_true hi]
            have hS : ∀ {ls : Array Bool}, Sx [] (fun w' => Holds w' [shr (fun k => k < w.heap.size) w]) ls w6_24 := fun {_} _ => H
            refine DA_pg (v := .bool false) 25 rfl rfl (by decide) rfl (by kernel_rfl) rfl (fun _ => y_not (b := true) rfl) hS (by decide) fun hS => ?_
            refine DA_p 26 rfl (by kernel_rfl) rfl (fun _ => y_pick (b := false) (v := .bool false) rfl rfl) hS (by decide) fun hS => ?_
            refine DA_p (v := .bool false) 27 rfl (by kernel_rfl) rfl (fun _ => y_move rfl) hS (by decide) fun hS => ?_
            refine DA_pg 28 rfl rfl (by decide) rfl (by kernel_rfl) rfl (fun _ => y_move h0) hS (by decide) fun hS => ?_
            refine DA_pg 29 rfl rfl (by decide) rfl (by kernel_rfl) rfl (fun _ => y_move rfl) hS (by decide) fun hS => ?_
            refine DA_pg 30 rfl rfl (by decide) rfl (by kernel_rfl) rfl (fun _ => y_indexAddr ti49 ti55 (congrArg (Value.slice · _ _) e2) rfl (by omega) (by omega)) hS (by decide) fun hS => ?_
            refine DA_pg 31 rfl rfl (by decide) rfl (by kernel_rfl) rfl (fun _ => y_fieldAddr ti55 rfl ti53 rfl rfl) hS (by decide) fun hS => ?_
            refine DA_yg 32 rfl rfl (by decide) rfl (by kernel_rfl) rfl (by kernel_rfl) (fun w' h => y_loadS (v := .slice ax x.vers.length cx) ti53 rfl rfl ((hCx h).take 1 rfl)) hS (by decide) fun hS => ?_
            refine DA_pg 33 rfl rfl (by decide) rfl (by kernel_rfl) rfl (fun _ => y_len rfl ti53 rfl) hS (by decide) fun hS => ?_
            refine DA_pg 34 rfl rfl (by decide) rfl (by kernel_rfl) rfl (fun _ => y_move h1) hS (by decide) fun hS => ?_
            refine DA_pg 35 rfl rfl (by decide) rfl (by kernel_rfl) rfl (fun _ => y_move rfl) hS (by decide) fun hS => ?_
            refine DA_pg 36 rfl rfl (by decide) rfl (by kernel_rfl) rfl (fun _ => y_indexAddr ti49 ti55 (congrArg (Value.slice · _ _) e3) rfl (by omega) (by omega)) hS (by decide) fun hS => ?_
            refine DA_pg 37 rfl rfl (by decide) rfl (by kernel_rfl) rfl (fun _ => y_fieldAddr ti55 rfl ti53 rfl rfl) hS (by decide) fun hS => ?_
            refine DA_yg 38 rfl rfl (by decide) rfl (by kernel_rfl) rfl (by kernel_rfl) (fun w' h => y_loadS (v := .slice ay y.vers.length cy) ti53 rfl rfl ((hCy h).take 1 rfl)) hS (by decide) fun hS => ?_
            refine DA_pg 39 rfl rfl (by decide) rfl (by kernel_rfl) rfl (fun _ => y_len rfl ti53 rfl) hS (by decide) fun hS => ?_
            refine DA_pg (v := .bool true) 40 rfl rfl (by decide) rfl (by kernel_rfl) rfl (fun _ => y_neqT hl rfl rfl) hS (by decide) fun hS => ?_
            refine DA_p 41 rfl (by kernel_rfl) rfl (fun _ => y_pick (b := false) (v := .bool true) rfl rfl) hS (by decide) fun hS => ?_
            refine DA_done (by kernel_rfl) ?_
            refine W_condt rfl ?_
            refine W_seq ?_
            refine W_region ?_
            refine OL_y (v := .bool false) (y_assign rfl) (by decide) ?_
            refine OL_nil ?_
            refine W_ret ?_
            show RetOK _ _ _ _ _ _
            refine ret1 (v := .bool false) Try.results24 rfl ⟨?_, H.ext_of 0 rfl⟩
            rw [decide_eq_false]; intro h; subst h
            rw [hxj] at hyj; injection hyj with hyj; exact hl (by rw [hyj])
        · refine W_drawD H mixed (by kernel_rfl) [] (fun wq w' => Holds w' [shr (fun k => k < w.heap.size) w]) fun wd6 H hEd => ?_
          have hS : ∀ {ls : Array Bool}, Sx [] (fun w' => Holds w' [shr (fun k => k < w.heap.size) w]) ls wd6 := fun {_} _ => H
          refine DA_p 0 rfl (by kernel_rfl) rfl (fun _ => y_move h0) hS (by decide) fun hS => ?_
          refine DA_p 1 rfl (by kernel_rfl) rfl (fun _ => y_move rfl) hS (by decide) fun hS => ?_
          refine DA_p 2 rfl (by kernel_rfl) rfl (fun _ => y_indexAddr ti49 ti55 (congrArg (Value.slice · _ _) e2) rfl (by omega) (by omega)) hS (by decide) fun hS => ?_
          refine DA_p 3 rfl (by kernel_rfl) rfl (fun _ => y_fieldAddr ti55 rfl ti23 rfl rfl) hS (by decide) fun hS => ?_
          refine DA_y 4 rfl (by kernel_rfl) rfl (by kernel_rfl) (fun w' h => y_loadS (v := xk) ti23 rfl rfl ((hCx h).take 0 rfl)) hS (by decide) fun hS => ?_
          refine DA_y 5 rfl (by kernel_rfl) rfl (by kernel_rfl) (fun w' h => y_toStr (w := w') Try.underlying23 Try.underlying5 Try.underlying9 rfl (hxk.keeps (h.keepsAll 0 rfl _))) hS (by decide) fun hS => ?_
          refine DA_p 6 rfl (by kernel_rfl) rfl (fun _ => y_move h1) hS (by decide) fun hS => ?_
          refine DA_p 7 rfl (by kernel_rfl) rfl (fun _ => y_move rfl) hS (by decide) fun hS => ?_
          refine DA_p 8 rfl (by kernel_rfl) rfl (fun _ => y_indexAddr ti49 ti55 (congrArg (Value.slice · _ _) e3) rfl (by omega) (by omega)) hS (by decide) fun hS => ?_
          refine DA_p 9 rfl (by kernel_rfl) rfl (fun _ => y_fieldAddr ti55 rfl ti23 rfl rfl) hS (by decide) fun hS => ?_
          refine DA_y 10 rfl (by kernel_rfl) rfl (by kernel_rfl) (fun w' h => y_loadS (v := yk) ti23 rfl rfl ((hCy h).take 0 rfl)) hS (by decide) fun hS => ?_
          refine DA_y 11 rfl (by kernel_rfl) rfl (by kernel_rfl) (fun w' h => y_toStr (w := w') Try.underlying23 Try.underlying5 Try.underlying9 rfl (hyk.keeps (h.keepsAll 0 rfl _))) hS (by decide) fun hS => ?_
          refine DA_p (v := .bool false) 12 rfl (by kernel_rfl) rfl (fun _ => y_neqSF hk rfl rfl) hS (by decide) fun hS => ?_
          refine DA_p (v := .bool false) 13 rfl (by kernel_rfl) rfl (fun _ => y_move rfl) hS (by decide) fun hS => ?_
          refine DA_pg 14 rfl rfl (by decide) rfl (by kernel_rfl) rfl (fun _ => y_move h0) hS (by decide) fun hS => ?_
          refine DA_pg 15 rfl rfl (by decide) rfl (by kernel_rfl) rfl (fun _ => y_move rfl) hS (by decide) fun hS => ?_
          refine DA_pg 16 rfl rfl (by decide) rfl (by kernel_rfl) rfl (fun _ => y_indexAddr ti49 ti55 (congrArg (Value.slice · _ _) e2) rfl (by omega) (by omega)) hS (by decide) fun hS => ?_
          refine DA_pg 17 rfl rfl (by decide) rfl (by kernel_rfl) rfl (fun _ => y_fieldAddr ti55 rfl ti32 rfl rfl) hS (by decide) fun hS => ?_
          refine DA_yg 18 rfl rfl (by decide) rfl (by kernel_rfl) rfl (by kernel_rfl) (fun w' h => y_loadA (cs := [.int .u64 x.intent.ts, .int .u64 x.intent.txn, .bool x.intent.dead, xa, xb]) ti32 rfl rfl ((hCx h).take 2 rfl) rfl) hS (by decide) fun hS => ?_
          refine DA_pg 19 rfl rfl (by decide) rfl (by kernel_rfl) rfl (fun _ => y_move h1) hS (by decide) fun hS => ?_
          refine DA_pg 20 rfl rfl (by decide) rfl (by kernel_rfl) rfl (fun _ => y_move rfl) hS (by decide) fun hS => ?_
          refine DA_pg 21 rfl rfl (by decide) rfl (by kernel_rfl) rfl (fun _ => y_indexAddr ti49 ti55 (congrArg (Value.slice · _ _) e3) rfl (by omega) (by omega)) hS (by decide) fun hS => ?_
          refine DA_pg 22 rfl rfl (by decide) rfl (by kernel_rfl) rfl (fun _ => y_fieldAddr ti55 rfl ti32 rfl rfl) hS (by decide) fun hS => ?_
          refine DA_yg 23 rfl rfl (by decide) rfl (by kernel_rfl) rfl (by kernel_rfl) (fun w' h => y_loadA (cs := [.int .u64 y.intent.ts, .int .u64 y.intent.txn, .bool y.intent.dead, ya, yb]) ti32 rfl rfl ((hCy h).take 2 rfl) rfl) hS (by decide) fun hS => ?_
          refine DA_oneg 24 (by kernel_rfl) rfl rfl (by decide) rfl (op_call 15 en15 rfl [.agg #[.int .u64 x.intent.ts, .int .u64 x.intent.txn, .bool x.intent.dead, xa, xb], .agg #[.int .u64 y.intent.ts, .int .u64 y.intent.txn, .bool y.intent.dead, ya, yb]] rfl (by decide) ((f15_calls (tVer.keeps hxi (H.keepsAll 0 rfl _)) (tVer.keeps hyi (H.keepsAll 0 rfl _))).mono ?_))
          rintro e w6_24 ⟨rfl, hE15⟩
          refine ⟨_, rfl, fun _ => H.ext0 hE15, ?_⟩
          have H := H.ext0 hE15
          rw [decide_eq_false hi]
          have hS : ∀ {ls : Array Bool}, Sx [] (fun w' => Holds w' [shr (fun k => k < w.heap.size) w]) ls w6_24 := fun {_} _ => H
          refine DA_pg (v := .bool true) 25 rfl rfl (by decide) rfl (by kernel_rfl) rfl (fun _ => y_not (b := false) rfl) hS (by decide) fun hS => ?_
          refine DA_p 26 rfl (by kernel_rfl) rfl (fun _ => y_pick (b := false) (v := .bool true) rfl rfl) hS (by decide) fun hS => ?_
          refine DA_p (v := .bool true) 27 rfl (by kernel_rfl) rfl (fun _ => y_move rfl) hS (by decide) fun hS => ?_
          refine DA_s 28 rfl rfl (by decide) rfl rfl (by kernel_rfl) rfl hS (by simp) fun hS => ?_
          refine DA_s 29 rfl rfl (by decide) rfl rfl (by kernel_rfl) rfl hS (by simp) fun hS => ?_
          refine DA_s 30 rfl rfl (by decide) rfl rfl (by kernel_rfl) rfl hS (by simp) fun hS => ?_
          refine DA_s 31 rfl rfl (by decide) rfl rfl (by kernel_rfl) rfl hS (by simp) fun hS => ?_
          refine DA_s 32 rfl rfl (by decide) rfl rfl (by kernel_rfl) rfl hS (by simp) fun hS => ?_
          refine DA_s 33 rfl rfl (by decide) rfl rfl (by kernel_rfl) rfl hS (by simp) fun hS => ?_
          refine DA_s 34 rfl rfl (by decide) rfl rfl (by kernel_rfl) rfl hS (by simp) fun hS => ?_
          refine DA_s 35 rfl rfl (by decide) rfl rfl (by kernel_rfl) rfl hS (by simp) fun hS => ?_
          refine DA_s 36 rfl rfl (by decide) rfl rfl (by kernel_rfl) rfl hS (by simp) fun hS => ?_
          refine DA_s 37 rfl rfl (by decide) rfl rfl (by kernel_rfl) rfl hS (by simp) fun hS => ?_
          refine DA_s 38 rfl rfl (by decide) rfl rfl (by kernel_rfl) rfl hS (by simp) fun hS => ?_
          refine DA_s 39 rfl rfl (by decide) rfl rfl (by kernel_rfl) rfl hS (by simp) fun hS => ?_
          refine DA_s 40 rfl rfl (by decide) rfl rfl (by kernel_rfl) rfl hS (by simp) fun hS => ?_
          refine DA_p 41 rfl (by kernel_rfl) rfl (fun _ => y_pick (b := true) (v := .bool true) rfl rfl) hS (by decide) fun hS => ?_
          refine DA_done (by kernel_rfl) ?_
          refine W_condt rfl ?_
          refine W_seq ?_
          refine W_region ?_
          refine OL_y (v := .bool false) (y_assign rfl) (by decide) ?_
          refine OL_nil ?_
          refine W_ret ?_
          show RetOK _ _ _ _ _ _
          refine ret1 (v := .bool false) Try.results24 rfl ⟨?_, H.ext_of 0 rfl⟩
          rw [decide_eq_false]; intro h; subst h
          rw [hxj] at hyj; injection hyj with hyj; exact hi (by rw [hyj])
      · refine W_drawD H mixed (by kernel_rfl) [] (fun wq w' => Holds w' [shr (fun k => k < w.heap.size) w]) fun wd6 H hEd => ?_
        have hS : ∀ {ls : Array Bool}, Sx [] (fun w' => Holds w' [shr (fun k => k < w.heap.size) w]) ls wd6 := fun {_} _ => H
        refine DA_p 0 rfl (by kernel_rfl) rfl (fun _ => y_move h0) hS (by decide) fun hS => ?_
        refine DA_p 1 rfl (by kernel_rfl) rfl (fun _ => y_move rfl) hS (by decide) fun hS => ?_
        refine DA_p 2 rfl (by kernel_rfl) rfl (fun _ => y_indexAddr ti49 ti55 (congrArg (Value.slice · _ _) e2) rfl (by omega) (by omega)) hS (by decide) fun hS => ?_
        refine DA_p 3 rfl (by kernel_rfl) rfl (fun _ => y_fieldAddr ti55 rfl ti23 rfl rfl) hS (by decide) fun hS => ?_
        refine DA_y 4 rfl (by kernel_rfl) rfl (by kernel_rfl) (fun w' h => y_loadS (v := xk) ti23 rfl rfl ((hCx h).take 0 rfl)) hS (by decide) fun hS => ?_
        refine DA_y 5 rfl (by kernel_rfl) rfl (by kernel_rfl) (fun w' h => y_toStr (w := w') Try.underlying23 Try.underlying5 Try.underlying9 rfl (hxk.keeps (h.keepsAll 0 rfl _))) hS (by decide) fun hS => ?_
        refine DA_p 6 rfl (by kernel_rfl) rfl (fun _ => y_move h1) hS (by decide) fun hS => ?_
        refine DA_p 7 rfl (by kernel_rfl) rfl (fun _ => y_move rfl) hS (by decide) fun hS => ?_
        refine DA_p 8 rfl (by kernel_rfl) rfl (fun _ => y_indexAddr ti49 ti55 (congrArg (Value.slice · _ _) e3) rfl (by omega) (by omega)) hS (by decide) fun hS => ?_
        refine DA_p 9 rfl (by kernel_rfl) rfl (fun _ => y_fieldAddr ti55 rfl ti23 rfl rfl) hS (by decide) fun hS => ?_
        refine DA_y 10 rfl (by kernel_rfl) rfl (by kernel_rfl) (fun w' h => y_loadS (v := yk) ti23 rfl rfl ((hCy h).take 0 rfl)) hS (by decide) fun hS => ?_
        refine DA_y 11 rfl (by kernel_rfl) rfl (by kernel_rfl) (fun w' h => y_toStr (w := w') Try.underlying23 Try.underlying5 Try.underlying9 rfl (hyk.keeps (h.keepsAll 0 rfl _))) hS (by decide) fun hS => ?_
        refine DA_p (v := .bool true) 12 rfl (by kernel_rfl) rfl (fun _ => y_neqST hk rfl rfl) hS (by decide) fun hS => ?_
        refine DA_p (v := .bool true) 13 rfl (by kernel_rfl) rfl (fun _ => y_move rfl) hS (by decide) fun hS => ?_
        refine DA_s 14 rfl rfl (by decide) rfl rfl (by kernel_rfl) rfl hS (by simp) fun hS => ?_
        refine DA_s 15 rfl rfl (by decide) rfl rfl (by kernel_rfl) rfl hS (by simp) fun hS => ?_
        refine DA_s 16 rfl rfl (by decide) rfl rfl (by kernel_rfl) rfl hS (by simp) fun hS => ?_
        refine DA_s 17 rfl rfl (by decide) rfl rfl (by kernel_rfl) rfl hS (by simp) fun hS => ?_
        refine DA_s 18 rfl rfl (by decide) rfl rfl (by kernel_rfl) rfl hS (by simp) fun hS => ?_
        refine DA_s 19 rfl rfl (by decide) rfl rfl (by kernel_rfl) rfl hS (by simp) fun hS => ?_
        refine DA_s 20 rfl rfl (by decide) rfl rfl (by kernel_rfl) rfl hS (by simp) fun hS => ?_
        refine DA_s 21 rfl rfl (by decide) rfl rfl (by kernel_rfl) rfl hS (by simp) fun hS => ?_
        refine DA_s 22 rfl rfl (by decide) rfl rfl (by kernel_rfl) rfl hS (by simp) fun hS => ?_
        refine DA_s 23 rfl rfl (by decide) rfl rfl (by kernel_rfl) rfl hS (by simp) fun hS => ?_
        refine DA_s 24 rfl rfl (by decide) rfl rfl (by kernel_rfl) rfl hS (by simp) fun hS => ?_
        refine DA_s 25 rfl rfl (by decide) rfl rfl (by kernel_rfl) rfl hS (by simp) fun hS => ?_
        refine DA_p 26 rfl (by kernel_rfl) rfl (fun _ => y_pick (b := true) (v := .bool true) rfl rfl) hS (by decide) fun hS => ?_
        refine DA_p (v := .bool true) 27 rfl (by kernel_rfl) rfl (fun _ => y_move rfl) hS (by decide) fun hS => ?_
        refine DA_s 28 rfl rfl (by decide) rfl rfl (by kernel_rfl) rfl hS (by simp) fun hS => ?_
        refine DA_s 29 rfl rfl (by decide) rfl rfl (by kernel_rfl) rfl hS (by simp) fun hS => ?_
        refine DA_s 30 rfl rfl (by decide) rfl rfl (by kernel_rfl) rfl hS (by simp) fun hS => ?_
        refine DA_s 31 rfl rfl (by decide) rfl rfl (by kernel_rfl) rfl hS (by simp) fun hS => ?_
        refine DA_s 32 rfl rfl (by decide) rfl rfl (by kernel_rfl) rfl hS (by simp) fun hS => ?_
        refine DA_s 33 rfl rfl (by decide) rfl rfl (by kernel_rfl) rfl hS (by simp) fun hS => ?_
        refine DA_s 34 rfl rfl (by decide) rfl rfl (by kernel_rfl) rfl hS (by simp) fun hS => ?_
        refine DA_s 35 rfl rfl (by decide) rfl rfl (by kernel_rfl) rfl hS (by simp) fun hS => ?_
        refine DA_s 36 rfl rfl (by decide) rfl rfl (by kernel_rfl) rfl hS (by simp) fun hS => ?_
        refine DA_s 37 rfl rfl (by decide) rfl rfl (by kernel_rfl) rfl hS (by simp) fun hS => ?_
        refine DA_s 38 rfl rfl (by decide) rfl rfl (by kernel_rfl) rfl hS (by simp) fun hS => ?_
        refine DA_s 39 rfl rfl (by decide) rfl rfl (by kernel_rfl) rfl hS (by simp) fun hS => ?_
        refine DA_s 40 rfl rfl (by decide) rfl rfl (by kernel_rfl) rfl hS (by simp) fun hS => ?_
        refine DA_p 41 rfl (by kernel_rfl) rfl (fun _ => y_pick (b := true) (v := .bool true) rfl rfl) hS (by decide) fun hS => ?_
        refine DA_done (by kernel_rfl) ?_
        refine W_condt rfl ?_
        refine W_seq ?_
        refine W_region ?_
        refine OL_y (v := .bool false) (y_assign rfl) (by decide) ?_
        refine OL_nil ?_
        refine W_ret ?_
        show RetOK _ _ _ _ _ _
        refine ret1 (v := .bool false) Try.results24 rfl ⟨?_, H.ext_of 0 rfl⟩
        rw [decide_eq_false]; intro h; subst h
        rw [hxj] at hyj; injection hyj with hyj; exact hk (by rw [hyj])
    · rintro f ds w2 ⟨h0, h1, rfl, heq, H⟩ hti htn
      rw [List.take_length, hlen, List.take_length] at heq
      refine W_seq ?_
      refine W_region ?_
      refine OL_y (v := .bool true) (y_assign rfl) (by decide) ?_
      refine OL_nil ?_
      refine W_ret ?_
      show RetOK _ _ _ _ _ _
      exact ret1 (v := .bool true) Try.results24 rfl ⟨by rw [decide_eq_true heq], H.ext_of 0 rfl⟩
end Go.Proofs.Ytpandioolpnihaa

/- The law MvccDoes: whatever is done with both stores, both have the same. -/
namespace Go.Proofs.Ytpandioolpnihaa
open Go Go.Wk
set_option linter.unusedVariables false
set_option linter.unusedSimpArgs false

theorem scan_unique {a : Abs} {lo hi : Key} {ts : Int} {ks ks' : List ByteArray} (h : ScanOf a lo hi ts ks) (h' : ScanOf a lo hi ts ks') : ks = ks' := rise_unique bLt_irrefl bLt_trans h.rise h'.rise fun k => by rw [h.mem k, h'.mem k]

set_option maxHeartbeats 16000000 in
theorem f6_calls {Z : Nat → Prop} {w : World} {vl vlo vhi : Value} {l : List Stp} {lo hi : Key} {ts : Int} (hl : SlR tStp 112 Z w vl l) (hlo : SlR (tInt .u8) 1 Z w vlo lo) (hhi : SlR (tInt .u8) 1 Z w vhi hi) (hts : InK .u64 ts) :
    Calls Try.prog 6 [vl, vlo, vhi, .int .u64 ts].toArray w fun e w' => e = .returned (.bool true) ∧ Ext none' w w' := by
  have H := Holds.start w
  have hl := hl.mono (Z' := fun k => k < w.heap.size) fun k h _ => h
  obtain ⟨a1, c1, rfl, hl1, hm1⟩ := hlo.len
  obtain ⟨a2, c2, rfl, hl2, hm2⟩ := hhi.len
  refine calls_of_W' Try.func6 rfl Try.ntmps6 rfl ?_
  refine W_seq ?_
  refine W_region ?_
  refine OL_y (v := .bool false) (y_assign rfl) (by decide) ?_
  refine OL_nil ?_
  refine W_seq ?_
  refine W_seq ?_
  refine W_region ?_
  refine OL_c (op_call 11 en11 rfl [] rfl (by decide) ((f11_calls).mono ?_))
  rintro e w1_0 ⟨rfl, hE11⟩
  refine ⟨_, rfl, ?_⟩
  have H := H.ext0 hE11
  refine OL_y (y_not (b := true) rfl) (by decide) ?_
  refine OL_nil ?_
  refine W_condf rfl ?_
  refine W_skip ?_
  refine W_seq ?_
  refine W_seq ?_
  by_cases hp : (50 : Int) < (lo.length : Nat)
  · refine W_region ?_
    refine OL_y (y_move rfl) (by decide) ?_
    refine OL_y (y_len rfl ti23 rfl) (by decide) ?_
    refine OL_y (v := .bool true) (y_gtrT hp rfl rfl) (by decide) ?_
    refine OL_y (v := .bool true) (y_move rfl) (by decide) ?_
    refine OL_s rfl (by decide) rfl rfl (by simp) ?_
    refine OL_s rfl (by decide) rfl rfl (by simp) ?_
    refine OL_s rfl (by decide) rfl rfl (by simp) ?_
    refine OL_y (y_pick (b := true) (v := .bool true) rfl rfl) (by decide) ?_
    refine OL_nil ?_
    refine W_condt rfl ?_
    refine W_seq ?_
    refine W_region ?_
    refine OL_y (v := .bool true) (y_assign rfl) (by decide) ?_
    refine OL_nil ?_
    refine W_ret ?_
    show RetOK _ _ _ _ _ _
    exact ret1 (v := .bool true) Try.results6 rfl ⟨rfl, H.ext_of 0 rfl⟩
  · refine W_region ?_
    refine OL_y (y_move rfl) (by decide) ?_
    refine OL_y (y_len rfl ti23 rfl) (by decide) ?_
    refine OL_y (v := .bool false) (y_gtrF hp rfl rfl) (by decide) ?_
    refine OL_y (v := .bool false) (y_move rfl) (by decide) ?_
    refine OL_yg rfl (by decide) rfl (y_move rfl) (by decide) ?_
    refine OL_yg rfl (by decide) rfl (y_len rfl ti23 rfl) (by decide) ?_
    refine OL_yg rfl (by decide) rfl (y_gtr rfl rfl) (by decide) ?_
    refine OL_y (y_pick (b := false) rfl rfl) (by decide) ?_
    refine OL_nil ?_
    refine W_cond rfl (fun hc => ?_) (fun hc => ?_)
    · refine W_seq ?_
      refine W_region ?_
      refine OL_y (v := .bool true) (y_assign rfl) (by decide) ?_
      refine OL_nil ?_
      refine W_ret ?_
      show RetOK _ _ _ _ _ _
      exact ret1 (v := .bool true) Try.results6 rfl ⟨rfl, H.ext_of 0 rfl⟩
    · refine W_skip ?_
      refine W_seq ?_
      refine W_region ?_
      refine OL_y (y_move rfl) (by decide) ?_
      refine OL_c (op_call 12 en12 rfl [vl] rfl (by decide) ((f12_calls H hl).mono ?_))
      rintro e w5_1 ⟨sb, g1, g2, rb, great, rfl, H, hB⟩
      refine ⟨_, rfl, ?_⟩
      refine OL_y (y_move rfl) (by decide) ?_
      refine OL_y (y_extract (v := .pointer (some ⟨sb, 0, none⟩)) rfl rfl) (by decide) ?_
      refine OL_y (y_extract (v := .pointer (some ⟨rb, 0, none⟩)) rfl rfl) (by decide) ?_
      refine OL_y (y_extract (v := .bool true) rfl rfl) (by decide) ?_
      refine OL_y (y_extract (v := .bool great) rfl rfl) (by decide) ?_
      refine OL_y (y_assign rfl) (by decide) ?_
      refine OL_y (y_assign rfl) (by decide) ?_
      refine OL_y (v := .bool true) (y_assign rfl) (by decide) ?_
      refine OL_y (y_assign rfl) (by decide) ?_
      refine OL_nil ?_
      refine W_seq ?_
      refine W_seq ?_
      rcases great with _ | _
      · refine W_region ?_
        refine OL_y (v := .bool false) (y_move rfl) (by decide) ?_
        refine OL_nil ?_
        refine W_condf rfl ?_
        refine W_skip ?_
        refine W_seq ?_
        obtain ⟨E, I, F, Wp, vR, R, F2, W2, a, hr, hrr, ha, hI, hE, hR, H⟩ := hB rfl
        refine W_region ?_
        refine OL_y (v := .bool true) (y_move rfl) (by decide) ?_
        refine OL_y (v := .bool true) (y_move rfl) (by decide) ?_
        refine OL_yg rfl (by decide) rfl (y_move rfl) (by decide) ?_
        refine OL_g rfl (by decide) rfl (op_call 25 en25 rfl [.pointer (some ⟨sb, 0, none⟩), .slice none 0 0, .slice none 0 0, .int .u64 18446744073709551615] rfl (by decide) ((f25_calls (Zl := fun _ => True) H hr ha (by omega) (by omega) (by omega) (SlR.nil _ _ _ _) (SlR.nil _ _ _ _)).mono ?_))
        rintro e w8_3 ⟨v34, ks, rfl, hks, hS34, hE34⟩
        refine ⟨_, rfl, ?_⟩
        have H := H.ext0 hE34
        refine OL_yg rfl (by decide) rfl (y_move rfl) (by decide) ?_
        refine OL_g rfl (by decide) rfl (op_call 26 en26 rfl [.pointer (some ⟨rb, 0, none⟩), .slice none 0 0, .slice none 0 0, .int .u64 18446744073709551615] rfl (by decide) ((f26_calls (Zl := fun _ => True) (refIn H) hrr (by omega) ha (by omega) (SlR.nil _ _ _ _) (SlR.nil _ _ _ _)).mono ?_))
        rintro e w8_5 ⟨v36, ks2, rfl, hks2, hS36, hE36⟩
        refine ⟨_, rfl, ?_⟩
        have H := H.ext0 hE36
        have hkk := scan_unique hks2 hks
        subst hkk
        refine OL_g rfl (by decide) rfl (op_call 24 en24 rfl [v34, v36] rfl (by decide) ((f24_calls (hS34.keeps hE36.keeps0) hS36).mono ?_))
        rintro e w8_6 ⟨rfl, hE37⟩
        refine ⟨_, rfl, ?_⟩
        have H := H.ext0 hE37
        rw [decide_eq_true rfl]
        refine OL_y (y_pick (b := true) (v := .bool true) rfl rfl) (by decide) ?_
        refine OL_y (v := .bool true) (y_move rfl) (by decide) ?_
        refine OL_yg rfl (by decide) rfl (y_move rfl) (by decide) ?_
        refine OL_yg rfl (by decide) rfl (y_move rfl) (by decide) ?_
        refine OL_yg rfl (by decide) rfl (y_move rfl) (by decide) ?_
        refine OL_yg rfl (by decide) rfl (y_move rfl) (by decide) ?_
        refine OL_g rfl (by decide) rfl (op_call 25 en25 rfl [.pointer (some ⟨sb, 0, none⟩), .slice a1 lo.length c1, .slice a2 hi.length c2, .int .u64 ts] rfl (by decide) ((f25_calls H hr ha (by omega) (by omega) (by omega) (hlo.keeps (H.keepsAll 4 rfl _)) (hhi.keeps (H.keepsAll 4 rfl _))).mono ?_))
        rintro e w8_13 ⟨v44, ks3, rfl, hks3, hS44, hE44⟩
        refine ⟨_, rfl, ?_⟩
        have H := H.ext0 hE44
        refine OL_yg rfl (by decide) rfl (y_move rfl) (by decide) ?_
        refine OL_yg rfl (by decide) rfl (y_move rfl) (by decide) ?_
        refine OL_yg rfl (by decide) rfl (y_move rfl) (by decide) ?_
        refine OL_yg rfl (by decide) rfl (y_move rfl) (by decide) ?_
        refine OL_g rfl (by decide) rfl (op_call 26 en26 rfl [.pointer (some ⟨rb, 0, none⟩), .slice a1 lo.length c1, .slice a2 hi.length c2, .int .u64 ts] rfl (by decide) ((f26_calls (refIn H) hrr (by omega) ha (by omega) (hlo.keeps (H.keepsAll 4 rfl _)) (hhi.keeps (H.keepsAll 4 rfl _))).mono ?_))
        rintro e w8_18 ⟨v49, ks4, rfl, hks4, hS49, hE49⟩
        refine ⟨_, rfl, ?_⟩
        have H := H.ext0 hE49
        have hkk := scan_unique hks4 hks3
        subst hkk
        refine OL_g rfl (by decide) rfl (op_call 24 en24 rfl [v44, v49] rfl (by decide) ((f24_calls (hS44.keeps hE49.keeps0) hS49).mono ?_))
        rintro e w8_19 ⟨rfl, hE50⟩
        refine ⟨_, rfl, ?_⟩
        have H := H.ext0 hE50
        rw [decide_eq_true rfl]
        refine OL_y (y_pick (b := true) (v := .bool true) rfl rfl) (by decide) ?_
        refine OL_y (v := .bool true) (y_assign rfl) (by decide) ?_
        refine OL_nil ?_
        refine W_ret ?_
        show RetOK _ _ _ _ _ _
        exact ret1 (v := .bool true) Try.results6 rfl ⟨rfl, H.ext_of 4 rfl⟩
      · refine W_region ?_
        refine OL_y (v := .bool true) (y_move rfl) (by decide) ?_
        refine OL_nil ?_
        refine W_condt rfl ?_
        refine W_seq ?_
        refine W_region ?_
        refine OL_y (v := .bool true) (y_assign rfl) (by decide) ?_
        refine OL_nil ?_
        refine W_ret ?_
        show RetOK _ _ _ _ _ _
        exact ret1 (v := .bool true) Try.results6 rfl ⟨rfl, H.ext_of 0 rfl⟩
end Go.Proofs.Ytpandioolpnihaa
