/- Part 5 of the texts that a law of the seat leans on: the ground of the walks, the facts of the program, its functions one by one. -/
import Derived.Test.YtpandioolpnihaaAll4
/- Scan of the reference's store. -/
namespace Go.Proofs.Ytpandioolpnihaa
open Go Go.Wk
set_option linter.unusedVariables false
set_option linter.unusedSimpArgs false

def upTo (vs : List Ver) (ts : Int) : List Ver := vs.filter fun v => decide (v.ts ≤ ts)
def cellOf (a : Abs) (ts : Int) (k : ByteArray) : Cl := ⟨unkb k, upTo (a.v k) ts, a.i k⟩
def shown (a : Abs) (lo hi : Key) (ts : Int) (k : ByteArray) : Prop := withinB (unkb k) lo hi = true ∧ (upTo (a.v k) ts ≠ [] ∨ (a.i k).txn ≠ 0)
structure ScanOf (a : Abs) (lo hi : Key) (ts : Int) (ks : List ByteArray) : Prop where
  rise : ks.Pairwise bLt
  mem : ∀ k, k ∈ ks ↔ shown a lo hi ts k
theorem upTo_snoc (vs : List Ver) (v : Ver) (ts : Int) : upTo (vs ++ [v]) ts = upTo vs ts ++ (if v.ts ≤ ts then [v] else []) := by
  unfold upTo
  rw [List.filter_append]
  by_cases h : v.ts ≤ ts <;> simp [h]
abbrev reCl (ts : Int) (e : RE) : Cl := ⟨e.c.key, upTo e.c.vers ts, e.c.intent⟩
theorem RRep.dz0 {w0 w Wp : World} {F : Nat → Prop} {b : Nat} {v : Value} {R : List RE} {L : List Atom} (H : Holds w (rAt b v R F Wp w0 L)) : ∀ k, Dz w0 F k → k < w.heap.size := fun k hk => hk.elim
  ((H.ok (shr (fun k => k < w0.heap.size) w0) (by simp)).2.1 k) ((H.ok (exc F Wp) (by simp)).2.1 k)

set_option maxHeartbeats 16000000 in
theorem f26_calls {Zl : Nat → Prop} {w0 w Wp : World} {F : Nat → Prop} {b m : Nat} {v : Value} {R : List RE} {a : Abs} {L : List Atom} {vl vh : Value} {lo hi : Key} {ts : Int} (H : Holds w (rAt b v R F Wp w0 L)) (hr : RRep w0 F Wp R a) (hl : R.length ≤ 40000) (ha : a.Ok m) (hm : m ≤ 40000) (hlo : SlR (tInt .u8) 1 Zl w vl lo) (hhi : SlR (tInt .u8) 1 Zl w vh hi) :
    Calls Try.prog 26 [.pointer (some ⟨b, 0, none⟩), vl, vh, .int .u64 ts].toArray w fun e w' => ∃ (v : Value) (ks : List ByteArray), e = .returned v ∧ ScanOf a lo hi ts ks ∧ SlR tCl 120 (fun _ => True) w' v (ks.map (cellOf a ts)) ∧ Ext none' w w' := by
  have H0 := H
  have hq : ∀ e ∈ R, ∀ x ∈ e.c.key, InK .u8 x := fun e he => (hr.key he).allIn
  have hDz := RRep.dz0 H0
  have hkd := H0.dz 2 3 rfl rfl hr.base
  obtain ⟨av, cv, hv, hlv, hmv⟩ := H0.rowLen 1 rfl
  subst hv
  obtain ⟨q, hqq⟩ : ∃ q : RE → Bool, q = fun e => withinB e.c.key lo hi && decide (upTo e.c.vers ts ≠ [] ∨ e.c.intent.txn ≠ 0) := ⟨_, rfl⟩
  have hqe : ∀ e, q e = (withinB e.c.key lo hi && decide (upTo e.c.vers ts ≠ [] ∨ e.c.intent.txn ≠ 0)) := fun e => by rw [hqq]
  have H := Holds.start w
  refine calls_of_W' Try.func26 rfl Try.ntmps26 rfl ?_
  refine W_seq ?_
  refine W_region ?_
  refine OL_y (y_assign rfl) (by decide) ?_
  refine OL_nil ?_
  refine W_seq ?_
  refine W_region ?_
  refine OL_y (y_assign rfl) (by decide) ?_
  refine OL_nil ?_
  refine W_seq ?_
  refine W_seq ?_
  refine W_region ?_
  refine OL_y (y_move rfl) (by decide) ?_
  refine OL_y (y_nilCheck rfl ⟨_, rfl⟩) (by decide) ?_
  refine OL_y (y_fieldAddr ti66 rfl ti49 rfl rfl) (by decide) ?_
  refine OL_y (y_loadS (v := .slice av R.length cv) ti49 rfl rfl (Cells.unit ((H0.ext0 (H.ext_of 0 rfl)).getOwn 0 rfl) rfl)) (by decide) ?_
  refine OL_y (y_len rfl ti49 rfl) (by decide) ?_
  refine OL_y (y_move rfl) (by decide) ?_
  refine OL_nil ?_
  have H := (H.share (Dz w0 F) (fun k hk => Nat.lt_of_lt_of_le (hDz k hk) (H.ext_of 0 rfl).size) (by intro a ha hx; simp only [List.mem_singleton] at ha; subst ha; cases hx)).rowNil 55 7
  refine W_range (N := R.length) (by simp [maxLen]; omega) (fun i f ds w' => ∃ (v9 : Value) (cs9 : List Value) (Zp : Nat → Prop) (Wq : World), f 1 = vl ∧ f 2 = vh ∧ f 3 = .int .u64 ts ∧ f 9 = v9 ∧ f 18 = .slice av R.length cv ∧ ds = [] ∧ Els tCl Zp Wq cs9 (((R.take i).filter q).map (reCl ts)) ∧ (∀ k, Dz w0 F k → Zp k) ∧
      Holds w' [row 55 7 v9 ((R.take i).filter q).length cs9, shr Zp Wq, shr (fun k => k < w.heap.size) w])
      ⟨.slice none 0 0, [], _, _, rfl, rfl, rfl, rfl, rfl, rfl, Els.nil _ _ _, fun _ h => h, H⟩
      rfl rfl (by decide) (by decide) (by decide) rfl rfl ?_ rfl rfl ?_
  · rintro i f ds w3 hi3 ⟨v9, cs9, Zp, Wq, h1, h2, h3, h9, h18, rfl, hE9, hZ, H⟩ hti htn
    have hxk := List.getElem?_eq_getElem hi3
    have hem := List.getElem_mem hi3
    have HS := H0.ext0 (H.ext_of 2 rfl)
    obtain ⟨br, cr, hvr, -, -⟩ := ownsRow_cells (HS.getRow 1 rfl) (by omega)
    have hC := rowElAt RE.len (HS.getRow 1 rfl) (b := br) (by rw [hvr]; rfl) hxk
    have htk : ((R.take (i + 1)).filter q) = ((R.take i).filter q) ++ [R[i]].filter q := by rw [List.take_add_one, hxk, Option.toList_some, List.filter_append]
    have hcl : ((R.take i).filter q).length ≤ 40000 := Nat.le_trans (List.length_filter_le _ _) (by rw [List.length_take]; omega)
    have hone := tCl.one (hr.good _ hem)
    have hkS := (hr.key hem).keeps hkd
    have hvS := (hr.vers hem).keeps hkd
    have hiS := tVer.keeps (hr.int hem) hkd
    have hva := (hr.va _ hem).1
    generalize R[i] = e at *
    obtain ⟨hsd, hvm⟩ := ha e.k
    rw [hva] at hsd hvm
    obtain ⟨ak, ck, hvk, hlk, hmk⟩ := hkS.len
    obtain ⟨aw, cw, hvw, hlw, hmw⟩ := hvS.len
    rw [hvk] at hkS
    rw [hvw] at hvS
    have hcs : e.cs = [.slice ak e.c.key.length ck, .slice aw e.c.vers.length cw, .int .u64 e.c.intent.ts, .int .u64 e.c.intent.txn, .bool e.c.intent.dead, e.iv, e.ik] := by show [e.vk, e.vs, _, _, _, _, _] = _; rw [hvk, hvw]
    rw [hcs] at hC hone
    have hone12 : ∀ u ∈ [.slice ak e.c.key.length ck, .slice none 0 0, .int .u64 e.c.intent.ts, .int .u64 e.c.intent.txn, .bool e.c.intent.dead, e.iv, e.ik], u.oneCell' = true := by
      intro u hu
      simp only [List.mem_cons, List.not_mem_nil, or_false] at hu
      rcases hu with rfl | rfl | hu
      · rfl
      · rfl
      · exact hone u (by simp only [List.mem_cons, List.not_mem_nil, or_false]; exact .inr (.inr hu))
    have h18' := h18.trans hvr
    refine W_block ?_
    refine W_seq ?_
    refine W_region ?_
    refine OL_y (y_indexAddr ti49 ti55 h18' hti (by omega) (by omega)) (by decide) ?_
    refine OL_y (y_loadA (cs := [.slice ak e.c.key.length ck, .slice aw e.c.vers.length cw, .int .u64 e.c.intent.ts, .int .u64 e.c.intent.txn, .bool e.c.intent.dead, e.iv, e.ik]) ti55 rfl rfl hC rfl) (by decide) ?_
    refine OL_var (v := .agg #[.slice ak e.c.key.length ck, .slice aw e.c.vers.length cw, .int .u64 e.c.intent.ts, .int .u64 e.c.intent.txn, .bool e.c.intent.dead, e.iv, e.ik]) H ti55 rfl (by decide) (fun _ => rfl) rfl (hone) fun b11 w4_2 H => ?_
    refine OL_nil ?_
    refine W_seq ?_
    refine W_region ?_
    refine OL_y (y_fieldAddr ti55 rfl ti23 rfl rfl) (by decide) ?_
    refine OL_y (y_loadS (v := .slice ak e.c.key.length ck) ti23 rfl rfl (Cells.unit (H.getOwn 0 rfl) rfl)) (by decide) ?_
    refine OL_y (y_fieldAddr ti55 rfl ti32 rfl rfl) (by decide) ?_
    refine OL_y (y_loadA (cs := [.int .u64 e.c.intent.ts, .int .u64 e.c.intent.txn, .bool e.c.intent.dead, e.iv, e.ik]) ti32 rfl rfl (Cells.of (H.getOwn 0 rfl) rfl) rfl) (by decide) ?_
    refine OL_y (v := .agg #[.slice ak e.c.key.length ck, .slice none 0 0, .int .u64 e.c.intent.ts, .int .u64 e.c.intent.txn, .bool e.c.intent.dead, e.iv, e.ik]) (y_build ti55 pl55 (by kernel_rfl)) (by decide) ?_
    refine OL_var (v := .agg #[.slice ak e.c.key.length ck, .slice none 0 0, .int .u64 e.c.intent.ts, .int .u64 e.c.intent.txn, .bool e.c.intent.dead, e.iv, e.ik]) H ti55 rfl (by decide) (fun _ => rfl) rfl (hone12) fun b12 w5_5 H => ?_
    refine OL_nil ?_
    refine W_seq ?_
    refine W_seq ?_
    refine W_region ?_
    refine OL_y (y_fieldAddr ti55 rfl ti53 rfl rfl) (by decide) ?_
    refine OL_y (y_loadS (v := .slice aw e.c.vers.length cw) ti53 rfl rfl (Cells.unit (H.getOwn 1 rfl) rfl)) (by decide) ?_
    refine OL_y (y_len rfl ti53 rfl) (by decide) ?_
    refine OL_y (y_move rfl) (by decide) ?_
    refine OL_nil ?_
    have H := H.rowNil 32 5
    refine W_range (N := e.c.vers.length) (by simp [maxLen]; omega) (fun k f ds w' => ∃ (v12 : Value) (cs12 : List Value), f 1 = vl ∧ f 2 = vh ∧ f 3 = .int .u64 ts ∧ f 9 = v9 ∧ f 11 = .pointer (some ⟨b11, 0, none⟩) ∧ f 12 = .pointer (some ⟨b12, 0, none⟩) ∧ f 18 = .slice av R.length cv ∧ f 19 = .int .i64 (R.length : Nat) ∧ f 20 = .int .i64 (i : Nat) ∧ f 30 = .slice aw e.c.vers.length cw ∧ ds = [] ∧ v12.oneCell' = true ∧ v12.cells = #[v12] ∧ Els tVer (Dz w0 F) w cs12 (upTo (e.c.vers.take k) ts) ∧
        Holds w' [row 32 5 v12 (upTo (e.c.vers.take k) ts).length cs12, own b12 (.cells #[.slice ak e.c.key.length ck, v12, .int .u64 e.c.intent.ts, .int .u64 e.c.intent.txn, .bool e.c.intent.dead, e.iv, e.ik] 55), own b11 (.cells #[.slice ak e.c.key.length ck, .slice aw e.c.vers.length cw, .int .u64 e.c.intent.ts, .int .u64 e.c.intent.txn, .bool e.c.intent.dead, e.iv, e.ik] 55), row 55 7 v9 ((R.take i).filter q).length cs9, shr Zp Wq, shr (fun k => k < w.heap.size) w])
        ⟨.slice none 0 0, [], h1, h2, h3, h9, rfl, rfl, h18, htn, hti, rfl, rfl, rfl, rfl, Els.nil _ _ _, H⟩
        rfl rfl (by decide) (by decide) (by decide) rfl rfl ?_ rfl rfl ?_
    · rintro k f ds w7 hk3 ⟨v12, cs12, h1, h2, h3, h9, h11, h12, h18, h19, h20, h30, rfl, h1c, hvc, hE12, H⟩ htk2 htn2
      have hxk2 := List.getElem?_eq_getElem hk3
      obtain ⟨b3, o3, cs3, e3, hz3, hc3, hr3⟩ := hvS.at hxk2
      have hc3' := hc3.ext ((H.keepsAll 5 rfl (Dz w0 F)).2 _ hz3 hc3.lt)
      have hts : upTo (e.c.vers.take (k + 1)) ts = upTo (e.c.vers.take k ++ [e.c.vers[k]]) ts := by rw [List.take_add_one, hxk2]; rfl
      rw [upTo_snoc] at hts
      have hpl : (upTo (e.c.vers.take k) ts).length ≤ 40000 := Nat.le_trans (List.length_filter_le _ _) (by rw [List.length_take]; omega)
      generalize e.c.vers[k] = x at *
      obtain ⟨xv, xk, rfl, hx1, hx2, hx3, hx4⟩ := ver_cells.1 hr3
      have h30' := h30.trans (congrArg (Value.slice · _ _) e3)
      refine W_block ?_
      refine W_seq ?_
      refine W_region ?_
      refine OL_y (y_indexAddr ti53 ti32 h30' htk2 (by omega) (by omega)) (by decide) ?_
      refine OL_y (y_loadA (cs := [.int .u64 x.ts, .int .u64 x.txn, .bool x.dead, xv, xk]) ti32 rfl rfl hc3' rfl) (by decide) ?_
      refine OL_var (v := .agg #[.int .u64 x.ts, .int .u64 x.txn, .bool x.dead, xv, xk]) H ti32 rfl (by decide) (fun _ => rfl) rfl (tVer.one hr3) fun b14 w8_2 H => ?_
      refine OL_nil ?_
      refine W_seq ?_
      refine W_region ?_
      refine OL_y (y_fieldAddr ti32 rfl ti24 rfl rfl) (by decide) ?_
      refine OL_y (y_loadS (v := .int .u64 x.ts) ti24 rfl rfl (Cells.unit (H.getOwn 0 rfl) rfl)) (by decide) ?_
      refine OL_y (y_move h3) (by decide) ?_
      refine OL_y (y_leq rfl rfl) (by decide) ?_
      refine OL_nil ?_
      refine W_cond rfl (fun hc => ?_) (fun hc => ?_)
      · have hle := of_decide_eq_true hc
        refine W_region ?_
        refine OL_y (y_fieldAddr ti55 rfl ti53 rfl h12) (by decide) ?_
        refine OL_y (y_loadS (v := v12) ti53 rfl rfl (Cells.unit (H.getOwn 2 rfl) rfl)) (by decide) ?_
        refine OL_y (y_loadA (cs := [.int .u64 x.ts, .int .u64 x.txn, .bool x.dead, xv, xk]) ti32 rfl rfl (Cells.of (H.getOwn 0 rfl) rfl) rfl) (by decide) ?_
        refine OL_c (op_buildSlice H [.agg #[.int .u64 x.ts, .int .u64 x.txn, .bool x.dead, xv, xk]] ti53 ti32 rfl rfl rfl (by simp [Value.cells]) rfl rfl (by decide) fun b43 w10_3 H => ?_)
        refine OL_c (op_append H 2 rfl rfl ti53 ti32 rfl rfl rfl rfl (Src.row (H.getRow 0 rfl)) rfl (by intro c hc; exact tVer.one hr3 c (by simpa [Value.cells] using hc)) (by omega) (by simp only [maxLen]; omega) (by decide) fun v44 w10_4 H => ?_)
        obtain ⟨a44, c44, rfl, hl44, hm44⟩ := H.rowLen 2 rfl
        have H := H.tail.tail
        refine OL_y (y_fieldAddr ti55 rfl ti53 rfl h12) (by decide) ?_
        refine OL_c (op_store (v := .slice a44 ((upTo (e.c.vers.take k) ts).length + 1) c44) H 1 rfl ti53 rfl rfl rfl (Nat.le_of_ble_eq_true rfl) (by simp [Value.cells, Value.oneCell']) fun w10_6 H => ?_)
        refine OL_nil ?_
        have e2 : upTo (e.c.vers.take (k + 1)) ts = upTo (e.c.vers.take k) ts ++ [x] := by rw [hts, if_pos hle]
        refine ⟨htk2, htn2, .slice a44 ((upTo (e.c.vers.take k) ts).length + 1) c44, cs12 ++ [Value.int .u64 x.ts, .int .u64 x.txn, .bool x.dead, xv, xk], h1, h2, h3, h9, h11, h12, h18, h19, h20, h30, rfl, rfl, rfl, by rw [e2]; exact hE12.snoc hr3, ?_⟩
        rw [e2, List.length_append]; exact H
      · refine W_skip ?_
        have hle := of_decide_eq_false hc
        have e2 : upTo (e.c.vers.take (k + 1)) ts = upTo (e.c.vers.take k) ts := by rw [hts, if_neg hle, List.append_nil]
        refine ⟨htk2, htn2, v12, cs12, h1, h2, h3, h9, h11, h12, h18, h19, h20, h30, rfl, h1c, hvc, by rw [e2]; exact hE12, ?_⟩
        rw [e2]; exact H.tail
    · rintro f ds w7 ⟨v12, cs12, h1, h2, h3, h9, h11, h12, h18, h19, h20, h30, rfl, h1c, hvc, hE12, H⟩ htk2 htn2
      rw [List.take_length] at hE12 H
      have hpl : (upTo e.c.vers ts).length ≤ 40000 := Nat.le_trans (List.length_filter_le _ _) (by omega)
      obtain ⟨a12, c12, hv12, hl12, hm12⟩ := H.rowLen 0 rfl
      subst hv12
      obtain ⟨wb, hwb⟩ : ∃ wb, withinB e.c.key lo hi = wb := ⟨_, rfl⟩
      refine W_seq ?_
      rcases wb with _ | _
      · refine W_region ?_
        refine OL_y (y_fieldAddr ti55 rfl ti23 rfl h11) (by decide) ?_
        refine OL_y (y_loadS (v := .slice ak e.c.key.length ck) ti23 rfl rfl (Cells.unit (H.getOwn 2 rfl) rfl)) (by decide) ?_
        refine OL_y (y_move h1) (by decide) ?_
        refine OL_y (y_move h2) (by decide) ?_
        refine OL_c (op_call 55 en55 rfl [.slice ak e.c.key.length ck, vl, vh] rfl (by decide) ((f55_calls (hkS.keeps (H.keepsAll 5 rfl _)) (hlo.keeps (H.keepsAll 5 rfl _)) (hhi.keeps (H.keepsAll 5 rfl _))).mono ?_))
        rintro e w12_4 ⟨rfl, hE55⟩
        refine ⟨_, rfl, ?_⟩
        have H := H.ext0 hE55
        rw [hwb]
        refine OL_y (y_move (v := .bool false) rfl) (by decide) ?_
        refine OL_s rfl (by decide) rfl rfl (by simp) ?_
        refine OL_s rfl (by decide) rfl rfl (by simp) ?_
        refine OL_s rfl (by decide) rfl rfl (by simp) ?_
        refine OL_s rfl (by decide) rfl rfl (by simp) ?_
        refine OL_s rfl (by decide) rfl rfl (by simp) ?_
        refine OL_u rfl (by decide) rfl (by simp) ?_
        refine OL_u rfl (by decide) rfl (by simp) ?_
        refine OL_u rfl (by decide) rfl (by simp) ?_
        refine OL_u rfl (by decide) rfl (by simp) ?_
        refine OL_s rfl (by decide) rfl rfl (by simp) ?_
        refine OL_y (y_pick (b := false) (v := .bool false) rfl rfl) (by decide) ?_
        refine OL_nil ?_
        refine W_condf rfl ?_
        refine W_skip ?_
        have hqt : [e].filter q = [] := by
          rw [List.filter_cons_of_neg (by rw [hqe, hwb]; simp)]; rfl
        refine ⟨h20, h19, v9, cs9, Zp, Wq, h1, h2, h3, h9, h18, rfl, ?_, hZ, ?_⟩
        · rw [htk, hqt, List.append_nil]; exact hE9
        · rw [htk, hqt, List.append_nil]; exact H.tail.tail.tail
      · by_cases hn : (0 : Int) < ((upTo e.c.vers ts).length : Nat)
        · refine W_region ?_
          refine OL_y (y_fieldAddr ti55 rfl ti23 rfl h11) (by decide) ?_
          refine OL_y (y_loadS (v := .slice ak e.c.key.length ck) ti23 rfl rfl (Cells.unit (H.getOwn 2 rfl) rfl)) (by decide) ?_
          refine OL_y (y_move h1) (by decide) ?_
          refine OL_y (y_move h2) (by decide) ?_
          refine OL_c (op_call 55 en55 rfl [.slice ak e.c.key.length ck, vl, vh] rfl (by decide) ((f55_calls (hkS.keeps (H.keepsAll 5 rfl _)) (hlo.keeps (H.keepsAll 5 rfl _)) (hhi.keeps (H.keepsAll 5 rfl _))).mono ?_))
          rintro e w12_4 ⟨rfl, hE55⟩
          refine ⟨_, rfl, ?_⟩
          have H := H.ext0 hE55
          rw [hwb]
          refine OL_y (y_move (v := .bool true) rfl) (by decide) ?_
          refine OL_yg rfl (by decide) rfl (y_fieldAddr ti55 rfl ti53 rfl h12) (by decide) ?_
          refine OL_yg rfl (by decide) rfl (y_loadS (v := .slice a12 (upTo e.c.vers ts).length c12) ti53 rfl rfl (Cells.unit (H.getOwn 1 rfl) rfl)) (by decide) ?_
          refine OL_yg rfl (by decide) rfl (y_len rfl ti53 rfl) (by decide) ?_
          refine OL_yg (v := .bool true) rfl (by decide) rfl (y_gtrT hn rfl rfl) (by decide) ?_
          refine OL_yg (v := .bool true) rfl (by decide) rfl (y_move rfl) (by decide) ?_
          refine OL_s rfl (by decide) rfl rfl (by simp) ?_
          refine OL_s rfl (by decide) rfl rfl (by simp) ?_
          refine OL_s rfl (by decide) rfl rfl (by simp) ?_
          refine OL_s rfl (by decide) rfl rfl (by simp) ?_
          refine OL_yg rfl (by decide) rfl (y_pick (b := true) (v := .bool true) rfl rfl) (by decide) ?_
          refine OL_y (y_pick (b := true) (v := .bool true) rfl rfl) (by decide) ?_
          refine OL_nil ?_
          refine W_condt rfl ?_
          have hone9 : ∀ u ∈ [.slice ak e.c.key.length ck, .slice a12 (upTo e.c.vers ts).length c12, .int .u64 e.c.intent.ts, .int .u64 e.c.intent.txn, .bool e.c.intent.dead, e.iv, e.ik], u.oneCell' = true := by
            intro u hu
            simp only [List.mem_cons, List.not_mem_nil, or_false] at hu
            rcases hu with rfl | rfl | hu
            · rfl
            · rfl
            · exact hone u (by simp only [List.mem_cons, List.not_mem_nil, or_false]; exact .inr (.inr hu))
          refine W_region ?_
          refine OL_y (y_move h9) (by decide) ?_
          refine OL_y (y_loadA (cs := [.slice ak e.c.key.length ck, .slice a12 (upTo e.c.vers ts).length c12, .int .u64 e.c.intent.ts, .int .u64 e.c.intent.txn, .bool e.c.intent.dead, e.iv, e.ik]) ti55 rfl h12 (Cells.of (H.getOwn 1 rfl) rfl) rfl) (by decide) ?_
          refine OL_c (op_buildSlice H [.agg #[.slice ak e.c.key.length ck, .slice a12 (upTo e.c.vers ts).length c12, .int .u64 e.c.intent.ts, .int .u64 e.c.intent.txn, .bool e.c.intent.dead, e.iv, e.ik]] ti49 ti55 rfl rfl rfl (by simp [Value.cells]) rfl rfl (by decide) fun b66 w13_2 H => ?_)
          refine OL_c (op_append H 4 rfl rfl ti49 ti55 rfl rfl rfl rfl (Src.row (H.getRow 0 rfl)) rfl (by intro c hc; exact hone9 c (by simpa [Value.cells] using hc)) (by omega) (by simp only [maxLen]; omega) (by decide) fun v67 w13_3 H => ?_)
          refine OL_y (y_assign rfl) (by decide) ?_
          refine OL_nil ?_
          have hqt : [e].filter q = [e] := by
            rw [List.filter_cons_of_pos (by rw [hqe, hwb, Bool.true_and, decide_eq_true_eq]; left; intro h; rw [h] at hn; exact absurd hn (by decide))]; rfl
          have H := H.tail
          have H2 := H.pool rfl 3 rfl
          have hT : tCl.R (fun k => Zp k ∨ (Value.slice a12 (upTo e.c.vers ts).length c12).ownBlock = some k) w13_3 [.slice ak e.c.key.length ck, .slice a12 (upTo e.c.vers ts).length c12, .int .u64 e.c.intent.ts, .int .u64 e.c.intent.txn, .bool e.c.intent.dead, e.iv, e.ik] (reCl ts e) := cl_cells.2 ⟨_, _, _, rfl, (hkS.keeps (H.keepsAll 5 rfl _)).mono fun k _ h => Or.inl (hZ k h), SlR.ofRow (xs := upTo e.c.vers ts) (Z := fun k => Zp k ∨ (Value.slice a12 (upTo e.c.vers ts).length c12).ownBlock = some k) (H.getRow 0 rfl) (by decide) ((hE12.keeps (H.keepsAll 5 rfl _)).mono fun k _ h => Or.inl (hZ k h)) (fun k hk => Or.inr hk) (by omega), tVer.mono (Z' := fun k => Zp k ∨ (Value.slice a12 (upTo e.c.vers ts).length c12).ownBlock = some k) (tVer.keeps hiS (H.keepsAll 5 rfl _)) fun k _ h => Or.inl (hZ k h)⟩
          refine ⟨h20, h19, v67, cs9 ++ [Value.slice ak e.c.key.length ck, .slice a12 (upTo e.c.vers ts).length c12, .int .u64 e.c.intent.ts, .int .u64 e.c.intent.txn, .bool e.c.intent.dead, e.iv, e.ik], fun k => Zp k ∨ (Value.slice a12 (upTo e.c.vers ts).length c12).ownBlock = some k, w13_3, h1, h2, h3, rfl, h18, rfl, ?_, fun k hk => Or.inl (hZ k hk), ?_⟩
          · rw [htk, hqt, List.map_append]
            exact ((hE9.keeps (H.keeps (i := 4) rfl)).mono fun _ _ h => .inl h).snoc hT
          · rw [htk, hqt, List.length_append]; exact H2.tail.tail
        · refine W_region ?_
          refine OL_y (y_fieldAddr ti55 rfl ti23 rfl h11) (by decide) ?_
          refine OL_y (y_loadS (v := .slice ak e.c.key.length ck) ti23 rfl rfl (Cells.unit (H.getOwn 2 rfl) rfl)) (by decide) ?_
          refine OL_y (y_move h1) (by decide) ?_
          refine OL_y (y_move h2) (by decide) ?_
          refine OL_c (op_call 55 en55 rfl [.slice ak e.c.key.length ck, vl, vh] rfl (by decide) ((f55_calls (hkS.keeps (H.keepsAll 5 rfl _)) (hlo.keeps (H.keepsAll 5 rfl _)) (hhi.keeps (H.keepsAll 5 rfl _))).mono ?_))
          rintro e w12_4 ⟨rfl, hE55⟩
          refine ⟨_, rfl, ?_⟩
          have H := H.ext0 hE55
          rw [hwb]
          refine OL_y (y_move (v := .bool true) rfl) (by decide) ?_
          refine OL_yg rfl (by decide) rfl (y_fieldAddr ti55 rfl ti53 rfl h12) (by decide) ?_
          refine OL_yg rfl (by decide) rfl (y_loadS (v := .slice a12 (upTo e.c.vers ts).length c12) ti53 rfl rfl (Cells.unit (H.getOwn 1 rfl) rfl)) (by decide) ?_
          refine OL_yg rfl (by decide) rfl (y_len rfl ti53 rfl) (by decide) ?_
          refine OL_yg (v := .bool false) rfl (by decide) rfl (y_gtrF hn rfl rfl) (by decide) ?_
          refine OL_yg (v := .bool false) rfl (by decide) rfl (y_move rfl) (by decide) ?_
          refine OL_yg rfl (by decide) rfl (y_fieldAddr ti55 rfl ti32 rfl h12) (by decide) ?_
          refine OL_yg rfl (by decide) rfl (y_fieldAddr ti32 rfl ti24 rfl rfl) (by decide) ?_
          refine OL_yg rfl (by decide) rfl (y_loadS (v := .int .u64 e.c.intent.txn) ti24 rfl rfl (Cells.unit (H.getOwn 1 rfl) rfl)) (by decide) ?_
          refine OL_yg rfl (by decide) rfl (y_neq rfl rfl) (by decide) ?_
          refine OL_yg rfl (by decide) rfl (y_pick (b := false) rfl rfl) (by decide) ?_
          refine OL_y (y_pick (b := true) rfl rfl) (by decide) ?_
          refine OL_nil ?_
          refine W_cond rfl (fun hc => ?_) (fun hc => ?_)
          · have hone9 : ∀ u ∈ [.slice ak e.c.key.length ck, .slice a12 (upTo e.c.vers ts).length c12, .int .u64 e.c.intent.ts, .int .u64 e.c.intent.txn, .bool e.c.intent.dead, e.iv, e.ik], u.oneCell' = true := by
              intro u hu
              simp only [List.mem_cons, List.not_mem_nil, or_false] at hu
              rcases hu with rfl | rfl | hu
              · rfl
              · rfl
              · exact hone u (by simp only [List.mem_cons, List.not_mem_nil, or_false]; exact .inr (.inr hu))
            refine W_region ?_
            refine OL_y (y_move h9) (by decide) ?_
            refine OL_y (y_loadA (cs := [.slice ak e.c.key.length ck, .slice a12 (upTo e.c.vers ts).length c12, .int .u64 e.c.intent.ts, .int .u64 e.c.intent.txn, .bool e.c.intent.dead, e.iv, e.ik]) ti55 rfl h12 (Cells.of (H.getOwn 1 rfl) rfl) rfl) (by decide) ?_
            refine OL_c (op_buildSlice H [.agg #[.slice ak e.c.key.length ck, .slice a12 (upTo e.c.vers ts).length c12, .int .u64 e.c.intent.ts, .int .u64 e.c.intent.txn, .bool e.c.intent.dead, e.iv, e.ik]] ti49 ti55 rfl rfl rfl (by simp [Value.cells]) rfl rfl (by decide) fun b66 w13_2 H => ?_)
            refine OL_c (op_append H 4 rfl rfl ti49 ti55 rfl rfl rfl rfl (Src.row (H.getRow 0 rfl)) rfl (by intro c hc; exact hone9 c (by simpa [Value.cells] using hc)) (by omega) (by simp only [maxLen]; omega) (by decide) fun v67 w13_3 H => ?_)
            refine OL_y (y_assign rfl) (by decide) ?_
            refine OL_nil ?_
            have hne := of_decide_eq_true hc
            have hqt : [e].filter q = [e] := by
              rw [List.filter_cons_of_pos (by rw [hqe, hwb, Bool.true_and, decide_eq_true_eq]; right; exact hne)]; rfl
            have H := H.tail
            have H2 := H.pool rfl 3 rfl
            have hT : tCl.R (fun k => Zp k ∨ (Value.slice a12 (upTo e.c.vers ts).length c12).ownBlock = some k) w13_3 [.slice ak e.c.key.length ck, .slice a12 (upTo e.c.vers ts).length c12, .int .u64 e.c.intent.ts, .int .u64 e.c.intent.txn, .bool e.c.intent.dead, e.iv, e.ik] (reCl ts e) := cl_cells.2 ⟨_, _, _, rfl, (hkS.keeps (H.keepsAll 5 rfl _)).mono fun k _ h => Or.inl (hZ k h), SlR.ofRow (xs := upTo e.c.vers ts) (Z := fun k => Zp k ∨ (Value.slice a12 (upTo e.c.vers ts).length c12).ownBlock = some k) (H.getRow 0 rfl) (by decide) ((hE12.keeps (H.keepsAll 5 rfl _)).mono fun k _ h => Or.inl (hZ k h)) (fun k hk => Or.inr hk) (by omega), tVer.mono (Z' := fun k => Zp k ∨ (Value.slice a12 (upTo e.c.vers ts).length c12).ownBlock = some k) (tVer.keeps hiS (H.keepsAll 5 rfl _)) fun k _ h => Or.inl (hZ k h)⟩
            refine ⟨h20, h19, v67, cs9 ++ [Value.slice ak e.c.key.length ck, .slice a12 (upTo e.c.vers ts).length c12, .int .u64 e.c.intent.ts, .int .u64 e.c.intent.txn, .bool e.c.intent.dead, e.iv, e.ik], fun k => Zp k ∨ (Value.slice a12 (upTo e.c.vers ts).length c12).ownBlock = some k, w13_3, h1, h2, h3, rfl, h18, rfl, ?_, fun k hk => Or.inl (hZ k hk), ?_⟩
            · rw [htk, hqt, List.map_append]
              exact ((hE9.keeps (H.keeps (i := 4) rfl)).mono fun _ _ h => .inl h).snoc hT
            · rw [htk, hqt, List.length_append]; exact H2.tail.tail
          · refine W_skip ?_
            have hne := of_decide_eq_false hc
            have hnil : upTo e.c.vers ts = [] := List.eq_nil_of_length_eq_zero (by omega)
            have hqt : [e].filter q = [] := by
              rw [List.filter_cons_of_neg (by rw [hqe, hwb, hnil, Bool.true_and, decide_eq_true_eq]; intro h; rcases h with h | h; exact h rfl; exact hne h)]; rfl
            refine ⟨h20, h19, v9, cs9, Zp, Wq, h1, h2, h3, h9, h18, rfl, ?_, hZ, ?_⟩
            · rw [htk, hqt, List.append_nil]; exact hE9
            · rw [htk, hqt, List.append_nil]; exact H.tail.tail.tail
  · rintro f ds w3 ⟨v9, cs9, Zp, Wq, h1, h2, h3, h9, h18, rfl, hE9, hZ, H⟩ hti htn
    rw [List.take_length] at hE9 H
    refine W_seq ?_
    refine W_region ?_
    refine OL_y (y_move h9) (by decide) ?_
    refine OL_y (y_assign rfl) (by decide) ?_
    refine OL_nil ?_
    refine W_ret ?_
    show RetOK _ _ _ _ _ _
    have hcl : (R.filter q).length ≤ 40000 := Nat.le_trans (List.length_filter_le _ _) hl
    have hun : ((R.filter q).map RE.k).map (cellOf a ts) = (R.filter q).map (reCl ts) := by
      rw [List.map_map]; apply List.map_congr_left; intro e he
      have he' := (List.mem_filter.1 he).1
      show (⟨unkb (kb e.c.key), upTo (a.v e.k) ts, a.i e.k⟩ : Cl) = _
      rw [unkb_kb (hq e he'), (hr.va e he').1, (hr.va e he').2]
    refine ret1 (v := v9) Try.results26 rfl ⟨_, (R.filter q).map RE.k, rfl, ⟨hr.rise.sublist (List.Sublist.map _ List.filter_sublist), fun k => ?_⟩, ?_, H.ext_of 2 rfl⟩
    · rw [List.mem_map]
      constructor
      · rintro ⟨e, he, rfl⟩
        obtain ⟨h1, h2⟩ := List.mem_filter.1 he
        rw [hqe, Bool.and_eq_true, decide_eq_true_eq] at h2
        unfold shown
        rw [(hr.va e h1).2, (hr.va e h1).1, unkb_kb (hq e h1)]
        exact h2
      · intro h1
        have hin : k ∈ R.map RE.k := Classical.byContradiction fun hn => by
          have := hr.vn k hn
          unfold shown at h1
          rw [this.1, this.2] at h1; rcases h1.2 with h1 | h1 <;> exact h1 rfl
        obtain ⟨e, he, rfl⟩ := List.mem_map.1 hin
        refine ⟨e, List.mem_filter.2 ⟨he, ?_⟩, rfl⟩
        unfold shown at h1
        rw [(hr.va e he).2, (hr.va e he).1, unkb_kb (hq e he)] at h1
        rw [hqe, Bool.and_eq_true, decide_eq_true_eq]
        exact h1
    · rw [hun]
      exact SlR.ofRow (H.getRow 0 rfl) (by decide) ((hE9.keeps (H.keeps (i := 1) rfl)).mono fun k _ h => trivial) (fun k hk => trivial) (by rw [List.length_map]; omega)
end Go.Proofs.Ytpandioolpnihaa

/- Scan of the code's store. -/
namespace Go.Wk
open Go
section
variable {α : Type} {T : Ty α} {w0 Wp Wp' : World} {F F' : Nat → Prop} {cs : List Value} {v : Value} {x : α} {xs : List α} {bytes : Nat}
theorem Grow.keeps1 (g : Grow w0 F Wp F' Wp') : Keeps F Wp Wp' := ⟨g.keeps.1, fun k hz hk => g.keeps.2 k (.inr hz) hk⟩
theorem Grow.R1 (g : Grow w0 F Wp F' Wp') (h : T.R F Wp cs x) : T.R F' Wp' cs x := T.mono (T.keeps h g.keeps1) fun k _ hk => g.sub k hk
theorem Grow.els1 (g : Grow w0 F Wp F' Wp') (h : Els T F Wp cs xs) : Els T F' Wp' cs xs := ⟨h.1, fun i x hx => g.R1 (h.2 i x hx)⟩
theorem Grow.slr1 (g : Grow w0 F Wp F' Wp') (h : SlR T bytes F Wp v xs) : SlR T bytes F' Wp' v xs := (h.keeps g.keeps1).mono fun k _ hk => g.sub k hk
end
theorem Holds.keepsX {W Wg : World} {L : List Atom} {G : Nat → Prop} (H : Holds W L) (i : Nat) (hi : L[i]? = some (exc G Wg)) : Keeps G Wg W := by
  obtain ⟨a, _, _, _, e⟩ := H.get hi
  exact ⟨a, fun k hz _ => e k hz⟩

end Go.Wk
namespace Go.Proofs.Ytpandioolpnihaa
open Go Go.Wk
set_option linter.unusedVariables false
set_option linter.unusedSimpArgs false

set_option maxHeartbeats 16000000 in
theorem f25_calls {Zl : Nat → Prop} {w0 w Wp : World} {F : Nat → Prop} {sb g1 g2 m : Nat} {E : List Ent} {I : List Itn} {a : Abs} {L : List Atom} {vl vh : Value} {lo hi : Key} {ts : Int} (H : Holds w (cAt sb g1 g2 E I F Wp w0 L)) (hr : CRep w0 F Wp E I a) (ha : a.Ok m) (hm : m ≤ 40000) (hEl : E.length ≤ 40000) (hIl : I.length ≤ 40000)
    (hlo : SlR (tInt .u8) 1 Zl w vl lo) (hhi : SlR (tInt .u8) 1 Zl w vh hi) :
    Calls Try.prog 25 [.pointer (some ⟨sb, 0, none⟩), vl, vh, .int .u64 ts].toArray w fun e w' => ∃ (v : Value) (ks : List ByteArray), e = .returned v ∧ ScanOf a lo hi ts ks ∧ SlR tCl 120 (fun k => w.heap.size ≤ k) w' v (ks.map (cellOf a ts)) ∧ Ext none' w w' := by
  obtain ⟨ks, hks, hkz⟩ := hr.keys
  have hkl : ks.length ≤ 80000 := by
    have := List.Nodup.length_le_of_subset (rise_nodup bLt_irrefl hks.rise) (l₂ := (E.map Ent.kv).map (·.1) ++ (I.map Itn.kv).map (·.1)) fun k hk => List.mem_append.2 ((hr.isKey k).1 ((hks.mem k).1 hk))
    rw [List.length_append, List.length_map, List.length_map, List.length_map, List.length_map] at this; omega
  obtain ⟨q, hqq⟩ : ∃ q : ByteArray → Bool, q = fun k => withinB (unkb k) lo hi && decide (upTo (a.v k) ts ≠ [] ∨ (a.i k).txn ≠ 0) := ⟨_, rfl⟩
  have hqe : ∀ k, q k = (withinB (unkb k) lo hi && decide (upTo (a.v k) ts ≠ [] ∨ (a.i k).txn ≠ 0)) := fun k => by rw [hqq]
  obtain ⟨al, cl, rfl, _, _⟩ := hlo.len
  obtain ⟨ah, ch, rfl, _, _⟩ := hhi.len
  have H0 := H
  have H := Holds.start w
  refine calls_of_W' Try.func25 rfl Try.ntmps25 rfl ?_
  refine W_seq ?_
  refine W_region ?_
  refine OL_c (op_box (v := .pointer (some ⟨sb, 0, none⟩)) H rfl (by decide) fun b4 w0_0 H => ?_)
  refine OL_c (op_box (v := .slice al lo.length cl) H rfl (by decide) fun b5 w0_1 H => ?_)
  refine OL_c (op_box (v := .slice ah hi.length ch) H rfl (by decide) fun b6 w0_2 H => ?_)
  refine OL_c (op_box (v := .int .u64 ts) H rfl (by decide) fun b7 w0_3 H => ?_)
  refine OL_y (y_assign rfl) (by decide) ?_
  refine OL_nil ?_
  refine W_seq ?_
  refine W_region ?_
  refine OL_c (op_alloc H ti49 (by decide) fun b9 w1_0 H => ?_)
  refine OL_nil ?_
  refine W_seq ?_
  refine W_seq ?_
  refine W_region ?_
  refine OL_y (y_loadS (v := .pointer (some ⟨sb, 0, none⟩)) ti26 rfl rfl (Cells.unit (H.getOwn 4 rfl) rfl)) (by decide) ?_
  refine OL_c (op_call 20 en20 rfl [.pointer (some ⟨sb, 0, none⟩)] rfl (by decide) ((f20_calls).mono ?_))
  rintro e w2_1 ⟨bs, rfl, hE20, hbs, hbsn⟩
  refine ⟨_, rfl, ?_⟩
  have H := H.ext0 hE20
  have hEw : Ext none' w w2_1 := H.ext_of 5 rfl
  have HS := H0.ext0 hEw
  have hsb := HS.getOwn 0 rfl
  obtain ⟨o1, ho1, es1, clock1, rfl, hmo1⟩ := HS.get (i := 1) rfl
  obtain ⟨o2, ho2, es2, clock2, rfl, hmo2⟩ := HS.get (i := 2) rfl
  have H : Holds w2_1 [own b9 (.cells #[.slice none 0 0] 49), row 55 7 (.slice none 0 0) 0 [], exc none' w2_1, own b4 (.cells #[.pointer (some ⟨sb, 0, none⟩)] 26), own b5 (.cells #[.slice al lo.length cl] 23), own b6 (.cells #[.slice ah hi.length ch] 23), own b7 (.cells #[.int .u64 ts] 24), shr (fun k => k < w.heap.size) w] := by
    have H1 := (H.pool0).rowNil 55 7
    refine H1.perm ?_
    refine (List.perm_append_comm (l₁ := [_, _]) (l₂ := [own b9 (.cells #[.slice none 0 0] 49), own b7 (.cells #[.int .u64 ts] 24), own b6 (.cells #[.slice ah hi.length ch] 23), own b5 (.cells #[.slice al lo.length cl] 23), own b4 (.cells #[.pointer (some ⟨sb, 0, none⟩)] 26), shr (fun k => k < w.heap.size) w])).trans ?_
    refine List.Perm.cons _ ?_
    have p1 : ([own b7 (.cells #[.int .u64 ts] 24), own b6 (.cells #[.slice ah hi.length ch] 23), own b5 (.cells #[.slice al lo.length cl] 23), own b4 (.cells #[.pointer (some ⟨sb, 0, none⟩)] 26), shr (fun k => k < w.heap.size) w] ++ [row 55 7 (.slice none 0 0) 0 [], exc none' w2_1]).Perm ([row 55 7 (.slice none 0 0) 0 [], exc none' w2_1] ++ [own b7 (.cells #[.int .u64 ts] 24), own b6 (.cells #[.slice ah hi.length ch] 23), own b5 (.cells #[.slice al lo.length cl] 23), own b4 (.cells #[.pointer (some ⟨sb, 0, none⟩)] 26), shr (fun k => k < w.heap.size) w]) := List.perm_append_comm
    refine p1.trans (List.Perm.cons _ (List.Perm.cons _ ?_))
    have p2 : ([own b7 (.cells #[.int .u64 ts] 24), own b6 (.cells #[.slice ah hi.length ch] 23), own b5 (.cells #[.slice al lo.length cl] 23), own b4 (.cells #[.pointer (some ⟨sb, 0, none⟩)] 26)]).Perm [own b4 (.cells #[.pointer (some ⟨sb, 0, none⟩)] 26), own b5 (.cells #[.slice al lo.length cl] 23), own b6 (.cells #[.slice ah hi.length ch] 23), own b7 (.cells #[.int .u64 ts] 24)] := List.reverse_perm [_, _, _, _]
    exact p2.append_right [_]
  refine OL_nil ?_
  refine W_block ?_
  refine W_rangeFuncH yEnc yAt (yQ ks) (yE ks) (fun pre Ls => ∃ (v9 : Value) (cs9 : List Value) (G : Nat → Prop) (Wg : World), Ls = [own b9 (.cells #[v9] 49), row 55 7 v9 ((pre.map Yk.s).filter q).length cs9, exc G Wg, own b4 (.cells #[.pointer (some ⟨sb, 0, none⟩)] 26), own b5 (.cells #[.slice al lo.length cl] 23), own b6 (.cells #[.slice ah hi.length ch] 23), own b7 (.cells #[.int .u64 ts] 24), shr (fun k => k < w.heap.size) w] ∧ Ext none' w Wg ∧ (∀ k, G k → w.heap.size ≤ k) ∧ Els tCl G Wg cs9 (((pre.map Yk.s).filter q).map (cellOf a ts))) (fun _ _ _ => False) rfl en50 (by decide) H ⟨.slice none 0 0, [], none', w2_1, rfl, hEw, fun _ h => h.elim, Els.nil _ _ _⟩ ?_ ?_ ?_ ?_ ?_ ?_
  · rintro pre Ls ⟨v9, cs9, G, Wg, rfl, -⟩ at_ hat hx k hk
    simp only [List.mem_cons, List.not_mem_nil, or_false] at hat
    rcases hat with rfl | rfl | rfl | rfl | rfl | rfl | rfl | rfl
    · cases hx
    · cases hx
    · cases hx
    · cases hx
    · cases hx
    · cases hx
    · cases hx
    · exact Nat.lt_of_lt_of_le hk hEw.size
  · rintro e pre Ls h; exact h.elim
  · intro w' hE
    exact f50_iter ((hE.blk bs (own_lt hbs) (fun h => h)).trans hbs) ((hE.blk sb (own_lt hsb) (fun h => h)).trans hsb) ⟨es1, clock1, (hE.blk g1 (own_lt ho1) (fun h => h)).trans ho1, ⟨es1, clock1, rfl, hmo1⟩⟩ ⟨es2, clock2, (hE.blk g2 (own_lt ho2) (fun h => h)).trans ho2, ⟨es2, clock2, rfl, hmo2⟩⟩ hkz (by rw [List.length_map, List.length_map]; omega) hks.rise (fun k => by rw [hks.mem k, hr.isKey k])
  · rintro l' aL aL' aD aO pre x Ls Wd ⟨v9, cs9, G, Wg, rfl, hbase, hGn, hE9⟩ hq HH
    refine W_region ?_
    refine OL_y (y_assign rfl) (by decide) ?_
    refine OL_nil ?_
    refine ⟨_, HH, fun W2 HH => ?_⟩
    have H := HH
    obtain ⟨hy1, hy2, hy3⟩ : yOk x := hq.2 x (by simp)
    have hpx : pre.map Yk.s ++ [x.s] <+: ks := by have := hq.1; rwa [List.map_append] at this
    have hpl : (pre.map Yk.s).length ≤ 80000 := by have := hpx.length_le; rw [List.length_append] at this; omega
    have hfl : ((pre.map Yk.s).filter q).length ≤ 80000 := Nat.le_trans (List.length_filter_le _ _) hpl
    have hmap : (pre ++ [x]).map Yk.s = pre.map Yk.s ++ [x.s] := by rw [List.map_append]; rfl
    obtain ⟨a9, c9, hv9, hl9, hm9⟩ := H.rowLen 5 rfl
    subst hv9
    obtain ⟨hsd, hvm⟩ := ha x.s
    obtain ⟨v38, hlkV, hSl⟩ := lookV H0 hr x.s (by omega)
    obtain ⟨av, cv, rfl, hlv, hmv⟩ := hSl.len
    obtain ⟨csI, hlkI, hRI⟩ := hr.look x.s
    obtain ⟨jv, jk, rfl, -⟩ := ver_cells.1 hRI
    obtain ⟨wb, hwb⟩ : ∃ wb, withinB (unkb x.s) lo hi = wb := ⟨_, rfl⟩
    refine W_block ?_
    refine W_seq ?_
    refine W_seq ?_
    rcases wb with _ | _
    · refine W_region ?_
      refine OL_y (y_move rfl) (by decide) ?_
      refine OL_y (y_loadS (v := .slice al lo.length cl) ti23 rfl rfl (Cells.unit (H.getOwn 8 rfl) rfl)) (by decide) ?_
      refine OL_y (y_loadS (v := .slice ah hi.length ch) ti23 rfl rfl (Cells.unit (H.getOwn 9 rfl) rfl)) (by decide) ?_
      refine OL_c (op_call 54 en54 rfl [.slice (some ⟨x.b, 0, none⟩) x.s.size x.cap, .slice al lo.length cl, .slice ah hi.length ch] rfl (by decide) ((f54_calls (SlR_bytes (Z := fun _ => True) (H.getOwn 3 rfl) trivial hy1 hy2 hy3) (hlo.keeps (H.keepsAll 11 rfl _)) (hhi.keeps (H.keepsAll 11 rfl _))).mono ?_))
      rintro e w4_3 ⟨rfl, hE54⟩
      refine ⟨_, rfl, ?_⟩
      have H := H.ext0 hE54
      rw [hwb]
      refine OL_y (v := .bool true) (y_not (b := false) rfl) (by decide) ?_
      refine OL_nil ?_
      refine W_condt rfl ?_
      refine W_exit ?_
      have hqf : q x.s = false := by rw [hqe, hwb]; rfl
      have hf : ((pre ++ [x]).map Yk.s).filter q = (pre.map Yk.s).filter q := by rw [hmap, List.filter_append, List.filter_cons_of_neg (by rw [hqf]; simp), List.filter_nil, List.append_nil]
      refine ⟨_, ⟨.slice a9 ((pre.map Yk.s).filter q).length c9, cs9, G, Wg, rfl, hbase, hGn, by rw [hf]; exact hE9⟩, ?_⟩
      rw [hf]
      exact H.sub (.cons_cons _ (.cons_cons _ (.cons_cons _ (.cons _ (.refl _)))))
    · refine W_region ?_
      refine OL_y (y_move rfl) (by decide) ?_
      refine OL_y (y_loadS (v := .slice al lo.length cl) ti23 rfl rfl (Cells.unit (H.getOwn 8 rfl) rfl)) (by decide) ?_
      refine OL_y (y_loadS (v := .slice ah hi.length ch) ti23 rfl rfl (Cells.unit (H.getOwn 9 rfl) rfl)) (by decide) ?_
      refine OL_c (op_call 54 en54 rfl [.slice (some ⟨x.b, 0, none⟩) x.s.size x.cap, .slice al lo.length cl, .slice ah hi.length ch] rfl (by decide) ((f54_calls (SlR_bytes (Z := fun _ => True) (H.getOwn 3 rfl) trivial hy1 hy2 hy3) (hlo.keeps (H.keepsAll 11 rfl _)) (hhi.keeps (H.keepsAll 11 rfl _))).mono ?_))
      rintro e w4_3 ⟨rfl, hE54⟩
      refine ⟨_, rfl, ?_⟩
      have H := H.ext0 hE54
      rw [hwb]
      refine OL_y (v := .bool false) (y_not (b := true) rfl) (by decide) ?_
      refine OL_nil ?_
      refine W_condf rfl ?_
      refine W_skip ?_
      refine W_seq ?_
      refine W_cut (fun f ds w' => ∃ (b11 : Nat) (iv ik : Value) (G : Nat → Prop) (Wg : World), f 4 = .pointer (some ⟨b4, 0, none⟩) ∧ f 7 = .pointer (some ⟨b7, 0, none⟩) ∧ f 9 = .pointer (some ⟨b9, 0, none⟩) ∧ f 10 = .slice (some ⟨x.b, 0, none⟩) x.s.size x.cap ∧ f 11 = .pointer (some ⟨b11, 0, none⟩) ∧ ds = [] ∧ Ext none' w Wg ∧ (∀ k, G k → w.heap.size ≤ k) ∧ Els tCl G Wg cs9 (((pre.map Yk.s).filter q).map (cellOf a ts)) ∧ tVer.R G Wg [.int .u64 (a.i x.s).ts, .int .u64 (a.i x.s).txn, .bool (a.i x.s).dead, iv, ik] (a.i x.s) ∧ Holds w' [own b11 (.cells #[.slice (some ⟨x.b, 0, none⟩) x.s.size x.cap, .slice none 0 0, .int .u64 (a.i x.s).ts, .int .u64 (a.i x.s).txn, .bool (a.i x.s).dead, iv, ik] 55), aL', aD, aO, yAt x, own b9 (.cells #[.slice a9 ((pre.map Yk.s).filter q).length c9] 49), row 55 7 (.slice a9 ((pre.map Yk.s).filter q).length c9) ((pre.map Yk.s).filter q).length cs9, exc G Wg, own b4 (.cells #[.pointer (some ⟨sb, 0, none⟩)] 26), own b5 (.cells #[.slice al lo.length cl] 23), own b6 (.cells #[.slice ah hi.length ch] 23), own b7 (.cells #[.int .u64 ts] 24), shr (fun k => k < w.heap.size) w]) ?_ ?_
      · refine W_drawD H mixed (by kernel_rfl) [] (fun wq w' => Ext none' w w' ∧ w'.heap[b4]? = some (.cells #[.pointer (some ⟨sb, 0, none⟩)] 26) ∧ w'.heap[x.b]? = some (.cells (bytesRow x.s x.cap) 5 ((bytesRow x.s x.cap).size, (bytesRow x.s x.cap).size + 1))) fun wd5 H hEd => ?_
        have hS : ∀ {ls : Array Bool}, Sx [] (fun w' => Ext none' w w' ∧ w'.heap[b4]? = some (.cells #[.pointer (some ⟨sb, 0, none⟩)] 26) ∧ w'.heap[x.b]? = some (.cells (bytesRow x.s x.cap) 5 ((bytesRow x.s x.cap).size, (bytesRow x.s x.cap).size + 1))) ls wd5 := fun {_} _ => ⟨H.ext_of 11 rfl, H.getOwn 7 rfl, H.getOwn 3 rfl⟩
        refine DA_p 0 rfl (by kernel_rfl) rfl (fun _ => y_move rfl) hS (by decide) fun hS => ?_
        refine DA_y 1 rfl (by kernel_rfl) rfl (by kernel_rfl) (fun w' h => y_loadS (v := .pointer (some ⟨sb, 0, none⟩)) ti26 rfl rfl (Cells.unit h.2.1 rfl)) hS (by decide) fun hS => ?_
        refine DA_p 2 rfl (by kernel_rfl) rfl (fun _ => y_nilCheck rfl ⟨_, rfl⟩) hS (by decide) fun hS => ?_
        refine DA_p 3 rfl (by kernel_rfl) rfl (fun _ => y_fieldAddr ti98 rfl ti96 rfl rfl) hS (by decide) fun hS => ?_
        refine DA_y 4 rfl (by kernel_rfl) rfl (by kernel_rfl) (fun w' h => y_loadS (v := .map (some g2)) ti96 rfl rfl (Cells.unit ((H0.ext0 h.1).getOwn 0 rfl) rfl)) hS (by decide) fun hS => ?_
        refine DA_p 5 rfl (by kernel_rfl) rfl (fun _ => y_move rfl) hS (by decide) fun hS => ?_
        refine DA_y 6 rfl (by kernel_rfl) rfl (by kernel_rfl) (fun w' h => y_toStr (w := w') Try.underlying23 Try.underlying5 Try.underlying9 rfl (SlR_bytes (Z := fun _ => True) h.2.2 trivial hy1 hy2 hy3)) hS (by decide) fun hS => ?_
        refine DA_y 7 rfl (by kernel_rfl) rfl (by kernel_rfl) (fun w' h => y_lookupG (w := w') (k := kb (unkb x.s)) (v := .agg #[.int .u64 (a.i x.s).ts, .int .u64 (a.i x.s).txn, .bool (a.i x.s).dead, jv, jk]) (by rw [kb_unkb]; exact hlkI) (H0.ext0 h.1) 2 rfl ti96 ti32 (KeyOK.str Try.underlying9) rfl rfl) hS (by decide) fun hS => ?_
        have hszw := (H.ext_of 11 rfl).size
        refine DA_two 8 10 (by kernel_rfl) rfl rfl ?_ ?_
        · refine op_call 46 en46 rfl [.agg #[.int .u64 (a.i x.s).ts, .int .u64 (a.i x.s).txn, .bool (a.i x.s).dead, jv, jk]] rfl (by decide) ((f46_calls (tVer.keeps hRI ((H0.ext0 (H.ext_of 11 rfl)).dz 3 4 rfl rfl hr.base))).mono ?_)
          rintro e w5_8 ⟨cs', rfl, hR46, hE46⟩
          obtain ⟨H, g5⟩ := H.poolC hE46 6 11 rfl rfl hbase
          refine ⟨_, rfl, fun _ => ⟨H.ext_of 11 rfl, H.getOwn 7 rfl, H.getOwn 3 rfl⟩, ?_⟩
          have hR' := tVer.mono (Z' := fun k => G k ∨ (wd5.heap.size ≤ k ∧ k < w5_8.heap.size)) hR46 fun k h1 h2 => .inr ⟨h2, h1⟩
          obtain ⟨iv, ik, rfl, -⟩ := ver_cells.1 hR46
          have hone5 : ∀ u ∈ [.slice (some ⟨x.b, 0, none⟩) x.s.size x.cap, .slice none 0 0, .int .u64 (a.i x.s).ts, .int .u64 (a.i x.s).txn, .bool (a.i x.s).dead, iv, ik], u.oneCell' = true := by
            intro u hu
            rcases List.mem_cons.1 hu with rfl | hu
            · rfl
            rcases List.mem_cons.1 hu with rfl | hu
            · rfl
            exact tVer.one hR' u hu
          refine DA_p (v := .agg #[.slice (some ⟨x.b, 0, none⟩) x.s.size x.cap, .slice none 0 0, .int .u64 (a.i x.s).ts, .int .u64 (a.i x.s).txn, .bool (a.i x.s).dead, iv, ik]) 9 rfl (by kernel_rfl) rfl (fun _ => y_build ti55 pl55 (by kernel_rfl)) (fun _ => ⟨H.ext_of 11 rfl, H.getOwn 7 rfl, H.getOwn 3 rfl⟩) (by decide) fun _ => ?_
          refine DA_one 10 (by kernel_rfl) rfl (op_alloc H ti55 (by decide) fun b11 w5_10 H => ⟨fun _ => ⟨H.ext_of 12 rfl, H.getOwn 8 rfl, H.getOwn 4 rfl⟩, ?_⟩)
          refine DA_one 11 (by kernel_rfl) rfl (op_store (v := .agg #[.slice (some ⟨x.b, 0, none⟩) x.s.size x.cap, .slice none 0 0, .int .u64 (a.i x.s).ts, .int .u64 (a.i x.s).txn, .bool (a.i x.s).dead, iv, ik]) H 0 rfl ti55 rfl rfl rfl (by decide) hone5 fun w5_11 H => ⟨fun _ => ⟨H.ext_of 12 rfl, H.getOwn 8 rfl, H.getOwn 4 rfl⟩, ?_⟩)
          refine DA_done (by kernel_rfl) ?_
          exact ⟨b11, iv, ik, _, _, rfl, rfl, rfl, rfl, rfl, rfl, g5.base, fun k hk => hk.elim (hGn k) fun h => Nat.le_trans hszw h.1, g5.els1 hE9, hR', H⟩
        · refine op_alloc H ti55 (by decide) fun b11 w5_10 H => ⟨fun _ => ⟨H.ext_of 12 rfl, H.getOwn 8 rfl, H.getOwn 4 rfl⟩, ?_⟩
          have hsz10 := (H.ext_of 12 rfl).size
          refine DA_one 8 (by kernel_rfl) rfl (op_call 46 en46 rfl [.agg #[.int .u64 (a.i x.s).ts, .int .u64 (a.i x.s).txn, .bool (a.i x.s).dead, jv, jk]] rfl (by decide) ((f46_calls (tVer.keeps hRI ((H0.ext0 (H.ext_of 12 rfl)).dz 3 4 rfl rfl hr.base))).mono ?_))
          rintro e w5_8 ⟨cs', rfl, hR46, hE46⟩
          obtain ⟨H, g5⟩ := H.poolC hE46 7 12 rfl rfl hbase
          refine ⟨_, rfl, fun _ => ⟨H.ext_of 12 rfl, H.getOwn 8 rfl, H.getOwn 4 rfl⟩, ?_⟩
          have hR' := tVer.mono (Z' := fun k => G k ∨ (w5_10.heap.size ≤ k ∧ k < w5_8.heap.size)) hR46 fun k h1 h2 => .inr ⟨h2, h1⟩
          obtain ⟨iv, ik, rfl, -⟩ := ver_cells.1 hR46
          have hone5 : ∀ u ∈ [.slice (some ⟨x.b, 0, none⟩) x.s.size x.cap, .slice none 0 0, .int .u64 (a.i x.s).ts, .int .u64 (a.i x.s).txn, .bool (a.i x.s).dead, iv, ik], u.oneCell' = true := by
            intro u hu
            rcases List.mem_cons.1 hu with rfl | hu
            · rfl
            rcases List.mem_cons.1 hu with rfl | hu
            · rfl
            exact tVer.one hR' u hu
          refine DA_p (v := .agg #[.slice (some ⟨x.b, 0, none⟩) x.s.size x.cap, .slice none 0 0, .int .u64 (a.i x.s).ts, .int .u64 (a.i x.s).txn, .bool (a.i x.s).dead, iv, ik]) 9 rfl (by kernel_rfl) rfl (fun _ => y_build ti55 pl55 (by kernel_rfl)) (fun _ => ⟨H.ext_of 12 rfl, H.getOwn 8 rfl, H.getOwn 4 rfl⟩) (by decide) fun _ => ?_
          refine DA_one 11 (by kernel_rfl) rfl (op_store (v := .agg #[.slice (some ⟨x.b, 0, none⟩) x.s.size x.cap, .slice none 0 0, .int .u64 (a.i x.s).ts, .int .u64 (a.i x.s).txn, .bool (a.i x.s).dead, iv, ik]) H 0 rfl ti55 rfl rfl rfl (by decide) hone5 fun w5_11 H => ⟨fun _ => ⟨H.ext_of 12 rfl, H.getOwn 8 rfl, H.getOwn 4 rfl⟩, ?_⟩)
          refine DA_done (by kernel_rfl) ?_
          exact ⟨b11, iv, ik, _, _, rfl, rfl, rfl, rfl, rfl, rfl, g5.base, fun k hk => hk.elim (hGn k) fun h => Nat.le_trans hsz10 h.1, g5.els1 hE9, hR', H⟩
      rintro f ds w5 ⟨b11, iv, ik, G, Wg, h4, h7, h9, h10, h11, rfl, hbase, hGn, hE9, hRi, H⟩
      refine W_seq ?_
      refine W_seq ?_
      refine W_drawQ H mixed (by kernel_rfl) (by kernel_rfl) fun wd6 H => ?_
      refine QL_y (y_loadS (v := .pointer (some ⟨sb, 0, none⟩)) ti26 rfl h4 (Cells.unit (H.getOwn 8 rfl) rfl)) (by decide) ?_
      refine QL_y (y_nilCheck rfl ⟨_, rfl⟩) (by decide) ?_
      refine QL_y (y_fieldAddr ti98 rfl ti95 rfl rfl) (by decide) ?_
      refine QL_y (y_loadS (v := .map (some g1)) ti95 rfl rfl (Cells.unit ((H0.ext0 (H.ext_of 12 rfl)).getOwn 0 rfl) rfl)) (by decide) ?_
      refine QL_y (y_move h10) (by decide) ?_
      refine QL_y (y_toStr Try.underlying23 Try.underlying5 Try.underlying9 rfl (SlR_bytes (Z := fun _ => True) (H.getOwn 4 rfl) trivial hy1 hy2 hy3)) (by decide) ?_
      refine QL_y (y_lookupG (k := kb (unkb x.s)) (v := .slice av (a.v x.s).length cv) (by rw [kb_unkb]; exact hlkV) (H0.ext0 (H.ext_of 12 rfl)) 1 rfl ti95 ti53 (KeyOK.str Try.underlying9) rfl rfl) (by decide) ?_
      refine QL_y (y_len rfl ti53 rfl) (by decide) ?_
      refine QL_y (y_move rfl) (by decide) ?_
      refine QL_nil ?_
      have H := H.rowNil 32 5
      refine W_range (N := (a.v x.s).length) (by simp only [maxLen]; omega) (fun k f ds w' => ∃ (v12 : Value) (cs12 : List Value) (G : Nat → Prop) (Wg : World), f 7 = .pointer (some ⟨b7, 0, none⟩) ∧ f 9 = .pointer (some ⟨b9, 0, none⟩) ∧ f 11 = .pointer (some ⟨b11, 0, none⟩) ∧ f 38 = .slice av (a.v x.s).length cv ∧ ds = [] ∧ v12.oneCell' = true ∧ v12.cells = #[v12] ∧ Ext none' w Wg ∧ (∀ k, G k → w.heap.size ≤ k) ∧ Els tCl G Wg cs9 (((pre.map Yk.s).filter q).map (cellOf a ts)) ∧ tVer.R G Wg [.int .u64 (a.i x.s).ts, .int .u64 (a.i x.s).txn, .bool (a.i x.s).dead, iv, ik] (a.i x.s) ∧ Els tVer G Wg cs12 (upTo ((a.v x.s).take k) ts) ∧
          Holds w' [row 32 5 v12 (upTo ((a.v x.s).take k) ts).length cs12, own b11 (.cells #[.slice (some ⟨x.b, 0, none⟩) x.s.size x.cap, v12, .int .u64 (a.i x.s).ts, .int .u64 (a.i x.s).txn, .bool (a.i x.s).dead, iv, ik] 55), aL', aD, aO, yAt x, own b9 (.cells #[.slice a9 ((pre.map Yk.s).filter q).length c9] 49), row 55 7 (.slice a9 ((pre.map Yk.s).filter q).length c9) ((pre.map Yk.s).filter q).length cs9, exc G Wg, own b4 (.cells #[.pointer (some ⟨sb, 0, none⟩)] 26), own b5 (.cells #[.slice al lo.length cl] 23), own b6 (.cells #[.slice ah hi.length ch] 23), own b7 (.cells #[.int .u64 ts] 24), shr (fun k => k < w.heap.size) w])
          ⟨.slice none 0 0, [], G, Wg, h7, h9, h11, rfl, rfl, rfl, rfl, hbase, hGn, hE9, hRi, Els.nil _ _ _, H⟩
          rfl rfl (by decide) (by decide) (by decide) rfl rfl ?_ rfl rfl ?_
      · rintro k f ds w7 hk3 ⟨v12, cs12, G, Wg, h7, h9, h11, h38, rfl, h1c, hvc, hbase, hGn, hE9, hRi, hE12, H⟩ htk2 htn2
        have hxk2 := List.getElem?_eq_getElem hk3
        obtain ⟨b3, o3, cs3, e3, -, hc3, hr3⟩ := hSl.at hxk2
        have hc3' := hc3.ext ((H.keepsAll 13 rfl (fun _ => True)).2 _ trivial hc3.lt)
        have hts : upTo ((a.v x.s).take (k + 1)) ts = upTo ((a.v x.s).take k ++ [(a.v x.s)[k]]) ts := by rw [List.take_add_one, hxk2]; rfl
        rw [upTo_snoc] at hts
        have hupl : (upTo ((a.v x.s).take k) ts).length ≤ 40000 := Nat.le_trans (List.length_filter_le _ _) (by rw [List.length_take]; omega)
        generalize (a.v x.s)[k] = u at *
        obtain ⟨xv, xk, rfl, hx1, hx2, hx3, hx4⟩ := ver_cells.1 hr3
        have h38' := h38.trans (congrArg (Value.slice · _ _) e3)
        refine W_block ?_
        refine W_seq ?_
        refine W_region ?_
        refine OL_y (y_indexAddr ti53 ti32 h38' htk2 (by omega) (by omega)) (by decide) ?_
        refine OL_y (y_loadA (cs := [.int .u64 u.ts, .int .u64 u.txn, .bool u.dead, xv, xk]) ti32 rfl rfl hc3' rfl) (by decide) ?_
        refine OL_var (v := .agg #[.int .u64 u.ts, .int .u64 u.txn, .bool u.dead, xv, xk]) H ti32 rfl (by decide) (fun _ => rfl) rfl (tVer.one hr3) fun b13 w8_2 H => ?_
        refine OL_nil ?_
        refine W_seq ?_
        refine W_region ?_
        refine OL_y (y_fieldAddr ti32 rfl ti24 rfl rfl) (by decide) ?_
        refine OL_y (y_loadS (v := .int .u64 u.ts) ti24 rfl rfl (Cells.unit (H.getOwn 0 rfl) rfl)) (by decide) ?_
        refine OL_y (y_loadS (v := .int .u64 ts) ti24 rfl h7 (Cells.unit (H.getOwn 13 rfl) rfl)) (by decide) ?_
        refine OL_y (y_leq rfl rfl) (by decide) ?_
        refine OL_nil ?_
        refine W_cond rfl (fun hc => ?_) (fun hc => ?_)
        · have hle := of_decide_eq_true hc
          refine W_drawD H mixed (by kernel_rfl) [7] (fun wq w' => w'.heap[b11]? = some (.cells #[.slice (some ⟨x.b, 0, none⟩) x.s.size x.cap, v12, .int .u64 (a.i x.s).ts, .int .u64 (a.i x.s).txn, .bool (a.i x.s).dead, iv, ik] 55) ∧ w'.heap[b13]? = some (.cells #[.int .u64 u.ts, .int .u64 u.txn, .bool u.dead, xv, xk] 32)) fun wd10 H hEd => ?_
          have hS : ∀ {ls : Array Bool}, Sx [7] (fun w' => w'.heap[b11]? = some (.cells #[.slice (some ⟨x.b, 0, none⟩) x.s.size x.cap, v12, .int .u64 (a.i x.s).ts, .int .u64 (a.i x.s).txn, .bool (a.i x.s).dead, iv, ik] 55) ∧ w'.heap[b13]? = some (.cells #[.int .u64 u.ts, .int .u64 u.txn, .bool u.dead, xv, xk] 32)) ls wd10 := fun {_} _ => ⟨H.getOwn 2 rfl, H.getOwn 0 rfl⟩
          refine DA_p 0 rfl (by kernel_rfl) rfl (fun _ => y_fieldAddr ti55 rfl ti53 rfl h11) hS (by decide) fun hS => ?_
          refine DA_y 1 rfl (by kernel_rfl) rfl (by kernel_rfl) (fun w' h => y_loadS (v := v12) ti53 rfl rfl (Cells.unit h.1 rfl)) hS (by decide) fun hS => ?_
          refine DA_y 2 rfl (by kernel_rfl) rfl (by kernel_rfl) (fun w' h => y_loadA (cs := [.int .u64 u.ts, .int .u64 u.txn, .bool u.dead, xv, xk]) ti32 rfl rfl (Cells.of h.2 rfl) rfl) hS (by decide) fun hS => ?_
          refine DA_one 3 (by kernel_rfl) rfl (op_call 46 en46 rfl [.agg #[.int .u64 u.ts, .int .u64 u.txn, .bool u.dead, xv, xk]] rfl (by decide) ((f46_calls (tVer.keeps hr3 (H.keepsAll 14 rfl _))).mono ?_))
          rintro e w10_3 ⟨cs', rfl, hR46, hE46⟩
          refine ⟨_, rfl, fun _ => ⟨(H.ext0 hE46).getOwn 2 rfl, (H.ext0 hE46).getOwn 0 rfl⟩, ?_⟩
          have hsz10 := (H.ext_of 14 rfl).size
          obtain ⟨H, g10⟩ := H.poolC hE46 9 14 rfl rfl hbase
          have hR' := tVer.mono (Z' := fun k => G k ∨ (wd10.heap.size ≤ k ∧ k < w10_3.heap.size)) hR46 fun k h1 h2 => .inr ⟨h2, h1⟩
          have hcl' : cs'.length = 5 := tVer.len hR'
          refine DA_one 4 (by kernel_rfl) rfl (op_buildSlice H [.agg cs'.toArray] ti53 ti32 rfl rfl rfl (by intro v hv; rw [List.mem_singleton.1 hv]; exact hcl') rfl rfl (by decide) fun b52 w10_4 H => ⟨fun _ => ⟨H.getOwn 3 rfl, H.getOwn 1 rfl⟩, ?_⟩)
          refine DA_one 5 (by kernel_rfl) rfl (op_append (news := cs') H 2 rfl rfl ti53 ti32 rfl rfl rfl rfl (show Go.Wk.Src w10_4 (.slice (some ⟨b52, 0, none⟩) 1 1) 1 cs' by have := Src.row (H.getRow 0 rfl); simpa [Value.cells] using this) (by rw [hcl']) (tVer.one hR') (by omega) (by simp only [maxLen]; omega) (by decide) fun v53 w10_5 H => ⟨fun _ => ⟨H.getOwn 3 rfl, H.getOwn 1 rfl⟩, ?_⟩)
          obtain ⟨a53, c53, rfl, hl53, hm53⟩ := H.rowLen 2 rfl
          refine DA_p 6 rfl (by kernel_rfl) rfl (fun _ => y_fieldAddr ti55 rfl ti53 rfl h11) (fun _ => ⟨H.getOwn 3 rfl, H.getOwn 1 rfl⟩) (by decide) fun _ => ?_
          refine DA_one 7 (by kernel_rfl) rfl (op_store (v := .slice a53 ((upTo ((a.v x.s).take k) ts).length + 1) c53) H 3 rfl ti53 rfl rfl rfl (Nat.le_of_ble_eq_true rfl) (by simp [Value.cells, Value.oneCell']) fun w10_7 H => ⟨fun h => absurd (h 7 (by simp)) (by decide), ?_⟩)
          refine DA_done (by kernel_rfl) ?_
          have e2 : upTo ((a.v x.s).take (k + 1)) ts = upTo ((a.v x.s).take k) ts ++ [u] := by rw [hts, if_pos hle]
          refine ⟨htk2, htn2, .slice a53 ((upTo ((a.v x.s).take k) ts).length + 1) c53, cs12 ++ cs', _, _, h7, h9, h11, h38, rfl, rfl, rfl, g10.base, fun k hk => hk.elim (hGn k) (fun h => Nat.le_trans hsz10 h.1), g10.els1 hE9, g10.R1 hRi, by rw [e2]; exact (g10.els1 hE12).snoc hR', ?_⟩
          rw [e2, List.length_append]; exact H.tail.tail
        · refine W_skip ?_
          have hle := of_decide_eq_false hc
          have e2 : upTo ((a.v x.s).take (k + 1)) ts = upTo ((a.v x.s).take k) ts := by rw [hts, if_neg hle, List.append_nil]
          refine ⟨htk2, htn2, v12, cs12, G, Wg, h7, h9, h11, h38, rfl, h1c, hvc, hbase, hGn, hE9, hRi, by rw [e2]; exact hE12, ?_⟩
          rw [e2]; exact H.tail
      · rintro f ds w7 ⟨v12, cs12, G, Wg, h7, h9, h11, h38, rfl, h1c, hvc, hbase, hGn, hE9, hRi, hE12, H⟩ htk2 htn2
        rw [List.take_length] at hE12 H
        have hupl : (upTo (a.v x.s) ts).length ≤ 40000 := Nat.le_trans (List.length_filter_le _ _) (by omega)
        obtain ⟨a12, c12, hv12, hl12, hm12⟩ := H.rowLen 0 rfl
        subst hv12
        refine W_seq ?_
        by_cases hn : (0 : Int) < ((upTo (a.v x.s) ts).length : Nat)
        · refine W_region ?_
          refine OL_y (y_fieldAddr ti55 rfl ti53 rfl h11) (by decide) ?_
          refine OL_y (y_loadS (v := .slice a12 (upTo (a.v x.s) ts).length c12) ti53 rfl rfl (Cells.unit (H.getOwn 1 rfl) rfl)) (by decide) ?_
          refine OL_y (y_len rfl ti53 rfl) (by decide) ?_
          refine OL_y (v := .bool true) (y_gtrT hn rfl rfl) (by decide) ?_
          refine OL_y (v := .bool true) (y_move rfl) (by decide) ?_
          refine OL_s rfl (by decide) rfl rfl (by simp) ?_
          refine OL_s rfl (by decide) rfl rfl (by simp) ?_
          refine OL_s rfl (by decide) rfl rfl (by simp) ?_
          refine OL_s rfl (by decide) rfl rfl (by simp) ?_
          refine OL_y (y_pick (b := true) (v := .bool true) rfl rfl) (by decide) ?_
          refine OL_nil ?_
          refine W_condt rfl ?_
          have hone13 : ∀ u ∈ [.slice (some ⟨x.b, 0, none⟩) x.s.size x.cap, .slice a12 (upTo (a.v x.s) ts).length c12, .int .u64 (a.i x.s).ts, .int .u64 (a.i x.s).txn, .bool (a.i x.s).dead, iv, ik], u.oneCell' = true := by
            intro u hu
            rcases List.mem_cons.1 hu with rfl | hu
            · rfl
            rcases List.mem_cons.1 hu with rfl | hu
            · rfl
            exact tVer.one hRi u hu
          refine W_region ?_
          refine OL_y (y_loadS (v := .slice a9 ((pre.map Yk.s).filter q).length c9) ti49 rfl h9 (Cells.unit (H.getOwn 6 rfl) rfl)) (by decide) ?_
          refine OL_y (y_loadA (cs := [.slice (some ⟨x.b, 0, none⟩) x.s.size x.cap, .slice a12 (upTo (a.v x.s) ts).length c12, .int .u64 (a.i x.s).ts, .int .u64 (a.i x.s).txn, .bool (a.i x.s).dead, iv, ik]) ti55 rfl h11 (Cells.of (H.getOwn 1 rfl) rfl) rfl) (by decide) ?_
          refine OL_c (op_buildSlice H [.agg #[.slice (some ⟨x.b, 0, none⟩) x.s.size x.cap, .slice a12 (upTo (a.v x.s) ts).length c12, .int .u64 (a.i x.s).ts, .int .u64 (a.i x.s).txn, .bool (a.i x.s).dead, iv, ik]] ti49 ti55 rfl rfl rfl (by simp [Value.cells]) rfl rfl (by decide) fun b68 w13_2 H => ?_)
          refine OL_c (op_append H 8 rfl rfl ti49 ti55 rfl rfl rfl rfl (Src.row (H.getRow 0 rfl)) rfl (by intro c hc; exact hone13 c (by simpa [Value.cells] using hc)) (by omega) (by simp only [maxLen]; omega) (by decide) fun v69 w13_3 H => ?_)
          obtain ⟨a69, c69, rfl, hl69, hm69⟩ := H.rowLen 8 rfl
          refine OL_c (op_store (v := .slice a69 (((pre.map Yk.s).filter q).length + 1) c69) H 7 rfl ti49 h9 rfl rfl (Nat.le_of_ble_eq_true rfl) (by simp [Value.cells, Value.oneCell']) fun w13_4 H => ?_)
          refine OL_nil ?_
          have hqt : q x.s = true := by rw [hqe, hwb, Bool.true_and, decide_eq_true_eq]; left; intro h; rw [h] at hn; exact absurd hn (by decide)
          have hf : ((pre ++ [x]).map Yk.s).filter q = (pre.map Yk.s).filter q ++ [x.s] := by rw [hmap, List.filter_append, List.filter_cons_of_pos hqt, List.filter_nil]
          have H := H.tail
          have hrow12 := H.getRow 0 rfl
          have hf12 := H.fresh 0 13 rfl rfl rfl
          have hfy := H.fresh 5 13 rfl rfl rfl x.b rfl
          have hkG : Keeps G Wg w13_4 := H.keepsX 8 rfl
          have hyb := H.getOwn 5 rfl
          obtain ⟨H, g13⟩ := H.poolX rfl 7 12 rfl rfl hbase
          have H := H.tail
          have H := Holds.pick (A := [aL', aD, aO]) (B := []) (C := []) H
          obtain ⟨H, g14⟩ := H.poolX rfl 5 10 rfl rfl g13.base
          have hvr : SlR tVer 72 (fun k => G k ∨ (Value.slice a12 (upTo (a.v x.s) ts).length c12).ownBlock = some k) w13_4 (.slice a12 (upTo (a.v x.s) ts).length c12) (upTo (a.v x.s) ts) := SlR.ofRow hrow12 (by decide) ((hE12.keeps hkG).mono fun _ _ h => Or.inl h) (fun k hk => Or.inr hk) (by omega)
          have hT : tCl.R (fun k => (G k ∨ (Value.slice a12 (upTo (a.v x.s) ts).length c12).ownBlock = some k) ∨ k = x.b) w13_4 [.slice (some ⟨x.b, 0, none⟩) x.s.size x.cap, .slice a12 (upTo (a.v x.s) ts).length c12, .int .u64 (a.i x.s).ts, .int .u64 (a.i x.s).txn, .bool (a.i x.s).dead, iv, ik] (cellOf a ts x.s) := cl_cells.2 ⟨_, _, _, rfl, SlR_bytes hyb (Or.inr rfl) hy1 hy2 hy3, g14.slr1 hvr, g14.R1 (g13.R1 hRi)⟩
          refine ⟨_, ⟨.slice a69 (((pre.map Yk.s).filter q).length + 1) c69, cs9 ++ [Value.slice (some ⟨x.b, 0, none⟩) x.s.size x.cap, .slice a12 (upTo (a.v x.s) ts).length c12, .int .u64 (a.i x.s).ts, .int .u64 (a.i x.s).txn, .bool (a.i x.s).dead, iv, ik], fun k => (G k ∨ (Value.slice a12 (upTo (a.v x.s) ts).length c12).ownBlock = some k) ∨ k = x.b, w13_4, rfl, g14.base, fun k hk => hk.elim (fun h => h.elim (hGn k) (hf12 k)) (fun h => by rw [h]; exact hfy), by rw [hf, List.map_append]; exact (g14.els1 (g13.els1 hE9)).snoc hT⟩, ?_⟩
          rw [hf, List.length_append]; exact H
        · refine W_region ?_
          refine OL_y (y_fieldAddr ti55 rfl ti53 rfl h11) (by decide) ?_
          refine OL_y (y_loadS (v := .slice a12 (upTo (a.v x.s) ts).length c12) ti53 rfl rfl (Cells.unit (H.getOwn 1 rfl) rfl)) (by decide) ?_
          refine OL_y (y_len rfl ti53 rfl) (by decide) ?_
          refine OL_y (v := .bool false) (y_gtrF hn rfl rfl) (by decide) ?_
          refine OL_y (v := .bool false) (y_move rfl) (by decide) ?_
          refine OL_yg rfl (by decide) rfl (y_fieldAddr ti55 rfl ti32 rfl h11) (by decide) ?_
          refine OL_yg rfl (by decide) rfl (y_fieldAddr ti32 rfl ti24 rfl rfl) (by decide) ?_
          refine OL_yg rfl (by decide) rfl (y_loadS (v := .int .u64 (a.i x.s).txn) ti24 rfl rfl (Cells.unit (H.getOwn 1 rfl) rfl)) (by decide) ?_
          refine OL_yg rfl (by decide) rfl (y_neq rfl rfl) (by decide) ?_
          refine OL_y (y_pick (b := false) (v := .bool (decide ((a.i x.s).txn ≠ 0))) rfl rfl) (by decide) ?_
          refine OL_nil ?_
          refine W_cond rfl (fun hc => ?_) (fun hc => ?_)
          · have hone13 : ∀ u ∈ [.slice (some ⟨x.b, 0, none⟩) x.s.size x.cap, .slice a12 (upTo (a.v x.s) ts).length c12, .int .u64 (a.i x.s).ts, .int .u64 (a.i x.s).txn, .bool (a.i x.s).dead, iv, ik], u.oneCell' = true := by
              intro u hu
              rcases List.mem_cons.1 hu with rfl | hu
              · rfl
              rcases List.mem_cons.1 hu with rfl | hu
              · rfl
              exact tVer.one hRi u hu
            refine W_region ?_
            refine OL_y (y_loadS (v := .slice a9 ((pre.map Yk.s).filter q).length c9) ti49 rfl h9 (Cells.unit (H.getOwn 6 rfl) rfl)) (by decide) ?_
            refine OL_y (y_loadA (cs := [.slice (some ⟨x.b, 0, none⟩) x.s.size x.cap, .slice a12 (upTo (a.v x.s) ts).length c12, .int .u64 (a.i x.s).ts, .int .u64 (a.i x.s).txn, .bool (a.i x.s).dead, iv, ik]) ti55 rfl h11 (Cells.of (H.getOwn 1 rfl) rfl) rfl) (by decide) ?_
            refine OL_c (op_buildSlice H [.agg #[.slice (some ⟨x.b, 0, none⟩) x.s.size x.cap, .slice a12 (upTo (a.v x.s) ts).length c12, .int .u64 (a.i x.s).ts, .int .u64 (a.i x.s).txn, .bool (a.i x.s).dead, iv, ik]] ti49 ti55 rfl rfl rfl (by simp [Value.cells]) rfl rfl (by decide) fun b68 w13_2 H => ?_)
            refine OL_c (op_append H 8 rfl rfl ti49 ti55 rfl rfl rfl rfl (Src.row (H.getRow 0 rfl)) rfl (by intro c hc; exact hone13 c (by simpa [Value.cells] using hc)) (by omega) (by simp only [maxLen]; omega) (by decide) fun v69 w13_3 H => ?_)
            obtain ⟨a69, c69, rfl, hl69, hm69⟩ := H.rowLen 8 rfl
            refine OL_c (op_store (v := .slice a69 (((pre.map Yk.s).filter q).length + 1) c69) H 7 rfl ti49 h9 rfl rfl (Nat.le_of_ble_eq_true rfl) (by simp [Value.cells, Value.oneCell']) fun w13_4 H => ?_)
            refine OL_nil ?_
            have hne := of_decide_eq_true hc
            have hqt : q x.s = true := by rw [hqe, hwb, Bool.true_and, decide_eq_true_eq]; right; exact hne
            have hf : ((pre ++ [x]).map Yk.s).filter q = (pre.map Yk.s).filter q ++ [x.s] := by rw [hmap, List.filter_append, List.filter_cons_of_pos hqt, List.filter_nil]
            have H := H.tail
            have hrow12 := H.getRow 0 rfl
            have hf12 := H.fresh 0 13 rfl rfl rfl
            have hfy := H.fresh 5 13 rfl rfl rfl x.b rfl
            have hkG : Keeps G Wg w13_4 := H.keepsX 8 rfl
            have hyb := H.getOwn 5 rfl
            obtain ⟨H, g13⟩ := H.poolX rfl 7 12 rfl rfl hbase
            have H := H.tail
            have H := Holds.pick (A := [aL', aD, aO]) (B := []) (C := []) H
            obtain ⟨H, g14⟩ := H.poolX rfl 5 10 rfl rfl g13.base
            have hvr : SlR tVer 72 (fun k => G k ∨ (Value.slice a12 (upTo (a.v x.s) ts).length c12).ownBlock = some k) w13_4 (.slice a12 (upTo (a.v x.s) ts).length c12) (upTo (a.v x.s) ts) := SlR.ofRow hrow12 (by decide) ((hE12.keeps hkG).mono fun _ _ h => Or.inl h) (fun k hk => Or.inr hk) (by omega)
            have hT : tCl.R (fun k => (G k ∨ (Value.slice a12 (upTo (a.v x.s) ts).length c12).ownBlock = some k) ∨ k = x.b) w13_4 [.slice (some ⟨x.b, 0, none⟩) x.s.size x.cap, .slice a12 (upTo (a.v x.s) ts).length c12, .int .u64 (a.i x.s).ts, .int .u64 (a.i x.s).txn, .bool (a.i x.s).dead, iv, ik] (cellOf a ts x.s) := cl_cells.2 ⟨_, _, _, rfl, SlR_bytes hyb (Or.inr rfl) hy1 hy2 hy3, g14.slr1 hvr, g14.R1 (g13.R1 hRi)⟩
            refine ⟨_, ⟨.slice a69 (((pre.map Yk.s).filter q).length + 1) c69, cs9 ++ [Value.slice (some ⟨x.b, 0, none⟩) x.s.size x.cap, .slice a12 (upTo (a.v x.s) ts).length c12, .int .u64 (a.i x.s).ts, .int .u64 (a.i x.s).txn, .bool (a.i x.s).dead, iv, ik], fun k => (G k ∨ (Value.slice a12 (upTo (a.v x.s) ts).length c12).ownBlock = some k) ∨ k = x.b, w13_4, rfl, g14.base, fun k hk => hk.elim (fun h => h.elim (hGn k) (hf12 k)) (fun h => by rw [h]; exact hfy), by rw [hf, List.map_append]; exact (g14.els1 (g13.els1 hE9)).snoc hT⟩, ?_⟩
            rw [hf, List.length_append]; exact H
          · refine W_skip ?_
            have hne := of_decide_eq_false hc
            have hnil : upTo (a.v x.s) ts = [] := List.eq_nil_of_length_eq_zero (by omega)
            have hqf : q x.s = false := by rw [hqe, hwb, hnil, Bool.true_and, decide_eq_false_iff_not]; intro h; rcases h with h | h; exact h rfl; exact hne h
            have hf : ((pre ++ [x]).map Yk.s).filter q = (pre.map Yk.s).filter q := by rw [hmap, List.filter_append, List.filter_cons_of_neg (by rw [hqf]; simp), List.filter_nil, List.append_nil]
            refine ⟨_, ⟨.slice a9 ((pre.map Yk.s).filter q).length c9, cs9, G, Wg, rfl, hbase, hGn, by rw [hf]; exact hE9⟩, ?_⟩
            rw [hf]
            exact H.tail.tail.sub (.cons_cons _ (.cons_cons _ (.cons_cons _ (.cons _ (.refl _)))))
  · rintro D xs Ls W hxs ⟨v9, cs9, G, Wg, rfl, hbase, hGn, hE9⟩ HH
    refine W_seq ?_
    have H := HH
    obtain ⟨a9, c9, hv9, hl9, hm9⟩ := H.rowLen 2 rfl
    subst hv9
    refine W_region ?_
    refine OL_y (y_loadS (v := .slice a9 ((xs.map Yk.s).filter q).length c9) ti49 rfl rfl (Cells.unit (H.getOwn 1 rfl) rfl)) (by decide) ?_
    refine OL_y (y_assign rfl) (by decide) ?_
    refine OL_nil ?_
    refine W_ret ?_
    show RetOK _ _ _ _ _ _
    refine RetOK.mark (H.getOwn 0 rfl) ?_
    have H := H.put 0 rfl (.deferred none)
    have hxk : xs.map Yk.s = ks := hxs
    rw [hxk] at hE9 H ⊢
    have hfl : (ks.filter q).length ≤ 80000 := Nat.le_trans (List.length_filter_le _ _) hkl
    refine ret1 (v := .slice a9 (ks.filter q).length c9) Try.results25 (by rw [← hxk]; rfl) ⟨_, ks.filter q, rfl, ⟨hks.rise.sublist List.filter_sublist, fun k => ?_⟩, ?_, H.ext_of 8 rfl⟩
    · rw [List.mem_filter, hqe, Bool.and_eq_true, decide_eq_true_eq]
      refine ⟨fun h => h.2, fun h => ⟨(hks.mem k).2 (h.2.imp (fun h1 h2 => h1 (by rw [h2]; rfl)) id), h⟩⟩
    · exact SlR.ofRow (H.getRow 2 rfl) (by decide) ((hE9.keeps (H.keepsX 3 rfl)).mono fun k _ h => hGn k h) (fun k hk => H.fresh 2 8 rfl rfl rfl k hk) (by rw [List.length_map]; omega)
  · rintro D pre Ls W e hp h; exact h.elim
end Go.Proofs.Ytpandioolpnihaa

/- Rows of cells compared. -/
namespace Go.Proofs.Ytpandioolpnihaa
open Go Go.Wk
set_option linter.unusedVariables false
set_option linter.unusedSimpArgs false

set_option maxHeartbeats 16000000 in
theorem f24_calls {Z Z' : Nat → Prop} {w : World} {va vb : Value} {xs ys : List Cl} (hx : SlR tCl 120 Z w va xs) (hy : SlR tCl 120 Z' w vb ys) :
    Calls Try.prog 24 [va, vb].toArray w fun e w' => e = .returned (.bool (decide (xs = ys))) ∧ Ext none' w w' := by
  have H := Holds.start w
  have hN := hx.len1 (by decide)
  have hM := hy.len1 (by decide)
  obtain ⟨a0, c0, rfl, hl0, hm0⟩ := hx.len
  obtain ⟨a1, c1, rfl, hl1, hm1⟩ := hy.len
  refine calls_of_W' Try.func24 rfl Try.ntmps24 rfl ?_
  refine W_seq ?_
  refine W_region ?_
  refine OL_y (v := .bool false) (y_assign rfl) (by decide) ?_
  refine OL_nil ?_
  refine W_seq ?_
  refine W_seq ?_
  refine W_region ?_
  refine OL_y (y_move rfl) (by decide) ?_
  refine OL_y (y_len rfl ti49 rfl) (by decide) ?_
  refine OL_y (y_move rfl) (by decide) ?_
  refine OL_y (y_len rfl ti49 rfl) (by decide) ?_
  refine OL_y (y_neq rfl rfl) (by decide) ?_
  refine OL_nil ?_
  refine W_cond rfl (fun hc => ?_) (fun hc => ?_)
  · refine W_seq ?_
    refine W_region ?_
    refine OL_y (v := .bool false) (y_assign rfl) (by decide) ?_
    refine OL_nil ?_
    refine W_ret ?_
    show RetOK _ _ _ _ _ _
    have hc := of_decide_eq_true hc
    exact ret1 (v := .bool false) Try.results24 rfl ⟨by rw [decide_eq_false (fun h => hc (by rw [h]))], H.ext_of 0 rfl⟩
  · refine W_skip ?_
    refine W_seq ?_
    refine W_seq ?_
    have hlen : xs.length = ys.length := by have := of_decide_eq_false hc; omega
    refine W_region ?_
    refine OL_y (y_move rfl) (by decide) ?_
    refine OL_y (y_len rfl ti49 rfl) (by decide) ?_
    refine OL_y (y_move rfl) (by decide) ?_
    refine OL_nil ?_
    refine W_range (N := xs.length) (by omega) (fun j f ds w' => f 0 = .slice a0 xs.length c0 ∧ f 1 = .slice a1 ys.length c1 ∧ ds = [] ∧ xs.take j = ys.take j ∧ Holds w' [shr (fun k => k < w.heap.size) w])
        ⟨rfl, rfl, rfl, by simp, H⟩
        rfl rfl (by decide) (by decide) (by decide) rfl rfl ?_ rfl rfl ?_
    · rintro j f ds w2 hj ⟨h0, h1, rfl, heq, H⟩ hti htn
      have hxj := List.getElem?_eq_getElem hj
      have hyj : ys[j]? = some (ys[j]'(by omega)) := List.getElem?_eq_getElem (by omega)
      obtain ⟨b2, o2, cs2, e2, hz2, hc2, hr2⟩ := hx.at hxj
      obtain ⟨b3, o3, cs3, e3, hz3, hc3, hr3⟩ := hy.at hyj
      have htx : xs.take (j + 1) = xs.take j ++ [xs[j]] := by rw [List.take_add_one, hxj]; rfl
      have hty : ys.take (j + 1) = ys.take j ++ [ys[j]'(by omega)] := by rw [List.take_add_one, hyj]; rfl
      generalize xs[j] = x at *
      generalize ys[j]'(by omega) = y at *
      obtain ⟨xk, xv, _, rfl, hxk, hxv, hxi⟩ := cl_cells.1 hr2
      obtain ⟨yk, yv, _, rfl, hyk, hyv, hyi⟩ := cl_cells.1 hr3
      obtain ⟨xa, xb, rfl, -⟩ := ver_cells.1 hxi
      obtain ⟨ya, yb, rfl, -⟩ := ver_cells.1 hyi
      obtain ⟨ax, cx, rfl, hlx, hmx⟩ := hxv.len
      obtain ⟨ay, cy, rfl, hly, hmy⟩ := hyv.len
      have hLx := hxv.len1 (by decide)
      have hLy := hyv.len1 (by decide)
      have hCx : ∀ {w'}, Holds w' [shr (fun k => k < w.heap.size) w] → Cells w' b2 (o2 + j * 7) [xk, .slice ax x.vers.length cx, .int .u64 x.intent.ts, .int .u64 x.intent.txn, .bool x.intent.dead, xa, xb] := fun {w'} h => hc2.ext ((h.keepsAll 0 rfl Z).2 _ hz2 hc2.lt)
      have hCy : ∀ {w'}, Holds w' [shr (fun k => k < w.heap.size) w] → Cells w' b3 (o3 + j * 7) [yk, .slice ay y.vers.length cy, .int .u64 y.intent.ts, .int .u64 y.intent.txn, .bool y.intent.dead, ya, yb] := fun {w'} h => hc3.ext ((h.keepsAll 0 rfl Z').2 _ hz3 hc3.lt)
      refine W_block ?_
      refine W_seq ?_
      refine W_region ?_
      refine OL_y (y_move hti) (by decide) ?_
      refine OL_y (y_assign rfl) (by decide) ?_
      refine OL_nil ?_
      refine W_seq ?_
      refine W_seq ?_
      by_cases hk : kb x.key = kb y.key
      · by_cases hi : x.intent = y.intent
        · by_cases hl : ((x.vers.length : Nat) : Int) = ((y.vers.length : Nat) : Int)
          · refine W_drawD H mixed (by kernel_rfl) [] (fun wq w' => Holds w' [shr (fun k => k < w.heap.size) w]) fun wd6 H hEd => ?_
            have hS : ∀ {ls : Array Bool}, Sx [] (fun w' => Holds w' [shr (fun k => k < w.heap.size) w]) ls wd6 := fun {_} _ => H
            refine DA_p 0 rfl (by kernel_rfl) rfl (fun _ => y_move h0) hS (by decide) fun hS => ?_
            refine DA_p 1 rfl (by kernel_rfl) rfl (fun _ => y_move rfl) hS (by decide) fun hS => ?_
            refine DA_p 2 rfl (by kernel_rfl) rfl (fun _ => y_indexAddr ti49 ti55 (congrArg (Value.slice · _ _) e2) rfl (by omega) (by omega)) hS (by decide) fun hS => ?_
            refine DA_p 3 rfl (by kernel_rfl) rfl (fun _ => y_fieldAddr ti55 rfl ti23 rfl rfl) hS (by decide) fun hS => ?_
            refine DA_y 4 rfl (by kernel_rfl) rfl (by kernel_rfl) (fun w' h => y_loadS (v := xk) ti23 rfl rfl ((hCx h).take 0 rfl)) hS (by decide) fun hS => ?_
            refine DA_y 5 rfl (by kernel_rfl) rfl (by kernel_rfl) (fun w' h => y_toStr (w := w') Try.underlying23 Try.underlying5 Try.underlying9 rfl (hxk.keeps (h.keepsAll 0 rfl _))) hS (by decide) fun hS => ?_
            refine DA_p 6 rfl (by kernel_rfl) rfl (fun _ => y_move h1) hS (by decide) fun hS => ?_
            refine DA_p 7 rfl (by kernel_rfl) rfl (fun _ => y_move rfl) hS (by decide) fun hS => ?_
            refine DA_p 8 rfl (by kernel_rfl) rfl (fun _ => y_indexAddr ti49 ti55 (congrArg (Value.slice · _ _) e3) rfl (by omega) (by omega)) hS (by decide) fun hS => ?_
            refine DA_p 9 rfl (by kernel_rfl) rfl (fun _ => y_fieldAddr ti55 rfl ti23 rfl rfl) hS (by decide) fun hS => ?_
            refine DA_y 10 rfl (by kernel_rfl) rfl (by kernel_rfl) (fun w' h => y_loadS (v := yk) ti23 rfl rfl ((hCy h).take 0 rfl)) hS (by decide) fun hS => ?_
            refine DA_y 11 rfl (by kernel_rfl) rfl (by kernel_rfl) (fun w' h => y_toStr (w := w') Try.underlying23 Try.underlying5 Try.underlying9 rfl (hyk.keeps (h.keepsAll 0 rfl _))) hS (by decide) fun hS => ?_
            refine DA_p (v := .bool false) 12 rfl (by kernel_rfl) rfl (fun _ => y_neqSF hk rfl rfl) hS (by decide) fun hS => ?_
            refine DA_p (v := .bool false) 13 rfl (by kernel_rfl) rfl (fun _ => y_move rfl) hS (by decide) fun hS => ?_
            refine DA_pg 14 rfl rfl (by decide) rfl (by kernel_rfl) rfl (fun _ => y_move h0) hS (by decide) fun hS => ?_
            refine DA_pg 15 rfl rfl (by decide) rfl (by kernel_rfl) rfl (fun _ => y_move rfl) hS (by decide) fun hS => ?_
            refine DA_pg 16 rfl rfl (by decide) rfl (by kernel_rfl) rfl (fun _ => y_indexAddr ti49 ti55 (congrArg (Value.slice · _ _) e2) rfl (by omega) (by omega)) hS (by decide) fun hS => ?_
            refine DA_pg 17 rfl rfl (by decide) rfl (by kernel_rfl) rfl (fun _ => y_fieldAddr ti55 rfl ti32 rfl rfl) hS (by decide) fun hS => ?_
            refine DA_yg 18 rfl rfl (by decide) rfl (by kernel_rfl) rfl (by kernel_rfl) (fun w' h => y_loadA (cs := [.int .u64 x.intent.ts, .int .u64 x.intent.txn, .bool x.intent.dead, xa, xb]) ti32 rfl rfl ((hCx h).take 2 rfl) rfl) hS (by decide) fun hS => ?_
            refine DA_pg 19 rfl rfl (by decide) rfl (by kernel_rfl) rfl (fun _ => y_move h1) hS (by decide) fun hS => ?_
            refine DA_pg 20 rfl rfl (by decide) rfl (by kernel_rfl) rfl (fun _ => y_move rfl) hS (by decide) fun hS => ?_
            refine DA_pg 21 rfl rfl (by decide) rfl (by kernel_rfl) rfl (fun _ => y_indexAddr ti49 ti55 (congrArg (Value.slice · _ _) e3) rfl (by omega) (by omega)) hS (by decide) fun hS => ?_
            refine DA_pg 22 rfl rfl (by decide) rfl (by kernel_rfl) rfl (fun _ => y_fieldAddr ti55 rfl ti32 rfl rfl) hS (by decide) fun hS => ?_
            refine DA_yg 23 rfl rfl (by decide) rfl (by kernel_rfl) rfl (by kernel_rfl) (fun w' h => y_loadA (cs := [.int .u64 y.intent.ts, .int .u64 y.intent.txn, .bool y.intent.dead, ya, yb]) ti32 rfl rfl ((hCy h).take 2 rfl) rfl) hS (by decide) fun hS => ?_
            refine DA_oneg 24 (by kernel_rfl) rfl rfl (by decide) rfl (op_call 15 en15 rfl [.agg #[.int .u64 x.intent.ts, .int .u64 x.intent.txn, .bool x.intent.dead, xa, xb], .agg #[.int .u64 y.intent.ts, .int .u64 y.intent.txn, .bool y.intent.dead, ya, yb]] rfl (by decide) ((f15_calls (tVer.keeps hxi (H.keepsAll 0 rfl _)) (tVer.keeps hyi (H.keepsAll 0 rfl _))).mono ?_))
            rintro e w6_24 ⟨rfl, hE15⟩
            refine ⟨_, rfl, fun _ => H.ext0 hE15, ?_⟩
            have H := H.ext0 hE15
            rw [decide_eq_true hi]
            have hS : ∀ {ls : Array Bool}, Sx [] (fun w' => Holds w' [shr (fun k => k < w.heap.size) w]) ls w6_24 := fun {_} _ => H
            refine DA_pg (v := .bool false) 25 rfl rfl (by decide) rfl (by kernel_rfl) rfl (fun _ => y_not (b := true) rfl) hS (by decide) fun hS => ?_
            refine DA_p 26 rfl (by kernel_rfl) rfl (fun _ => y_pick (b := false) (v := .bool false) rfl rfl) hS (by decide) fun hS => ?_
            refine DA_p (v := .bool false) 27 rfl (by kernel_rfl) rfl (fun _ => y_move rfl) hS (by decide) fun hS => ?_
            refine DA_pg 28 rfl rfl (by decide) rfl (by kernel_rfl) rfl (fun _ => y_move h0) hS (by decide) fun hS => ?_
            refine DA_pg 29 rfl rfl (by decide) rfl (by kernel_rfl) rfl (fun _ => y_move rfl) hS (by decide) fun hS => ?_
            refine DA_pg 30 rfl rfl (by decide) rfl (by kernel_rfl) rfl (fun _ => y_indexAddr ti49 ti55 (congrArg (Value.slice · _ _) e2) rfl (by omega) (by omega)) hS (by decide) fun hS => ?_
            refine DA_pg 31 rfl rfl (by decide) rfl (by kernel_rfl) rfl (fun _ => y_fieldAddr ti55 rfl ti53 rfl rfl) hS (by decide) fun hS => ?_
            refine DA_yg 32 rfl rfl (by decide) rfl (by kernel_rfl) rfl (by kernel_rfl) (fun w' h => y_loadS (v := .slice ax x.vers.length cx) ti53 rfl rfl ((hCx h).take 1 rfl)) hS (by decide) fun hS => ?_
            refine DA_pg 33 rfl rfl (by decide) rfl (by kernel_rfl) rfl (fun _ => y_len rfl ti53 rfl) hS (by decide) fun hS => ?_
            refine DA_pg 34 rfl rfl (by decide) rfl (by kernel_rfl) rfl (fun _ => y_move h1) hS (by decide) fun hS => ?_
            refine DA_pg 35 rfl rfl (by decide) rfl (by kernel_rfl) rfl (fun _ => y_move rfl) hS (by decide) fun hS => ?_
            refine DA_pg 36 rfl rfl (by decide) rfl (by kernel_rfl) rfl (fun _ => y_indexAddr ti49 ti55 (congrArg (Value.slice · _ _) e3) rfl (by omega) (by omega)) hS (by decide) fun hS => ?_
            refine DA_pg 37 rfl rfl (by decide) rfl (by kernel_rfl) rfl (fun _ => y_fieldAddr ti55 rfl ti53 rfl rfl) hS (by decide) fun hS => ?_
            refine DA_yg 38 rfl rfl (by decide) rfl (by kernel_rfl) rfl (by kernel_rfl) (fun w' h => y_loadS (v := .slice ay y.vers.length cy) ti53 rfl rfl ((hCy h).take 1 rfl)) hS (by decide) fun hS => ?_
            refine DA_pg 39 rfl rfl (by decide) rfl (by kernel_rfl) rfl (fun _ => y_len rfl ti53 rfl) hS (by decide) fun hS => ?_
            refine DA_pg (v := .bool false) 40 rfl rfl (by decide) rfl (by kernel_rfl) rfl (fun _ => y_neqF hl rfl rfl) hS (by decide) fun hS => ?_
            refine DA_p 41 rfl (by kernel_rfl) rfl (fun _ => y_pick (b := false) (v := .bool false) rfl rfl) hS (by decide) fun hS => ?_
            refine DA_done (by kernel_rfl) ?_
            refine W_condf rfl ?_
            refine W_skip ?_
            refine W_seq ?_
            refine W_region ?_
            refine OL_y (y_move h0) (by decide) ?_
            refine OL_y (y_move rfl) (by decide) ?_
            refine OL_y (y_indexAddr ti49 ti55 (congrArg (Value.slice · _ _) e2) rfl (by omega) (by omega)) (by decide) ?_
            refine OL_y (y_fieldAddr ti55 rfl ti53 rfl rfl) (by decide) ?_
            refine OL_y (y_loadS (v := .slice ax x.vers.length cx) ti53 rfl rfl ((hCx H).take 1 rfl)) (by decide) ?_
            refine OL_y (y_len rfl ti53 rfl) (by decide) ?_
            refine OL_y (y_move rfl) (by decide) ?_
            refine OL_nil ?_
            refine W_range (N := x.vers.length) (by omega) (fun k f ds w' => f 0 = .slice a0 xs.length c0 ∧ f 1 = .slice a1 ys.length c1 ∧ f 5 = .int .i64 (j : Nat) ∧ f 13 = .int .i64 (xs.length : Nat) ∧ f 14 = .int .i64 (j : Nat) ∧ ds = [] ∧ x.vers.take k = y.vers.take k ∧ Holds w' [shr (fun k => k < w.heap.size) w])
                ⟨h0, h1, rfl, htn, hti, rfl, by simp, H⟩
                rfl rfl (by decide) (by decide) (by decide) rfl rfl ?_ rfl rfl ?_
            · rintro k f ds w9 hk2 ⟨h0, h1, h5, h13, h14, rfl, heq2, H⟩ htk2 htn2
              have hxk2 := List.getElem?_eq_getElem hk2
              have hyk2 : y.vers[k]? = some (y.vers[k]'(by omega)) := List.getElem?_eq_getElem (by omega)
              obtain ⟨b4, o4, cs4, e4, hz4, hc4, hr4⟩ := hxv.at hxk2
              obtain ⟨b5, o5, cs5, e5, hz5, hc5, hr5⟩ := hyv.at hyk2
              have htx2 : x.vers.take (k + 1) = x.vers.take k ++ [x.vers[k]] := by rw [List.take_add_one, hxk2]; rfl
              have hty2 : y.vers.take (k + 1) = y.vers.take k ++ [y.vers[k]'(by omega)] := by rw [List.take_add_one, hyk2]; rfl
              generalize x.vers[k] = u at *
              generalize y.vers[k]'(by omega) = v at *
              refine W_block ?_
              refine W_seq ?_
              refine W_region ?_
              refine OL_y (y_move htk2) (by decide) ?_
              refine OL_y (y_assign rfl) (by decide) ?_
              refine OL_nil ?_
              refine W_seq ?_
              refine W_drawD H mixed (by kernel_rfl) [] (fun wq w' => Holds w' [shr (fun k => k < w.heap.size) w]) fun wd11 H hEd => ?_
              have hS : ∀ {ls : Array Bool}, Sx [] (fun w' => Holds w' [shr (fun k => k < w.heap.size) w]) ls wd11 := fun {_} _ => H
              refine DA_p 0 rfl (by kernel_rfl) rfl (fun _ => y_move h0) hS (by decide) fun hS => ?_
              refine DA_p 1 rfl (by kernel_rfl) rfl (fun _ => y_move h5) hS (by decide) fun hS => ?_
              refine DA_p 2 rfl (by kernel_rfl) rfl (fun _ => y_indexAddr ti49 ti55 (congrArg (Value.slice · _ _) e2) rfl (by omega) (by omega)) hS (by decide) fun hS => ?_
              refine DA_p 3 rfl (by kernel_rfl) rfl (fun _ => y_fieldAddr ti55 rfl ti53 rfl rfl) hS (by decide) fun hS => ?_
              refine DA_y 4 rfl (by kernel_rfl) rfl (by kernel_rfl) (fun w' h => y_loadS (v := .slice ax x.vers.length cx) ti53 rfl rfl ((hCx h).take 1 rfl)) hS (by decide) fun hS => ?_
              refine DA_p 5 rfl (by kernel_rfl) rfl (fun _ => y_move rfl) hS (by decide) fun hS => ?_
              refine DA_p 6 rfl (by kernel_rfl) rfl (fun _ => y_indexAddr ti53 ti32 (congrArg (Value.slice · _ _) e4) rfl (by omega) (by omega)) hS (by decide) fun hS => ?_
              refine DA_y 7 rfl (by kernel_rfl) rfl (by kernel_rfl) (fun w' h => y_loadA (cs := cs4) ti32 rfl rfl (hc4.ext ((h.keepsAll 0 rfl Z).2 _ hz4 hc4.lt)) (tVer.len hr4).symm) hS (by decide) fun hS => ?_
              refine DA_p 8 rfl (by kernel_rfl) rfl (fun _ => y_move h1) hS (by decide) fun hS => ?_
              refine DA_p 9 rfl (by kernel_rfl) rfl (fun _ => y_move h5) hS (by decide) fun hS => ?_
              refine DA_p 10 rfl (by kernel_rfl) rfl (fun _ => y_indexAddr ti49 ti55 (congrArg (Value.slice · _ _) e3) rfl (by omega) (by omega)) hS (by decide) fun hS => ?_
              refine DA_p 11 rfl (by kernel_rfl) rfl (fun _ => y_fieldAddr ti55 rfl ti53 rfl rfl) hS (by decide) fun hS => ?_
              refine DA_y 12 rfl (by kernel_rfl) rfl (by kernel_rfl) (fun w' h => y_loadS (v := .slice ay y.vers.length cy) ti53 rfl rfl ((hCy h).take 1 rfl)) hS (by decide) fun hS => ?_
              refine DA_p 13 rfl (by kernel_rfl) rfl (fun _ => y_move rfl) hS (by decide) fun hS => ?_
              refine DA_p 14 rfl (by kernel_rfl) rfl (fun _ => y_indexAddr ti53 ti32 (congrArg (Value.slice · _ _) e5) rfl (by omega) (by omega)) hS (by decide) fun hS => ?_
              refine DA_y 15 rfl (by kernel_rfl) rfl (by kernel_rfl) (fun w' h => y_loadA (cs := cs5) ti32 rfl rfl (hc5.ext ((h.keepsAll 0 rfl Z').2 _ hz5 hc5.lt)) (tVer.len hr5).symm) hS (by decide) fun hS => ?_
              refine DA_one 16 (by kernel_rfl) rfl (op_call 15 en15 rfl [.agg cs4.toArray, .agg cs5.toArray] rfl (by decide) ((f15_calls (tVer.keeps hr4 (H.keepsAll 0 rfl _)) (tVer.keeps hr5 (H.keepsAll 0 rfl _))).mono ?_))
              rintro e w11_16 ⟨rfl, hE15⟩
              refine ⟨_, rfl, fun _ => H.ext0 hE15, ?_⟩
              have H := H.ext0 hE15
              have hS : ∀ {ls : Array Bool}, Sx [] (fun w' => Holds w' [shr (fun k => k < w.heap.size) w]) ls w11_16 := fun {_} _ => H
              refine DA_p 17 rfl (by kernel_rfl) rfl (fun _ => y_not rfl) hS (by decide) fun hS => ?_
              refine DA_done (by kernel_rfl) ?_
              refine W_cond rfl (fun hc => ?_) (fun hc => ?_)
              · refine W_seq ?_
                refine W_region ?_
                refine OL_y (v := .bool false) (y_assign rfl) (by decide) ?_
                refine OL_nil ?_
                refine W_ret ?_
                show RetOK _ _ _ _ _ _
                have hne : ¬ u = v := by simpa using hc
                refine ret1 (v := .bool false) Try.results24 rfl ⟨?_, H.ext_of 0 rfl⟩
                rw [decide_eq_false]; intro h; subst h
                rw [hxj] at hyj; injection hyj with hyj
                subst hyj
                rw [hxk2] at hyk2; injection hyk2 with hyk2; exact hne hyk2
              · refine W_skip ?_
                have hee : u = v := by simpa using hc
                exact ⟨htk2, htn2, h0, h1, h5, h13, h14, rfl, by rw [htx2, hty2, heq2, hee], H⟩
            · rintro f ds w9 ⟨h0, h1, h5, h13, h14, rfl, heq2, H⟩ htk2 htn2
              rw [List.take_length, show x.vers.length = y.vers.length by omega, List.take_length] at heq2
              have hkk : x.key = y.key := kb_inj hxk.allIn hyk.allIn hk
              have hxy : x = y := by obtain ⟨q1, q2, q3⟩ := x; obtain ⟨q4, q5, q6⟩ := y; simp only at hkk hi heq2; rw [hkk, hi, heq2]
              exact ⟨h14, h13, h0, h1, rfl, by rw [htx, hty, heq, hxy], H⟩
          · refine W_drawD H mixed (by kernel_rfl) [] (fun wq w' => Holds w' [shr (fun k => k < w.heap.size) w]) fun wd6 H hEd => ?_
            have hS : ∀ {ls : Array Bool}, Sx [] (fun w' => Holds w' [shr (fun k => k < w.heap.size) w]) ls wd6 := fun {_} _ => H
            refine DA_p 0 rfl (by kernel_rfl) rfl (fun _ => y_move h0) hS (by decide) fun hS => ?_
            refine DA_p 1 rfl (by kernel_rfl) rfl (fun _ => y_move rfl) hS (by decide) fun hS => ?_
            refine DA_p 2 rfl (by kernel_rfl) rfl (fun _ => y_indexAddr ti49 ti55 (congrArg (Value.slice · _ _) e2) rfl (by omega) (by omega)) hS (by decide) fun hS => ?_
            refine DA_p 3 rfl (by kernel_rfl) rfl (fun _ => y_fieldAddr ti55 rfl ti23 rfl rfl) hS (by decide) fun hS => ?_
            refine DA_y 4 rfl (by kernel_rfl) rfl (by kernel_rfl) (fun w' h => y_loadS (v := xk) ti23 rfl rfl ((hCx h).take 0 rfl)) hS (by decide) fun hS => ?_
            refine DA_y 5 rfl (by kernel_rfl) rfl (by kernel_rfl) (fun w' h => y_toStr (w := w') Try.underlying23 Try.underlying5 Try.underlying9 rfl (hxk.keeps (h.keepsAll 0 rfl _))) hS (by decide) fun hS => ?_
            refine DA_p 6 rfl (by kernel_rfl) rfl (fun _ => y_move h1) hS (by decide) fun hS => ?_
            refine DA_p 7 rfl (by kernel_rfl) rfl (fun _ => y_move rfl) hS (by decide) fun hS => ?_
            refine DA_p 8 rfl (by kernel_rfl) rfl (fun _ => y_indexAddr ti49 ti55 (congrArg (Value.slice · _ _) e3) rfl (by omega) (by omega)) hS (by decide) fun hS => ?_
            refine DA_p 9 rfl (by kernel_rfl) rfl (fun _ => y_fieldAddr ti55 rfl ti23 rfl rfl) hS (by decide) fun hS => ?_
            refine DA_y 10 rfl (by kernel_rfl) rfl (by kernel_rfl) (fun w' h => y_loadS (v := yk) ti23 rfl rfl ((hCy h).take 0 rfl)) hS (by decide) fun hS => ?_
            refine DA_y 11 rfl (by kernel_rfl) rfl (by kernel_rfl) (fun w' h => y_toStr (w := w') Try.underlying23 Try.underlying5 Try.underlying9 rfl (hyk.keeps (h.keepsAll 0 rfl _))) hS (by decide) fun hS => ?_
            refine DA_p (v := .bool false) 12 rfl (by kernel_rfl) rfl (fun _ => y_neqSF hk rfl rfl) hS (by decide) fun hS => ?_
            refine DA_p (v := .bool false) 13 rfl (by kernel_rfl) rfl (fun _ => y_move rfl) hS (by decide) fun hS => ?_
            refine DA_pg 14 rfl rfl (by decide) rfl (by kernel_rfl) rfl (fun _ => y_move h0) hS (by decide) fun hS => ?_
            refine DA_pg 15 rfl rfl (by decide) rfl (by kernel_rfl) rfl (fun _ => y_move rfl) hS (by decide) fun hS => ?_
            refine DA_pg 16 rfl rfl (by decide) rfl (by kernel_rfl) rfl (fun _ => y_indexAddr ti49 ti55 (congrArg (Value.slice · _ _) e2) rfl (by omega) (by omega)) hS (by decide) fun hS => ?_
            refine DA_pg 17 rfl rfl (by decide) rfl (by kernel_rfl) rfl (fun _ => y_fieldAddr ti55 rfl ti32 rfl rfl) hS (by decide) fun hS => ?_
            refine DA_yg 18 rfl rfl (by decide) rfl (by kernel_rfl) rfl (by kernel_rfl) (fun w' h => y_loadA (cs := [.int .u64 x.intent.ts, .int .u64 x.intent.txn, .bool x.intent.dead, xa, xb]) ti32 rfl rfl ((hCx h).take 2 rfl) rfl) hS (by decide) fun hS => ?_
            refine DA_pg 19 rfl rfl (by decide) rfl (by kernel_rfl) rfl (fun _ => y_move h1) hS (by decide) fun hS => ?_
            refine DA_pg 20 rfl rfl (by decide) rfl (by kernel_rfl) rfl (fun _ => y_move rfl) hS (by decide) fun hS => ?_
            refine DA_pg 21 rfl rfl (by decide) rfl (by kernel_rfl) rfl (fun _ => y_indexAddr ti49 ti55 (congrArg (Value.slice · _ _) e3) rfl (by omega) (by omega)) hS (by decide) fun hS => ?_
            refine DA_pg 22 rfl rfl (by decide) rfl (by kernel_rfl) rfl (fun _ => y_fieldAddr ti55 rfl ti32 rfl rfl) hS (by decide) fun hS => ?_
            refine DA_yg 23 rfl rfl (by decide) rfl (by kernel_rfl) rfl (by kernel_rfl) (fun w' h => y_loadA (cs := [.int .u64 y.intent.ts, .int .u64 y.intent.txn, .bool y.intent.dead, ya, yb]) ti32 rfl rfl ((hCy h).take 2 rfl) rfl) hS (by decide) fun hS => ?_
            refine DA_oneg 24 (by kernel_rfl) rfl rfl (by decide) rfl (op_call 15 en15 rfl [.agg #[.int .u64 x.intent.ts, .int .u64 x.intent.txn, .bool x.intent.dead, xa, xb], .agg #[.int .u64 y.intent.ts, .int .u64 y.intent.txn, .bool y.intent.dead, ya, yb]] rfl (by decide) ((f15_calls (tVer.keeps hxi (H.keepsAll 0 rfl _)) (tVer.keeps hyi (H.keepsAll 0 rfl _))).mono ?_))
            rintro e w6_24 ⟨rfl, hE15⟩
            refine ⟨_, rfl, fun _ => H.ext0 hE15, ?_⟩
            have H := H.ext0 hE15
            rw [decide_eq_true hi]
            have hS : ∀ {ls : Array Bool}, Sx [] (fun w' => Holds w' [shr (fun k => k < w.heap.size) w]) ls w6_24 := fun {_} _ => H
            refine DA_pg (v := .bool false) 25 rfl rfl (by decide) rfl (by kernel_rfl) rfl (fun _ => y_not (b := true) rfl) hS (by decide) fun hS => ?_
            refine DA_p 26 rfl (by kernel_rfl) rfl (fun _ => y_pick (b := false) (v := .bool false) rfl rfl) hS (by decide) fun hS => ?_
            refine DA_p (v := .bool false) 27 rfl (by kernel_rfl) rfl (fun _ => y_move rfl) hS (by decide) fun hS => ?_
            refine DA_pg 28 rfl rfl (by decide) rfl (by kernel_rfl) rfl (fun _ => y_move h0) hS (by decide) fun hS => ?_
            refine DA_pg 29 rfl rfl (by decide) rfl (by kernel_rfl) rfl (fun _ => y_move rfl) hS (by decide) fun hS => ?_
            refine DA_pg 30 rfl rfl (by decide) rfl (by kernel_rfl) rfl (fun _ => y_indexAddr ti49 ti55 (congrArg (Value.slice · _ _) e2) rfl (by omega) (by omega)) hS (by decide) fun hS => ?_
            refine DA_pg 31 rfl rfl (by decide) rfl (by kernel_rfl) rfl (fun _ => y_fieldAddr ti55 rfl ti53 rfl rfl) hS (by decide) fun hS => ?_
            refine DA_yg 32 rfl rfl (by decide) rfl (by kernel_rfl) rfl (by kernel_rfl) (fun w' h => y_loadS (v := .slice ax x.vers.length cx) ti53 rfl rfl ((hCx h).take 1 rfl)) hS (by decide) fun hS => ?_
            refine DA_pg 33 rfl rfl (by decide) rfl (by kernel_rfl) rfl (fun _ => y_len rfl ti53 rfl) hS (by decide) fun hS => ?_
            refine DA_pg 34 rfl rfl (by decide) rfl (by kernel_rfl) rfl (fun _ => y_move h1) hS (by decide) fun hS => ?_
            refine DA_pg 35 rfl rfl (by decide) rfl (by kernel_rfl) rfl (fun _ => y_move rfl) hS (by decide) fun hS => ?_
            refine DA_pg 36 rfl rfl (by decide) rfl (by kernel_rfl) rfl (fun _ => y_indexAddr ti49 ti55 (congrArg (Value.slice · _ _) e3) rfl (by omega) (by omega)) hS (by decide) fun hS => ?_
            refine DA_pg 37 rfl rfl (by decide) rfl (by kernel_rfl) rfl (fun _ => y_fieldAddr ti55 rfl ti53 rfl rfl) hS (by decide) fun hS => ?_
            refine DA_yg 38 rfl rfl (by decide) rfl (by kernel_rfl) rfl (by kernel_rfl) (fun w' h => y_loadS (v := .slice ay y.vers.length cy) ti53 rfl rfl ((hCy h).take 1 rfl)) hS (by decide) fun hS => ?_
            refine DA_pg 39 rfl rfl (by decide) rfl (by kernel_rfl) rfl (fun _ => y_len rfl ti53 rfl) hS (by decide) fun hS => ?_
            refine DA_pg (v := .bool true) 40 rfl rfl (by decide) rfl (by kernel_rfl) rfl (fun _ => y_neqT hl rfl rfl) hS (by decide) fun hS => ?_
            refine DA_p 41 rfl (by kernel_rfl) rfl (fun _ => y_pick (b := false) (v := .bool true) rfl rfl) hS (by decide) fun hS => ?_
            refine DA_done (by kernel_rfl) ?_
            refine W_condt rfl ?_
            refine W_seq ?_
            refine W_region ?_
            refine OL_y (v := .bool false) (y_assign rfl) (by decide) ?_
            refine OL_nil ?_
            refine W_ret ?_
            show RetOK _ _ _ _ _ _
            refine ret1 (v := .bool false) Try.results24 rfl ⟨?_, H.ext_of 0 rfl⟩
            rw [decide_eq_false]; intro h; subst h
            rw [hxj] at hyj; injection hyj with hyj; exact hl (by rw [hyj])
        · refine W_drawD H mixed (by kernel_rfl) [] (fun wq w' => Holds w' [shr (fun k => k < w.heap.size) w]) fun wd6 H hEd => ?_
          have hS : ∀ {ls : Array Bool}, Sx [] (fun w' => Holds w' [shr (fun k => k < w.heap.size) w]) ls wd6 := fun {_} _ => H
          refine DA_p 0 rfl (by kernel_rfl) rfl (fun _ => y_move h0) hS (by decide) fun hS => ?_
          refine DA_p 1 rfl (by kernel_rfl) rfl (fun _ => y_move rfl) hS (by decide) fun hS => ?_
          refine DA_p 2 rfl (by kernel_rfl) rfl (fun _ => y_indexAddr ti49 ti55 (congrArg (Value.slice · _ _) e2) rfl (by omega) (by omega)) hS (by decide) fun hS => ?_
          refine DA_p 3 rfl (by kernel_rfl) rfl (fun _ => y_fieldAddr ti55 rfl ti23 rfl rfl) hS (by decide) fun hS => ?_
          refine DA_y 4 rfl (by kernel_rfl) rfl (by kernel_rfl) (fun w' h => y_loadS (v := xk) ti23 rfl rfl ((hCx h).take 0 rfl)) hS (by decide) fun hS => ?_
          refine DA_y 5 rfl (by kernel_rfl) rfl (by kernel_rfl) (fun w' h => y_toStr (w := w') Try.underlying23 Try.underlying5 Try.underlying9 rfl (hxk.keeps (h.keepsAll 0 rfl _))) hS (by decide) fun hS => ?_
          refine DA_p 6 rfl (by kernel_rfl) rfl (fun _ => y_move h1) hS (by decide) fun hS => ?_
          refine DA_p 7 rfl (by kernel_rfl) rfl (fun _ => y_move rfl) hS (by decide) fun hS => ?_
          refine DA_p 8 rfl (by kernel_rfl) rfl (fun _ => y_indexAddr ti49 ti55 (congrArg (Value.slice · _ _) e3) rfl (by omega) (by omega)) hS (by decide) fun hS => ?_
          refine DA_p 9 rfl (by kernel_rfl) rfl (fun _ => y_fieldAddr ti55 rfl ti23 rfl rfl) hS (by decide) fun hS => ?_
          refine DA_y 10 rfl (by kernel_rfl) rfl (by kernel_rfl) (fun w' h => y_loadS (v := yk) ti23 rfl rfl ((hCy h).take 0 rfl)) hS (by decide) fun hS => ?_
          refine DA_y 11 rfl (by kernel_rfl) rfl (by kernel_rfl) (fun w' h => y_toStr (w := w') Try.underlying23 Try.underlying5 Try.underlying9 rfl (hyk.keeps (h.keepsAll 0 rfl _))) hS (by decide) fun hS => ?_
          refine DA_p (v := .bool false) 12 rfl (by kernel_rfl) rfl (fun _ => y_neqSF hk rfl rfl) hS (by decide) fun hS => ?_
          refine DA_p (v := .bool false) 13 rfl (by kernel_rfl) rfl (fun _ => y_move rfl) hS (by decide) fun hS => ?_
          refine DA_pg 14 rfl rfl (by decide) rfl (by kernel_rfl) rfl (fun _ => y_move h0) hS (by decide) fun hS => ?_
          refine DA_pg 15 rfl rfl (by decide) rfl (by kernel_rfl) rfl (fun _ => y_move rfl) hS (by decide) fun hS => ?_
          refine DA_pg 16 rfl rfl (by decide) rfl (by kernel_rfl) rfl (fun _ => y_indexAddr ti49 ti55 (congrArg (Value.slice · _ _) e2) rfl (by omega) (by omega)) hS (by decide) fun hS => ?_
          refine DA_pg 17 rfl rfl (by decide) rfl (by kernel_rfl) rfl (fun _ => y_fieldAddr ti55 rfl ti32 rfl rfl) hS (by decide) fun hS => ?_
          refine DA_yg 18 rfl rfl (by decide) rfl (by kernel_rfl) rfl (by kernel_rfl) (fun w' h => y_loadA (cs := [.int .u64 x.intent.ts, .int .u64 x.intent.txn, .bool x.intent.dead, xa, xb]) ti32 rfl rfl ((hCx h).take 2 rfl) rfl) hS (by decide) fun hS => ?_
          refine DA_pg 19 rfl rfl (by decide) rfl (by kernel_rfl) rfl (fun _ => y_move h1) hS (by decide) fun hS => ?_
          refine DA_pg 20 rfl rfl (by decide) rfl (by kernel_rfl) rfl (fun _ => y_move rfl) hS (by decide) fun hS => ?_
          refine DA_pg 21 rfl rfl (by decide) rfl (by kernel_rfl) rfl (fun _ => y_indexAddr ti49 ti55 (congrArg (Value.slice · _ _) e3) rfl (by omega) (by omega)) hS (by decide) fun hS => ?_
          refine DA_pg 22 rfl rfl (by decide) rfl (by kernel_rfl) rfl (fun _ => y_fieldAddr ti55 rfl ti32 rfl rfl) hS (by decide) fun hS => ?_
          refine DA_yg 23 rfl rfl (by decide) rfl (by kernel_rfl) rfl (by kernel_rfl) (fun w' h => y_loadA (cs := [.int .u64 y.intent.ts, .int .u64 y.intent.txn, .bool y.intent.dead, ya, yb]) ti32 rfl rfl ((hCy h).take 2 rfl) rfl) hS (by decide) fun hS => ?_
          refine DA_oneg 24 (by kernel_rfl) rfl rfl (by decide) rfl (op_call 15 en15 rfl [.agg #[.int .u64 x.intent.ts, .int .u64 x.intent.txn, .bool x.intent.dead, xa, xb], .agg #[.int .u64 y.intent.ts, .int .u64 y.intent.txn, .bool y.intent.dead, ya, yb]] rfl (by decide) ((f15_calls (tVer.keeps hxi (H.keepsAll 0 rfl _)) (tVer.keeps hyi (H.keepsAll 0 rfl _))).mono ?_))
          rintro e w6_24 ⟨rfl, hE15⟩
          refine ⟨_, rfl, fun _ => H.ext0 hE15, ?_⟩
          have H := H.ext0 hE15
          rw [decide_eq_false hi]
          have hS : ∀ {ls : Array Bool}, Sx [] (fun w' => Holds w' [shr (fun k => k < w.heap.size) w]) ls w6_24 := fun {_} _ => H
          refine DA_pg (v := .bool true) 25 rfl rfl (by decide) rfl (by kernel_rfl) rfl (fun _ => y_not (b := false) rfl) hS (by decide) fun hS => ?_
          refine DA_p 26 rfl (by kernel_rfl) rfl (fun _ => y_pick (b := false) (v := .bool true) rfl rfl) hS (by decide) fun hS => ?_
          refine DA_p (v := .bool true) 27 rfl (by kernel_rfl) rfl (fun _ => y_move rfl) hS (by decide) fun hS => ?_
          refine DA_s 28 rfl rfl (by decide) rfl rfl (by kernel_rfl) rfl hS (by simp) fun hS => ?_
          refine DA_s 29 rfl rfl (by decide) rfl rfl (by kernel_rfl) rfl hS (by simp) fun hS => ?_
          refine DA_s 30 rfl rfl (by decide) rfl rfl (by kernel_rfl) rfl hS (by simp) fun hS => ?_
          refine DA_s 31 rfl rfl (by decide) rfl rfl (by kernel_rfl) rfl hS (by simp) fun hS => ?_
          refine DA_s 32 rfl rfl (by decide) rfl rfl (by kernel_rfl) rfl hS (by simp) fun hS => ?_
          refine DA_s 33 rfl rfl (by decide) rfl rfl (by kernel_rfl) rfl hS (by simp) fun hS => ?_
          refine DA_s 34 rfl rfl (by decide) rfl rfl (by kernel_rfl) rfl hS (by simp) fun hS => ?_
          refine DA_s 35 rfl rfl (by decide) rfl rfl (by kernel_rfl) rfl hS (by simp) fun hS => ?_
          refine DA_s 36 rfl rfl (by decide) rfl rfl (by kernel_rfl) rfl hS (by simp) fun hS => ?_
          refine DA_s 37 rfl rfl (by decide) rfl rfl (by kernel_rfl) rfl hS (by simp) fun hS => ?_
          refine DA_s 38 rfl rfl (by decide) rfl rfl (by kernel_rfl) rfl hS (by simp) fun hS => ?_
          refine DA_s 39 rfl rfl (by decide) rfl rfl (by kernel_rfl) rfl hS (by simp) fun hS => ?_
          refine DA_s 40 rfl rfl (by decide) rfl rfl (by kernel_rfl) rfl hS (by simp) fun hS => ?_
          refine DA_p 41 rfl (by kernel_rfl) rfl (fun _ => y_pick (b := true) (v := .bool true) rfl rfl) hS (by decide) fun hS => ?_
          refine DA_done (by kernel_rfl) ?_
          refine W_condt rfl ?_
          refine W_seq ?_
          refine W_region ?_
          refine OL_y (v := .bool false) (y_assign rfl) (by decide) ?_
          refine OL_nil ?_
          refine W_ret ?_
          show RetOK _ _ _ _ _ _
          refine ret1 (v := .bool false) Try.results24 rfl ⟨?_, H.ext_of 0 rfl⟩
          rw [decide_eq_false]; intro h; subst h
          rw [hxj] at hyj; injection hyj with hyj; exact hi (by rw [hyj])
      · refine W_drawD H mixed (by kernel_rfl) [] (fun wq w' => Holds w' [shr (fun k => k < w.heap.size) w]) fun wd6 H hEd => ?_
        have hS : ∀ {ls : Array Bool}, Sx [] (fun w' => Holds w' [shr (fun k => k < w.heap.size) w]) ls wd6 := fun {_} _ => H
        refine DA_p 0 rfl (by kernel_rfl) rfl (fun _ => y_move h0) hS (by decide) fun hS => ?_
        refine DA_p 1 rfl (by kernel_rfl) rfl (fun _ => y_move rfl) hS (by decide) fun hS => ?_
        refine DA_p 2 rfl (by kernel_rfl) rfl (fun _ => y_indexAddr ti49 ti55 (congrArg (Value.slice · _ _) e2) rfl (by omega) (by omega)) hS (by decide) fun hS => ?_
        refine DA_p 3 rfl (by kernel_rfl) rfl (fun _ => y_fieldAddr ti55 rfl ti23 rfl rfl) hS (by decide) fun hS => ?_
        refine DA_y 4 rfl (by kernel_rfl) rfl (by kernel_rfl) (fun w' h => y_loadS (v := xk) ti23 rfl rfl ((hCx h).take 0 rfl)) hS (by decide) fun hS => ?_
        refine DA_y 5 rfl (by kernel_rfl) rfl (by kernel_rfl) (fun w' h => y_toStr (w := w') Try.underlying23 Try.underlying5 Try.underlying9 rfl (hxk.keeps (h.keepsAll 0 rfl _))) hS (by decide) fun hS => ?_
        refine DA_p 6 rfl (by kernel_rfl) rfl (fun _ => y_move h1) hS (by decide) fun hS => ?_
        refine DA_p 7 rfl (by kernel_rfl) rfl (fun _ => y_move rfl) hS (by decide) fun hS => ?_
        refine DA_p 8 rfl (by kernel_rfl) rfl (fun _ => y_indexAddr ti49 ti55 (congrArg (Value.slice · _ _) e3) rfl (by omega) (by omega)) hS (by decide) fun hS => ?_
        refine DA_p 9 rfl (by kernel_rfl) rfl (fun _ => y_fieldAddr ti55 rfl ti23 rfl rfl) hS (by decide) fun hS => ?_
        refine DA_y 10 rfl (by kernel_rfl) rfl (by kernel_rfl) (fun w' h => y_loadS (v := yk) ti23 rfl rfl ((hCy h).take 0 rfl)) hS (by decide) fun hS => ?_
        refine DA_y 11 rfl (by kernel_rfl) rfl (by kernel_rfl) (fun w' h => y_toStr (w := w') Try.underlying23 Try.underlying5 Try.underlying9 rfl (hyk.keeps (h.keepsAll 0 rfl _))) hS (by decide) fun hS => ?_
        refine DA_p (v := .bool true) 12 rfl (by kernel_rfl) rfl (fun _ => y_neqST hk rfl rfl) hS (by decide) fun hS => ?_
        refine DA_p (v := .bool true) 13 rfl (by kernel_rfl) rfl (fun _ => y_move rfl) hS (by decide) fun hS => ?_
        refine DA_s 14 rfl rfl (by decide) rfl rfl (by kernel_rfl) rfl hS (by simp) fun hS => ?_
        refine DA_s 15 rfl rfl (by decide) rfl rfl (by kernel_rfl) rfl hS (by simp) fun hS => ?_
        refine DA_s 16 rfl rfl (by decide) rfl rfl (by kernel_rfl) rfl hS (by simp) fun hS => ?_
        refine DA_s 17 rfl rfl (by decide) rfl rfl (by kernel_rfl) rfl hS (by simp) fun hS => ?_
        refine DA_s 18 rfl rfl (by decide) rfl rfl (by kernel_rfl) rfl hS (by simp) fun hS => ?_
        refine DA_s 19 rfl rfl (by decide) rfl rfl (by kernel_rfl) rfl hS (by simp) fun hS => ?_
        refine DA_s 20 rfl rfl (by decide) rfl rfl (by kernel_rfl) rfl hS (by simp) fun hS => ?_
        refine DA_s 21 rfl rfl (by decide) rfl rfl (by kernel_rfl) rfl hS (by simp) fun hS => ?_
        refine DA_s 22 rfl rfl (by decide) rfl rfl (by kernel_rfl) rfl hS (by simp) fun hS => ?_
        refine DA_s 23 rfl rfl (by decide) rfl rfl (by kernel_rfl) rfl hS (by simp) fun hS => ?_
        refine DA_s 24 rfl rfl (by decide) rfl rfl (by kernel_rfl) rfl hS (by simp) fun hS => ?_
        refine DA_s 25 rfl rfl (by decide) rfl rfl (by kernel_rfl) rfl hS (by simp) fun hS => ?_
        refine DA_p 26 rfl (by kernel_rfl) rfl (fun _ => y_pick (b := true) (v := .bool true) rfl rfl) hS (by decide) fun hS => ?_
        refine DA_p (v := .bool true) 27 rfl (by kernel_rfl) rfl (fun _ => y_move rfl) hS (by decide) fun hS => ?_
        refine DA_s 28 rfl rfl (by decide) rfl rfl (by kernel_rfl) rfl hS (by simp) fun hS => ?_
        refine DA_s 29 rfl rfl (by decide) rfl rfl (by kernel_rfl) rfl hS (by simp) fun hS => ?_
        refine DA_s 30 rfl rfl (by decide) rfl rfl (by kernel_rfl) rfl hS (by simp) fun hS => ?_
        refine DA_s 31 rfl rfl (by decide) rfl rfl (by kernel_rfl) rfl hS (by simp) fun hS => ?_
        refine DA_s 32 rfl rfl (by decide) rfl rfl (by kernel_rfl) rfl hS (by simp) fun hS => ?_
        refine DA_s 33 rfl rfl (by decide) rfl rfl (by kernel_rfl) rfl hS (by simp) fun hS => ?_
        refine DA_s 34 rfl rfl (by decide) rfl rfl (by kernel_rfl) rfl hS (by simp) fun hS => ?_
        refine DA_s 35 rfl rfl (by decide) rfl rfl (by kernel_rfl) rfl hS (by simp) fun hS => ?_
        refine DA_s 36 rfl rfl (by decide) rfl rfl (by kernel_rfl) rfl hS (by simp) fun hS => ?_
        refine DA_s 37 rfl rfl (by decide) rfl rfl (by kernel_rfl) rfl hS (by simp) fun hS => ?_
        refine DA_s 38 rfl rfl (by decide) rfl rfl (by kernel_rfl) rfl hS (by simp) fun hS => ?_
        refine DA_s 39 rfl rfl (by decide) rfl rfl (by kernel_rfl) rfl hS (by simp) fun hS => ?_
        refine DA_s 40 rfl rfl (by decide) rfl rfl (by kernel_rfl) rfl hS (by simp) fun hS => ?_
        refine DA_p 41 rfl (by kernel_rfl) rfl (fun _ => y_pick (b := true) (v := .bool true) rfl rfl) hS (by decide) fun hS => ?_
        refine DA_done (by kernel_rfl) ?_
        refine W_condt rfl ?_
        refine W_seq ?_
        refine W_region ?_
        refine OL_y (v := .bool false) (y_assign rfl) (by decide) ?_
        refine OL_nil ?_
        refine W_ret ?_
        show RetOK _ _ _ _ _ _
        refine ret1 (v := .bool false) Try.results24 rfl ⟨?_, H.ext_of 0 rfl⟩
        rw [decide_eq_false]; intro h; subst h
        rw [hxj] at hyj; injection hyj with hyj; exact hk (by rw [hyj])
    · rintro f ds w2 ⟨h0, h1, rfl, heq, H⟩ hti htn
      rw [List.take_length, hlen, List.take_length] at heq
      refine W_seq ?_
      refine W_region ?_
      refine OL_y (v := .bool true) (y_assign rfl) (by decide) ?_
      refine OL_nil ?_
      refine W_ret ?_
      show RetOK _ _ _ _ _ _
      exact ret1 (v := .bool true) Try.results24 rfl ⟨by rw [decide_eq_true heq], H.ext_of 0 rfl⟩
end Go.Proofs.Ytpandioolpnihaa

/- The law MvccDoes: whatever is done with both stores, both have the same. -/
namespace Go.Proofs.Ytpandioolpnihaa
open Go Go.Wk
set_option linter.unusedVariables false
set_option linter.unusedSimpArgs false

theorem scan_unique {a : Abs} {lo hi : Key} {ts : Int} {ks ks' : List ByteArray} (h : ScanOf a lo hi ts ks) (h' : ScanOf a lo hi ts ks') : ks = ks' := rise_unique bLt_irrefl bLt_trans h.rise h'.rise fun k => by rw [h.mem k, h'.mem k]

theorem f24_eq {Z Z' : Nat → Prop} {w : World} {va vb : Value} {xs ys : List Cl} (h : xs = ys) (hx : SlR tCl 120 Z w va xs) (hy : SlR tCl 120 Z' w vb ys) : Calls Try.prog 24 [va, vb].toArray w fun e w' => e = .returned (.bool true) ∧ Ext none' w w' := by
  have := f24_calls hx hy
  rwa [decide_eq_true h] at this
set_option maxHeartbeats 16000000 in
theorem f6_calls {Z : Nat → Prop} {w : World} {vl vlo vhi : Value} {l : List Stp} {lo hi : Key} {ts : Int} (hl : SlR tStp 112 Z w vl l) (hlo : SlR (tInt .u8) 1 Z w vlo lo) (hhi : SlR (tInt .u8) 1 Z w vhi hi) (hts : InK .u64 ts) :
    Calls Try.prog 6 [vl, vlo, vhi, .int .u64 ts].toArray w fun e w' => e = .returned (.bool true) ∧ Ext none' w w' := by
  have H := Holds.start w
  have hl := hl.mono (Z' := fun k => k < w.heap.size) fun k h _ => h
  obtain ⟨a1, c1, rfl, hl1, hm1⟩ := hlo.len
  obtain ⟨a2, c2, rfl, hl2, hm2⟩ := hhi.len
  refine calls_of_W' Try.func6 rfl Try.ntmps6 rfl ?_
  refine W_seq ?_
  refine W_region ?_
  refine OL_y (v := .bool false) (y_assign rfl) (by decide) ?_
  refine OL_nil ?_
  refine W_seq ?_
  refine W_seq ?_
  refine W_region ?_
  refine OL_c (op_call 11 en11 rfl [] rfl (by decide) ((f11_calls).mono ?_))
  rintro e w1_0 ⟨rfl, hE11⟩
  refine ⟨_, rfl, ?_⟩
  have H := H.ext0 hE11
  refine OL_y (y_not (b := true) rfl) (by decide) ?_
  refine OL_nil ?_
  refine W_condf rfl ?_
  refine W_skip ?_
  refine W_seq ?_
  refine W_seq ?_
  by_cases hp : (50 : Int) < (lo.length : Nat)
  · refine W_region ?_
    refine OL_y (y_move rfl) (by decide) ?_
    refine OL_y (y_len rfl ti23 rfl) (by decide) ?_
    refine OL_y (v := .bool true) (y_gtrT hp rfl rfl) (by decide) ?_
    refine OL_y (v := .bool true) (y_move rfl) (by decide) ?_
    refine OL_s rfl (by decide) rfl rfl (by simp) ?_
    refine OL_s rfl (by decide) rfl rfl (by simp) ?_
    refine OL_s rfl (by decide) rfl rfl (by simp) ?_
    refine OL_y (y_pick (b := true) (v := .bool true) rfl rfl) (by decide) ?_
    refine OL_nil ?_
    refine W_condt rfl ?_
    refine W_seq ?_
    refine W_region ?_
    refine OL_y (v := .bool true) (y_assign rfl) (by decide) ?_
    refine OL_nil ?_
    refine W_ret ?_
    show RetOK _ _ _ _ _ _
    exact ret1 (v := .bool true) Try.results6 rfl ⟨rfl, H.ext_of 0 rfl⟩
  · refine W_region ?_
    refine OL_y (y_move rfl) (by decide) ?_
    refine OL_y (y_len rfl ti23 rfl) (by decide) ?_
    refine OL_y (v := .bool false) (y_gtrF hp rfl rfl) (by decide) ?_
    refine OL_y (v := .bool false) (y_move rfl) (by decide) ?_
    refine OL_yg rfl (by decide) rfl (y_move rfl) (by decide) ?_
    refine OL_yg rfl (by decide) rfl (y_len rfl ti23 rfl) (by decide) ?_
    refine OL_yg rfl (by decide) rfl (y_gtr rfl rfl) (by decide) ?_
    refine OL_y (y_pick (b := false) rfl rfl) (by decide) ?_
    refine OL_nil ?_
    refine W_cond rfl (fun hc => ?_) (fun hc => ?_)
    · refine W_seq ?_
      refine W_region ?_
      refine OL_y (v := .bool true) (y_assign rfl) (by decide) ?_
      refine OL_nil ?_
      refine W_ret ?_
      show RetOK _ _ _ _ _ _
      exact ret1 (v := .bool true) Try.results6 rfl ⟨rfl, H.ext_of 0 rfl⟩
    · refine W_skip ?_
      refine W_seq ?_
      refine W_region ?_
      refine OL_y (y_move rfl) (by decide) ?_
      refine OL_c (op_call 12 en12 rfl [vl] rfl (by decide) ((f12_calls H hl).mono ?_))
      rintro e w5_1 ⟨sb, g1, g2, rb, great, rfl, H, hB⟩
      refine ⟨_, rfl, ?_⟩
      refine OL_y (y_move rfl) (by decide) ?_
      refine OL_y (y_extract (v := .pointer (some ⟨sb, 0, none⟩)) rfl rfl) (by decide) ?_
      refine OL_y (y_extract (v := .pointer (some ⟨rb, 0, none⟩)) rfl rfl) (by decide) ?_
      refine OL_y (y_extract (v := .bool true) rfl rfl) (by decide) ?_
      refine OL_y (y_extract (v := .bool great) rfl rfl) (by decide) ?_
      refine OL_y (y_assign rfl) (by decide) ?_
      refine OL_y (y_assign rfl) (by decide) ?_
      refine OL_y (v := .bool true) (y_assign rfl) (by decide) ?_
      refine OL_y (y_assign rfl) (by decide) ?_
      refine OL_nil ?_
      refine W_seq ?_
      refine W_seq ?_
      rcases great with _ | _
      · refine W_region ?_
        refine OL_y (v := .bool false) (y_move rfl) (by decide) ?_
        refine OL_nil ?_
        refine W_condf rfl ?_
        refine W_skip ?_
        refine W_seq ?_
        obtain ⟨E, I, F, Wp, vR, R, F2, W2, a, hr, hrr, ha, hI, hE, hR, H⟩ := hB rfl
        refine W_region ?_
        refine OL_y (v := .bool true) (y_move rfl) (by decide) ?_
        refine OL_y (v := .bool true) (y_move rfl) (by decide) ?_
        refine OL_yg rfl (by decide) rfl (y_move rfl) (by decide) ?_
        refine OL_g rfl (by decide) rfl (op_call 25 en25 rfl [.pointer (some ⟨sb, 0, none⟩), .slice none 0 0, .slice none 0 0, .int .u64 18446744073709551615] rfl (by decide) ((f25_calls (Zl := fun _ => True) H hr ha (by omega) (by omega) (by omega) (SlR.nil _ _ _ _) (SlR.nil _ _ _ _)).mono ?_))
        rintro e w8_3 ⟨v34, ks, rfl, hks, hS34, hE34⟩
        refine ⟨_, rfl, ?_⟩
        have H := H.ext0 hE34
        refine OL_yg rfl (by decide) rfl (y_move rfl) (by decide) ?_
        refine OL_g rfl (by decide) rfl (op_call 26 en26 rfl [.pointer (some ⟨rb, 0, none⟩), .slice none 0 0, .slice none 0 0, .int .u64 18446744073709551615] rfl (by decide) ((f26_calls (Zl := fun _ => True) (refIn H) hrr (by omega) ha (by omega) (SlR.nil _ _ _ _) (SlR.nil _ _ _ _)).mono ?_))
        rintro e w8_5 ⟨v36, ks2, rfl, hks2, hS36, hE36⟩
        refine ⟨_, rfl, ?_⟩
        have H := H.ext0 hE36
        have hkk := scan_unique hks2 hks
        subst hkk
        refine OL_g rfl (by decide) rfl (op_call 24 en24 rfl [v34, v36] rfl (by decide) ((f24_eq rfl (hS34.keeps hE36.keeps0) hS36).mono ?_))
        rintro e w8_6 ⟨rfl, hE37⟩
        refine ⟨_, rfl, ?_⟩
        have H := H.ext0 hE37
        refine OL_y (y_pick (b := true) (v := .bool true) rfl rfl) (by decide) ?_
        refine OL_y (v := .bool true) (y_move rfl) (by decide) ?_
        refine OL_yg rfl (by decide) rfl (y_move rfl) (by decide) ?_
        refine OL_yg rfl (by decide) rfl (y_move rfl) (by decide) ?_
        refine OL_yg rfl (by decide) rfl (y_move rfl) (by decide) ?_
        refine OL_yg rfl (by decide) rfl (y_move rfl) (by decide) ?_
        refine OL_g rfl (by decide) rfl (op_call 25 en25 rfl [.pointer (some ⟨sb, 0, none⟩), .slice a1 lo.length c1, .slice a2 hi.length c2, .int .u64 ts] rfl (by decide) ((f25_calls H hr ha (by omega) (by omega) (by omega) (hlo.keeps (H.keepsAll 4 rfl _)) (hhi.keeps (H.keepsAll 4 rfl _))).mono ?_))
        rintro e w8_13 ⟨v44, ks3, rfl, hks3, hS44, hE44⟩
        refine ⟨_, rfl, ?_⟩
        have H := H.ext0 hE44
        refine OL_yg rfl (by decide) rfl (y_move rfl) (by decide) ?_
        refine OL_yg rfl (by decide) rfl (y_move rfl) (by decide) ?_
        refine OL_yg rfl (by decide) rfl (y_move rfl) (by decide) ?_
        refine OL_yg rfl (by decide) rfl (y_move rfl) (by decide) ?_
        refine OL_g rfl (by decide) rfl (op_call 26 en26 rfl [.pointer (some ⟨rb, 0, none⟩), .slice a1 lo.length c1, .slice a2 hi.length c2, .int .u64 ts] rfl (by decide) ((f26_calls (refIn H) hrr (by omega) ha (by omega) (hlo.keeps (H.keepsAll 4 rfl _)) (hhi.keeps (H.keepsAll 4 rfl _))).mono ?_))
        rintro e w8_18 ⟨v49, ks4, rfl, hks4, hS49, hE49⟩
        refine ⟨_, rfl, ?_⟩
        have H := H.ext0 hE49
        have hkk := scan_unique hks4 hks3
        subst hkk
        refine OL_g rfl (by decide) rfl (op_call 24 en24 rfl [v44, v49] rfl (by decide) ((f24_eq rfl (hS44.keeps hE49.keeps0) hS49).mono ?_))
        rintro e w8_19 ⟨rfl, hE50⟩
        refine ⟨_, rfl, ?_⟩
        have H := H.ext0 hE50
        refine OL_y (y_pick (b := true) (v := .bool true) rfl rfl) (by decide) ?_
        refine OL_y (v := .bool true) (y_assign rfl) (by decide) ?_
        refine OL_nil ?_
        refine W_ret ?_
        show RetOK _ _ _ _ _ _
        exact ret1 (v := .bool true) Try.results6 rfl ⟨rfl, H.ext_of 4 rfl⟩
      · refine W_region ?_
        refine OL_y (v := .bool true) (y_move rfl) (by decide) ?_
        refine OL_nil ?_
        refine W_condt rfl ?_
        refine W_seq ?_
        refine W_region ?_
        refine OL_y (v := .bool true) (y_assign rfl) (by decide) ?_
        refine OL_nil ?_
        refine W_ret ?_
        show RetOK _ _ _ _ _ _
        exact ret1 (v := .bool true) Try.results6 rfl ⟨rfl, H.ext_of 0 rfl⟩
end Go.Proofs.Ytpandioolpnihaa

/- Plain laws of a store: what is read behind a clearing, behind a put, behind a turning. -/
namespace Go.Proofs.Ytpandioolpnihaa
open Go Go.Wk
set_option linter.unusedVariables false
set_option linter.unusedSimpArgs false

theorem f15_eq {Z Z' : Nat → Prop} {w : World} {c1 c2 : List Value} {u v : Ver} (h : u = v) (hu : tVer.R Z w c1 u) (hv : tVer.R Z' w c2 v) : Calls Try.prog 15 [.agg c1.toArray, .agg c2.toArray].toArray w fun e w' => e = .returned (.bool true) ∧ Ext none' w w' := by
  have := f15_calls hu hv
  rwa [decide_eq_true h] at this
theorem posV_take (t : Int) : ∀ (vs : List Ver) (g : Nat), posV (vs.take g) t = min (posV vs t) g
  | [], g => by simp [posV]
  | v :: vs, 0 => by simp [posV]
  | v :: vs, g + 1 => by
    rw [List.take_succ_cons]
    by_cases h : t < v.ts
    · rw [posV_lt h, posV_lt h, posV_take t vs g]; omega
    · rw [posV_ge h, posV_ge h]; simp
theorem posV_mono {t t' : Int} (h : t ≤ t') : ∀ vs : List Ver, posV vs t' ≤ posV vs t
  | [] => Nat.le_refl _
  | v :: vs => by
    by_cases h1 : t' < v.ts
    · rw [posV_lt h1, posV_lt (show t < v.ts by omega)]; have := posV_mono h vs; omega
    · rw [posV_ge h1]; omega
/-- Behind a clearing. -/
theorem gc_at (a : Abs) {ts later : Int} (h : ts ≤ later) (k : ByteArray) : (atV a k later = none ∧ atV (a.gc ts) k later = none) ∨ ∃ x, atV a k later = some x ∧ (atV (a.gc ts) k later = some x ∨ (x.dead = true ∧ atV (a.gc ts) k later = none)) := by
  have e : atV (a.gc ts) k later = ((a.v k).take (gcPos (a.v k) ts))[min (posV (a.v k) later) (gcPos (a.v k) ts)]? := by
    show (gcV (a.v k) ts)[posV (gcV (a.v k) ts) later]? = _
    unfold gcV; rw [posV_take]
  rw [e]
  unfold atV
  generalize a.v k = vs
  have h1 := posV_mono h vs
  by_cases hlt : posV vs later < gcPos vs ts
  · rw [Nat.min_eq_left (by omega), List.getElem?_take_of_lt hlt]
    cases hg : vs[posV vs later]? with
    | none => exact .inl ⟨rfl, rfl⟩
    | some x => exact .inr ⟨x, rfl, .inl rfl⟩
  · have hn : (vs.take (gcPos vs ts))[min (posV vs later) (gcPos vs ts)]? = none := List.getElem?_eq_none (by rw [List.length_take]; omega)
    rw [hn]
    cases hg : vs[posV vs later]? with
    | none => exact .inl ⟨rfl, rfl⟩
    | some x =>
      have hge : posV vs ts ≤ gcPos vs ts := by unfold gcPos; omega
      have hp : posV vs later = posV vs ts := by omega
      rw [hp] at hg
      have hd := gcPos_dead hg
      refine .inr ⟨x, rfl, .inr ⟨?_, rfl⟩⟩
      cases hx : x.dead with
      | true => rfl
      | false => rw [hx] at hd; simp only [Bool.false_eq_true, if_false] at hd; omega
theorem putV_split (vs : List Ver) (u : Ver) : ∃ D, putV vs u = vs.take (posV vs u.ts) ++ u :: D := by
  unfold putV
  split
  · rename_i hh
    have hlt := has_lt hh
    exact ⟨_, by rw [List.set_eq_take_append_cons_drop, if_pos hlt]⟩
  · exact ⟨_, rfl⟩
theorem putV_at {vs : List Ver} (u : Ver) : (putV vs u)[posV (putV vs u) u.ts]? = some u := by
  obtain ⟨D, hD⟩ := putV_split vs u
  have hl : (vs.take (posV vs u.ts)).length = posV vs u.ts := by rw [List.length_take]; have := pos_le vs u.ts; omega
  have hp : posV (putV vs u) u.ts = posV vs u.ts := by
    rw [hD]
    refine posV_of (by rw [List.length_append, hl]; omega) (fun v hv => ?_) fun v hv => ?_
    · rw [List.take_left' hl] at hv; exact pos_lo hv
    · rw [List.getElem?_append_right (by omega), hl, Nat.sub_self] at hv
      injection hv with hv; subst hv; omega
  rw [hp, hD, List.getElem?_append_right (by omega), hl, Nat.sub_self]; rfl
/-- What is put is read at its time. -/
theorem put_at (a : Abs) (k : ByteArray) (u : Ver) : atV (a.put k u) k u.ts = some u := by
  unfold atV; rw [put_v]; exact putV_at u
/-- And later, until a later one. -/
theorem put_later (a : Abs) (k : ByteArray) (u : Ver) {ts : Int} (h : u.ts ≤ ts) : ∃ x, atV (a.put k u) k ts = some x ∧ u.ts ≤ x.ts ∧ x.ts ≤ ts := by
  unfold atV; rw [put_v]
  obtain ⟨D, hD⟩ := putV_split (a.v k) u
  have hl : ((a.v k).take (posV (a.v k) u.ts)).length = posV (a.v k) u.ts := by rw [List.length_take]; have := pos_le (a.v k) u.ts; omega
  have hm := posV_mono h (putV (a.v k) u)
  have hp : posV (putV (a.v k) u) u.ts = posV (a.v k) u.ts := by
    rw [hD]
    refine posV_of (by rw [List.length_append, hl]; omega) (fun v hv => ?_) fun v hv => ?_
    · rw [List.take_left' hl] at hv; exact pos_lo hv
    · rw [List.getElem?_append_right (by omega), hl, Nat.sub_self] at hv
      injection hv with hv; subst hv; omega
  have hlen : posV (putV (a.v k) u) ts < (putV (a.v k) u).length := by
    have : (putV (a.v k) u).length = posV (a.v k) u.ts + (D.length + 1) := by rw [hD, List.length_append, hl, List.length_cons]
    omega
  have hg := List.getElem?_eq_getElem hlen
  refine ⟨_, hg, ?_, pos_at hg⟩
  generalize (putV (a.v k) u)[posV (putV (a.v k) u) ts] = x at *
  rw [hp] at hm
  generalize posV (putV (a.v k) u) ts = p at *
  rw [hD] at hg
  by_cases hpl : p < posV (a.v k) u.ts
  · rw [List.getElem?_append_left (by omega)] at hg
    have := pos_lo (List.mem_of_getElem? hg); omega
  · rw [List.getElem?_append_right (by omega), show p - ((a.v k).take (posV (a.v k) u.ts)).length = 0 by omega] at hg
    injection hg with hg; subst hg; omega
theorem turn_i (ts : Int) : ∀ (ks : List ByteArray) (a : Abs) (k : ByteArray), (ks.foldl (Abs.turn1 ts) a).i k = if ks.any (fun x => decide (x = k)) then noV else a.i k
  | [], a, k => rfl
  | x :: ks, a, k => by
    rw [List.foldl_cons, turn_i ts ks, List.any_cons]
    by_cases hx : x = k
    · subst hx
      have e : (a.turn1 ts x).i x = noV := if_pos rfl
      rw [e]; simp
    · have e : (a.turn1 ts x).i k = a.i k := if_neg fun h => hx h.symm
      rw [e, decide_eq_false hx, Bool.false_or]
theorem turn_v_out (ts : Int) : ∀ (ks : List ByteArray) (a : Abs) (k : ByteArray), k ∉ ks → (ks.foldl (Abs.turn1 ts) a).v k = a.v k
  | [], a, k, _ => rfl
  | x :: ks, a, k, h => by
    rw [List.foldl_cons, turn_v_out ts ks _ k fun h1 => h (List.mem_cons_of_mem _ h1)]
    exact if_neg fun e => h (by rw [e]; exact List.mem_cons_self)
/-- An intent that is turned is read at its time. -/
theorem turn_at (ts : Int) : ∀ (ks : List ByteArray) (a : Abs) (k : ByteArray), ks.Nodup → k ∈ ks → atV (ks.foldl (Abs.turn1 ts) a) k ts = some ((a.i k).atTs ts)
  | [], a, k, _, h => by cases h
  | x :: ks, a, k, hn, h => by
    obtain ⟨hx, hn'⟩ := List.nodup_cons.1 hn
    rw [List.foldl_cons]
    by_cases e : k = x
    · subst e
      have h1 : (ks.foldl (Abs.turn1 ts) (a.turn1 ts k)).v k = (a.put k ((a.i k).atTs ts)).v k := turn_v_out ts ks _ k hx
      unfold atV; rw [h1]
      exact put_at a k ((a.i k).atTs ts)
    · have hk : k ∈ ks := (List.mem_cons.1 h).resolve_left e
      rw [turn_at ts ks (a.turn1 ts x) k hn' hk]
      have e2 : (a.turn1 ts x).i k = a.i k := if_neg e
      rw [e2]
/-- Behind a turning no intent is left of the transaction. -/
theorem turn_none {a : Abs} {txn ts : Int} {ks ks' : List ByteArray} (hk : IntentsOf a txn ks) (h : IntentsOf (ks.foldl (Abs.turn1 ts) a) txn ks') : ks' = [] := by
  cases ks' with
  | nil => rfl
  | cons k l =>
    exfalso
    obtain ⟨h1, h2⟩ := (h.mem k).1 (by simp)
    rw [turn_i] at h2
    split at h2
    · exact h1 h2.symm
    · rename_i hn
      exact hn (List.any_eq_true.2 ⟨k, (hk.mem k).2 ⟨h1, h2⟩, decide_eq_true rfl⟩)
end Go.Proofs.Ytpandioolpnihaa

/- The law MvccStays: behind a clearing what is read from its time on is the same. -/
namespace Go.Proofs.Ytpandioolpnihaa
open Go Go.Wk
set_option linter.unusedVariables false
set_option linter.unusedSimpArgs false

section
variable {W w0 Wp W2 : World} {F F2 : Nat → Prop} {sb g1 g2 rb : Nat} {E : List Ent} {I : List Itn} {v : Value} {R : List RE} {L : List Atom}
theorem boxesIn (xs : List Atom) (H : Holds W (xs ++ cAt sb g1 g2 E I F Wp w0 (rAt rb v R F2 W2 w0 L))) : Holds W (cAt sb g1 g2 E I F Wp w0 (rAt rb v R F2 W2 w0 (xs ++ L))) := by
  refine H.perm ?_
  have e : ∀ Y, cAt sb g1 g2 E I F Wp w0 (rAt rb v R F2 W2 w0 Y) = (cAt sb g1 g2 E I F Wp w0 [] ++ [own rb (.cells #[v] 66), row 55 7 v R.length (R.flatMap RE.cs), exc F2 W2, shr (fun k => k < w0.heap.size) w0]) ++ Y := fun Y => by simp [cAt]
  rw [e, e]
  generalize cAt sb g1 g2 E I F Wp w0 [] ++ [own rb (.cells #[v] 66), row 55 7 v R.length (R.flatMap RE.cs), exc F2 W2, shr (fun k => k < w0.heap.size) w0] = X
  rw [← List.append_assoc xs X L, ← List.append_assoc X xs L]
  exact List.perm_append_comm.append_right L
theorem boxesOut (xs : List Atom) (H : Holds W (cAt sb g1 g2 E I F Wp w0 (rAt rb v R F2 W2 w0 (xs ++ L)))) : Holds W (xs ++ cAt sb g1 g2 E I F Wp w0 (rAt rb v R F2 W2 w0 L)) := by
  refine H.perm ?_
  have e : ∀ Y, cAt sb g1 g2 E I F Wp w0 (rAt rb v R F2 W2 w0 Y) = (cAt sb g1 g2 E I F Wp w0 [] ++ [own rb (.cells #[v] 66), row 55 7 v R.length (R.flatMap RE.cs), exc F2 W2, shr (fun k => k < w0.heap.size) w0]) ++ Y := fun Y => by simp [cAt]
  rw [e, e]
  generalize cAt sb g1 g2 E I F Wp w0 [] ++ [own rb (.cells #[v] 66), row 55 7 v R.length (R.flatMap RE.cs), exc F2 W2, shr (fun k => k < w0.heap.size) w0] = X
  rw [← List.append_assoc xs X L, ← List.append_assoc X xs L]
  exact List.perm_append_comm.append_right L
end

set_option maxHeartbeats 16000000 in
theorem f4_calls {Z : Nat → Prop} {w : World} {vl vk : Value} {l : List Stp} {key : Key} {ts later : Int} (hl : SlR tStp 112 Z w vl l) (hts : InK .u64 ts) (hk : SlR (tInt .u8) 1 Z w vk key) (hla : InK .u64 later) :
    Calls Try.prog 4 [vl, .int .u64 ts, vk, .int .u64 later].toArray w fun e w' => e = .returned (.bool true) ∧ Ext none' w w' := by
  have H := Holds.start w
  have hl := hl.mono (Z' := fun k => k < w.heap.size) fun k h _ => h
  have hk := hk.mono (Z' := fun k => k < w.heap.size) fun k h _ => h
  obtain ⟨a1, c1, rfl, hl1, hm1⟩ := hk.len
  refine calls_of_W' Try.func4 rfl Try.ntmps4 rfl ?_
  refine W_seq ?_
  refine W_region ?_
  refine OL_y (v := .bool false) (y_assign rfl) (by decide) ?_
  refine OL_nil ?_
  refine W_seq ?_
  refine W_seq ?_
  refine W_region ?_
  refine OL_c (op_call 11 en11 rfl [] rfl (by decide) ((f11_calls).mono ?_))
  rintro e w1_0 ⟨rfl, hE11⟩
  refine ⟨_, rfl, ?_⟩
  have H := H.ext0 hE11
  refine OL_y (y_not (b := true) rfl) (by decide) ?_
  refine OL_nil ?_
  refine W_condf rfl ?_
  refine W_skip ?_
  refine W_seq ?_
  refine W_seq ?_
  by_cases hp : (50 : Int) < (key.length : Nat)
  · refine W_region ?_
    refine OL_y (y_move rfl) (by decide) ?_
    refine OL_y (y_len rfl ti23 rfl) (by decide) ?_
    refine OL_y (v := .bool true) (y_gtrT hp rfl rfl) (by decide) ?_
    refine OL_y (v := .bool true) (y_move rfl) (by decide) ?_
    refine OL_s rfl (by decide) rfl rfl (by simp) ?_
    refine OL_s rfl (by decide) rfl rfl (by simp) ?_
    refine OL_s rfl (by decide) rfl rfl (by simp) ?_
    refine OL_y (y_pick (b := true) (v := .bool true) rfl rfl) (by decide) ?_
    refine OL_nil ?_
    refine W_condt rfl ?_
    refine W_seq ?_
    refine W_region ?_
    refine OL_y (v := .bool true) (y_assign rfl) (by decide) ?_
    refine OL_nil ?_
    refine W_ret ?_
    show RetOK _ _ _ _ _ _
    exact ret1 (v := .bool true) Try.results4 rfl ⟨rfl, H.ext_of 0 rfl⟩
  · refine W_region ?_
    refine OL_y (y_move rfl) (by decide) ?_
    refine OL_y (y_len rfl ti23 rfl) (by decide) ?_
    refine OL_y (v := .bool false) (y_gtrF hp rfl rfl) (by decide) ?_
    refine OL_y (v := .bool false) (y_move rfl) (by decide) ?_
    refine OL_yg rfl (by decide) rfl (y_move rfl) (by decide) ?_
    refine OL_yg rfl (by decide) rfl (y_move rfl) (by decide) ?_
    refine OL_yg rfl (by decide) rfl (y_lss rfl rfl) (by decide) ?_
    refine OL_y (y_pick (b := false) (v := .bool (decide (later < ts))) rfl rfl) (by decide) ?_
    refine OL_nil ?_
    refine W_cond rfl (fun hc => ?_) (fun hc => ?_)
    · refine W_seq ?_
      refine W_region ?_
      refine OL_y (v := .bool true) (y_assign rfl) (by decide) ?_
      refine OL_nil ?_
      refine W_ret ?_
      show RetOK _ _ _ _ _ _
      exact ret1 (v := .bool true) Try.results4 rfl ⟨rfl, H.ext_of 0 rfl⟩
    · refine W_skip ?_
      refine W_seq ?_
      have hle : ts ≤ later := by have := of_decide_eq_false hc; omega
      refine W_region ?_
      refine OL_y (y_move rfl) (by decide) ?_
      refine OL_c (op_call 12 en12 rfl [vl] rfl (by decide) ((f12_calls H hl).mono ?_))
      rintro e w5_1 ⟨sb, g1, g2, rb, great, rfl, H, hB⟩
      refine ⟨_, rfl, ?_⟩
      refine OL_y (y_move rfl) (by decide) ?_
      refine OL_y (y_extract (v := .pointer (some ⟨sb, 0, none⟩)) rfl rfl) (by decide) ?_
      refine OL_y (y_extract (v := .pointer (some ⟨rb, 0, none⟩)) rfl rfl) (by decide) ?_
      refine OL_y (y_extract (v := .bool true) rfl rfl) (by decide) ?_
      refine OL_y (y_extract (v := .bool great) rfl rfl) (by decide) ?_
      refine OL_y (y_assign rfl) (by decide) ?_
      refine OL_y (y_assign rfl) (by decide) ?_
      refine OL_y (y_assign rfl) (by decide) ?_
      refine OL_y (y_assign rfl) (by decide) ?_
      refine OL_nil ?_
      refine W_seq ?_
      refine W_seq ?_
      rcases great with _ | _
      · refine W_region ?_
        refine OL_y (v := .bool false) (y_move rfl) (by decide) ?_
        refine OL_nil ?_
        refine W_condf rfl ?_
        refine W_skip ?_
        refine W_seq ?_
        obtain ⟨E, I, F, Wp, vR, R, F2, W2, a, hr, hrr, ha, hI, hE, hR, H⟩ := hB rfl
        obtain ⟨o1, ho1⟩ : ∃ o, atV a (kb key) later = o := ⟨_, rfl⟩
        obtain ⟨o2, ho2⟩ : ∃ o, atV (a.gc ts) (kb key) later = o := ⟨_, rfl⟩
        have hst := gc_at a hle (kb key)
        rw [ho1, ho2] at hst
        refine W_region ?_
        refine OL_y (y_move rfl) (by decide) ?_
        refine OL_y (y_move rfl) (by decide) ?_
        refine OL_y (y_move rfl) (by decide) ?_
        refine OL_c (op_call 13 en13 rfl [.pointer (some ⟨sb, 0, none⟩), .slice a1 key.length c1, .int .u64 later] rfl (by decide) ((f13_calls H hr (hk.dzOf hr.base) ha (by omega)).mono ?_))
        rintro e w8_3 ⟨cs13, rfl, hR13, hE13⟩
        refine ⟨_, rfl, ?_⟩
        have H := H.addNew hE13
        rw [ho1] at hR13
        rw [ho1]
        obtain ⟨v1, v2, rfl, -⟩ := ver_cells.1 hR13
        refine OL_y (y_move rfl) (by decide) ?_
        refine OL_y (y_extract (v := .agg #[.int .u64 (o1.getD noV).ts, .int .u64 (o1.getD noV).txn, .bool (o1.getD noV).dead, v1, v2]) rfl rfl) (by decide) ?_
        refine OL_y (y_extract (v := .bool o1.isSome) rfl rfl) (by decide) ?_
        refine OL_var (v := .agg #[.int .u64 (o1.getD noV).ts, .int .u64 (o1.getD noV).txn, .bool (o1.getD noV).dead, v1, v2]) H ti32 rfl (by decide) (fun _ => rfl) rfl (tVer.one hR13) fun b13 w8_7 H => ?_
        have H := boxesIn [own b13 (.cells #[.int .u64 (o1.getD noV).ts, .int .u64 (o1.getD noV).txn, .bool (o1.getD noV).dead, v1, v2] 32), shr (fun k => w5_1.heap.size ≤ k ∧ k < w8_3.heap.size) w8_3] H
        refine OL_y (y_assign rfl) (by decide) ?_
        refine OL_nil ?_
        refine W_seq ?_
        refine W_region ?_
        refine OL_y (y_move rfl) (by decide) ?_
        refine OL_y (y_move rfl) (by decide) ?_
        refine OL_c (op_call 21 en21 rfl [.pointer (some ⟨sb, 0, none⟩), .int .u64 ts] rfl (by decide) ((f21_calls H hr ha (by omega) (by omega) (by omega)).mono ?_))
        rintro e w9_2 ⟨ks, rfl, hks, E', F', Wp', H, hr', gr, hE'⟩
        refine ⟨_, rfl, ?_⟩
        have H := boxesOut [own b13 (.cells #[.int .u64 (o1.getD noV).ts, .int .u64 (o1.getD noV).txn, .bool (o1.getD noV).dead, v1, v2] 32), shr (fun k => w5_1.heap.size ≤ k ∧ k < w8_3.heap.size) w8_3] H
        refine OL_nil ?_
        refine W_seq ?_
        refine W_region ?_
        refine OL_y (y_move rfl) (by decide) ?_
        refine OL_y (y_move rfl) (by decide) ?_
        refine OL_y (y_move rfl) (by decide) ?_
        refine OL_c (op_call 13 en13 rfl [.pointer (some ⟨sb, 0, none⟩), .slice a1 key.length c1, .int .u64 later] rfl (by decide) ((f13_calls (boxesIn [own b13 (.cells #[.int .u64 (o1.getD noV).ts, .int .u64 (o1.getD noV).txn, .bool (o1.getD noV).dead, v1, v2] 32), shr (fun k => w5_1.heap.size ≤ k ∧ k < w8_3.heap.size) w8_3] H) hr' (hk.dzOf hr'.base) (gc_ok ha ts) (by omega)).mono ?_))
        rintro e w10_3 ⟨cs15, rfl, hR15, hE15⟩
        refine ⟨_, rfl, ?_⟩
        have H := H.addNew hE15
        rw [ho2] at hR15
        rw [ho2]
        obtain ⟨v3, v4, rfl, -⟩ := ver_cells.1 hR15
        refine OL_y (y_move rfl) (by decide) ?_
        refine OL_y (y_extract (v := .agg #[.int .u64 (o2.getD noV).ts, .int .u64 (o2.getD noV).txn, .bool (o2.getD noV).dead, v3, v4]) rfl rfl) (by decide) ?_
        refine OL_y (y_extract (v := .bool o2.isSome) rfl rfl) (by decide) ?_
        refine OL_var (v := .agg #[.int .u64 (o2.getD noV).ts, .int .u64 (o2.getD noV).txn, .bool (o2.getD noV).dead, v3, v4]) H ti32 rfl (by decide) (fun _ => rfl) rfl (tVer.one hR15) fun b15 w10_7 H => ?_
        have hR13' := tVer.keeps hR13 (H.keepsNew 3 rfl)
        have hR15' := tVer.keeps hR15 (H.keepsNew 1 rfl)
        refine OL_y (y_assign rfl) (by decide) ?_
        refine OL_nil ?_
        refine W_seq ?_
        refine W_seq ?_
        rcases hst with ⟨rfl, rfl⟩ | ⟨x, rfl, hst⟩
        · refine W_region ?_
          refine OL_y (y_move (v := .bool false) rfl) (by decide) ?_
          refine OL_y (v := .bool false) (y_move rfl) (by decide) ?_
          refine OL_s rfl (by decide) rfl rfl (by simp) ?_
          refine OL_s rfl (by decide) rfl rfl (by simp) ?_
          refine OL_y (y_pick (b := false) (v := .bool false) rfl rfl) (by decide) ?_
          refine OL_y (v := .bool false) (y_move rfl) (by decide) ?_
          refine OL_s rfl (by decide) rfl rfl (by simp) ?_
          refine OL_s rfl (by decide) rfl rfl (by simp) ?_
          refine OL_y (y_pick (b := false) (v := .bool false) rfl rfl) (by decide) ?_
          refine OL_nil ?_
          refine W_condf rfl ?_
          refine W_skip ?_
          refine W_seq ?_
          refine W_region ?_
          refine OL_y (y_move (v := .bool false) rfl) (by decide) ?_
          refine OL_y (y_move (v := .bool false) rfl) (by decide) ?_
          refine OL_y (v := .bool true) (y_eqlB Try.underlying4 (a := false) (b := false) rfl rfl) (by decide) ?_
          refine OL_y (v := .bool true) (y_move rfl) (by decide) ?_
          refine OL_yg rfl (by decide) rfl (y_loadA (cs := [.int .u64 noV.ts, .int .u64 noV.txn, .bool noV.dead, v1, v2]) ti32 rfl rfl (Cells.of (H.getOwn 2 rfl) rfl) rfl) (by decide) ?_
          refine OL_yg rfl (by decide) rfl (y_loadA (cs := [.int .u64 noV.ts, .int .u64 noV.txn, .bool noV.dead, v3, v4]) ti32 rfl rfl (Cells.of (H.getOwn 0 rfl) rfl) rfl) (by decide) ?_
          refine OL_g rfl (by decide) rfl (op_call 15 en15 rfl [.agg #[.int .u64 noV.ts, .int .u64 noV.txn, .bool noV.dead, v1, v2], .agg #[.int .u64 noV.ts, .int .u64 noV.txn, .bool noV.dead, v3, v4]] rfl (by decide) ((f15_eq (u := noV) (v := noV) rfl hR13' hR15').mono ?_))
          rintro e w13_6 ⟨rfl, hE67⟩
          refine ⟨_, rfl, ?_⟩
          have H := H.ext0 hE67
          refine OL_y (y_pick (b := true) (v := .bool true) rfl rfl) (by decide) ?_
          refine OL_y (v := .bool true) (y_assign rfl) (by decide) ?_
          refine OL_nil ?_
          refine W_ret ?_
          show RetOK _ _ _ _ _ _
          exact ret1 (v := .bool true) Try.results4 rfl ⟨rfl, H.ext_of 8 rfl⟩
        · rcases hst with rfl | ⟨hd, rfl⟩
          · rcases hxd : x.dead with _ | _
            · refine W_region ?_
              refine OL_y (y_move (v := .bool true) rfl) (by decide) ?_
              refine OL_y (v := .bool true) (y_move rfl) (by decide) ?_
              refine OL_yg rfl (by decide) rfl (y_fieldAddr ti32 rfl ti4 rfl rfl) (by decide) ?_
              refine OL_yg rfl (by decide) rfl (y_loadS (v := .bool false) ti4 rfl rfl (Cells.unit (H.getOwn 2 rfl) (congrArg (fun z => some (Value.bool z)) hxd))) (by decide) ?_
              refine OL_y (y_pick (b := true) (v := .bool false) rfl rfl) (by decide) ?_
              refine OL_y (v := .bool false) (y_move rfl) (by decide) ?_
              refine OL_s rfl (by decide) rfl rfl (by simp) ?_
              refine OL_s rfl (by decide) rfl rfl (by simp) ?_
              refine OL_y (y_pick (b := false) (v := .bool false) rfl rfl) (by decide) ?_
              refine OL_nil ?_
              refine W_condf rfl ?_
              refine W_skip ?_
              refine W_seq ?_
              refine W_region ?_
              refine OL_y (y_move (v := .bool true) rfl) (by decide) ?_
              refine OL_y (y_move (v := .bool true) rfl) (by decide) ?_
              refine OL_y (v := .bool true) (y_eqlB Try.underlying4 (a := true) (b := true) rfl rfl) (by decide) ?_
              refine OL_y (v := .bool true) (y_move rfl) (by decide) ?_
              refine OL_yg rfl (by decide) rfl (y_loadA (cs := [.int .u64 x.ts, .int .u64 x.txn, .bool x.dead, v1, v2]) ti32 rfl rfl (Cells.of (H.getOwn 2 rfl) rfl) rfl) (by decide) ?_
              refine OL_yg rfl (by decide) rfl (y_loadA (cs := [.int .u64 x.ts, .int .u64 x.txn, .bool x.dead, v3, v4]) ti32 rfl rfl (Cells.of (H.getOwn 0 rfl) rfl) rfl) (by decide) ?_
              refine OL_g rfl (by decide) rfl (op_call 15 en15 rfl [.agg #[.int .u64 x.ts, .int .u64 x.txn, .bool x.dead, v1, v2], .agg #[.int .u64 x.ts, .int .u64 x.txn, .bool x.dead, v3, v4]] rfl (by decide) ((f15_eq (u := x) (v := x) rfl hR13' hR15').mono ?_))
              rintro e w13_6 ⟨rfl, hE67⟩
              refine ⟨_, rfl, ?_⟩
              have H := H.ext0 hE67
              refine OL_y (y_pick (b := true) (v := .bool true) rfl rfl) (by decide) ?_
              refine OL_y (v := .bool true) (y_assign rfl) (by decide) ?_
              refine OL_nil ?_
              refine W_ret ?_
              show RetOK _ _ _ _ _ _
              exact ret1 (v := .bool true) Try.results4 rfl ⟨rfl, H.ext_of 8 rfl⟩
            · refine W_region ?_
              refine OL_y (y_move (v := .bool true) rfl) (by decide) ?_
              refine OL_y (v := .bool true) (y_move rfl) (by decide) ?_
              refine OL_yg rfl (by decide) rfl (y_fieldAddr ti32 rfl ti4 rfl rfl) (by decide) ?_
              refine OL_yg rfl (by decide) rfl (y_loadS (v := .bool true) ti4 rfl rfl (Cells.unit (H.getOwn 2 rfl) (congrArg (fun z => some (Value.bool z)) hxd))) (by decide) ?_
              refine OL_y (y_pick (b := true) (v := .bool true) rfl rfl) (by decide) ?_
              refine OL_y (v := .bool true) (y_move rfl) (by decide) ?_
              refine OL_yg rfl (by decide) rfl (y_move (v := .bool true) rfl) (by decide) ?_
              refine OL_yg (v := .bool false) rfl (by decide) rfl (y_not (b := true) rfl) (by decide) ?_
              refine OL_y (y_pick (b := true) (v := .bool false) rfl rfl) (by decide) ?_
              refine OL_nil ?_
              refine W_condf rfl ?_
              refine W_skip ?_
              refine W_seq ?_
              refine W_region ?_
              refine OL_y (y_move (v := .bool true) rfl) (by decide) ?_
              refine OL_y (y_move (v := .bool true) rfl) (by decide) ?_
              refine OL_y (v := .bool true) (y_eqlB Try.underlying4 (a := true) (b := true) rfl rfl) (by decide) ?_
              refine OL_y (v := .bool true) (y_move rfl) (by decide) ?_
              refine OL_yg rfl (by decide) rfl (y_loadA (cs := [.int .u64 x.ts, .int .u64 x.txn, .bool x.dead, v1, v2]) ti32 rfl rfl (Cells.of (H.getOwn 2 rfl) rfl) rfl) (by decide) ?_
              refine OL_yg rfl (by decide) rfl (y_loadA (cs := [.int .u64 x.ts, .int .u64 x.txn, .bool x.dead, v3, v4]) ti32 rfl rfl (Cells.of (H.getOwn 0 rfl) rfl) rfl) (by decide) ?_
              refine OL_g rfl (by decide) rfl (op_call 15 en15 rfl [.agg #[.int .u64 x.ts, .int .u64 x.txn, .bool x.dead, v1, v2], .agg #[.int .u64 x.ts, .int .u64 x.txn, .bool x.dead, v3, v4]] rfl (by decide) ((f15_eq (u := x) (v := x) rfl hR13' hR15').mono ?_))
              rintro e w13_6 ⟨rfl, hE67⟩
              refine ⟨_, rfl, ?_⟩
              have H := H.ext0 hE67
              refine OL_y (y_pick (b := true) (v := .bool true) rfl rfl) (by decide) ?_
              refine OL_y (v := .bool true) (y_assign rfl) (by decide) ?_
              refine OL_nil ?_
              refine W_ret ?_
              show RetOK _ _ _ _ _ _
              exact ret1 (v := .bool true) Try.results4 rfl ⟨rfl, H.ext_of 8 rfl⟩
          · refine W_region ?_
            refine OL_y (y_move (v := .bool true) rfl) (by decide) ?_
            refine OL_y (v := .bool true) (y_move rfl) (by decide) ?_
            refine OL_yg rfl (by decide) rfl (y_fieldAddr ti32 rfl ti4 rfl rfl) (by decide) ?_
            refine OL_yg rfl (by decide) rfl (y_loadS (v := .bool true) ti4 rfl rfl (Cells.unit (H.getOwn 2 rfl) (congrArg (fun z => some (Value.bool z)) hd))) (by decide) ?_
            refine OL_y (y_pick (b := true) (v := .bool true) rfl rfl) (by decide) ?_
            refine OL_y (v := .bool true) (y_move rfl) (by decide) ?_
            refine OL_yg rfl (by decide) rfl (y_move (v := .bool false) rfl) (by decide) ?_
            refine OL_yg (v := .bool true) rfl (by decide) rfl (y_not (b := false) rfl) (by decide) ?_
            refine OL_y (y_pick (b := true) (v := .bool true) rfl rfl) (by decide) ?_
            refine OL_nil ?_
            refine W_condt rfl ?_
            refine W_seq ?_
            refine W_region ?_
            refine OL_y (v := .bool true) (y_assign rfl) (by decide) ?_
            refine OL_nil ?_
            refine W_ret ?_
            show RetOK _ _ _ _ _ _
            exact ret1 (v := .bool true) Try.results4 rfl ⟨rfl, H.ext_of 8 rfl⟩
      · refine W_region ?_
        refine OL_y (v := .bool true) (y_move rfl) (by decide) ?_
        refine OL_nil ?_
        refine W_condt rfl ?_
        refine W_seq ?_
        refine W_region ?_
        refine OL_y (v := .bool true) (y_assign rfl) (by decide) ?_
        refine OL_nil ?_
        refine W_ret ?_
        show RetOK _ _ _ _ _ _
        exact ret1 (v := .bool true) Try.results4 rfl ⟨rfl, H.ext_of 0 rfl⟩
end Go.Proofs.Ytpandioolpnihaa

/- The law MvccPuts: a version that is put is read at its time, and later until a later one. -/
namespace Go.Proofs.Ytpandioolpnihaa
open Go Go.Wk
set_option linter.unusedVariables false
set_option linter.unusedSimpArgs false

set_option maxHeartbeats 16000000 in
theorem f5_calls {Z : Nat → Prop} {w : World} {vl vk : Value} {l : List Stp} {key : Key} {cs : List Value} {v : Ver} {ts : Int} (hl : SlR tStp 112 Z w vl l) (hk : SlR (tInt .u8) 1 Z w vk key) (hv : tVer.R Z w cs v) (hts : InK .u64 ts) :
    Calls Try.prog 5 [vl, vk, .agg cs.toArray, .int .u64 ts].toArray w fun e w' => e = .returned (.bool true) ∧ Ext none' w w' := by
  have H := Holds.start w
  have hl := hl.mono (Z' := fun k => k < w.heap.size) fun k h _ => h
  have hk := hk.mono (Z' := fun k => k < w.heap.size) fun k h _ => h
  have hv := tVer.mono (Z' := fun k => k < w.heap.size) hv fun k h _ => h
  obtain ⟨a1, c1, rfl, hl1, hm1⟩ := hk.len
  obtain ⟨vv, vt, rfl, -⟩ := ver_cells.1 hv
  refine calls_of_W' Try.func5 rfl Try.ntmps5 rfl ?_
  refine W_seq ?_
  refine W_region ?_
  refine OL_c (op_box (v := .agg #[.int .u64 v.ts, .int .u64 v.txn, .bool v.dead, vv, vt]) H rfl (by decide) fun b6 w0_0 H => ?_)
  have H : Holds w0_0 (shr (fun k => k < w.heap.size) w :: [own b6 (.cells #[.int .u64 v.ts, .int .u64 v.txn, .bool v.dead, vv, vt] 32)]) := H.perm (List.Perm.swap _ _ _)
  refine OL_y (v := .bool false) (y_assign rfl) (by decide) ?_
  refine OL_nil ?_
  refine W_seq ?_
  refine W_seq ?_
  refine W_region ?_
  refine OL_c (op_call 11 en11 rfl [] rfl (by decide) ((f11_calls).mono ?_))
  rintro e w1_0 ⟨rfl, hE11⟩
  refine ⟨_, rfl, ?_⟩
  have H := H.ext0 hE11
  refine OL_y (y_not (b := true) rfl) (by decide) ?_
  refine OL_nil ?_
  refine W_condf rfl ?_
  refine W_skip ?_
  refine W_seq ?_
  refine W_seq ?_
  by_cases hp : (50 : Int) < (key.length : Nat)
  · obtain ⟨sm, hsm⟩ : ∃ sm, smallB v = sm := ⟨_, rfl⟩
    refine W_region ?_
    refine OL_y (y_move rfl) (by decide) ?_
    refine OL_y (y_len rfl ti23 rfl) (by decide) ?_
    refine OL_y (v := .bool true) (y_gtrT hp rfl rfl) (by decide) ?_
    refine OL_y (v := .bool true) (y_move rfl) (by decide) ?_
    refine OL_s rfl (by decide) rfl rfl (by simp) ?_
    refine OL_s rfl (by decide) rfl rfl (by simp) ?_
    refine OL_s rfl (by decide) rfl rfl (by simp) ?_
    refine OL_y (y_pick (b := true) (v := .bool true) rfl rfl) (by decide) ?_
    refine OL_nil ?_
    refine W_condt rfl ?_
    refine W_seq ?_
    refine W_region ?_
    refine OL_y (v := .bool true) (y_assign rfl) (by decide) ?_
    refine OL_nil ?_
    refine W_ret ?_
    show RetOK _ _ _ _ _ _
    exact ret1 (v := .bool true) Try.results5 rfl ⟨rfl, H.ext_of 0 rfl⟩
  · obtain ⟨sm, hsm⟩ : ∃ sm, smallB v = sm := ⟨_, rfl⟩
    refine W_region ?_
    refine OL_y (y_move rfl) (by decide) ?_
    refine OL_y (y_len rfl ti23 rfl) (by decide) ?_
    refine OL_y (v := .bool false) (y_gtrF hp rfl rfl) (by decide) ?_
    refine OL_y (v := .bool false) (y_move rfl) (by decide) ?_
    refine OL_yg rfl (by decide) rfl (y_loadA (cs := [.int .u64 v.ts, .int .u64 v.txn, .bool v.dead, vv, vt]) ti32 rfl rfl (Cells.of (H.getOwn 1 rfl) rfl) rfl) (by decide) ?_
    refine OL_g rfl (by decide) rfl (op_call 22 en22 rfl [.agg #[.int .u64 v.ts, .int .u64 v.txn, .bool v.dead, vv, vt]] rfl (by decide) ((f22_calls (tVer.keeps hv (H.keepsAll 0 rfl _))).mono ?_))
    rintro e w3_5 ⟨rfl, hE22⟩
    refine ⟨_, rfl, ?_⟩
    have H := H.ext0 hE22
    refine OL_yg rfl (by decide) rfl (y_not rfl) (by decide) ?_
    refine OL_y (y_pick (b := false) (v := .bool !smallB v) rfl rfl) (by decide) ?_
    refine OL_nil ?_
    refine W_cond rfl (fun hc => ?_) (fun hc => ?_)
    · refine W_seq ?_
      refine W_region ?_
      refine OL_y (v := .bool true) (y_assign rfl) (by decide) ?_
      refine OL_nil ?_
      refine W_ret ?_
      show RetOK _ _ _ _ _ _
      exact ret1 (v := .bool true) Try.results5 rfl ⟨rfl, H.ext_of 0 rfl⟩
    · refine W_skip ?_
      refine W_seq ?_
      refine W_region ?_
      refine OL_y (y_move rfl) (by decide) ?_
      refine OL_c (op_call 12 en12 rfl [vl] rfl (by decide) ((f12_calls H hl).mono ?_))
      rintro e w5_1 ⟨sb, g1, g2, rb, great, rfl, H, hB⟩
      refine ⟨_, rfl, ?_⟩
      refine OL_y (y_move rfl) (by decide) ?_
      refine OL_y (y_extract (v := .pointer (some ⟨sb, 0, none⟩)) rfl rfl) (by decide) ?_
      refine OL_y (y_extract (v := .pointer (some ⟨rb, 0, none⟩)) rfl rfl) (by decide) ?_
      refine OL_y (y_extract (v := .bool true) rfl rfl) (by decide) ?_
      refine OL_y (y_extract (v := .bool great) rfl rfl) (by decide) ?_
      refine OL_y (y_assign rfl) (by decide) ?_
      refine OL_y (y_assign rfl) (by decide) ?_
      refine OL_y (y_assign rfl) (by decide) ?_
      refine OL_y (y_assign rfl) (by decide) ?_
      refine OL_nil ?_
      refine W_seq ?_
      refine W_seq ?_
      rcases great with _ | _
      · refine W_region ?_
        refine OL_y (v := .bool false) (y_move rfl) (by decide) ?_
        refine OL_nil ?_
        refine W_condf rfl ?_
        refine W_skip ?_
        refine W_seq ?_
        obtain ⟨E, I, F, Wp, vR, R, F2, W2, a, hr, hrr, ha, hI, hE, hR, H⟩ := hB rfl
        have H := boxOut H
        have hpa := put_at a (kb key) v
        refine W_region ?_
        refine OL_y (y_move rfl) (by decide) ?_
        refine OL_y (y_move rfl) (by decide) ?_
        refine OL_y (y_loadA (cs := [.int .u64 v.ts, .int .u64 v.txn, .bool v.dead, vv, vt]) ti32 rfl rfl (Cells.of (H.getOwn 0 rfl) rfl) rfl) (by decide) ?_
        refine OL_c (op_call 23 en23 rfl [.pointer (some ⟨sb, 0, none⟩), .slice a1 key.length c1, .agg #[.int .u64 v.ts, .int .u64 v.txn, .bool v.dead, vv, vt]] rfl (by decide) ((f23_calls (boxIn H) hr (hk.dzOf hr.base) (Ty.dzOf hv hr.base) ha (by omega)).mono ?_))
        rintro e w8_3 ⟨rfl, E', F', Wp', H, hr', gr, hE'⟩
        refine ⟨_, rfl, ?_⟩
        have H := boxOut H
        refine OL_nil ?_
        refine W_seq ?_
        refine W_region ?_
        refine OL_y (y_move rfl) (by decide) ?_
        refine OL_y (y_move rfl) (by decide) ?_
        refine OL_y (y_fieldAddr ti32 rfl ti24 rfl rfl) (by decide) ?_
        refine OL_y (y_loadS (v := .int .u64 v.ts) ti24 rfl rfl (Cells.unit (H.getOwn 0 rfl) rfl)) (by decide) ?_
        refine OL_c (op_call 13 en13 rfl [.pointer (some ⟨sb, 0, none⟩), .slice a1 key.length c1, .int .u64 v.ts] rfl (by decide) ((f13_calls (boxIn H) hr' (hk.dzOf hr'.base) (ha.put _ _) (by omega)).mono ?_))
        rintro e w9_4 ⟨cs13, rfl, hR13, hE13⟩
        refine ⟨_, rfl, ?_⟩
        have H := H.addNew hE13
        rw [hpa] at hR13
        rw [hpa]
        have hR13 : tVer.R _ w9_4 cs13 v := hR13
        obtain ⟨v1, v2, rfl, -⟩ := ver_cells.1 hR13
        refine OL_y (y_move rfl) (by decide) ?_
        refine OL_y (y_extract (v := .agg #[.int .u64 v.ts, .int .u64 v.txn, .bool v.dead, v1, v2]) rfl rfl) (by decide) ?_
        refine OL_y (y_extract (v := .bool true) rfl rfl) (by decide) ?_
        refine OL_var (v := .agg #[.int .u64 v.ts, .int .u64 v.txn, .bool v.dead, v1, v2]) H ti32 rfl (by decide) (fun _ => rfl) rfl (tVer.one hR13) fun b13 w9_8 H => ?_
        refine OL_y (y_assign rfl) (by decide) ?_
        refine OL_nil ?_
        refine W_seq ?_
        by_cases hlt : ts < v.ts
        · obtain ⟨o2, ho2⟩ : ∃ o, atV (a.put (kb key) v) (kb key) ts = o := ⟨_, rfl⟩
          obtain ⟨x, hx⟩ : ∃ x, o2.getD noV = x := ⟨_, rfl⟩
          refine W_region ?_
          refine OL_y (y_move rfl) (by decide) ?_
          refine OL_y (y_move rfl) (by decide) ?_
          refine OL_y (y_move rfl) (by decide) ?_
          refine OL_c (op_call 13 en13 rfl [.pointer (some ⟨sb, 0, none⟩), .slice a1 key.length c1, .int .u64 ts] rfl (by decide) ((f13_calls (boxesIn [_, _, _] H) hr' (hk.dzOf hr'.base) (ha.put _ _) (by omega)).mono ?_))
          rintro e w10_3 ⟨cs15, rfl, hR15, hE15⟩
          refine ⟨_, rfl, ?_⟩
          have H := H.ext0 hE15
          rw [ho2, hx] at hR15
          rw [ho2]
          obtain ⟨v3, v4, rfl, -⟩ := ver_cells.1 hR15
          refine OL_y (y_move rfl) (by decide) ?_
          refine OL_y (y_extract (v := .agg #[.int .u64 x.ts, .int .u64 x.txn, .bool x.dead, v3, v4]) rfl rfl) (by decide) ?_
          refine OL_y (y_extract (v := .bool o2.isSome) rfl rfl) (by decide) ?_
          refine OL_var (v := .agg #[.int .u64 x.ts, .int .u64 x.txn, .bool x.dead, v3, v4]) H ti32 rfl (by decide) (fun _ => rfl) rfl (tVer.one hR15) fun b15 w10_7 H => ?_
          refine OL_y (y_assign rfl) (by decide) ?_
          refine OL_nil ?_
          refine W_seq ?_
          refine W_region ?_
          refine OL_y (y_move (v := .bool true) rfl) (by decide) ?_
          refine OL_y (v := .bool true) (y_move rfl) (by decide) ?_
          refine OL_yg rfl (by decide) rfl (y_loadA (cs := [.int .u64 v.ts, .int .u64 v.txn, .bool v.dead, v1, v2]) ti32 rfl rfl (Cells.of (H.getOwn 1 rfl) rfl) rfl) (by decide) ?_
          refine OL_yg rfl (by decide) rfl (y_loadA (cs := [.int .u64 v.ts, .int .u64 v.txn, .bool v.dead, vv, vt]) ti32 rfl rfl (Cells.of (H.getOwn 3 rfl) rfl) rfl) (by decide) ?_
          refine OL_g rfl (by decide) rfl (op_call 15 en15 rfl [.agg #[.int .u64 v.ts, .int .u64 v.txn, .bool v.dead, v1, v2], .agg #[.int .u64 v.ts, .int .u64 v.txn, .bool v.dead, vv, vt]] rfl (by decide) ((f15_eq rfl (tVer.keeps hR13 (H.keepsNew 2 rfl)) (tVer.keeps hv (H.keepsAll 8 rfl _))).mono ?_))
          rintro e w11_4 ⟨rfl, hE58⟩
          refine ⟨_, rfl, ?_⟩
          have H := H.ext0 hE58
          refine OL_y (y_pick (b := true) (v := .bool true) rfl rfl) (by decide) ?_
          refine OL_y (v := .bool true) (y_move rfl) (by decide) ?_
          refine OL_yg rfl (by decide) rfl (y_move rfl) (by decide) ?_
          refine OL_yg rfl (by decide) rfl (y_fieldAddr ti32 rfl ti24 rfl rfl) (by decide) ?_
          refine OL_yg rfl (by decide) rfl (y_loadS (v := .int .u64 v.ts) ti24 rfl rfl (Cells.unit (H.getOwn 3 rfl) rfl)) (by decide) ?_
          refine OL_yg (v := .bool true) rfl (by decide) rfl (y_lssT hlt rfl rfl) (by decide) ?_
          refine OL_yg (v := .bool true) rfl (by decide) rfl (y_move rfl) (by decide) ?_
          refine OL_s rfl (by decide) rfl rfl (by simp) ?_
          refine OL_s rfl (by decide) rfl rfl (by simp) ?_
          refine OL_u rfl (by decide) rfl (by simp) ?_
          refine OL_u rfl (by decide) rfl (by simp) ?_
          refine OL_u rfl (by decide) rfl (by simp) ?_
          refine OL_u rfl (by decide) rfl (by simp) ?_
          refine OL_u rfl (by decide) rfl (by simp) ?_
          refine OL_s rfl (by decide) rfl rfl (by simp) ?_
          refine OL_s rfl (by decide) rfl rfl (by simp) ?_
          refine OL_u rfl (by decide) rfl (by simp) ?_
          refine OL_u rfl (by decide) rfl (by simp) ?_
          refine OL_u rfl (by decide) rfl (by simp) ?_
          refine OL_u rfl (by decide) rfl (by simp) ?_
          refine OL_s rfl (by decide) rfl rfl (by simp) ?_
          refine OL_yg rfl (by decide) rfl (y_pick (b := true) (v := .bool true) rfl rfl) (by decide) ?_
          refine OL_y (y_pick (b := true) (v := .bool true) rfl rfl) (by decide) ?_
          refine OL_y (v := .bool true) (y_assign rfl) (by decide) ?_
          refine OL_nil ?_
          refine W_ret ?_
          show RetOK _ _ _ _ _ _
          exact ret1 (v := .bool true) Try.results5 rfl ⟨rfl, H.ext_of 8 rfl⟩
        · obtain ⟨x, ho2, hx1, hx2⟩ := put_later a (kb key) v (show v.ts ≤ ts by omega)
          refine W_region ?_
          refine OL_y (y_move rfl) (by decide) ?_
          refine OL_y (y_move rfl) (by decide) ?_
          refine OL_y (y_move rfl) (by decide) ?_
          refine OL_c (op_call 13 en13 rfl [.pointer (some ⟨sb, 0, none⟩), .slice a1 key.length c1, .int .u64 ts] rfl (by decide) ((f13_calls (boxesIn [_, _, _] H) hr' (hk.dzOf hr'.base) (ha.put _ _) (by omega)).mono ?_))
          rintro e w10_3 ⟨cs15, rfl, hR15, hE15⟩
          refine ⟨_, rfl, ?_⟩
          have H := H.ext0 hE15
          rw [ho2] at hR15
          rw [ho2]
          have hR15 : tVer.R _ w10_3 cs15 x := hR15
          obtain ⟨v3, v4, rfl, -⟩ := ver_cells.1 hR15
          refine OL_y (y_move rfl) (by decide) ?_
          refine OL_y (y_extract (v := .agg #[.int .u64 x.ts, .int .u64 x.txn, .bool x.dead, v3, v4]) rfl rfl) (by decide) ?_
          refine OL_y (y_extract (v := .bool true) rfl rfl) (by decide) ?_
          refine OL_var (v := .agg #[.int .u64 x.ts, .int .u64 x.txn, .bool x.dead, v3, v4]) H ti32 rfl (by decide) (fun _ => rfl) rfl (tVer.one hR15) fun b15 w10_7 H => ?_
          refine OL_y (y_assign rfl) (by decide) ?_
          refine OL_nil ?_
          refine W_seq ?_
          refine W_region ?_
          refine OL_y (y_move (v := .bool true) rfl) (by decide) ?_
          refine OL_y (v := .bool true) (y_move rfl) (by decide) ?_
          refine OL_yg rfl (by decide) rfl (y_loadA (cs := [.int .u64 v.ts, .int .u64 v.txn, .bool v.dead, v1, v2]) ti32 rfl rfl (Cells.of (H.getOwn 1 rfl) rfl) rfl) (by decide) ?_
          refine OL_yg rfl (by decide) rfl (y_loadA (cs := [.int .u64 v.ts, .int .u64 v.txn, .bool v.dead, vv, vt]) ti32 rfl rfl (Cells.of (H.getOwn 3 rfl) rfl) rfl) (by decide) ?_
          refine OL_g rfl (by decide) rfl (op_call 15 en15 rfl [.agg #[.int .u64 v.ts, .int .u64 v.txn, .bool v.dead, v1, v2], .agg #[.int .u64 v.ts, .int .u64 v.txn, .bool v.dead, vv, vt]] rfl (by decide) ((f15_eq rfl (tVer.keeps hR13 (H.keepsNew 2 rfl)) (tVer.keeps hv (H.keepsAll 8 rfl _))).mono ?_))
          rintro e w11_4 ⟨rfl, hE58⟩
          refine ⟨_, rfl, ?_⟩
          have H := H.ext0 hE58
          refine OL_y (y_pick (b := true) (v := .bool true) rfl rfl) (by decide) ?_
          refine OL_y (v := .bool true) (y_move rfl) (by decide) ?_
          refine OL_yg rfl (by decide) rfl (y_move rfl) (by decide) ?_
          refine OL_yg rfl (by decide) rfl (y_fieldAddr ti32 rfl ti24 rfl rfl) (by decide) ?_
          refine OL_yg rfl (by decide) rfl (y_loadS (v := .int .u64 v.ts) ti24 rfl rfl (Cells.unit (H.getOwn 3 rfl) rfl)) (by decide) ?_
          refine OL_yg (v := .bool false) rfl (by decide) rfl (y_lssF hlt rfl rfl) (by decide) ?_
          refine OL_yg (v := .bool false) rfl (by decide) rfl (y_move rfl) (by decide) ?_
          refine OL_yg rfl (by decide) rfl (y_move (v := .bool true) rfl) (by decide) ?_
          refine OL_yg (v := .bool true) rfl (by decide) rfl (y_move rfl) (by decide) ?_
          refine OL_yg rfl (by decide) rfl (y_fieldAddr ti32 rfl ti24 rfl rfl) (by decide) ?_
          refine OL_yg rfl (by decide) rfl (y_loadS (v := .int .u64 x.ts) ti24 rfl rfl (Cells.unit (H.getOwn 0 rfl) rfl)) (by decide) ?_
          refine OL_yg rfl (by decide) rfl (y_fieldAddr ti32 rfl ti24 rfl rfl) (by decide) ?_
          refine OL_yg rfl (by decide) rfl (y_loadS (v := .int .u64 v.ts) ti24 rfl rfl (Cells.unit (H.getOwn 3 rfl) rfl)) (by decide) ?_
          refine OL_yg (v := .bool true) rfl (by decide) rfl (y_geqT hx1 rfl rfl) (by decide) ?_
          refine OL_yg rfl (by decide) rfl (y_pick (b := true) (v := .bool true) rfl rfl) (by decide) ?_
          refine OL_yg (v := .bool true) rfl (by decide) rfl (y_move rfl) (by decide) ?_
          refine OL_yg rfl (by decide) rfl (y_fieldAddr ti32 rfl ti24 rfl rfl) (by decide) ?_
          refine OL_yg rfl (by decide) rfl (y_loadS (v := .int .u64 x.ts) ti24 rfl rfl (Cells.unit (H.getOwn 0 rfl) rfl)) (by decide) ?_
          refine OL_yg rfl (by decide) rfl (y_move rfl) (by decide) ?_
          refine OL_yg (v := .bool true) rfl (by decide) rfl (y_leqT hx2 rfl rfl) (by decide) ?_
          refine OL_yg rfl (by decide) rfl (y_pick (b := true) (v := .bool true) rfl rfl) (by decide) ?_
          refine OL_yg rfl (by decide) rfl (y_pick (b := false) (v := .bool true) rfl rfl) (by decide) ?_
          refine OL_y (y_pick (b := true) (v := .bool true) rfl rfl) (by decide) ?_
          refine OL_y (v := .bool true) (y_assign rfl) (by decide) ?_
          refine OL_nil ?_
          refine W_ret ?_
          show RetOK _ _ _ _ _ _
          exact ret1 (v := .bool true) Try.results5 rfl ⟨rfl, H.ext_of 8 rfl⟩
      · refine W_region ?_
        refine OL_y (v := .bool true) (y_move rfl) (by decide) ?_
        refine OL_nil ?_
        refine W_condt rfl ?_
        refine W_seq ?_
        refine W_region ?_
        refine OL_y (v := .bool true) (y_assign rfl) (by decide) ?_
        refine OL_nil ?_
        refine W_ret ?_
        show RetOK _ _ _ _ _ _
        exact ret1 (v := .bool true) Try.results5 rfl ⟨rfl, H.ext_of 0 rfl⟩
end Go.Proofs.Ytpandioolpnihaa

/- The law MvccTurns: intents of a transaction become versions, all of them. -/
namespace Go.Proofs.Ytpandioolpnihaa
open Go Go.Wk
set_option linter.unusedVariables false
set_option linter.unusedSimpArgs false

theorem y_neqBR {P : Program} {d t t' ty : Nat} {p : String} {af : Array Edge} {g : Option (Nat × Bool)} {f : Fr} {x y : Operand} {w : World} {a : Bool} (ht : P.underlying t = some .bool) (hx : ev f x = .bool a) (hy : ev f y = .bool a) : Yd P ⟨some d, .binOp .neq t x y t', ty, p, af, g⟩ f w (.bool false) := by
  have := y_neqB (P := P) (w := w) (d := d) (t := t) (t' := t') (ty := ty) (p := p) (af := af) (g := g) ht hx hy
  rwa [bne_self_eq_false] at this

set_option maxHeartbeats 16000000 in
theorem f7_calls {Z : Nat → Prop} {w : World} {vl : Value} {l : List Stp} {txn ts : Int} (hl : SlR tStp 112 Z w vl l) (htx : InK .u64 txn) (hts : InK .u64 ts) :
    Calls Try.prog 7 [vl, .int .u64 txn, .int .u64 ts].toArray w fun e w' => e = .returned (.bool true) ∧ Ext none' w w' := by
  have H := Holds.start w
  have hl := hl.mono (Z' := fun k => k < w.heap.size) fun k h _ => h
  refine calls_of_W' Try.func7 rfl Try.ntmps7 rfl ?_
  refine W_seq ?_
  refine W_region ?_
  refine OL_y (v := .bool false) (y_assign rfl) (by decide) ?_
  refine OL_nil ?_
  refine W_seq ?_
  refine W_seq ?_
  refine W_region ?_
  refine OL_c (op_call 11 en11 rfl [] rfl (by decide) ((f11_calls).mono ?_))
  rintro e w1_0 ⟨rfl, hE11⟩
  refine ⟨_, rfl, ?_⟩
  have H := H.ext0 hE11
  refine OL_y (y_not (b := true) rfl) (by decide) ?_
  refine OL_nil ?_
  refine W_condf rfl ?_
  refine W_skip ?_
  refine W_seq ?_
  refine W_region ?_
  refine OL_y (y_move rfl) (by decide) ?_
  refine OL_c (op_call 12 en12 rfl [vl] rfl (by decide) ((f12_calls H hl).mono ?_))
  rintro e w3_1 ⟨sb, g1, g2, rb, great, rfl, H, hB⟩
  refine ⟨_, rfl, ?_⟩
  refine OL_y (y_move rfl) (by decide) ?_
  refine OL_y (y_extract (v := .pointer (some ⟨sb, 0, none⟩)) rfl rfl) (by decide) ?_
  refine OL_y (y_extract (v := .pointer (some ⟨rb, 0, none⟩)) rfl rfl) (by decide) ?_
  refine OL_y (y_extract (v := .bool true) rfl rfl) (by decide) ?_
  refine OL_y (y_extract (v := .bool great) rfl rfl) (by decide) ?_
  refine OL_y (y_assign rfl) (by decide) ?_
  refine OL_y (y_assign rfl) (by decide) ?_
  refine OL_y (y_assign rfl) (by decide) ?_
  refine OL_y (y_assign rfl) (by decide) ?_
  refine OL_nil ?_
  refine W_seq ?_
  refine W_seq ?_
  rcases great with _ | _
  · by_cases hz : txn = 0
    · refine W_region ?_
      refine OL_y (v := .bool false) (y_move rfl) (by decide) ?_
      refine OL_y (v := .bool false) (y_move rfl) (by decide) ?_
      refine OL_yg rfl (by decide) rfl (y_move rfl) (by decide) ?_
      refine OL_yg (v := .bool true) rfl (by decide) rfl (y_eqlT hz rfl rfl) (by decide) ?_
      refine OL_y (y_pick (b := false) (v := .bool true) rfl rfl) (by decide) ?_
      refine OL_nil ?_
      refine W_condt rfl ?_
      refine W_seq ?_
      refine W_region ?_
      refine OL_y (v := .bool true) (y_assign rfl) (by decide) ?_
      refine OL_nil ?_
      refine W_ret ?_
      show RetOK _ _ _ _ _ _
      exact ret1 (v := .bool true) Try.results7 rfl ⟨rfl, H.ext_of 0 rfl⟩
    · refine W_region ?_
      refine OL_y (v := .bool false) (y_move rfl) (by decide) ?_
      refine OL_y (v := .bool false) (y_move rfl) (by decide) ?_
      refine OL_yg rfl (by decide) rfl (y_move rfl) (by decide) ?_
      refine OL_yg (v := .bool false) rfl (by decide) rfl (y_eqlF hz rfl rfl) (by decide) ?_
      refine OL_y (y_pick (b := false) (v := .bool false) rfl rfl) (by decide) ?_
      refine OL_nil ?_
      refine W_condf rfl ?_
      refine W_skip ?_
      refine W_seq ?_
      obtain ⟨E, I, F, Wp, vR, R, F2, W2, a, hr, hrr, ha, hI, hE, hR, H⟩ := hB rfl
      refine W_region ?_
      refine OL_y (y_move rfl) (by decide) ?_
      refine OL_y (y_move rfl) (by decide) ?_
      refine OL_c (op_call 17 en17 rfl [.pointer (some ⟨sb, 0, none⟩), .int .u64 txn] rfl (by decide) ((f17_calls H hr (by omega)).mono ?_))
      rintro e w6_2 ⟨v33, ks, rfl, hks, hS33, hE33⟩
      refine ⟨_, rfl, ?_⟩
      have H := H.ext0 hE33
      obtain ⟨a33, c33, hv33, -, -⟩ := hS33.len
      rw [List.length_map] at hv33
      subst hv33
      refine OL_y (y_assign rfl) (by decide) ?_
      refine OL_nil ?_
      refine W_seq ?_
      refine W_region ?_
      refine OL_y (y_move rfl) (by decide) ?_
      refine OL_c (op_call 25 en25 rfl [.pointer (some ⟨sb, 0, none⟩), .slice none 0 0, .slice none 0 0, .int .u64 18446744073709551615] rfl (by decide) ((f25_calls (Zl := fun _ => True) H hr ha (by omega) (by omega) (by omega) (SlR.nil _ _ _ _) (SlR.nil _ _ _ _)).mono ?_))
      rintro e w7_1 ⟨v35, kz, rfl, hsc, hS35, hE35⟩
      refine ⟨_, rfl, ?_⟩
      obtain ⟨H, q1⟩ := H.poolC hE35 3 4 rfl rfl hr.base
      obtain ⟨F1, hF1⟩ : ∃ F1 : Nat → Prop, F1 = fun k => F k ∨ (w6_2.heap.size ≤ k ∧ k < w7_1.heap.size) := ⟨_, rfl⟩
      rw [← hF1] at H q1
      have hS1 : SlR tCl 120 (Dz w F1) w7_1 v35 (kz.map (cellOf a 18446744073709551615)) := hS35.mono fun k h1 h2 => .inr (by rw [hF1]; exact .inr ⟨h2, h1⟩)
      have hkzl := hS1.len1 (by decide)
      rw [List.length_map] at hkzl
      obtain ⟨a35, c35, hv35, hl35, hm35⟩ := hS1.len
      rw [List.length_map] at hv35 hl35
      subst hv35
      refine OL_y (y_assign rfl) (by decide) ?_
      refine OL_nil ?_
      refine W_seq ?_
      refine W_seq ?_
      refine W_region ?_
      refine OL_y (y_move rfl) (by decide) ?_
      refine OL_y (y_move rfl) (by decide) ?_
      refine OL_y (y_move rfl) (by decide) ?_
      refine OL_c (op_call 27 en27 rfl [.pointer (some ⟨sb, 0, none⟩), .int .u64 txn, .int .u64 ts] rfl (by decide) ((f27_calls H (hr.grow q1) (by omega) ha (by omega) hts).mono ?_))
      rintro e w8_3 ⟨ks2, rfl, hks2, E', I', F', Wp', H, hr', ha', q2, hI', hE', hkI⟩
      refine ⟨_, rfl, ?_⟩
      have hkk := intents_unique hks2 hks
      subst hkk
      have hS2 := q2.slr hS1
      refine OL_y (y_move rfl) (by decide) ?_
      refine OL_y (y_len rfl ti30 rfl) (by decide) ?_
      refine OL_y (v := .bool false) (y_neqF rfl rfl rfl) (by decide) ?_
      refine OL_y (v := .bool false) (y_move rfl) (by decide) ?_
      refine OL_yg rfl (by decide) rfl (y_move rfl) (by decide) ?_
      refine OL_yg rfl (by decide) rfl (y_move rfl) (by decide) ?_
      refine OL_g rfl (by decide) rfl (op_call 17 en17 rfl [.pointer (some ⟨sb, 0, none⟩), .int .u64 txn] rfl (by decide) ((f17_calls H hr' (by omega)).mono ?_))
      rintro e w8_10 ⟨v46, ks3, rfl, hks3, hS46, hE46⟩
      refine ⟨_, rfl, ?_⟩
      have H := H.ext0 hE46
      have hk3 := turn_none hks2 hks3
      subst hk3
      obtain ⟨a46, c46, hv46, -, -⟩ := hS46.len
      have hv46 : v46 = .slice a46 0 c46 := hv46
      subst hv46
      refine OL_yg rfl (by decide) rfl (y_len rfl ti30 rfl) (by decide) ?_
      refine OL_yg (v := .bool false) rfl (by decide) rfl (y_neqF rfl rfl rfl) (by decide) ?_
      refine OL_y (y_pick (b := false) (v := .bool false) rfl rfl) (by decide) ?_
      refine OL_nil ?_
      refine W_condf rfl ?_
      refine W_skip ?_
      refine W_seq ?_
      refine W_seq ?_
      refine W_region ?_
      refine OL_y (y_move rfl) (by decide) ?_
      refine OL_y (y_len rfl ti49 rfl) (by decide) ?_
      refine OL_y (y_move rfl) (by decide) ?_
      refine OL_nil ?_
      refine W_range (N := kz.length) (by omega) (fun j f ds w' => f 1 = .int .u64 txn ∧ f 2 = .int .u64 ts ∧ f 7 = .pointer (some ⟨sb, 0, none⟩) ∧ f 50 = .slice a35 kz.length c35 ∧ ds = [] ∧ Holds w' (cAt sb g1 g2 E' I' F' Wp' w (rAt rb vR R F2 W2 w [])))
          ⟨rfl, rfl, rfl, rfl, rfl, H⟩
          rfl rfl (by decide) (by decide) (by decide) rfl rfl ?_ rfl rfl ?_
      · rintro j f ds w11 hj ⟨h1, h2, h7, h50, rfl, H⟩ hti htn
        have hkj := List.getElem?_eq_getElem hj
        have hxj : (kz.map (cellOf a 18446744073709551615))[j]? = some (cellOf a 18446744073709551615 kz[j]) := by rw [List.getElem?_map, hkj]; rfl
        obtain ⟨b3, o3, cs3, e3, hz3, hc3, hr3⟩ := hS2.at hxj
        have hc3' := hc3.ext ((H.dz 3 4 rfl rfl hr'.base).2 _ hz3 hc3.lt)
        generalize kz[j] = s at *
        have hone3 := tCl.one hr3
        obtain ⟨xk, xv, _, rfl, hxk, hxv, hxi⟩ := cl_cells.1 hr3
        have hxi : tVer.R (Dz w F') Wp' _ (a.i s) := hxi
        have hxk : SlR (tInt .u8) 1 (Dz w F') Wp' xk (unkb s) := hxk
        obtain ⟨iv, ik, rfl, -, -, hiv, -⟩ := ver_cells.1 hxi
        have h50' := h50.trans (congrArg (Value.slice · _ _) e3)
        refine W_block ?_
        refine W_seq ?_
        refine W_region ?_
        refine OL_y (y_indexAddr ti49 ti55 h50' hti (by omega) (by omega)) (by decide) ?_
        refine OL_y (y_loadA (cs := [xk, xv, .int .u64 (a.i s).ts, .int .u64 (a.i s).txn, .bool (a.i s).dead, iv, ik]) ti55 rfl rfl hc3' rfl) (by decide) ?_
        refine OL_var (v := .agg #[xk, xv, .int .u64 (a.i s).ts, .int .u64 (a.i s).txn, .bool (a.i s).dead, iv, ik]) H ti55 rfl (by decide) (fun _ => rfl) rfl (hone3) fun b14 w12_2 H => ?_
        refine OL_nil ?_
        refine W_seq ?_
        by_cases hp : (a.i s).txn = txn
        · obtain ⟨o, ho⟩ : ∃ o, o = some ((a.i s).atTs ts) := ⟨_, rfl⟩
          have hat : atV (ks2.foldl (Abs.turn1 ts) a) (kb (unkb s)) ts = o := by rw [kb_unkb, ho]; exact turn_at ts ks2 a s (rise_nodup bLt_irrefl hks2.rise) ((hks2.mem s).2 ⟨hz, hp⟩)
          obtain ⟨u, hu⟩ : ∃ u, o.getD noV = u := ⟨_, rfl⟩
          have hub : o.isSome = true := by rw [ho]; rfl
          have huu : u = (a.i s).atTs ts := by rw [← hu, ho]; rfl
          refine W_region ?_
          refine OL_y (y_move h7) (by decide) ?_
          refine OL_y (y_fieldAddr ti55 rfl ti23 rfl rfl) (by decide) ?_
          refine OL_y (y_loadS (v := xk) ti23 rfl rfl (Cells.unit (H.getOwn 0 rfl) rfl)) (by decide) ?_
          refine OL_y (y_move h2) (by decide) ?_
          refine OL_c (op_call 13 en13 rfl [.pointer (some ⟨sb, 0, none⟩), xk, .int .u64 ts] rfl (by decide) ((f13_calls (boxIn H) hr' hxk ha' (by omega)).mono ?_))
          rintro e w13_4 ⟨cs13, rfl, hR13, hE13⟩
          refine ⟨_, rfl, ?_⟩
          have H := H.addNew hE13
          rw [hat, hu] at hR13
          rw [hat]
          obtain ⟨v1, v2, rfl, -, -, hv1, -⟩ := ver_cells.1 hR13
          refine OL_y (y_move rfl) (by decide) ?_
          refine OL_y (y_extract (v := .agg #[.int .u64 u.ts, .int .u64 u.txn, .bool u.dead, v1, v2]) rfl rfl) (by decide) ?_
          refine OL_y (y_extract (v := .bool true) rfl (by rw [hub]; rfl)) (by decide) ?_
          refine OL_var (v := .agg #[.int .u64 u.ts, .int .u64 u.txn, .bool u.dead, v1, v2]) H ti32 rfl (by decide) (fun _ => rfl) rfl (tVer.one hR13) fun b15 w13_8 H => ?_
          refine OL_y (y_assign rfl) (by decide) ?_
          refine OL_nil ?_
          refine W_seq ?_
          refine W_region ?_
          refine OL_y (y_fieldAddr ti55 rfl ti32 rfl rfl) (by decide) ?_
          refine OL_y (y_fieldAddr ti32 rfl ti24 rfl rfl) (by decide) ?_
          refine OL_y (y_loadS (v := .int .u64 (a.i s).txn) ti24 rfl rfl (Cells.unit (H.getOwn 2 rfl) rfl)) (by decide) ?_
          refine OL_y (y_move h1) (by decide) ?_
          refine OL_y (v := .bool true) (y_eqlT hp rfl rfl) (by decide) ?_
          refine OL_y (v := .bool true) (y_move rfl) (by decide) ?_
          refine OL_yg rfl (by decide) rfl (y_move (v := .bool true) rfl) (by decide) ?_
          refine OL_yg (v := .bool false) rfl (by decide) rfl (y_not (b := true) rfl) (by decide) ?_
          refine OL_yg (v := .bool false) rfl (by decide) rfl (y_move rfl) (by decide) ?_
          refine OL_yg rfl (by decide) rfl (y_fieldAddr ti32 rfl ti24 rfl rfl) (by decide) ?_
          refine OL_yg rfl (by decide) rfl (y_loadS (v := .int .u64 u.ts) ti24 rfl rfl (Cells.unit (H.getOwn 0 rfl) rfl)) (by decide) ?_
          refine OL_yg rfl (by decide) rfl (y_move h2) (by decide) ?_
          refine OL_yg (v := .bool false) rfl (by decide) rfl (y_neqF (by rw [huu]; rfl) rfl rfl) (by decide) ?_
          refine OL_yg rfl (by decide) rfl (y_pick (b := false) (v := .bool false) rfl rfl) (by decide) ?_
          refine OL_yg (v := .bool false) rfl (by decide) rfl (y_move rfl) (by decide) ?_
          refine OL_yg rfl (by decide) rfl (y_fieldAddr ti32 rfl ti24 rfl rfl) (by decide) ?_
          refine OL_yg rfl (by decide) rfl (y_loadS (v := .int .u64 u.txn) ti24 rfl rfl (Cells.unit (H.getOwn 0 rfl) rfl)) (by decide) ?_
          refine OL_yg rfl (by decide) rfl (y_move h1) (by decide) ?_
          refine OL_yg (v := .bool false) rfl (by decide) rfl (y_neqF (by rw [huu]; exact hp) rfl rfl) (by decide) ?_
          refine OL_yg rfl (by decide) rfl (y_pick (b := false) (v := .bool false) rfl rfl) (by decide) ?_
          refine OL_yg (v := .bool false) rfl (by decide) rfl (y_move rfl) (by decide) ?_
          refine OL_yg rfl (by decide) rfl (y_fieldAddr ti32 rfl ti4 rfl rfl) (by decide) ?_
          refine OL_yg rfl (by decide) rfl (y_loadS (v := .bool u.dead) ti4 rfl rfl (Cells.unit (H.getOwn 0 rfl) rfl)) (by decide) ?_
          refine OL_yg rfl (by decide) rfl (y_fieldAddr ti55 rfl ti32 rfl rfl) (by decide) ?_
          refine OL_yg rfl (by decide) rfl (y_fieldAddr ti32 rfl ti4 rfl rfl) (by decide) ?_
          refine OL_yg rfl (by decide) rfl (y_loadS (v := .bool u.dead) ti4 rfl rfl (Cells.unit (H.getOwn 2 rfl) (by rw [huu]; rfl))) (by decide) ?_
          refine OL_yg rfl (by decide) rfl (y_neqBR Try.underlying4 rfl rfl) (by decide) ?_
          refine OL_yg rfl (by decide) rfl (y_pick (b := false) (v := .bool false) rfl rfl) (by decide) ?_
          refine OL_yg (v := .bool false) rfl (by decide) rfl (y_move rfl) (by decide) ?_
          refine OL_yg rfl (by decide) rfl (y_fieldAddr ti32 rfl ti23 rfl rfl) (by decide) ?_
          refine OL_yg rfl (by decide) rfl (y_loadS (v := v1) ti23 rfl rfl (Cells.unit (H.getOwn 0 rfl) rfl)) (by decide) ?_
          refine OL_yg rfl (by decide) rfl (y_toStr Try.underlying23 Try.underlying5 Try.underlying9 rfl (hv1.keeps (H.keepsNew 1 rfl))) (by decide) ?_
          refine OL_yg rfl (by decide) rfl (y_fieldAddr ti55 rfl ti32 rfl rfl) (by decide) ?_
          refine OL_yg rfl (by decide) rfl (y_fieldAddr ti32 rfl ti23 rfl rfl) (by decide) ?_
          refine OL_yg rfl (by decide) rfl (y_loadS (v := iv) ti23 rfl rfl (Cells.unit (H.getOwn 2 rfl) rfl)) (by decide) ?_
          refine OL_yg rfl (by decide) rfl (y_toStr Try.underlying23 Try.underlying5 Try.underlying9 rfl (hiv.keeps (H.dz 6 7 rfl rfl hr'.base))) (by decide) ?_
          refine OL_yg rfl (by decide) rfl (y_neqSF (by rw [huu]; rfl) rfl rfl) (by decide) ?_
          refine OL_yg rfl (by decide) rfl (y_pick (b := false) (v := .bool false) rfl rfl) (by decide) ?_
          refine OL_y (y_pick (b := true) (v := .bool false) rfl rfl) (by decide) ?_
          refine OL_nil ?_
          refine W_condf rfl ?_
          refine W_skip ?_
          exact ⟨hti, htn, h1, h2, h7, h50, rfl, H.tail.tail.tail⟩
        · obtain ⟨o, hat⟩ : ∃ o, atV (ks2.foldl (Abs.turn1 ts) a) (kb (unkb s)) ts = o := ⟨_, rfl⟩
          obtain ⟨u, hu⟩ : ∃ u, o.getD noV = u := ⟨_, rfl⟩
          refine W_region ?_
          refine OL_y (y_move h7) (by decide) ?_
          refine OL_y (y_fieldAddr ti55 rfl ti23 rfl rfl) (by decide) ?_
          refine OL_y (y_loadS (v := xk) ti23 rfl rfl (Cells.unit (H.getOwn 0 rfl) rfl)) (by decide) ?_
          refine OL_y (y_move h2) (by decide) ?_
          refine OL_c (op_call 13 en13 rfl [.pointer (some ⟨sb, 0, none⟩), xk, .int .u64 ts] rfl (by decide) ((f13_calls (boxIn H) hr' hxk ha' (by omega)).mono ?_))
          rintro e w13_4 ⟨cs13, rfl, hR13, hE13⟩
          refine ⟨_, rfl, ?_⟩
          have H := H.addNew hE13
          rw [hat, hu] at hR13
          rw [hat]
          obtain ⟨v1, v2, rfl, -, -, hv1, -⟩ := ver_cells.1 hR13
          refine OL_y (y_move rfl) (by decide) ?_
          refine OL_y (y_extract (v := .agg #[.int .u64 u.ts, .int .u64 u.txn, .bool u.dead, v1, v2]) rfl rfl) (by decide) ?_
          refine OL_y (y_extract (v := .bool o.isSome) rfl rfl) (by decide) ?_
          refine OL_var (v := .agg #[.int .u64 u.ts, .int .u64 u.txn, .bool u.dead, v1, v2]) H ti32 rfl (by decide) (fun _ => rfl) rfl (tVer.one hR13) fun b15 w13_8 H => ?_
          refine OL_y (y_assign rfl) (by decide) ?_
          refine OL_nil ?_
          refine W_seq ?_
          refine W_region ?_
          refine OL_y (y_fieldAddr ti55 rfl ti32 rfl rfl) (by decide) ?_
          refine OL_y (y_fieldAddr ti32 rfl ti24 rfl rfl) (by decide) ?_
          refine OL_y (y_loadS (v := .int .u64 (a.i s).txn) ti24 rfl rfl (Cells.unit (H.getOwn 2 rfl) rfl)) (by decide) ?_
          refine OL_y (y_move h1) (by decide) ?_
          refine OL_y (v := .bool false) (y_eqlF hp rfl rfl) (by decide) ?_
          refine OL_y (v := .bool false) (y_move rfl) (by decide) ?_
          refine OL_s rfl (by decide) rfl rfl (by simp) ?_
          refine OL_s rfl (by decide) rfl rfl (by simp) ?_
          refine OL_s rfl (by decide) rfl rfl (by simp) ?_
          refine OL_u rfl (by decide) rfl (by simp) ?_
          refine OL_u rfl (by decide) rfl (by simp) ?_
          refine OL_u rfl (by decide) rfl (by simp) ?_
          refine OL_u rfl (by decide) rfl (by simp) ?_
          refine OL_s rfl (by decide) rfl rfl (by simp) ?_
          refine OL_s rfl (by decide) rfl rfl (by simp) ?_
          refine OL_u rfl (by decide) rfl (by simp) ?_
          refine OL_u rfl (by decide) rfl (by simp) ?_
          refine OL_u rfl (by decide) rfl (by simp) ?_
          refine OL_u rfl (by decide) rfl (by simp) ?_
          refine OL_s rfl (by decide) rfl rfl (by simp) ?_
          refine OL_s rfl (by decide) rfl rfl (by simp) ?_
          refine OL_u rfl (by decide) rfl (by simp) ?_
          refine OL_u rfl (by decide) rfl (by simp) ?_
          refine OL_u rfl (by decide) rfl (by simp) ?_
          refine OL_u rfl (by decide) rfl (by simp) ?_
          refine OL_u rfl (by decide) rfl (by simp) ?_
          refine OL_u rfl (by decide) rfl (by simp) ?_
          refine OL_s rfl (by decide) rfl rfl (by simp) ?_
          refine OL_s rfl (by decide) rfl rfl (by simp) ?_
          refine OL_u rfl (by decide) rfl (by simp) ?_
          refine OL_u rfl (by decide) rfl (by simp) ?_
          refine OL_u rfl (by decide) rfl (by simp) ?_
          refine OL_u rfl (by decide) rfl (by simp) ?_
          refine OL_u rfl (by decide) rfl (by simp) ?_
          refine OL_u rfl (by decide) rfl (by simp) ?_
          refine OL_u rfl (by decide) rfl (by simp) ?_
          refine OL_u rfl (by decide) rfl (by simp) ?_
          refine OL_s rfl (by decide) rfl rfl (by simp) ?_
          refine OL_y (y_pick (b := false) (v := .bool false) rfl rfl) (by decide) ?_
          refine OL_nil ?_
          refine W_condf rfl ?_
          refine W_skip ?_
          exact ⟨hti, htn, h1, h2, h7, h50, rfl, H.tail.tail.tail⟩
      · rintro f ds w11 ⟨h1, h2, h7, h50, rfl, H⟩ hti htn
        refine W_seq ?_
        refine W_region ?_
        refine OL_y (v := .bool true) (y_assign rfl) (by decide) ?_
        refine OL_nil ?_
        refine W_ret ?_
        show RetOK _ _ _ _ _ _
        exact ret1 (v := .bool true) Try.results7 rfl ⟨rfl, H.ext_of 4 rfl⟩
  · refine W_region ?_
    refine OL_y (v := .bool true) (y_move rfl) (by decide) ?_
    refine OL_y (v := .bool true) (y_move rfl) (by decide) ?_
    refine OL_s rfl (by decide) rfl rfl (by simp) ?_
    refine OL_s rfl (by decide) rfl rfl (by simp) ?_
    refine OL_y (y_pick (b := true) (v := .bool true) rfl rfl) (by decide) ?_
    refine OL_nil ?_
    refine W_condt rfl ?_
    refine W_seq ?_
    refine W_region ?_
    refine OL_y (v := .bool true) (y_assign rfl) (by decide) ?_
    refine OL_nil ?_
    refine W_ret ?_
    show RetOK _ _ _ _ _ _
    exact ret1 (v := .bool true) Try.results7 rfl ⟨rfl, H.ext_of 0 rfl⟩
end Go.Proofs.Ytpandioolpnihaa

/- THE GROUND OF THE WALKS, 32: the frame anew: what is asked of it, and no more. -/
namespace Go.Wk
open Go
theorem W_reset {P : Program} {l : Option Nat} {n : Nat} {c : Code} {Q : PQ} {f : Fr} {ds : List Deferred} {w : World} (A : Fr → Prop) (h : A f) (k : ∀ f, A f → W P l n c Q f ds w) : W P l n c Q f ds w := k f h
end Go.Wk

/- The law MvccTells: the version of a key at a time, the intents of a transaction, all keys. -/
namespace Go.Proofs.Ytpandioolpnihaa
open Go Go.Wk
set_option linter.unusedVariables false
set_option linter.unusedSimpArgs false

theorem f16_eq {Z Z' : Nat → Prop} {w : World} {va vb : Value} {xs ys : List Key} (h : xs = ys) (hx : SlR tKey 24 Z w va xs) (hy : SlR tKey 24 Z' w vb ys) : Calls Try.prog 16 [va, vb].toArray w fun e w' => e = .returned (.bool true) ∧ Ext none' w w' := by
  have := f16_calls hx hy
  rwa [decide_eq_true h] at this

set_option maxHeartbeats 16000000 in
theorem f3_calls {Z : Nat → Prop} {w : World} {vl vk : Value} {l : List Stp} {key : Key} {ts txn most : Int} (hl : SlR tStp 112 Z w vl l) (hk : SlR (tInt .u8) 1 Z w vk key) (hts : InK .u64 ts) (htx : InK .u64 txn) (hmo : InK .i64 most) :
    Calls Try.prog 3 [vl, vk, .int .u64 ts, .int .u64 txn, .int .i64 most].toArray w fun e w' => e = .returned (.bool true) ∧ Ext none' w w' := by
  have H := Holds.start w
  have hl := hl.mono (Z' := fun k => k < w.heap.size) fun k h _ => h
  have hk := hk.mono (Z' := fun k => k < w.heap.size) fun k h _ => h
  obtain ⟨a1, c1, rfl, hl1, hm1⟩ := hk.len
  refine calls_of_W' Try.func3 rfl Try.ntmps3 rfl ?_
  refine W_seq ?_
  refine W_region ?_
  refine OL_c (op_box (v := .int .i64 most) H rfl (by decide) fun b9 w0_0 H => ?_)
  refine OL_c (op_alloc H ti4 (by decide) fun b10 w0_1 H => ?_)
  have hfr10 := H.fresh 0 2 rfl rfl rfl b10 rfl
  have hfr9 := H.fresh 1 2 rfl rfl rfl b9 rfl
  have H : Holds w0_1 (shr (fun k => k < w.heap.size) w :: [own b10 (.cells #[.bool false] 4), own b9 (.cells #[.int .i64 most] 3)]) := H.perm ((List.Perm.cons _ (List.Perm.swap _ _ _)).trans (List.Perm.swap _ _ _))
  refine OL_nil ?_
  refine W_seq ?_
  refine W_seq ?_
  refine W_region ?_
  refine OL_c (op_call 11 en11 rfl [] rfl (by decide) ((f11_calls).mono ?_))
  rintro e w1_0 ⟨rfl, hE11⟩
  refine ⟨_, rfl, ?_⟩
  have H := H.ext0 hE11
  refine OL_y (y_not (b := true) rfl) (by decide) ?_
  refine OL_nil ?_
  refine W_condf rfl ?_
  refine W_skip ?_
  refine W_seq ?_
  refine W_seq ?_
  by_cases hp : (50 : Int) < (key.length : Nat)
  · refine W_region ?_
    refine OL_y (y_move rfl) (by decide) ?_
    refine OL_y (y_len rfl ti23 rfl) (by decide) ?_
    refine OL_y (v := .bool true) (y_gtrT hp rfl rfl) (by decide) ?_
    refine OL_y (v := .bool true) (y_move rfl) (by decide) ?_
    refine OL_s rfl (by decide) rfl rfl (by simp) ?_
    refine OL_s rfl (by decide) rfl rfl (by simp) ?_
    refine OL_y (y_pick (b := true) (v := .bool true) rfl rfl) (by decide) ?_
    refine OL_nil ?_
    refine W_condt rfl ?_
    refine W_seq ?_
    refine W_region ?_
    refine OL_c (op_store (v := .bool true) H 1 rfl ti4 rfl rfl rfl (Nat.le_of_ble_eq_true rfl) (by simp [Value.cells, Value.oneCell']) fun w4_0 H => ?_)
    refine OL_nil ?_
    refine W_ret ?_
    show RetOK _ _ _ _ _ _
    exact ret1c (v := .bool true) Try.results3 rfl (run_loadVarS ti4 rfl (Cells.unit (H.getOwn 1 rfl) rfl)) ⟨rfl, H.ext_of 0 rfl⟩
  · refine W_region ?_
    refine OL_y (y_move rfl) (by decide) ?_
    refine OL_y (y_len rfl ti23 rfl) (by decide) ?_
    refine OL_y (v := .bool false) (y_gtrF hp rfl rfl) (by decide) ?_
    refine OL_y (v := .bool false) (y_move rfl) (by decide) ?_
    refine OL_yg rfl (by decide) rfl (y_loadS (v := .int .i64 most) ti3 rfl rfl (Cells.unit (H.getOwn 2 rfl) rfl)) (by decide) ?_
    refine OL_yg rfl (by decide) rfl (y_lss rfl rfl) (by decide) ?_
    refine OL_y (y_pick (b := false) (v := .bool (decide (most < 0))) rfl rfl) (by decide) ?_
    refine OL_nil ?_
    refine W_cond rfl (fun hc => ?_) (fun hc => ?_)
    · refine W_seq ?_
      refine W_region ?_
      refine OL_c (op_store (v := .bool true) H 1 rfl ti4 rfl rfl rfl (Nat.le_of_ble_eq_true rfl) (by simp [Value.cells, Value.oneCell']) fun w4_0 H => ?_)
      refine OL_nil ?_
      refine W_ret ?_
      show RetOK _ _ _ _ _ _
      exact ret1c (v := .bool true) Try.results3 rfl (run_loadVarS ti4 rfl (Cells.unit (H.getOwn 1 rfl) rfl)) ⟨rfl, H.ext_of 0 rfl⟩
    · refine W_skip ?_
      refine W_seq ?_
      refine W_region ?_
      refine OL_y (y_move rfl) (by decide) ?_
      refine OL_c (op_call 12 en12 rfl [vl] rfl (by decide) ((f12_calls H hl).mono ?_))
      rintro e w5_1 ⟨sb, g1, g2, rb, great, rfl, H, hB⟩
      refine ⟨_, rfl, ?_⟩
      refine OL_y (y_move rfl) (by decide) ?_
      refine OL_y (y_extract (v := .pointer (some ⟨sb, 0, none⟩)) rfl rfl) (by decide) ?_
      refine OL_y (y_extract (v := .pointer (some ⟨rb, 0, none⟩)) rfl rfl) (by decide) ?_
      refine OL_y (y_extract (v := .bool true) rfl rfl) (by decide) ?_
      refine OL_y (y_extract (v := .bool great) rfl rfl) (by decide) ?_
      refine OL_y (y_assign rfl) (by decide) ?_
      refine OL_y (y_assign rfl) (by decide) ?_
      refine OL_y (v := .bool true) (y_assign rfl) (by decide) ?_
      refine OL_y (y_assign rfl) (by decide) ?_
      refine OL_nil ?_
      refine W_seq ?_
      refine W_seq ?_
      rcases great with _ | _
      · refine W_region ?_
        refine OL_y (v := .bool false) (y_move rfl) (by decide) ?_
        refine OL_nil ?_
        refine W_condf rfl ?_
        refine W_skip ?_
        refine W_seq ?_
        refine W_reset (fun f => f 1 = .slice a1 key.length c1 ∧ f 2 = .int .u64 ts ∧ f 3 = .int .u64 txn ∧ f 9 = .pointer (some ⟨b9, 0, none⟩) ∧ f 10 = .pointer (some ⟨b10, 0, none⟩) ∧ f 11 = .pointer (some ⟨sb, 0, none⟩) ∧ f 12 = .pointer (some ⟨rb, 0, none⟩) ∧ f 13 = .bool true) ⟨rfl, rfl, rfl, rfl, rfl, rfl, rfl, rfl⟩ ?_
        rintro f ⟨h1, h2, h3, h9, h10, h11, h12, h13⟩
        obtain ⟨E, I, F, Wp, vR, R, F2, W2, a, hr, hrr, ha, hI, hE, hR, H⟩ := hB rfl
        obtain ⟨o, ho⟩ : ∃ o, atV a (kb key) ts = o := ⟨_, rfl⟩
        obtain ⟨u, hu⟩ : ∃ u, o.getD noV = u := ⟨_, rfl⟩
        refine W_region ?_
        refine OL_y (y_move h11) (by decide) ?_
        refine OL_y (y_move h1) (by decide) ?_
        refine OL_y (y_move h2) (by decide) ?_
        refine OL_c (op_call 13 en13 rfl [.pointer (some ⟨sb, 0, none⟩), .slice a1 key.length c1, .int .u64 ts] rfl (by decide) ((f13_calls H hr (hk.dzOf hr.base) ha (by omega)).mono ?_))
        rintro e w8_3 ⟨cs13, rfl, hR13, hE13⟩
        refine ⟨_, rfl, ?_⟩
        have H := H.addNew hE13
        rw [ho, hu] at hR13
        rw [ho]
        obtain ⟨v1, v2, rfl, -⟩ := ver_cells.1 hR13
        refine OL_y (y_move rfl) (by decide) ?_
        refine OL_y (y_extract (v := .agg #[.int .u64 u.ts, .int .u64 u.txn, .bool u.dead, v1, v2]) rfl rfl) (by decide) ?_
        refine OL_y (y_extract (v := .bool o.isSome) rfl rfl) (by decide) ?_
        refine OL_var (v := .agg #[.int .u64 u.ts, .int .u64 u.txn, .bool u.dead, v1, v2]) H ti32 rfl (by decide) (fun _ => rfl) rfl (tVer.one hR13) fun b15 w8_7 H => ?_
        refine OL_y (y_assign rfl) (by decide) ?_
        refine OL_nil ?_
        refine W_seq ?_
        refine W_reset (fun f => f 1 = .slice a1 key.length c1 ∧ f 2 = .int .u64 ts ∧ f 3 = .int .u64 txn ∧ f 9 = .pointer (some ⟨b9, 0, none⟩) ∧ f 10 = .pointer (some ⟨b10, 0, none⟩) ∧ f 11 = .pointer (some ⟨sb, 0, none⟩) ∧ f 12 = .pointer (some ⟨rb, 0, none⟩) ∧ f 13 = .bool true ∧ f 15 = .pointer (some ⟨b15, 0, none⟩) ∧ f 16 = .bool o.isSome) ⟨h1, h2, h3, h9, h10, h11, h12, h13, rfl, rfl⟩ ?_
        clear h1 h2 h3 h9 h10 h11 h12 h13
        rintro f ⟨h1, h2, h3, h9, h10, h11, h12, h13, h15, h16⟩
        refine W_region ?_
        refine OL_y (y_move h12) (by decide) ?_
        refine OL_y (y_move h1) (by decide) ?_
        refine OL_y (y_move h2) (by decide) ?_
        refine OL_c (op_call 14 en14 rfl [.pointer (some ⟨rb, 0, none⟩), .slice a1 key.length c1, .int .u64 ts] rfl (by decide) ((f14_calls (refIn (boxesIn [_, _] H)) hrr (hk.dzOf hrr.base) ha (by omega) (by omega)).mono ?_))
        rintro e w9_3 ⟨cs14, rfl, hR14, hE14⟩
        refine ⟨_, rfl, ?_⟩
        have H := H.ext0 hE14
        rw [ho, hu] at hR14
        rw [ho]
        obtain ⟨v3, v4, rfl, -⟩ := ver_cells.1 hR14
        refine OL_y (y_move rfl) (by decide) ?_
        refine OL_y (y_extract (v := .agg #[.int .u64 u.ts, .int .u64 u.txn, .bool u.dead, v3, v4]) rfl rfl) (by decide) ?_
        refine OL_y (y_extract (v := .bool o.isSome) rfl rfl) (by decide) ?_
        refine OL_var (v := .agg #[.int .u64 u.ts, .int .u64 u.txn, .bool u.dead, v3, v4]) H ti32 rfl (by decide) (fun _ => rfl) rfl (tVer.one hR14) fun b17 w9_7 H => ?_
        refine OL_y (y_assign rfl) (by decide) ?_
        refine OL_nil ?_
        refine W_seq ?_
        refine W_seq ?_
        refine W_reset (fun f => f 1 = .slice a1 key.length c1 ∧ f 2 = .int .u64 ts ∧ f 3 = .int .u64 txn ∧ f 9 = .pointer (some ⟨b9, 0, none⟩) ∧ f 10 = .pointer (some ⟨b10, 0, none⟩) ∧ f 11 = .pointer (some ⟨sb, 0, none⟩) ∧ f 12 = .pointer (some ⟨rb, 0, none⟩) ∧ f 13 = .bool true ∧ f 15 = .pointer (some ⟨b15, 0, none⟩) ∧ f 16 = .bool o.isSome ∧ f 17 = .pointer (some ⟨b17, 0, none⟩) ∧ f 18 = .bool o.isSome) ⟨h1, h2, h3, h9, h10, h11, h12, h13, h15, h16, rfl, rfl⟩ ?_
        clear h1 h2 h3 h9 h10 h11 h12 h13 h15 h16
        rintro f ⟨h1, h2, h3, h9, h10, h11, h12, h13, h15, h16, h17, h18⟩
        refine W_region ?_
        refine OL_y (y_move (v := .bool true) h13) (by decide) ?_
        refine OL_y (v := .bool false) (y_not (b := true) rfl) (by decide) ?_
        refine OL_y (v := .bool false) (y_move rfl) (by decide) ?_
        refine OL_yg rfl (by decide) rfl (y_move h16) (by decide) ?_
        refine OL_yg rfl (by decide) rfl (y_move h18) (by decide) ?_
        refine OL_yg rfl (by decide) rfl (y_neqBR Try.underlying4 rfl rfl) (by decide) ?_
        refine OL_y (y_pick (b := false) (v := .bool false) rfl rfl) (by decide) ?_
        refine OL_y (v := .bool false) (y_move rfl) (by decide) ?_
        refine OL_yg rfl (by decide) rfl (y_loadA (cs := [.int .u64 u.ts, .int .u64 u.txn, .bool u.dead, v1, v2]) ti32 rfl h15 (Cells.of (H.getOwn 1 rfl) rfl) rfl) (by decide) ?_
        refine OL_yg rfl (by decide) rfl (y_loadA (cs := [.int .u64 u.ts, .int .u64 u.txn, .bool u.dead, v3, v4]) ti32 rfl h17 (Cells.of (H.getOwn 0 rfl) rfl) rfl) (by decide) ?_
        refine OL_g rfl (by decide) rfl (op_call 15 en15 rfl [.agg #[.int .u64 u.ts, .int .u64 u.txn, .bool u.dead, v1, v2], .agg #[.int .u64 u.ts, .int .u64 u.txn, .bool u.dead, v3, v4]] rfl (by decide) ((f15_eq rfl (tVer.keeps hR13 (H.keepsNew 2 rfl)) (tVer.keeps hR14 ((refIn (boxesIn [_, _, _] H)).dz 2 3 rfl rfl hrr.base))).mono ?_))
        rintro e w10_10 ⟨rfl, hE63⟩
        refine ⟨_, rfl, ?_⟩
        have H := H.ext0 hE63
        refine OL_yg (v := .bool false) rfl (by decide) rfl (y_not (b := true) rfl) (by decide) ?_
        refine OL_y (y_pick (b := false) (v := .bool false) rfl rfl) (by decide) ?_
        refine OL_y (v := .bool false) (y_move rfl) (by decide) ?_
        refine OL_yg rfl (by decide) rfl (y_move h11) (by decide) ?_
        refine OL_yg rfl (by decide) rfl (y_move h3) (by decide) ?_
        refine OL_g rfl (by decide) rfl (op_call 17 en17 rfl [.pointer (some ⟨sb, 0, none⟩), .int .u64 txn] rfl (by decide) ((f17_calls (boxesIn [_, _, _] H) hr (by omega)).mono ?_))
        rintro e w10_16 ⟨v69, ks1, rfl, hks1, hS69, hE69⟩
        refine ⟨_, rfl, ?_⟩
        have H := H.ext0 hE69
        refine OL_yg rfl (by decide) rfl (y_move h12) (by decide) ?_
        refine OL_yg rfl (by decide) rfl (y_move h3) (by decide) ?_
        refine OL_g rfl (by decide) rfl (op_call 18 en18 rfl [.pointer (some ⟨rb, 0, none⟩), .int .u64 txn] rfl (by decide) ((f18_calls (refIn (boxesIn [_, _, _] H)) hrr (by omega)).mono ?_))
        rintro e w10_19 ⟨v72, ks2, rfl, hks2, hS72, hE72⟩
        refine ⟨_, rfl, ?_⟩
        have H := H.ext0 hE72
        refine OL_g rfl (by decide) rfl (op_call 16 en16 rfl [v69, v72] rfl (by decide) ((f16_eq (by rw [intents_unique hks1 hks2]) (hS69.keeps hE72.keeps0) hS72).mono ?_))
        rintro e w10_20 ⟨rfl, hE73⟩
        refine ⟨_, rfl, ?_⟩
        have H := H.ext0 hE73
        refine OL_yg (v := .bool false) rfl (by decide) rfl (y_not (b := true) rfl) (by decide) ?_
        refine OL_y (y_pick (b := false) (v := .bool false) rfl rfl) (by decide) ?_
        refine OL_nil ?_
        refine W_condf rfl ?_
        refine W_skip ?_
        refine W_seq ?_
        refine W_reset (fun f => f 9 = .pointer (some ⟨b9, 0, none⟩) ∧ f 10 = .pointer (some ⟨b10, 0, none⟩) ∧ f 11 = .pointer (some ⟨sb, 0, none⟩) ∧ f 12 = .pointer (some ⟨rb, 0, none⟩)) ⟨h9, h10, h11, h12⟩ ?_
        clear h1 h2 h3 h9 h10 h11 h12 h13 h15 h16 h17 h18
        rintro f ⟨h9, h10, h11, h12⟩
        refine W_region ?_
        refine OL_y (y_move h12) (by decide) ?_
        refine OL_c (op_call 19 en19 rfl [.pointer (some ⟨rb, 0, none⟩)] rfl (by decide) ((f19_calls (refIn (boxesIn [_, _, _] H)) hrr (by omega)).mono ?_))
        rintro e w12_1 ⟨v77, kk, rfl, hkk, hS77, hE77⟩
        refine ⟨_, rfl, ?_⟩
        have hEl := H.ext_of 7 rfl
        have hlt10 : b10 < w10_20.heap.size := own_lt (o := .cells #[.bool false] 4) ((H.ok (own b10 (.cells #[.bool false] 4)) (by simp [cAt])).1)
        have H := H.ext0 hE77
        have HS := boxesIn [_, _, _] H
        have hEw : Ext none' w w12_1 := H.ext_of 7 rfl
        have hb10 : w12_1.heap[b10]? = some (.cells #[.bool false] 4) := (H.ok (own b10 (.cells #[.bool false] 4)) (by simp [cAt])).1
        have hb9 : w12_1.heap[b9]? = some (.cells #[.int .i64 most] 3) := (H.ok (own b9 (.cells #[.int .i64 most] 3)) (by simp [cAt])).1
        have hsb := HS.getOwn 0 rfl
        have hst12 : (∃ es clock, w12_1.heap[g1]? = some (.map es clock) ∧ MapObj Value.string (E.map Ent.kv) (.map es clock)) ∧ ∃ es clock, w12_1.heap[g2]? = some (.map es clock) ∧ MapObj Value.string (I.map Itn.kv) (.map es clock) := by
          obtain ⟨o1, ho1, es1, clock1, rfl, hmo1⟩ := HS.get (i := 1) rfl
          obtain ⟨o2, ho2, es2, clock2, rfl, hmo2⟩ := HS.get (i := 2) rfl
          exact ⟨⟨es1, clock1, ho1, es1, clock1, rfl, hmo1⟩, es2, clock2, ho2, es2, clock2, rfl, hmo2⟩
        obtain ⟨⟨es1, clock1, ho1, hmo1⟩, es2, clock2, ho2, hmo2⟩ := hst12
        have hn9 : b9 ≠ b10 := by intro h; rw [h, hb10] at hb9; injection hb9 with hb9; injection hb9 with hb9; exact absurd hb9 (by simp)
        have hnsb : sb ≠ b10 := by intro h; rw [h, hb10] at hsb; injection hsb with hsb; injection hsb with hsb; exact absurd hsb (by simp)
        have hng1 : g1 ≠ b10 := by intro h; rw [h, hb10] at ho1; injection ho1 with ho1; cases ho1
        have hng2 : g2 ≠ b10 := by intro h; rw [h, hb10] at ho2; injection ho2 with ho2; cases ho2
        have hnF : ∀ k, F2 k → k ≠ b10 := by
          rintro k hF rfl
          exact (List.pairwise_cons.1 (refIn HS).tail.tail.apart).1 (own k (.cells #[.bool false] 4)) (by simp [cAt]) (.inl rfl) k hF rfl
        have hw10 := hEl.size
        have hSw : SlR tKey 24 (fun k => k < w12_1.heap.size ∧ k ≠ b10) w12_1 v77 (kk.map unkb) := hS77.mono fun k h1 h2 => ⟨h1, by
          rcases h2 with (h2 | h2) | h2
          · omega
          · exact hnF k h2
          · omega⟩
        have H : Holds w12_1 [own b10 (.cells #[.bool false] 4), shr (fun k => k < w12_1.heap.size ∧ k ≠ b10) w12_1] := by
          have Hs : Holds w12_1 [own b10 (.cells #[.bool false] 4)] := H.sub (List.singleton_sublist.2 (by simp [cAt]))
          exact (Hs.share (fun k => k < w12_1.heap.size ∧ k ≠ b10) (fun k h => h.1) (by intro b hb _ k hk hF; rw [List.mem_singleton.1 hb] at hF; exact hk.2 hF)).perm (List.Perm.swap _ _ _)
        have rdS : ∀ {W : World} {L : List Atom} (i : Nat), Holds W L → L[i]? = some (shr (fun k => k < w12_1.heap.size ∧ k ≠ b10) w12_1) → ∀ {c : Nat} {o : Obj}, w12_1.heap[c]? = some o → c ≠ b10 → W.heap[c]? = some o := fun {W L} i H hi {c o} hc hn => by
          obtain ⟨_, _, _, _, e⟩ := H.get hi
          exact (e c ⟨own_lt hc, hn⟩).trans hc
        have fin : ∀ {W : World} {L : List Atom} (i : Nat), Holds W L → L[i]? = some (shr (fun k => k < w12_1.heap.size ∧ k ≠ b10) w12_1) → Ext none' w W := fun {W L} i H hi => by
          obtain ⟨e1, e2, e3, e4, e5⟩ := H.get hi
          exact ⟨e2.trans hEw.os, e3.trans hEw.tape, e4.trans hEw.output, Nat.le_trans hEw.size e1, fun k hk hM => (e5 k ⟨Nat.lt_of_lt_of_le hk hEw.size, by omega⟩).trans (hEw.blk k hk hM)⟩
        have hkkl := hSw.len1 (by decide)
        rw [List.length_map] at hkkl
        obtain ⟨a77, c77, hv77, hl77, hm77⟩ := hSw.len
        rw [List.length_map] at hv77 hl77
        subst hv77
        refine OL_var (v := .slice a77 kk.length c77) H ti30 rfl (by decide) (fun _ => rfl) rfl (by simp [Value.cells, Value.oneCell']) fun b19 w12_2 H => ?_
        refine OL_nil ?_
        refine W_seq ?_
        refine W_region ?_
        refine OL_var (v := .int .i64 0) H ti3 rfl (by decide) (fun _ => rfl) rfl (by simp [Value.cells, Value.oneCell']) fun b20 w13_0 H => ?_
        refine OL_nil ?_
        refine W_seq ?_
        refine W_seq ?_
        refine W_region ?_
        refine OL_y (y_move h11) (by decide) ?_
        refine OL_c (op_call 20 en20 rfl [.pointer (some ⟨sb, 0, none⟩)] rfl (by decide) ((f20_calls).mono ?_))
        rintro e w14_1 ⟨bs, rfl, hE20, hbs, hbsn⟩
        refine ⟨_, rfl, ?_⟩
        have H := H.ext0 hE20
        have hsz14 : w12_1.heap.size ≤ w14_1.heap.size := (H.get (i := 3) rfl).1
        have hsb' := rdS 3 H rfl hsb hnsb
        have ho1' := rdS 3 H rfl ho1 hng1
        have ho2' := rdS 3 H rfl ho2 hng2
        refine OL_nil ?_
        refine W_block ?_
        refine W_rangeFuncH yEnc yAt (yQ kk) (yE kk) (fun pre Ls => Ls = [own b20 (.cells #[.int .i64 (pre.length : Nat)] 3), own b19 (.cells #[.slice a77 kk.length c77] 30), own b10 (.cells #[.bool false] 4), shr (fun k => k < w12_1.heap.size ∧ k ≠ b10) w12_1]) (fun e pre Ls => e = .ret ∧ Ls = [own b20 (.cells #[.int .i64 (pre.length - 1 : Nat)] 3), own b19 (.cells #[.slice a77 kk.length c77] 30), own b10 (.cells #[.bool true] 4), shr (fun k => k < w12_1.heap.size ∧ k ≠ b10) w12_1]) rfl en50 (by decide) H rfl ?_ ?_ ?_ ?_ ?_ ?_
        · rintro pre Ls rfl at_ hat hx k hk
          simp only [List.mem_cons, List.not_mem_nil, or_false] at hat
          rcases hat with rfl | rfl | rfl | rfl
          · cases hx
          · cases hx
          · cases hx
          · exact Nat.lt_of_lt_of_le hk.1 hsz14
        · rintro e pre Ls ⟨rfl, rfl⟩ at_ hat hx k hk
          simp only [List.mem_cons, List.not_mem_nil, or_false] at hat
          rcases hat with rfl | rfl | rfl | rfl
          · cases hx
          · cases hx
          · cases hx
          · exact Nat.lt_of_lt_of_le hk.1 hsz14
        · intro w' hE'
          exact f50_iter ((hE'.blk bs (own_lt hbs) (fun h => h)).trans hbs) ((hE'.blk sb (own_lt hsb') (fun h => h)).trans hsb') ⟨es1, clock1, (hE'.blk g1 (own_lt ho1') (fun h => h)).trans ho1', hmo1⟩ ⟨es2, clock2, (hE'.blk g2 (own_lt ho2') (fun h => h)).trans ho2', hmo2⟩ (fun k hk => by
            have h1 := (hr.isKey k).1 ((hkk.mem k).1 hk)
            rw [List.map_map, List.map_map] at h1
            rcases h1 with h1 | h1
            · obtain ⟨e, he, rfl⟩ := List.mem_map.1 h1; exact hr.ek e he
            · obtain ⟨e, he, rfl⟩ := List.mem_map.1 h1; exact hr.ik e he) (by rw [List.length_map, List.length_map]; omega) hkk.rise (fun k => by rw [hkk.mem k, hr.isKey k])
        · rintro l' aL aL' aD aO pre x Ls Wd rfl hq HH
          refine W_region ?_
          refine OL_y (y_assign rfl) (by decide) ?_
          refine OL_nil ?_
          refine ⟨_, HH, fun W2' HH => ?_⟩
          have H := HH
          obtain ⟨hy1, hy2, hy3⟩ : yOk x := hq.2 x (by simp)
          have hpx : pre.map Yk.s ++ [x.s] <+: kk := by have := hq.1; rwa [List.map_append] at this
          have hpl : pre.length < kk.length := by have := hpx.length_le; rw [List.length_append, List.length_map] at this; simp only [List.length_cons, List.length_nil] at this; omega
          have hgk : kk[pre.length]? = some x.s := by
            obtain ⟨t, ht⟩ := hpx
            rw [← ht, List.getElem?_append_left (by rw [List.length_append, List.length_map]; simp), List.getElem?_append_right (by rw [List.length_map]; exact Nat.le_refl _), List.length_map, Nat.sub_self]; rfl
          have hgu : (kk.map unkb)[pre.length]? = some (unkb x.s) := by rw [List.getElem?_map, hgk]; rfl
          obtain ⟨bw, ow, csw, ew, hzw, hcw, hrw⟩ := hSw.at hgu
          obtain ⟨vw, rfl, hvw⟩ := hrw
          refine W_block ?_
          refine W_seq ?_
          refine W_seq ?_
          refine W_region ?_
          refine OL_y (y_loadS (v := .int .i64 (pre.length : Nat)) ti3 rfl rfl (Cells.unit (H.getOwn 4 rfl) rfl)) (by decide) ?_
          refine OL_y (y_loadS (v := .int .i64 most) ti3 rfl h9 (Cells.unit (rdS 7 H rfl hb9 hn9) rfl)) (by decide) ?_
          refine OL_y (y_eql rfl rfl) (by decide) ?_
          refine OL_nil ?_
          refine W_cond rfl (fun hc => ?_) (fun hc => ?_)
          · refine W_seq ?_
            refine W_region ?_
            refine OL_c (op_store (v := .bool true) H 6 rfl ti4 h10 rfl rfl (Nat.le_of_ble_eq_true rfl) (by simp [Value.cells, Value.oneCell']) fun w17_0 H => ?_)
            refine OL_nil ?_
            refine W_ret ?_
            refine ⟨_, ⟨rfl, rfl⟩, ?_⟩
            rw [List.length_append]
            exact H.sub (.cons_cons _ (.cons_cons _ (.cons_cons _ (.cons _ (.refl _)))))
          · refine W_skip ?_
            refine W_seq ?_
            refine W_seq ?_
            refine W_drawQ H mixed (by kernel_rfl) (by kernel_rfl) fun wd18 H => ?_
            refine QL_y (y_loadS (v := .int .i64 (pre.length : Nat)) ti3 rfl rfl (Cells.unit (H.getOwn 4 rfl) rfl)) (by decide) ?_
            refine QL_y (y_loadS (v := .slice a77 kk.length c77) ti30 rfl rfl (Cells.unit (H.getOwn 5 rfl) rfl)) (by decide) ?_
            refine QL_y (y_len rfl ti30 rfl) (by decide) ?_
            refine QL_y (v := .bool false) (y_geqF (by omega) rfl rfl) (by decide) ?_
            refine QL_y (v := .bool false) (y_move rfl) (by decide) ?_
            refine QL_yg rfl (by decide) rfl (y_move rfl) (by decide) ?_
            refine QL_yg rfl (by decide) rfl (y_toStr Try.underlying23 Try.underlying5 Try.underlying9 rfl (SlR_bytes (Z := fun _ => True) (H.getOwn 3 rfl) trivial hy1 hy2 hy3)) (by decide) ?_
            refine QL_yg rfl (by decide) rfl (y_loadS (v := .slice a77 kk.length c77) ti30 rfl rfl (Cells.unit (H.getOwn 5 rfl) rfl)) (by decide) ?_
            refine QL_yg rfl (by decide) rfl (y_loadS (v := .int .i64 (pre.length : Nat)) ti3 rfl rfl (Cells.unit (H.getOwn 4 rfl) rfl)) (by decide) ?_
            refine QL_yg rfl (by decide) rfl (y_indexAddr ti30 ti23 (congrArg (Value.slice · _ _) ew) rfl (by omega) (by omega)) (by decide) ?_
            refine QL_yg rfl (by decide) rfl (y_loadS (v := vw) ti23 rfl rfl (hcw.ext ((H.keeps (i := 7) rfl).2 _ hzw hcw.lt))) (by decide) ?_
            refine QL_yg rfl (by decide) rfl (y_toStr Try.underlying23 Try.underlying5 Try.underlying9 rfl (hvw.keeps (H.keeps (i := 7) rfl))) (by decide) ?_
            refine QL_yg rfl (by decide) rfl (y_neqSF rfl rfl rfl) (by decide) ?_
            refine QL_y (y_pick (b := false) (v := .bool false) rfl rfl) (by decide) ?_
            refine QL_nil ?_
            refine W_condf rfl ?_
            refine W_skip ?_
            refine W_region ?_
            refine OL_y (y_loadS (v := .int .i64 (pre.length : Nat)) ti3 rfl rfl (Cells.unit (H.getOwn 4 rfl) rfl)) (by decide) ?_
            refine OL_y (y_add64' ((pre.length + 1 : Nat) : Int) rfl rfl (by omega) (by omega) (by omega)) (by decide) ?_
            refine OL_c (op_store (v := .int .i64 (pre.length + 1 : Nat)) H 4 rfl ti3 rfl rfl rfl (Nat.le_of_ble_eq_true rfl) (by simp [Value.cells, Value.oneCell']) fun w20_2 H => ?_)
            refine OL_nil ?_
            refine ⟨_, rfl, ?_⟩
            rw [List.length_append]
            exact H.sub (.cons_cons _ (.cons_cons _ (.cons_cons _ (.cons _ (.refl _)))))
        · rintro D xs Ls W hxs rfl HH
          refine W_seq ?_
          have H := HH
          have hxl : xs.length = kk.length := by rw [← (show xs.map Yk.s = kk from hxs), List.length_map]
          refine W_region ?_
          refine OL_y (y_loadS (v := .int .i64 (xs.length : Nat)) ti3 rfl rfl (Cells.unit (H.getOwn 1 rfl) rfl)) (by decide) ?_
          refine OL_y (y_loadS (v := .slice a77 kk.length c77) ti30 rfl rfl (Cells.unit (H.getOwn 2 rfl) rfl)) (by decide) ?_
          refine OL_y (y_len rfl ti30 rfl) (by decide) ?_
          refine OL_y (v := .bool true) (y_eqlT (by rw [hxl]) rfl rfl) (by decide) ?_
          refine OL_c (op_store (v := .bool true) H 3 rfl ti4 h10 rfl rfl (Nat.le_of_ble_eq_true rfl) (by simp [Value.cells, Value.oneCell']) fun w21_4 H => ?_)
          refine OL_nil ?_
          refine W_ret ?_
          show RetOK _ _ _ _ _ _
          refine RetOK.mark (H.getOwn 0 rfl) ?_
          have H := H.put 0 rfl (.deferred none)
          exact ret1c (v := .bool true) Try.results3 h10 (run_loadVarS ti4 rfl (Cells.unit (H.getOwn 3 rfl) rfl)) ⟨rfl, fin 4 H rfl⟩
        · rintro D pre Ls W e hp ⟨rfl, rfl⟩ HH
          show RetOK _ _ _ _ _ _
          refine RetOK.mark (HH.getOwn 0 rfl) ?_
          have H := HH.put 0 rfl (.deferred none)
          exact ret1c (v := .bool true) Try.results3 h10 (run_loadVarS ti4 rfl (Cells.unit (H.getOwn 3 rfl) rfl)) ⟨rfl, fin 4 H rfl⟩
      · refine W_region ?_
        refine OL_y (v := .bool true) (y_move rfl) (by decide) ?_
        refine OL_nil ?_
        refine W_condt rfl ?_
        refine W_seq ?_
        refine W_region ?_
        refine OL_c (op_store (v := .bool true) H 1 rfl ti4 rfl rfl rfl (Nat.le_of_ble_eq_true rfl) (by simp [Value.cells, Value.oneCell']) fun w7_0 H => ?_)
        refine OL_nil ?_
        refine W_ret ?_
        show RetOK _ _ _ _ _ _
        exact ret1c (v := .bool true) Try.results3 rfl (run_loadVarS ti4 rfl (Cells.unit (H.getOwn 1 rfl) rfl)) ⟨rfl, H.ext_of 0 rfl⟩
end Go.Proofs.Ytpandioolpnihaa
