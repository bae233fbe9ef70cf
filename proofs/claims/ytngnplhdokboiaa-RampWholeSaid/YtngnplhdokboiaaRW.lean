/- Of transactions that each wrote all their keys at one time nothing is ever seen in part. -/
import Derived.Test.YtngnplhdokboiaaAW
import Derived.Test.YtngnplhdokboiaaG
import Derived.Test.YtngnplhdokboiaaWP
namespace Go.Proofs.Ytngnplhdokboiaa
open Go Go.Wk
set_option linter.unusedVariables false
set_option linter.unusedSimpArgs false

theorem els_fix {α : Type} {T : Ty α} {Z Zx : Nat → Prop} {w : World} {cs : List Value} {xs : List α} (hZ : ∀ k, Z k → Zx k ∧ k < w.heap.size) (h : Els T Z w cs xs) : Els (tFix Z T) Zx w cs xs := ⟨h.1, fun i x hx => ⟨hZ, h.2 i x hx⟩⟩

set_option maxHeartbeats 32000000 in
theorem f5_calls {Z : Nat → Prop} {w : World} {a b vb : Value} {xs : List Sn} {sps : List Sp} {bits : List Int} (hx : SlR tSn 64 Z w a xs) (hp : SlR tSp 48 Z w b sps) (hb : SlR (tInt .i64) 8 Z w vb bits) :
    Calls Try.prog 5 [a, b, vb].toArray w fun e w' => e = .returned (.bool true) ∧ Ext none' w w' := by
  have H := Holds.start w
  have hx := hx.mono (Z' := fun k => k < w.heap.size) fun k h _ => h
  have hp := hp.mono (Z' := fun k => k < w.heap.size) fun k h _ => h
  have hb := hb.mono (Z' := fun k => k < w.heap.size) fun k h _ => h
  obtain ⟨Z0, hZ0⟩ : ∃ Z0 : Nat → Prop, Z0 = fun k => k < w.heap.size := ⟨_, rfl⟩
  rw [← hZ0] at hx hp hb
  have hN := hx.len1 (by decide)
  have hM := hp.len1 (by decide)
  obtain ⟨a0, c0, rfl, hl0, hm0⟩ := hx.len
  obtain ⟨a1, c1, rfl, hl1, hm1⟩ := hp.len
  obtain ⟨ab, cb, rfl, hlb, hmb⟩ := hb.len
  refine calls_of_W' Try.func5 rfl Try.ntmps5 rfl ?_
  refine W_seq ?_
  refine W_region ?_
  refine OL_y (v := .bool false) (y_assign rfl) (by decide) ?_
  refine OL_nil ?_
  refine W_seq ?_
  refine W_seq ?_
  refine W_region ?_
  refine OL_c (op_call 6 en6 rfl [] rfl (by decide) ((f6_calls).mono ?_))
  rintro e w1_0 ⟨rfl, hE6⟩
  refine ⟨_, rfl, ?_⟩
  have H := H.ext0 hE6
  refine OL_y (y_not (b := true) rfl) (by decide) ?_
  refine OL_nil ?_
  refine W_condf rfl ?_
  refine W_skip ?_
  refine W_seq ?_
  refine W_seq ?_
  by_cases h8 : 8 < (xs.length : Int)
  · refine W_region ?_
    refine OL_y (y_move rfl) (by decide) ?_
    refine OL_y (y_len rfl ti35 rfl) (by decide) ?_
    refine OL_y (v := .bool true) (y_gtrT h8 rfl rfl) (by decide) ?_
    refine OL_y (v := .bool true) (y_move rfl) (by decide) ?_
    refine OL_s rfl (by decide) rfl rfl (by simp) ?_
    refine OL_s rfl (by decide) rfl rfl (by simp) ?_
    refine OL_s rfl (by decide) rfl rfl (by simp) ?_
    refine OL_y (y_pick (b := true) (v := .bool true) rfl rfl) (by decide) ?_
    refine OL_nil ?_
    refine W_condt rfl ?_
    refine W_seq ?_
    refine W_region ?_
    refine OL_y (v := .bool true) (y_assign rfl) (by decide) ?_
    refine OL_nil ?_
    refine W_ret ?_
    show RetOK _ _ _ _ _ _
    exact ret1 (v := .bool true) Try.results5 rfl ⟨rfl, H.ext_of 0 rfl⟩
  · refine W_region ?_
    refine OL_y (y_move rfl) (by decide) ?_
    refine OL_y (y_len rfl ti35 rfl) (by decide) ?_
    refine OL_y (v := .bool false) (y_gtrF h8 rfl rfl) (by decide) ?_
    refine OL_y (v := .bool false) (y_move rfl) (by decide) ?_
    refine OL_yg rfl (by decide) rfl (y_move rfl) (by decide) ?_
    refine OL_yg rfl (by decide) rfl (y_len rfl ti45 rfl) (by decide) ?_
    refine OL_yg rfl (by decide) rfl (y_gtr rfl rfl) (by decide) ?_
    refine OL_y (y_pick (b := false) rfl rfl) (by decide) ?_
    refine OL_nil ?_
    refine W_cond rfl (fun hc => ?_) (fun hc => ?_)
    · refine W_seq ?_
      refine W_region ?_
      refine OL_y (v := .bool true) (y_assign rfl) (by decide) ?_
      refine OL_nil ?_
      refine W_ret ?_
      show RetOK _ _ _ _ _ _
      exact ret1 (v := .bool true) Try.results5 rfl ⟨rfl, H.ext_of 0 rfl⟩
    · refine W_skip ?_
      refine W_seq ?_
      refine W_seq ?_
      have h4 := of_decide_eq_false hc
      refine W_region ?_
      refine OL_y (y_move rfl) (by decide) ?_
      refine OL_y (y_len rfl ti35 rfl) (by decide) ?_
      refine OL_y (y_move rfl) (by decide) ?_
      refine OL_nil ?_
      refine W_range (N := xs.length) (by omega) (fun k f ds w' => f 0 = .slice a0 xs.length c0 ∧ f 1 = .slice a1 sps.length c1 ∧ f 2 = .slice ab bits.length cb ∧ f 28 = .slice a0 xs.length c0 ∧ ds = [] ∧ (∀ x ∈ xs.take k, x.keys.length ≤ 6) ∧ Holds w' [shr (fun k => k < w.heap.size) w])
          ⟨rfl, rfl, rfl, rfl, rfl, by simp, H⟩
          rfl rfl (by decide) (by decide) (by decide) rfl rfl ?_ rfl rfl ?_
      · rintro k f ds w1 hk ⟨h0, h1, h2, h28, rfl, h6s, H⟩ hti htn
        have hxk := List.getElem?_eq_getElem hk
        obtain ⟨b1, o1, cs1, e1, hz1, hc1, hr1⟩ := hx.at hxk
        have hc1' := hc1.ext ((H.keepsAll 0 rfl Z0).2 _ hz1 hc1.lt)
        have htk : ∀ x ∈ xs.take (k + 1), x ∈ xs.take k ∨ x = xs[k] := by intro x hx; rw [List.take_add_one, hxk] at hx; rcases List.mem_append.1 hx with h | h <;> simp_all
        generalize xs[k] = t at *
        obtain ⟨wk, wt, rfl, hwk, hs1, hs2, hwt⟩ := sn_cells.1 hr1
        have hone := tSn.one hr1
        obtain ⟨al, cl, rfl, hll, hml⟩ := hwt.len
        have h28' := h28.trans (congrArg (Value.slice · _ _) e1)
        refine W_block ?_
        refine W_seq ?_
        refine W_region ?_
        refine OL_y (y_move hti) (by decide) ?_
        refine OL_y (y_indexAddr ti35 ti39 h28' hti (by omega) (by omega)) (by decide) ?_
        refine OL_y (y_loadA ti39 rfl rfl hc1' rfl) (by decide) ?_
        refine OL_c (op_alloc H ti39 (by decide) fun b8 w7_3 H => ?_)
        refine OL_y (y_assign rfl) (by decide) ?_
        refine OL_c (op_store (v := .agg #[wk, .int .u64 t.ts, .int .u64 t.txn, .slice al t.keys.length cl]) H 0 rfl ti39 rfl rfl rfl (by decide) hone fun w7_5 H => ?_)
        refine OL_nil ?_
        refine W_seq ?_
        refine W_seq ?_
        by_cases h6 : 6 < (t.keys.length : Int)
        · refine W_region ?_
          refine OL_y (y_fieldAddr ti39 rfl ti30 rfl rfl) (by decide) ?_
          refine OL_y (y_loadS (v := .slice al t.keys.length cl) ti30 rfl rfl (Cells.unit (H.getOwn 0 rfl) rfl)) (by decide) ?_
          refine OL_y (y_len rfl ti30 rfl) (by decide) ?_
          refine OL_y (v := .bool true) (y_gtrT h6 rfl rfl) (by decide) ?_
          refine OL_y (v := .bool true) (y_move rfl) (by decide) ?_
          refine OL_s rfl (by decide) rfl rfl (by simp) ?_
          refine OL_s rfl (by decide) rfl rfl (by simp) ?_
          refine OL_s rfl (by decide) rfl rfl (by simp) ?_
          refine OL_y (y_pick (b := true) (v := .bool true) rfl rfl) (by decide) ?_
          refine OL_y (v := .bool true) (y_move rfl) (by decide) ?_
          refine OL_s rfl (by decide) rfl rfl (by simp) ?_
          refine OL_s rfl (by decide) rfl rfl (by simp) ?_
          refine OL_s rfl (by decide) rfl rfl (by simp) ?_
          refine OL_y (y_pick (b := true) (v := .bool true) rfl rfl) (by decide) ?_
          refine OL_nil ?_
          refine W_condt rfl ?_
          refine W_seq ?_
          refine W_region ?_
          refine OL_y (v := .bool true) (y_assign rfl) (by decide) ?_
          refine OL_nil ?_
          refine W_ret ?_
          show RetOK _ _ _ _ _ _
          exact ret1 (v := .bool true) Try.results5 rfl ⟨rfl, H.ext_of 1 rfl⟩
        · by_cases hz : t.ts = 0
          · refine W_region ?_
            refine OL_y (y_fieldAddr ti39 rfl ti30 rfl rfl) (by decide) ?_
            refine OL_y (y_loadS (v := .slice al t.keys.length cl) ti30 rfl rfl (Cells.unit (H.getOwn 0 rfl) rfl)) (by decide) ?_
            refine OL_y (y_len rfl ti30 rfl) (by decide) ?_
            refine OL_y (v := .bool false) (y_gtrF h6 rfl rfl) (by decide) ?_
            refine OL_y (v := .bool false) (y_move rfl) (by decide) ?_
            refine OL_yg rfl (by decide) rfl (y_fieldAddr ti39 rfl ti29 rfl rfl) (by decide) ?_
            refine OL_yg rfl (by decide) rfl (y_loadS (v := .int .u64 t.ts) ti29 rfl rfl (Cells.unit (H.getOwn 0 rfl) rfl)) (by decide) ?_
            refine OL_yg (v := .bool true) rfl (by decide) rfl (y_eqlT hz rfl rfl) (by decide) ?_
            refine OL_y (y_pick (b := false) (v := .bool true) rfl rfl) (by decide) ?_
            refine OL_y (v := .bool true) (y_move rfl) (by decide) ?_
            refine OL_s rfl (by decide) rfl rfl (by simp) ?_
            refine OL_s rfl (by decide) rfl rfl (by simp) ?_
            refine OL_s rfl (by decide) rfl rfl (by simp) ?_
            refine OL_y (y_pick (b := true) (v := .bool true) rfl rfl) (by decide) ?_
            refine OL_nil ?_
            refine W_condt rfl ?_
            refine W_seq ?_
            refine W_region ?_
            refine OL_y (v := .bool true) (y_assign rfl) (by decide) ?_
            refine OL_nil ?_
            refine W_ret ?_
            show RetOK _ _ _ _ _ _
            exact ret1 (v := .bool true) Try.results5 rfl ⟨rfl, H.ext_of 1 rfl⟩
          · refine W_region ?_
            refine OL_y (y_fieldAddr ti39 rfl ti30 rfl rfl) (by decide) ?_
            refine OL_y (y_loadS (v := .slice al t.keys.length cl) ti30 rfl rfl (Cells.unit (H.getOwn 0 rfl) rfl)) (by decide) ?_
            refine OL_y (y_len rfl ti30 rfl) (by decide) ?_
            refine OL_y (v := .bool false) (y_gtrF h6 rfl rfl) (by decide) ?_
            refine OL_y (v := .bool false) (y_move rfl) (by decide) ?_
            refine OL_yg rfl (by decide) rfl (y_fieldAddr ti39 rfl ti29 rfl rfl) (by decide) ?_
            refine OL_yg rfl (by decide) rfl (y_loadS (v := .int .u64 t.ts) ti29 rfl rfl (Cells.unit (H.getOwn 0 rfl) rfl)) (by decide) ?_
            refine OL_yg (v := .bool false) rfl (by decide) rfl (y_eqlF hz rfl rfl) (by decide) ?_
            refine OL_y (y_pick (b := false) (v := .bool false) rfl rfl) (by decide) ?_
            refine OL_y (v := .bool false) (y_move rfl) (by decide) ?_
            refine OL_yg rfl (by decide) rfl (y_fieldAddr ti39 rfl ti29 rfl rfl) (by decide) ?_
            refine OL_yg rfl (by decide) rfl (y_loadS (v := .int .u64 t.txn) ti29 rfl rfl (Cells.unit (H.getOwn 0 rfl) rfl)) (by decide) ?_
            refine OL_yg rfl (by decide) rfl (y_eql rfl rfl) (by decide) ?_
            refine OL_y (y_pick (b := false) rfl rfl) (by decide) ?_
            refine OL_nil ?_
            refine W_cond rfl (fun hc => ?_) (fun hc => ?_)
            · refine W_seq ?_
              refine W_region ?_
              refine OL_y (v := .bool true) (y_assign rfl) (by decide) ?_
              refine OL_nil ?_
              refine W_ret ?_
              show RetOK _ _ _ _ _ _
              exact ret1 (v := .bool true) Try.results5 rfl ⟨rfl, H.ext_of 1 rfl⟩
            · refine W_skip ?_
              refine W_seq ?_
              refine W_region ?_
              refine OL_y (y_move h0) (by decide) ?_
              refine OL_y (y_move rfl) (by decide) ?_
              refine OL_y (y_sliceH ti35 ti39 rfl rfl (by omega) (by omega)) (by decide) ?_
              refine OL_y (y_len rfl ti35 rfl) (by decide) ?_
              refine OL_y (y_move rfl) (by decide) ?_
              refine OL_nil ?_
              have hxt : SlR tSn 64 Z0 w (.slice (cutA a0 c0 0 4) k c0) (xs.take k) := hx.take k (by omega) c0 4
              obtain ⟨pre, hpre⟩ : ∃ pre, pre = xs.take k := ⟨_, rfl⟩
              rw [← hpre] at hxt
              have hpl : pre.length = k := by rw [hpre, List.length_take]; omega
              refine W_range (N := k) (by omega) (fun j g ds w' => g 0 = .slice a0 xs.length c0 ∧ g 1 = .slice a1 sps.length c1 ∧ g 2 = .slice ab bits.length cb ∧ g 28 = .slice a0 xs.length c0 ∧ g 30 = f 30 ∧ g 29 = f 29 ∧ g 8 = .pointer (some ⟨b8, 0, none⟩) ∧ g 51 = .slice (cutA a0 c0 0 4) k c0 ∧ ds = [] ∧ Holds w' [own b8 (.cells #[wk, .int .u64 t.ts, .int .u64 t.txn, .slice al t.keys.length cl] 39), shr (fun k => k < w.heap.size) w])
                  ⟨h0, h1, h2, h28, rfl, rfl, rfl, rfl, rfl, H⟩
                  rfl rfl (by decide) (by decide) (by decide) rfl rfl ?_ rfl rfl ?_
              · rintro j g ds w2 hj ⟨h0, h1, h2, h28, h30, h29, h8', h51, rfl, H⟩ htj htm
                have hxj : pre[j]? = some (pre[j]'(by omega)) := List.getElem?_eq_getElem (by omega)
                obtain ⟨b4, o4, cs4, e4, hz4, hc4, hr4⟩ := hxt.at hxj
                have hc4' := hc4.ext ((H.keepsAll 1 rfl Z0).2 _ hz4 hc4.lt)
                generalize pre[j]'(by omega) = d at *
                obtain ⟨uk, ut, rfl, -⟩ := sn_cells.1 hr4
                have hone4 := tSn.one hr4
                have h51' := h51.trans (congrArg (Value.slice · _ _) e4)
                refine W_block ?_
                refine W_seq ?_
                refine W_region ?_
                refine OL_y (y_indexAddr ti35 ti39 h51' htj (by omega) (by omega)) (by decide) ?_
                refine OL_y (y_loadA ti39 rfl rfl hc4' rfl) (by decide) ?_
                refine OL_var (v := .agg #[uk, .int .u64 d.ts, .int .u64 d.txn, ut]) H ti39 rfl (by decide) (fun _ => rfl) rfl (hone4) fun b10 w12_2 H => ?_
                refine OL_nil ?_
                refine W_seq ?_
                by_cases hts : d.ts = t.ts
                · refine W_region ?_
                  refine OL_y (y_fieldAddr ti39 rfl ti29 rfl rfl) (by decide) ?_
                  refine OL_y (y_loadS (v := .int .u64 d.ts) ti29 rfl rfl (Cells.unit (H.getOwn 0 rfl) rfl)) (by decide) ?_
                  refine OL_y (y_fieldAddr ti39 rfl ti29 rfl h8') (by decide) ?_
                  refine OL_y (y_loadS (v := .int .u64 t.ts) ti29 rfl rfl (Cells.unit (H.getOwn 1 rfl) rfl)) (by decide) ?_
                  refine OL_y (v := .bool true) (y_eqlT hts rfl rfl) (by decide) ?_
                  refine OL_y (v := .bool true) (y_move rfl) (by decide) ?_
                  refine OL_s rfl (by decide) rfl rfl (by simp) ?_
                  refine OL_s rfl (by decide) rfl rfl (by simp) ?_
                  refine OL_s rfl (by decide) rfl rfl (by simp) ?_
                  refine OL_s rfl (by decide) rfl rfl (by simp) ?_
                  refine OL_s rfl (by decide) rfl rfl (by simp) ?_
                  refine OL_y (y_pick (b := true) (v := .bool true) rfl rfl) (by decide) ?_
                  refine OL_nil ?_
                  refine W_condt rfl ?_
                  refine W_seq ?_
                  refine W_region ?_
                  refine OL_y (v := .bool true) (y_assign rfl) (by decide) ?_
                  refine OL_nil ?_
                  refine W_ret ?_
                  show RetOK _ _ _ _ _ _
                  exact ret1 (v := .bool true) Try.results5 rfl ⟨rfl, H.ext_of 2 rfl⟩
                · refine W_region ?_
                  refine OL_y (y_fieldAddr ti39 rfl ti29 rfl rfl) (by decide) ?_
                  refine OL_y (y_loadS (v := .int .u64 d.ts) ti29 rfl rfl (Cells.unit (H.getOwn 0 rfl) rfl)) (by decide) ?_
                  refine OL_y (y_fieldAddr ti39 rfl ti29 rfl h8') (by decide) ?_
                  refine OL_y (y_loadS (v := .int .u64 t.ts) ti29 rfl rfl (Cells.unit (H.getOwn 1 rfl) rfl)) (by decide) ?_
                  refine OL_y (v := .bool false) (y_eqlF hts rfl rfl) (by decide) ?_
                  refine OL_y (v := .bool false) (y_move rfl) (by decide) ?_
                  refine OL_yg rfl (by decide) rfl (y_fieldAddr ti39 rfl ti29 rfl rfl) (by decide) ?_
                  refine OL_yg rfl (by decide) rfl (y_loadS (v := .int .u64 d.txn) ti29 rfl rfl (Cells.unit (H.getOwn 0 rfl) rfl)) (by decide) ?_
                  refine OL_yg rfl (by decide) rfl (y_fieldAddr ti39 rfl ti29 rfl h8') (by decide) ?_
                  refine OL_yg rfl (by decide) rfl (y_loadS (v := .int .u64 t.txn) ti29 rfl rfl (Cells.unit (H.getOwn 1 rfl) rfl)) (by decide) ?_
                  refine OL_yg rfl (by decide) rfl (y_eql rfl rfl) (by decide) ?_
                  refine OL_y (y_pick (b := false) rfl rfl) (by decide) ?_
                  refine OL_nil ?_
                  refine W_cond rfl (fun hc => ?_) (fun hc => ?_)
                  · refine W_seq ?_
                    refine W_region ?_
                    refine OL_y (v := .bool true) (y_assign rfl) (by decide) ?_
                    refine OL_nil ?_
                    refine W_ret ?_
                    show RetOK _ _ _ _ _ _
                    exact ret1 (v := .bool true) Try.results5 rfl ⟨rfl, H.ext_of 2 rfl⟩
                  · refine W_skip ?_
                    exact ⟨htj, htm, h0, h1, h2, h28, h30, h29, h8', h51, rfl, H.tail⟩
              · rintro g ds w2 ⟨h0, h1, h2, h28, h30, h29, h8', h51, rfl, H⟩ htj htm
                have h30' := h30.trans hti
                have h29' := h29.trans htn
                exact ⟨h30', h29', h0, h1, h2, h28, rfl, fun x hx => (htk x hx).elim (h6s x) (fun h => by rw [h]; omega), H.tail⟩
      · rintro f ds w1 ⟨h0, h1, h2, h28, rfl, h6s, H⟩ hti htn
        rw [List.take_length] at h6s
        refine W_seq ?_
        refine W_region ?_
        refine OL_y (y_assign rfl) (by decide) ?_
        refine OL_nil ?_
        refine W_seq ?_
        refine W_seq ?_
        refine W_region ?_
        refine OL_y (y_move h1) (by decide) ?_
        refine OL_y (y_len rfl ti45 rfl) (by decide) ?_
        refine OL_y (y_move rfl) (by decide) ?_
        refine OL_nil ?_
        have H := (H.share Z0 (fun k h => by rw [hZ0] at h; exact Nat.lt_of_lt_of_le h (H.keepsAll 0 rfl Z0).1) (fun a ha hx k h hF => by
          simp only [List.mem_cons, List.not_mem_nil, or_false] at ha; subst ha; cases hx)).rowNil 39 4
        refine W_range (N := sps.length) (by omega) (fun k f ds w' => ∃ (v11 : Value) (c11 : List Value) (S : List Sn) (Zp : Nat → Prop) (Wp : World), f 0 = .slice a0 xs.length c0 ∧ f 2 = .slice ab bits.length cb ∧ f 11 = v11 ∧ f 71 = .slice a1 sps.length c1 ∧ ds = [] ∧ Els tSn Zp Wp c11 S ∧ fracturedB S = false ∧ (∀ x ∈ S, x.keys.length ≤ 6) ∧ S.length ≤ bnd k ∧ (∀ k, Z0 k → Zp k) ∧
            Holds w' [row 39 4 v11 S.length c11, shr Zp Wp, shr (fun k => k < w.heap.size) w])
            ⟨_, [], [], Z0, _, h0, h2, rfl, rfl, rfl, Els.nil _ _ _, rfl, by simp, Nat.le_refl _, fun _ h => h, H⟩
            rfl rfl (by decide) (by decide) (by decide) rfl rfl ?_ rfl rfl ?_
        · rintro k f ds w1 hk ⟨v11, c11, S, Zp, Wp, h0, h2, h11, h71, rfl, hE11, hfr, hS6, hSl, hZp, H⟩ hti htn
          have hk3 : k ≤ 3 := by omega
          have hSb : S.length ≤ 19152 := Nat.le_trans hSl (bnd_le k hk3)
          have hxk := List.getElem?_eq_getElem hk
          obtain ⟨b1, o1, cs1, e1, hz1, hc1, hr1⟩ := hp.at hxk
          have hc1' := hc1.ext ((H.keepsAll 2 rfl Z0).2 _ hz1 hc1.lt)
          generalize sps[k] = s at *
          obtain ⟨wl, wh, rfl, hlo, hhi⟩ := sp_cells.1 hr1
          have hone := tSp.one hr1
          have h71' := h71.trans (congrArg (Value.slice · _ _) e1)
          refine W_block ?_
          refine W_seq ?_
          refine W_region ?_
          refine OL_y (y_move hti) (by decide) ?_
          refine OL_y (y_indexAddr ti45 ti24 h71' hti (by omega) (by omega)) (by decide) ?_
          refine OL_y (y_loadA ti24 rfl rfl hc1' rfl) (by decide) ?_
          refine OL_c (op_alloc H ti24 (by decide) fun b13 w20_3 H => ?_)
          refine OL_y (y_assign rfl) (by decide) ?_
          refine OL_c (op_store (v := .agg #[wl, wh]) H 0 rfl ti24 rfl rfl rfl (by decide) hone fun w20_5 H => ?_)
          refine OL_nil ?_
          refine W_seq ?_
          refine W_drawD H mixed (by kernel_rfl) [] (fun w0 w' => w'.heap[b13]? = some (.cells #[wl, wh] 24)) fun wd21 H hEd => ?_
          have hS : Sx [] (fun w' => w'.heap[b13]? = some (.cells #[wl, wh] 24)) (List.replicate 13 false).toArray wd21 := fun _ => H.getOwn 0 rfl
          have kp := H.keepsAll 3 rfl Z0
          refine DA_p 0 rfl (by kernel_rfl) rfl (fun _ => y_move h11) hS (by decide) fun hS => ?_
          refine DA_y 1 rfl (by kernel_rfl) rfl (by kernel_rfl) (fun w' h => y_loadA (cs := [wl, wh]) ti24 rfl rfl (Cells.of h rfl) rfl) hS (by decide) fun hS => ?_
          refine DA_p 2 rfl (by kernel_rfl) rfl (fun _ => y_move h0) hS (by decide) fun hS => ?_
          refine DA_y 3 rfl (by kernel_rfl) rfl (by kernel_rfl) (fun w' h => y_loadA (cs := [wl, wh]) ti24 rfl rfl (Cells.of h rfl) rfl) hS (by decide) fun hS => ?_
          refine DA_p 4 rfl (by kernel_rfl) rfl (fun _ => y_move h2) hS (by decide) fun hS => ?_
          refine DA_p 5 rfl (by kernel_rfl) rfl (fun _ => y_move rfl) hS (by decide) fun hS => ?_
          refine DA_one 6 (by kernel_rfl) rfl (op_call 14 en14 rfl [.slice a0 xs.length c0, .agg #[wl, wh], .slice ab bits.length cb, .int .i64 k] rfl (by decide) ((f14_calls (fun k h => by rw [hZ0] at h; exact Nat.lt_of_lt_of_le h kp.1) (hx.keeps kp) (tSp.keeps hr1 kp) (hb.keeps kp) (by omega) (by omega) (by omega) h6s).mono ?_))
          rintro e w21_6 ⟨vcs, cells, keys, rfl, hSh, hcl, hcS, hE14⟩
          refine ⟨_, rfl, fun _ => (H.ext0 hE14).getOwn 0 rfl, ?_⟩
          have hkp : Keeps Zp Wp wd21 := H.keeps (i := 2) rfl
          have H := H.poolCall hE14 2 rfl
          obtain ⟨Zq, hZq⟩ : ∃ Zq : Nat → Prop, Zq = fun k => Zp k ∨ (wd21.heap.size ≤ k ∧ k < w21_6.heap.size) := ⟨_, rfl⟩
          rw [← hZq] at H
          have H : Holds w21_6 [own b13 (.cells #[wl, wh] 24), row 39 4 v11 S.length c11, shr Zq w21_6, shr (fun k => k < w.heap.size) w] := (H.perm (List.Perm.trans (List.Perm.swap _ _ _) (List.Perm.cons _ (List.Perm.swap _ _ _)))).sub (.cons_cons _ (.cons_cons _ (.cons_cons _ (.cons _ (.refl _)))))
          have hqz : ∀ k, Zq k → k < w21_6.heap.size := (H.ok _ (List.mem_of_getElem? (l := _) (i := 2) rfl)).2.1
          have hE11q : Els tSn Zq w21_6 c11 S := ((hE11.keeps hkp).keeps ⟨hE14.size, fun k hz hk => hE14.blk k hk (fun h => h)⟩).mono fun k _ h => by rw [hZq]; exact .inl h
          have hSX : SlR (tFix Zq tSn) 64 (fun k => k < w21_6.heap.size) w21_6 v11 S := SlR.ofRow (H.getRow 1 rfl) (show 0 < 4 by decide) (els_fix (fun k h => ⟨hqz k h, hqz k h⟩) hE11q) (fun k hk => rowLt (H.getRow 1 rfl) k hk) (by omega)
          have hcq : SlR tCl 120 Zq w21_6 vcs cells := hcS.mono fun k h1 h2 => by rw [hZq]; exact h2.elim (fun h => .inl (hZp k h)) (fun h => .inr ⟨h, h1⟩)
          have hsq : tSp.R Zq w21_6 [wl, wh] s := tSp.mono (tSp.keeps hr1 (H.keepsAll 3 rfl Z0)) fun k _ h => by rw [hZq]; exact .inl (hZp k h)
          obtain ⟨hw1, hw2⟩ : True ∧ True := ⟨trivial, trivial⟩
          refine DA_one 7 (by kernel_rfl) rfl (op_call 8 en8 rfl [v11, .agg #[wl, wh], vcs] rfl (by decide) ((f8_callsX hqz hSX hsq hcq (by omega) (by omega) (fun c hc v hv => by have := hSh.six c hc v hv; omega) (fun x hx => by have := hS6 x hx; omega)).mono ?_))
          rintro e w21_7 ⟨v14, v15, need, rfl, hpm, hg, hn, hE8⟩
          refine ⟨_, rfl, fun _ => (H.ext0 hE8).getOwn 0 rfl, ?_⟩
          have H := H.poolCall hE8 2 rfl
          obtain ⟨Zr, hZr⟩ : ∃ Zr : Nat → Prop, Zr = fun k => Zq k ∨ (w21_6.heap.size ≤ k ∧ k < w21_7.heap.size) := ⟨_, rfl⟩
          rw [← hZr] at H
          have H : Holds w21_7 [own b13 (.cells #[wl, wh] 24), row 39 4 v11 S.length c11, shr Zr w21_7, shr (fun k => k < w.heap.size) w] := (H.perm (List.Perm.trans (List.Perm.swap _ _ _) (List.Perm.cons _ (List.Perm.swap _ _ _)))).sub (.cons_cons _ (.cons_cons _ (.cons_cons _ (.cons _ (.refl _)))))
          have hE11r : Els tSn Zr w21_7 c11 S := (hE11q.keeps ⟨hE8.size, fun k hz hk => hE8.blk k hk (fun h => h)⟩).mono fun k _ h => by rw [hZr]; exact .inl h
          have hg := hg.mono (Z' := Zr) fun k h1 h2 => by rw [hZr]; exact h2.elim .inl (fun h => .inr ⟨h, h1⟩)
          have hn := hn.mono (Z' := Zr) fun k h1 h2 => by rw [hZr]; exact h2.elim .inl (fun h => .inr ⟨h, h1⟩)
          obtain ⟨hfr', hin⟩ := whole_law hfr hSh.nodup hSh.within hpm
          obtain ⟨hgl, hnl, h6'⟩ := whole_len hSh.six hS6 hpm
          have hpZ : ∀ k, Z0 k → Zr k := fun k h => by rw [hZr, hZq]; exact .inl (.inl (hZp k h))
          generalize gotZ S s cells = got at *
          obtain ⟨a14, c14, rfl, hl14, hm14⟩ := hg.len
          obtain ⟨a15, c15, rfl, hl15, hm15⟩ := hn.len
          obtain ⟨gc, hgs, hge⟩ := hg.src
          obtain ⟨nc, hns, hne⟩ := hn.src
          have hgn : Els tSn Zr w21_7 (c11 ++ gc ++ nc) (S ++ got ++ need) := (hE11r.append hge).append hne
          obtain ⟨av, cv, rfl, hlv, hmv⟩ := H.rowLen 1 rfl
          have hS : ∀ {ls : Array Bool}, Sx [] (fun w' => w'.heap[b13]? = some (.cells #[wl, wh] 24)) ls w21_7 := fun {_} _ => H.getOwn 0 rfl
          refine DA_p 8 rfl (by kernel_rfl) rfl (fun _ => y_move rfl) hS (by decide) fun hS => ?_
          refine DA_p 9 rfl (by kernel_rfl) rfl (fun _ => y_extract (v := .slice a14 got.length c14) rfl rfl) hS (by decide) fun hS => ?_
          refine DA_p 10 rfl (by kernel_rfl) rfl (fun _ => y_extract (v := .slice a15 need.length c15) rfl rfl) hS (by decide) fun hS => ?_
          refine DA_p 11 rfl (by kernel_rfl) rfl (fun _ => y_assign rfl) hS (by decide) fun hS => ?_
          refine DA_p 12 rfl (by kernel_rfl) rfl (fun _ => y_assign rfl) hS (by decide) fun hS => ?_
          refine DA_done (by kernel_rfl) ?_
          refine W_seq ?_
          refine W_region ?_
          refine OL_y (y_move h11) (by decide) ?_
          refine OL_y (y_move rfl) (by decide) ?_
          refine OL_c (op_append (news := gc) H 1 rfl rfl ti35 ti39 rfl rfl rfl rfl (hgs _ (H.keeps (i := 2) rfl)) hge.1 (fun u hu => hge.one (by decide) u hu) (by omega) (by simp [maxLen]; omega) (by decide) fun v91 w22_2 H => ?_)
          refine OL_y (y_move rfl) (by decide) ?_
          refine OL_c (op_append (news := nc) H 1 rfl rfl ti35 ti39 rfl rfl rfl rfl (hns _ (H.keeps (i := 2) rfl)) hne.1 (fun u hu => hne.one (by decide) u hu) (by omega) (by simp [maxLen]; omega) (by decide) fun v93 w22_4 H => ?_)
          obtain ⟨a93, c93, rfl, hl93, hm93⟩ := H.rowLen 1 rfl
          refine OL_y (y_assign rfl) (by decide) ?_
          refine OL_nil ?_
          refine W_seq ?_
          refine W_seq ?_
          refine W_region ?_
          refine OL_y (y_move rfl) (by decide) ?_
          refine OL_y (y_len rfl ti35 rfl) (by decide) ?_
          refine OL_y (y_move rfl) (by decide) ?_
          refine OL_nil ?_
          refine W_range (N := need.length) (by omega) (fun j g ds w' => g 0 = .slice a0 xs.length c0 ∧ g 2 = .slice ab bits.length cb ∧ g 11 = .slice a93 (S.length + got.length + need.length) c93 ∧ g 13 = .pointer (some ⟨b13, 0, none⟩) ∧ g 71 = .slice a1 sps.length c1 ∧ g 73 = f 73 ∧ g 72 = f 72 ∧ g 94 = .slice a15 need.length c15 ∧ ds = [] ∧
              Holds w' [own b13 (.cells #[wl, wh] 24), row 39 4 (.slice a93 (S.length + got.length + need.length) c93) (S.length + got.length + need.length) (c11 ++ gc ++ nc), shr Zr w21_7, shr (fun k => k < w.heap.size) w])
              ⟨h0, h2, rfl, rfl, h71, rfl, rfl, rfl, rfl, H⟩
              rfl rfl (by decide) (by decide) (by decide) rfl rfl ?_ rfl rfl ?_
          · rintro j g ds w2 hj ⟨h0, h2, h11, h13, h71, h73, h72, h94, rfl, H⟩ htj htm
            have hxj := List.getElem?_eq_getElem hj
            obtain ⟨b4, o4, cs4, e4, hz4, hc4, hr4⟩ := hn.at hxj
            have hc4' := hc4.ext ((show Keeps Zr w21_7 w2 from H.keeps (i := 2) rfl).2 _ hz4 hc4.lt)
            have hinx := hin _ (List.getElem_mem hj)
            generalize need[j] = x at *
            obtain ⟨uk, ut, rfl, huk, -⟩ := sn_cells.1 hr4
            have hone4 := tSn.one hr4
            have h94' := h94.trans (congrArg (Value.slice · _ _) e4)
            refine W_block ?_
            refine W_seq ?_
            refine W_region ?_
            refine OL_y (y_indexAddr ti35 ti39 h94' htj (by omega) (by omega)) (by decide) ?_
            refine OL_y (y_loadA ti39 rfl rfl hc4' rfl) (by decide) ?_
            refine OL_var (v := .agg #[uk, .int .u64 x.ts, .int .u64 x.txn, ut]) H ti39 rfl (by decide) (fun _ => rfl) rfl (hone4) fun b17 w25_2 H => ?_
            refine OL_nil ?_
            refine W_seq ?_
            refine W_region ?_
            refine OL_y (y_fieldAddr ti39 rfl ti22 rfl rfl) (by decide) ?_
            refine OL_y (y_loadS (v := uk) ti22 rfl rfl (Cells.unit (H.getOwn 0 rfl) rfl)) (by decide) ?_
            refine OL_y (y_fieldAddr ti24 rfl ti22 rfl h13) (by decide) ?_
            refine OL_y (y_loadS (v := wl) ti22 rfl rfl (Cells.unit (H.getOwn 1 rfl) rfl)) (by decide) ?_
            refine OL_y (y_fieldAddr ti24 rfl ti22 rfl h13) (by decide) ?_
            refine OL_y (y_loadS (v := wh) ti22 rfl rfl (Cells.unit (H.getOwn 1 rfl) rfl)) (by decide) ?_
            refine OL_c (op_call 15 en15 rfl [uk, wl, wh] rfl (by decide) (((show Calls Try.prog 15 [_, _, _].toArray _ fun e w' => e = .returned (.bool true) ∧ Ext none' _ w' by have := f15_calls (huk.keeps (H.keeps (i := 3) rfl)) (hlo.keeps (H.keepsAll 4 rfl Z0)) (hhi.keeps (H.keepsAll 4 rfl Z0)); rw [hinx] at this; exact this)).mono ?_))
            rintro e w26_6 ⟨rfl, hE15⟩
            refine ⟨_, rfl, ?_⟩
            have H := H.ext0 hE15
            refine OL_y (y_not (b := true) rfl) (by decide) ?_
            refine OL_nil ?_
            refine W_condf rfl ?_
            refine W_skip ?_
            exact ⟨htj, htm, h0, h2, h11, h13, h71, h73, h72, h94, rfl, H.tail⟩
          · rintro g ds w2 ⟨h0, h2, h11, h13, h71, h73, h72, h94, rfl, H⟩ htj htm
            have h73' := h73.trans hti
            have h72' := h72.trans htn
            have hSl2 : (S ++ got ++ need).length = S.length + got.length + need.length := by rw [List.length_append, List.length_append]
            have hAll : ∀ {W : World}, Holds W [own b13 (.cells #[wl, wh] 24), row 39 4 (.slice a93 (S.length + got.length + need.length) c93) (S.length + got.length + need.length) (c11 ++ gc ++ nc), shr Zr w21_7, shr (fun k => k < w.heap.size) w] → SlR tSn 64 (fun k => k < W.heap.size) W (.slice a93 (S.length + got.length + need.length) c93) (S ++ got ++ need) := fun {W} H => SlR.ofRow (H.getRow 1 rfl) (by decide) ((hgn.keeps (H.keeps (i := 2) rfl)).mono fun k h _ => h) (fun k hk => rowLt (H.getRow 1 rfl) k hk) (by rw [hSl2]; omega)
            refine W_seq ?_
            refine W_region ?_
            refine OL_y (y_move h11) (by decide) ?_
            refine OL_c (op_call 13 en13 rfl [.slice a93 (S.length + got.length + need.length) c93] rfl (by decide) (((show Calls Try.prog 13 [_].toArray _ fun e w' => e = .returned (.bool false) ∧ Ext none' _ w' by have := f13_calls (hAll H); rw [hfr'] at this; exact this)).mono ?_))
            rintro e w29_1 ⟨rfl, hE13⟩
            refine ⟨_, rfl, ?_⟩
            have H := H.ext0 hE13
            refine OL_y (y_move (v := .bool false) rfl) (by decide) ?_
            refine OL_yg rfl (by decide) rfl (y_move h11) (by decide) ?_
            refine OL_g rfl (by decide) rfl (op_call 12 en12 rfl [.slice a93 (S.length + got.length + need.length) c93] rfl (by decide) (((show Calls Try.prog 12 [_].toArray _ fun e w' => e = .returned (.bool false) ∧ Ext none' _ w' by have := f12_calls (hAll H); rw [hfr'] at this; exact this)).mono ?_))
            rintro e w29_4 ⟨rfl, hE12⟩
            refine ⟨_, rfl, ?_⟩
            have H := H.ext0 hE12
            refine OL_y (y_pick (b := false) (v := .bool false) rfl rfl) (by decide) ?_
            refine OL_nil ?_
            refine W_condf rfl ?_
            refine W_skip ?_
            refine ⟨h73', h72', _, _, S ++ got ++ need, Zr, w21_7, h0, h2, h11, h71, rfl, hgn, hfr', h6', ?_, hpZ, ?_⟩
            · rw [hSl2]; show _ ≤ 7 * bnd k + 336; omega
            · rw [hSl2]; exact H.tail
        · rintro f ds w1 ⟨v11, c11, S, Zp, Wp, h0, h2, h11, h71, rfl, hE11, hfr, hS6, hSl, hZp, H⟩ hti htn
          refine W_seq ?_
          refine W_region ?_
          refine OL_y (v := .bool true) (y_assign rfl) (by decide) ?_
          refine OL_nil ?_
          refine W_ret ?_
          show RetOK _ _ _ _ _ _
          exact ret1 (v := .bool true) Try.results5 rfl ⟨rfl, H.ext_of 2 rfl⟩
end Go.Proofs.Ytngnplhdokboiaa
