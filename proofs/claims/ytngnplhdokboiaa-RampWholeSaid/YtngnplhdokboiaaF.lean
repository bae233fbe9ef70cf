/- A cell as it is shown, of transactions that each wrote all their keys at one time. -/
import Derived.Test.YtngnplhdokboiaaA
import Derived.Test.YtngnplhdokboiaaWkk
import Derived.Test.YtngnplhdokboiaaWkn
namespace Go.Proofs.Ytngnplhdokboiaa
open Go Go.Wk
set_option linter.unusedVariables false
set_option linter.unusedSimpArgs false

theorem u8_range {x : Int} (h : InK .u8 x) : 0 ≤ x ∧ x < 256 := by
  unfold InK at h
  simp [Lit.wf] at h
  have e1 : IntKind.u8.min = 0 := rfl
  have e2 : IntKind.u8.max = 255 := rfl
  omega
theorem y_remT {P : Program} {d t t' ty : Nat} {p : String} {af : Array Edge} {g : Option (Nat × Bool)} {f : Fr} {x y : Operand} {w : World} {a b : Int} (hx : ev f x = .int .i64 a) (hy : ev f y = .int .i64 b) (hb : b ≠ 0) :
    Yd P ⟨some d, .binOp .rem t x y t', ty, p, af, g⟩ f w (.int .i64 (a.tmod b)) :=
  ⟨rfl, by simp [execOp, hx, hy, eqGuard, binOp, Op.intDiv, hb]⟩
set_option maxHeartbeats 2000000 in
theorem f28_calls {Z : Nat → Prop} {w : World} {vk : Value} {key : Key} (hk : SlR (tInt .u8) 1 Z w vk key) :
    Calls Try.prog 28 [vk].toArray w fun e w' => ∃ x : Int, e = .returned (.int .u8 x) ∧ InK .u8 x ∧ Ext none' w w' := by
  have H := Holds.start w
  obtain ⟨ak, ck, rfl, hlk, hmk⟩ := hk.len
  refine calls_of_W' Try.func28 rfl Try.ntmps28 rfl ?_
  refine W_seq ?_
  refine W_region ?_
  refine OL_y (y_assign rfl) (by decide) ?_
  refine OL_nil ?_
  refine W_seq ?_
  refine W_seq ?_
  refine W_region ?_
  refine OL_y (y_move rfl) (by decide) ?_
  refine OL_y (y_len rfl ti22 rfl) (by decide) ?_
  refine OL_y (y_eql rfl rfl) (by decide) ?_
  refine OL_nil ?_
  refine W_cond rfl (fun hc => ?_) (fun hc => ?_)
  · refine W_seq ?_
    refine W_region ?_
    refine OL_y (y_assign rfl) (by decide) ?_
    refine OL_nil ?_
    refine W_ret ?_
    show RetOK _ _ _ _ _ _
    exact ret1 (v := .int .u8 0) Try.results28 rfl ⟨0, rfl, by unfold InK; decide, H.ext_of 0 rfl⟩
  · refine W_skip ?_
    refine W_seq ?_
    have hc := of_decide_eq_false hc
    have hx0 : key[0]? = some (key[0]'(by omega)) := List.getElem?_eq_getElem (by omega)
    obtain ⟨b1, o1, cs1, e1, hz1, hc1, hr1⟩ := hk.at hx0
    obtain ⟨rfl, hin⟩ := hr1
    subst e1
    refine W_region ?_
    refine OL_y (y_move rfl) (by decide) ?_
    refine OL_y (y_indexAddr (i := 0) ti22 ti5 rfl rfl (by decide) (by omega)) (by decide) ?_
    refine OL_y (y_loadS (v := .int .u8 key[0]) ti5 rfl rfl hc1) (by decide) ?_
    refine OL_y (y_assign rfl) (by decide) ?_
    refine OL_nil ?_
    refine W_ret ?_
    show RetOK _ _ _ _ _ _
    exact ret1 (v := .int .u8 key[0]) Try.results28 rfl ⟨_, rfl, hin, H.ext_of 0 rfl⟩
def noV : Ver := ⟨0, 0, false, [], []⟩

set_option maxHeartbeats 16000000 in
theorem f23_calls {Z : Nat → Prop} {w : World} {a vk vb : Value} {xs : List Sn} {key : Key} {bits : List Int} {i : Int} (hx : SlR tSn 64 Z w a xs) (hk : SlR (tInt .u8) 1 Z w vk key) (hb : SlR (tInt .i64) 8 Z w vb bits) (hi0 : 0 ≤ i) (hi4 : i ≤ 4)
    (hl : xs.length ≤ 8) (hl6 : ∀ x ∈ xs, x.keys.length ≤ 6) :
    Calls Try.prog 23 [a, vk, vb, .int .i64 i].toArray w fun e w' => ∃ (cs : List Value) (vers : List Ver), e = .returned (.agg cs.toArray) ∧ (∀ v ∈ vers, v.keys.length ≤ 6) ∧ tCl.R (fun k => Z k ∨ w.heap.size ≤ k) w' cs ⟨key, vers, noV⟩ ∧ Ext none' w w' := by
  have H := Holds.start w
  obtain ⟨a0, c0, rfl, hl0, hm0⟩ := hx.len
  obtain ⟨ak, ck, rfl, hlk, hmk⟩ := hk.len
  obtain ⟨ab, cb, rfl, hlb, hmb⟩ := hb.len
  have hkL := hk.len1 (by decide)
  have hbL : bits.length ≤ 140737488351232 := hb.len1 (by decide)
  refine calls_of_W' Try.func23 rfl Try.ntmps23 rfl ?_
  refine W_seq ?_
  refine W_region ?_
  refine OL_c (op_alloc H ti34 (by decide) fun b8 w0_0 H => ?_)
  refine OL_nil ?_
  refine W_seq ?_
  refine W_region ?_
  refine OL_y (y_move rfl) (by decide) ?_
  refine OL_y (v := .agg #[.slice ak key.length ck, .slice none 0 0, .int .u64 0, .int .u64 0, .bool false, .slice none 0 0, .slice none 0 0]) (y_build ti34 pl34 rfl) (by decide) ?_
  refine OL_var (v := .agg #[.slice ak key.length ck, .slice none 0 0, .int .u64 0, .int .u64 0, .bool false, .slice none 0 0, .slice none 0 0]) H ti34 rfl (by decide) (fun _ => rfl) rfl (by simp [Value.cells, Value.oneCell']) fun b9 w1_2 H => ?_
  refine OL_nil ?_
  refine W_seq ?_
  refine W_seq ?_
  refine W_region ?_
  refine OL_y (y_move rfl) (by decide) ?_
  refine OL_y (y_len rfl ti35 rfl) (by decide) ?_
  refine OL_y (y_move rfl) (by decide) ?_
  refine OL_nil ?_
  have H := H.rowNil 32 5
  refine W_range (N := xs.length) (by omega) (fun k f ds w' => ∃ (vv : Value) (cs : List Value) (vers : List Ver), f 0 = .slice a0 xs.length c0 ∧ f 1 = .slice ak key.length ck ∧ f 2 = .slice ab bits.length cb ∧ f 3 = .int .i64 i ∧ f 8 = .pointer (some ⟨b8, 0, none⟩) ∧ f 9 = .pointer (some ⟨b9, 0, none⟩) ∧ f 16 = .slice a0 xs.length c0 ∧ ds = [] ∧ Els tVer Z w cs vers ∧ vers.length ≤ k ∧ (∀ v ∈ vers, v.keys.length ≤ 6) ∧
      Holds w' [row 32 5 vv vers.length cs, own b9 (.cells #[.slice ak key.length ck, vv, .int .u64 0, .int .u64 0, .bool false, .slice none 0 0, .slice none 0 0] 34), own b8 (.cells #[.slice none 0 0, .slice none 0 0, .int .u64 0, .int .u64 0, .bool false, .slice none 0 0, .slice none 0 0] 34), shr (fun k => k < w.heap.size) w])
      ⟨_, [], [], rfl, rfl, rfl, rfl, rfl, rfl, rfl, rfl, Els.nil _ _ _, by simp, by simp, H⟩
      rfl rfl (by decide) (by decide) (by decide) rfl rfl ?_ rfl rfl ?_
  · rintro k f ds w1 hk' ⟨vv, cs, vers, h0, h1, h2, h3, h8, h9, h16, rfl, hE, hvl, hv6, H⟩ hti htn
    have hxk := List.getElem?_eq_getElem hk'
    obtain ⟨b1, o1, cs1, e1, hz1, hc1, hr1⟩ := hx.at hxk
    have hc1' := hc1.ext ((H.keepsAll 3 rfl Z).2 _ hz1 hc1.lt)
    have hsm := List.getElem_mem hk'
    generalize xs[k] = s at *
    obtain ⟨wk, wl, rfl, hwk, hs1, hs2, hwl⟩ := sn_cells.1 hr1
    have hone := tSn.one hr1
    have hs6 := hl6 s hsm
    obtain ⟨al, cl, rfl, hll, hml⟩ := hwl.len
    obtain ⟨av, cv, rfl, hlv, hmv⟩ := H.rowLen 0 rfl
    have h16' := h16.trans (congrArg (Value.slice · _ _) e1)
    refine W_block ?_
    refine W_seq ?_
    refine W_region ?_
    refine OL_y (y_move hti) (by decide) ?_
    refine OL_y (y_indexAddr ti35 ti39 h16' hti (by omega) (by omega)) (by decide) ?_
    refine OL_y (y_loadA ti39 rfl rfl hc1' rfl) (by decide) ?_
    refine OL_c (op_alloc H ti39 (by decide) fun b11 w4_3 H => ?_)
    refine OL_y (y_assign rfl) (by decide) ?_
    refine OL_c (op_store (v := .agg #[wk, .int .u64 s.ts, .int .u64 s.txn, .slice al s.keys.length cl]) H 0 rfl ti39 rfl rfl rfl (by decide) hone fun w4_5 H => ?_)
    refine OL_nil ?_
    refine W_seq ?_
    refine W_seq ?_
    rcases hh : decide (key ∈ s.keys) with _ | _
    · have kp := H.keepsAll 4 rfl Z
      refine W_region ?_
      refine OL_y (y_fieldAddr ti39 rfl ti30 rfl rfl) (by decide) ?_
      refine OL_y (y_loadS (v := .slice al s.keys.length cl) ti30 rfl rfl (Cells.unit (H.getOwn 0 rfl) rfl)) (by decide) ?_
      refine OL_y (y_move h1) (by decide) ?_
      refine OL_c (op_call 22 en22 rfl [.slice al s.keys.length cl, .slice ak key.length ck] rfl (by decide) (((show Calls Try.prog 22 [_, _].toArray _ fun e w' => e = .returned (.bool false) ∧ Ext none' _ w' by have := f22_calls (hwl.keeps kp) (hk.keeps kp); rw [hh] at this; exact this)).mono ?_))
      rintro e w5_3 ⟨rfl, hE22⟩
      refine ⟨_, rfl, ?_⟩
      have H := H.ext0 hE22
      refine OL_y (y_not (b := false) rfl) (by decide) ?_
      refine OL_y (v := .bool true) (y_move rfl) (by decide) ?_
      refine OL_s rfl (by decide) rfl rfl (by simp) ?_
      refine OL_s rfl (by decide) rfl rfl (by simp) ?_
      refine OL_s rfl (by decide) rfl rfl (by simp) ?_
      refine OL_s rfl (by decide) rfl rfl (by simp) ?_
      refine OL_u rfl (by decide) rfl (by simp) ?_
      refine OL_u rfl (by decide) rfl (by simp) ?_
      refine OL_u rfl (by decide) rfl (by simp) ?_
      refine OL_u rfl (by decide) rfl (by simp) ?_
      refine OL_u rfl (by decide) rfl (by simp) ?_
      refine OL_u rfl (by decide) rfl (by simp) ?_
      refine OL_u rfl (by decide) rfl (by simp) ?_
      refine OL_u rfl (by decide) rfl (by simp) ?_
      refine OL_u rfl (by decide) rfl (by simp) ?_
      refine OL_u rfl (by decide) rfl (by simp) ?_
      refine OL_u rfl (by decide) rfl (by simp) ?_
      refine OL_u rfl (by decide) rfl (by simp) ?_
      refine OL_u rfl (by decide) rfl (by simp) ?_
      refine OL_u rfl (by decide) rfl (by simp) ?_
      refine OL_u rfl (by decide) rfl (by simp) ?_
      refine OL_u rfl (by decide) rfl (by simp) ?_
      refine OL_u rfl (by decide) rfl (by simp) ?_
      refine OL_u rfl (by decide) rfl (by simp) ?_
      refine OL_u rfl (by decide) rfl (by simp) ?_
      refine OL_u rfl (by decide) rfl (by simp) ?_
      refine OL_s rfl (by decide) rfl rfl (by simp) ?_
      refine OL_y (y_pick (b := true) (v := .bool true) rfl rfl) (by decide) ?_
      refine OL_nil ?_
      refine W_condt rfl ?_
      refine W_exit ?_
      exact ⟨hti, htn, _, cs, vers, h0, h1, h2, h3, h8, h9, h16, rfl, hE, by omega, hv6, H.tail⟩
    · by_cases hbp : 0 < bits.length
      · have kp := H.keepsAll 4 rfl Z
        refine W_region ?_
        refine OL_y (y_fieldAddr ti39 rfl ti30 rfl rfl) (by decide) ?_
        refine OL_y (y_loadS (v := .slice al s.keys.length cl) ti30 rfl rfl (Cells.unit (H.getOwn 0 rfl) rfl)) (by decide) ?_
        refine OL_y (y_move h1) (by decide) ?_
        refine OL_c (op_call 22 en22 rfl [.slice al s.keys.length cl, .slice ak key.length ck] rfl (by decide) (((show Calls Try.prog 22 [_, _].toArray _ fun e w' => e = .returned (.bool true) ∧ Ext none' _ w' by have := f22_calls (hwl.keeps kp) (hk.keeps kp); rw [hh] at this; exact this)).mono ?_))
        rintro e w5_3 ⟨rfl, hE22⟩
        refine ⟨_, rfl, ?_⟩
        have H := H.ext0 hE22
        refine OL_y (y_not (b := true) rfl) (by decide) ?_
        refine OL_y (v := .bool false) (y_move rfl) (by decide) ?_
        refine OL_yg rfl (by decide) rfl (y_move h2) (by decide) ?_
        refine OL_yg rfl (by decide) rfl (y_len rfl ti46 rfl) (by decide) ?_
        refine OL_yg (v := .bool true) rfl (by decide) rfl (y_gtrT (by omega) rfl rfl) (by decide) ?_
        refine OL_yg (v := .bool true) rfl (by decide) rfl (y_move rfl) (by decide) ?_
        refine OL_yg rfl (by decide) rfl (y_move h2) (by decide) ?_
        refine OL_yg rfl (by decide) rfl (y_move h3) (by decide) ?_
        refine OL_yg rfl (by decide) rfl (y_mul64' (7 * i) rfl rfl rfl (by omega) (by omega)) (by decide) ?_
        refine OL_yg rfl (by decide) rfl (y_move rfl) (by decide) ?_
        refine OL_yg rfl (by decide) rfl (y_mul64' (3 * (k : Int)) rfl rfl rfl (by omega) (by omega)) (by decide) ?_
        refine OL_yg rfl (by decide) rfl (y_add64' (7 * i + 3 * (k : Int)) rfl rfl rfl (by omega) (by omega)) (by decide) ?_
        refine OL_yg rfl (by decide) rfl (y_move h1) (by decide) ?_
        refine OL_yg rfl (by decide) rfl (y_len rfl ti22 rfl) (by decide) ?_
        refine OL_yg rfl (by decide) rfl (y_add64' (7 * i + 3 * (k : Int) + key.length) rfl rfl rfl (by omega) (by omega)) (by decide) ?_
        refine OL_yg rfl (by decide) rfl (y_move h1) (by decide) ?_
        refine OL_g rfl (by decide) rfl (op_call 28 en28 rfl [.slice ak key.length ck] rfl (by decide) ((f28_calls (hk.keeps (H.keepsAll 4 rfl Z))).mono ?_))
        rintro e w5_20 ⟨xx, rfl, hxin, hE28⟩
        refine ⟨_, rfl, ?_⟩
        have H := H.ext0 hE28
        have hxr : 0 ≤ xx ∧ xx < 256 := u8_range hxin
        refine OL_yg rfl (by decide) rfl (y_conv xx (by kernel_rfl) Try.underlying3 rfl (wrap_i64 (by omega) (by omega))) (by decide) ?_
        refine OL_yg rfl (by decide) rfl (y_add64' (7 * i + 3 * (k : Int) + key.length + xx) rfl rfl rfl (by omega) (by omega)) (by decide) ?_
        refine OL_yg rfl (by decide) rfl (y_move h2) (by decide) ?_
        refine OL_yg rfl (by decide) rfl (y_len rfl ti46 rfl) (by decide) ?_
        refine OL_yg rfl (by decide) rfl (y_rem64 rfl rfl (by omega) (by omega)) (by decide) ?_
        obtain ⟨ix, hix⟩ : ∃ ix : Nat, (7 * i + 3 * (k : Int) + key.length + xx) % (bits.length : Int) = ix := ⟨_, (Int.toNat_of_nonneg (Int.emod_nonneg _ (by omega))).symm⟩
        have hixl : ix < bits.length := by have := Int.emod_lt_of_pos (7 * i + 3 * (k : Int) + key.length + xx) (show (0 : Int) < bits.length by omega); omega
        have hbx := List.getElem?_eq_getElem hixl
        obtain ⟨b2, o2, cs2, e2, hz2, hc2, hr2⟩ := hb.at hbx
        have hc2' := hc2.ext ((H.keepsAll 4 rfl Z).2 _ hz2 hc2.lt)
        obtain ⟨rfl, -⟩ := hr2
        refine OL_yg rfl (by decide) rfl (y_indexAddr (i := (ix : Int)) ti46 ti3 (congrArg (Value.slice · _ _) e2) (congrArg (Value.int .i64) hix) (by omega) (by omega)) (by decide) ?_
        refine OL_yg rfl (by decide) rfl (y_loadS (v := .int .i64 bits[ix]) ti3 rfl rfl hc2') (by decide) ?_
        refine OL_yg rfl (by decide) rfl (y_remT rfl rfl (by decide)) (by decide) ?_
        refine OL_yg rfl (by decide) rfl (y_neq rfl rfl) (by decide) ?_
        refine OL_yg rfl (by decide) rfl (y_pick (b := true) rfl rfl) (by decide) ?_
        refine OL_y (y_pick (b := false) rfl rfl) (by decide) ?_
        refine OL_nil ?_
        refine W_cond rfl (fun hc => ?_) (fun hc => ?_)
        · refine W_exit ?_
          exact ⟨hti, htn, _, cs, vers, h0, h1, h2, h3, h8, h9, h16, rfl, hE, by omega, hv6, H.tail⟩
        · refine W_skip ?_
          refine W_seq ?_
          refine W_region ?_
          refine OL_y (y_assign rfl) (by decide) ?_
          refine OL_nil ?_
          refine W_seq ?_
          refine W_block (W_loopN (fun g' F ds w' => ∃ j : Nat, g' + j = vers.length ∧ F 0 = .slice a0 xs.length c0 ∧ F 1 = .slice ak key.length ck ∧ F 2 = .slice ab bits.length cb ∧ F 3 = .int .i64 i ∧ F 8 = .pointer (some ⟨b8, 0, none⟩) ∧ F 9 = .pointer (some ⟨b9, 0, none⟩) ∧ F 11 = .pointer (some ⟨b11, 0, none⟩) ∧ F 16 = .slice a0 xs.length c0 ∧ F 18 = f 18 ∧ F 17 = f 17 ∧ F 12 = .int .i64 (j : Int) ∧ ds = [] ∧
              Holds w' [own b11 (.cells #[wk, .int .u64 s.ts, .int .u64 s.txn, .slice al s.keys.length cl] 39), row 32 5 (.slice av vers.length cv) vers.length cs, own b9 (.cells #[.slice ak key.length ck, .slice av vers.length cv, .int .u64 0, .int .u64 0, .bool false, .slice none 0 0, .slice none 0 0] 34), own b8 (.cells #[.slice none 0 0, .slice none 0 0, .int .u64 0, .int .u64 0, .bool false, .slice none 0 0, .slice none 0 0] 34), shr (fun k => k < w.heap.size) w])
              vers.length ⟨0, rfl, h0, h1, h2, h3, h8, h9, rfl, h16, rfl, rfl, rfl, rfl, H⟩
              ?_)
          rintro g' F ds w2 ⟨j, hgj, h0, h1, h2, h3, h8, h9, h11, h16, h18, h17, h12, rfl, H⟩
          refine W_seq ?_
          refine W_seq ?_
          by_cases hj : j < vers.length
          · refine W_drawQ H mixed (by kernel_rfl) (by kernel_rfl) fun wd7 H => ?_
            have hyj := List.getElem?_eq_getElem hj
            obtain ⟨b7, c7, cs7, e7, hc7, hr7⟩ := H.rowAt (T := tVer) (Z := Z) 1 rfl (hE.keeps (H.keepsAll 4 rfl Z)) hyj rfl
            generalize vers[j] = v at *
            obtain ⟨yv, yk, rfl, hy1, -⟩ := ver_cells.1 hr7
            refine QL_y (y_move h12) (by decide) ?_
            refine QL_y (y_fieldAddr ti34 rfl ti28 rfl h9) (by decide) ?_
            refine QL_y (y_loadS (v := .slice av vers.length cv) ti28 rfl rfl (Cells.unit (H.getOwn 2 rfl) rfl)) (by decide) ?_
            refine QL_y (y_len rfl ti28 rfl) (by decide) ?_
            refine QL_y (v := .bool true) (y_lssT (by omega) rfl rfl) (by decide) ?_
            refine QL_y (v := .bool true) (y_move rfl) (by decide) ?_
            refine QL_yg rfl (by decide) rfl (y_fieldAddr ti34 rfl ti28 rfl h9) (by decide) ?_
            refine QL_yg rfl (by decide) rfl (y_loadS (v := .slice av vers.length cv) ti28 rfl rfl (Cells.unit (H.getOwn 2 rfl) rfl)) (by decide) ?_
            refine QL_yg rfl (by decide) rfl (y_move h12) (by decide) ?_
            refine QL_yg rfl (by decide) rfl (y_indexAddr ti28 ti32 e7 rfl (by omega) (by omega)) (by decide) ?_
            refine QL_yg rfl (by decide) rfl (y_fieldAddr ti32 rfl ti29 rfl rfl) (by decide) ?_
            refine QL_yg rfl (by decide) rfl (y_loadS (v := .int .u64 v.ts) ti29 rfl rfl (hc7.take 0 rfl)) (by decide) ?_
            refine QL_yg rfl (by decide) rfl (y_fieldAddr ti39 rfl ti29 rfl h11) (by decide) ?_
            refine QL_yg rfl (by decide) rfl (y_loadS (v := .int .u64 s.ts) ti29 rfl rfl (Cells.unit (H.getOwn 0 rfl) rfl)) (by decide) ?_
            refine QL_yg rfl (by decide) rfl (y_gtr rfl rfl) (by decide) ?_
            refine QL_y (y_pick (b := true) rfl rfl) (by decide) ?_
            refine QL_nil ?_
            refine W_cond rfl (fun hc => ?_) (fun hc => ?_)
            · refine W_skip ?_
              refine W_block ?_
              refine W_region ?_
              refine OL_y (y_move h12) (by decide) ?_
              refine OL_y (y_add64' ((j + 1 : Nat) : Int) rfl rfl (by omega) (by omega) (by omega)) (by decide) ?_
              refine OL_y (y_assign rfl) (by decide) ?_
              refine OL_nil ?_
              exact ⟨g' - 1, by omega, j + 1, by omega, h0, h1, h2, h3, h8, h9, h11, h16, h18, h17, rfl, rfl, H⟩
            · refine W_exit ?_
              refine W_seq ?_
              have hjl : j ≤ vers.length := by omega
              refine W_region ?_
              refine OL_y (y_fieldAddr ti39 rfl ti29 rfl h11) (by decide) ?_
              refine OL_y (y_loadS (v := .int .u64 s.ts) ti29 rfl rfl (Cells.unit (H.getOwn 0 rfl) rfl)) (by decide) ?_
              refine OL_y (y_fieldAddr ti39 rfl ti29 rfl h11) (by decide) ?_
              refine OL_y (y_loadS (v := .int .u64 s.txn) ti29 rfl rfl (Cells.unit (H.getOwn 0 rfl) rfl)) (by decide) ?_
              refine OL_y (y_fieldAddr ti39 rfl ti30 rfl h11) (by decide) ?_
              refine OL_y (y_loadS (v := .slice al s.keys.length cl) ti30 rfl rfl (Cells.unit (H.getOwn 0 rfl) rfl)) (by decide) ?_
              refine OL_y (v := .agg #[.int .u64 s.ts, .int .u64 s.txn, .bool false, .slice none 0 0, .slice al s.keys.length cl]) (y_build ti32 pl32 rfl) (by decide) ?_
              refine OL_var (v := .agg #[.int .u64 s.ts, .int .u64 s.txn, .bool false, .slice none 0 0, .slice al s.keys.length cl]) H ti32 rfl (by decide) (fun _ => rfl) rfl (by simp [Value.cells, Value.oneCell']) fun b13 w9_7 H => ?_
              refine OL_nil ?_
              refine W_drawD H mixed (by kernel_rfl) [14] (fun w0 w' => w'.heap[b9]? = some (.cells #[.slice ak key.length ck, .slice av vers.length cv, .int .u64 0, .int .u64 0, .bool false, .slice none 0 0, .slice none 0 0] 34) ∧ w'.heap[b13]? = some (.cells #[.int .u64 s.ts, .int .u64 s.txn, .bool false, .slice none 0 0, .slice al s.keys.length cl] 32)) fun wd10 H hEd => ?_
              have hS : Sx [14] (fun w' => w'.heap[b9]? = some (.cells #[.slice ak key.length ck, .slice av vers.length cv, .int .u64 0, .int .u64 0, .bool false, .slice none 0 0, .slice none 0 0] 34) ∧ w'.heap[b13]? = some (.cells #[.int .u64 s.ts, .int .u64 s.txn, .bool false, .slice none 0 0, .slice al s.keys.length cl] 32)) (List.replicate 15 false).toArray wd10 := fun _ => ⟨H.getOwn 3 rfl, H.getOwn 0 rfl⟩
              have hcl := hE.1
              have hdl : (cs.drop (j * 5)).length = (vers.length - j) * 5 := by rw [List.length_drop, hcl]; show vers.length * 5 - j * 5 = _; omega
              have htl : (cs.take (j * 5)).length = j * 5 := by rw [List.length_take, hcl]; show min (j * 5) (vers.length * 5) = _; omega
              have hEt : Els tVer Z w (cs.take (j * 5)) (vers.take j) := hE.take j hjl
              have hEd : Els tVer Z w (cs.drop (j * 5)) (vers.drop j) := hE.drop j hjl
              have hnv : tVer.R Z w [.int .u64 s.ts, .int .u64 s.txn, .bool false, .slice none 0 0, .slice al s.keys.length cl] ⟨s.ts, s.txn, false, [], s.keys⟩ := ver_cells.2 ⟨_, _, rfl, hs1, hs2, SlR.nil _ _ _ _, hwl⟩
              have hEn : Els tVer Z w (cs.take (j * 5) ++ ([.int .u64 s.ts, .int .u64 s.txn, .bool false, .slice none 0 0, .slice al s.keys.length cl] ++ cs.drop (j * 5))) (vers.take j ++ ([⟨s.ts, s.txn, false, [], s.keys⟩] ++ vers.drop j)) := hEt.append (((Els.nil tVer Z w).snoc hnv).append hEd)
              have hnew1 : ∀ u ∈ [Value.int .u64 s.ts, .int .u64 s.txn, .bool false, .slice none 0 0, .slice al s.keys.length cl] ++ cs.drop (j * 5), u.oneCell' = true := by
                intro u hu
                rcases List.mem_append.1 hu with hu | hu
                · simp only [List.mem_cons, List.not_mem_nil, or_false] at hu; rcases hu with rfl | rfl | rfl | rfl | rfl <;> rfl
                · exact hE.one (by decide) u (List.mem_of_mem_drop hu)
              refine DA_p 0 rfl (by kernel_rfl) rfl (fun _ => y_fieldAddr ti34 rfl ti28 rfl h9) hS (by decide) fun hS => ?_
              refine DA_y 1 rfl (by kernel_rfl) rfl (by kernel_rfl) (fun w' h => y_loadS (v := .slice av vers.length cv) ti28 rfl rfl (Cells.unit h.1 rfl)) hS (by decide) fun hS => ?_
              refine DA_p 2 rfl (by kernel_rfl) rfl (fun _ => y_move h12) hS (by decide) fun hS => ?_
              refine DA_p 3 rfl (by kernel_rfl) rfl (fun _ => y_move h12) hS (by decide) fun hS => ?_
              refine DA_p 4 rfl (by kernel_rfl) rfl (fun _ => y_sliceHM ti28 ti32 rfl rfl rfl (by omega) (by omega) (by omega)) hS (by decide) fun hS => ?_
              refine DA_y 5 rfl (by kernel_rfl) rfl (by kernel_rfl) (fun w' h => y_loadA (cs := [.int .u64 s.ts, .int .u64 s.txn, .bool false, .slice none 0 0, .slice al s.keys.length cl]) ti32 rfl rfl (Cells.of h.2 rfl) rfl) hS (by decide) fun hS => ?_
              refine DA_p 7 rfl (by kernel_rfl) rfl (fun _ => y_fieldAddr ti34 rfl ti28 rfl h9) hS (by decide) fun hS => ?_
              refine DA_y 8 rfl (by kernel_rfl) rfl (by kernel_rfl) (fun w' h => y_loadS (v := .slice av vers.length cv) ti28 rfl rfl (Cells.unit h.1 rfl)) hS (by decide) fun hS => ?_
              refine DA_p 9 rfl (by kernel_rfl) rfl (fun _ => y_move h12) hS (by decide) fun hS => ?_
              refine DA_p 10 rfl (by kernel_rfl) rfl (fun _ => y_sliceL ti28 ti32 rfl rfl (by omega) (by omega)) hS (by decide) fun hS => ?_
              refine DA_one 6 (by kernel_rfl) rfl (op_buildSlice H [.agg #[.int .u64 s.ts, .int .u64 s.txn, .bool false, .slice none 0 0, .slice al s.keys.length cl]] ti28 ti32 rfl rfl rfl (by simp [Value.cells]) rfl rfl (by decide) fun b86 w10_6 H => ⟨fun _ => ⟨H.getOwn 4 rfl, H.getOwn 1 rfl⟩, ?_⟩)
              refine DA_one 11 (by kernel_rfl) rfl (op_append (news := cs.drop (j * 5)) H 0 rfl rfl ti28 ti32 rfl rfl rfl rfl (Src.dropRow (H.getRow 3 rfl) j hjl) hdl (fun u hu => hE.one (by decide) u (List.mem_of_mem_drop hu)) (by omega) (by simp [maxLen]; omega) (by decide) fun v91 w10_11 H => ⟨fun _ => ⟨H.getOwn 4 rfl, H.getOwn 1 rfl⟩, ?_⟩)
              refine DA_one 12 (by kernel_rfl) rfl (op_appendNew H rfl rfl ti28 ti32 rfl rfl rfl rfl ⟨_, rfl⟩ (Src.takeRow (H.getRow 3 rfl) j hjl) htl (Src.row (H.getRow 0 rfl)) (by rw [List.length_append, hdl]; show 5 + _ = _; omega) hnew1 (by omega) (by omega) (by simp [maxLen]; omega) (by decide) fun v92 w10_12 H => ⟨fun _ => ⟨H.getOwn 5 rfl, H.getOwn 2 rfl⟩, ?_⟩)
              obtain ⟨a92, c92, rfl, hl92, hm92⟩ := H.rowLen 0 rfl
              refine DA_p 13 rfl (by kernel_rfl) rfl (fun _ => y_fieldAddr ti34 rfl ti28 rfl h9) (fun _ => ⟨H.getOwn 5 rfl, H.getOwn 2 rfl⟩) (by decide) fun _ => ?_
              refine DA_one 14 (by kernel_rfl) rfl (op_store (v := .slice a92 (j + (1 + (vers.length - j))) c92) H 5 rfl ti28 rfl rfl rfl (Nat.le_of_ble_eq_true rfl) (by simp [Value.cells, Value.oneCell']) fun w10_14 H => ⟨fun h => absurd (h 14 (by simp)) (by decide), ?_⟩)
              refine DA_done (by kernel_rfl) ?_
              have hl2 : (vers.take j ++ ([(⟨s.ts, s.txn, false, [], s.keys⟩ : Ver)] ++ vers.drop j)).length = j + (1 + (vers.length - j)) := by simp only [List.length_append, List.length_take, List.length_drop, List.length_cons, List.length_nil]; omega
              have h18' := h18.trans hti
              have h17' := h17.trans htn
              refine ⟨h18', h17', .slice a92 (j + (1 + (vers.length - j))) c92, _, vers.take j ++ ([⟨s.ts, s.txn, false, [], s.keys⟩] ++ vers.drop j), h0, h1, h2, h3, h8, h9, h16, rfl, hEn, by rw [hl2]; omega, ?_, ?_⟩
              · intro v hv
                rcases List.mem_append.1 hv with h | h
                · exact hv6 v (List.mem_of_mem_take h)
                · rcases List.mem_append.1 h with h | h
                  · rw [List.mem_singleton.1 h]; exact hs6
                  · exact hv6 v (List.mem_of_mem_drop h)
              · rw [hl2]
                exact H.sub (.cons_cons _ (.cons _ (.cons _ (.cons _ (.cons _ (.cons_cons _ (.cons_cons _ (.cons_cons _ .slnil))))))))
          · refine W_drawQ H mixed (by kernel_rfl) (by kernel_rfl) fun wd7 H => ?_
            refine QL_y (y_move h12) (by decide) ?_
            refine QL_y (y_fieldAddr ti34 rfl ti28 rfl h9) (by decide) ?_
            refine QL_y (y_loadS (v := .slice av vers.length cv) ti28 rfl rfl (Cells.unit (H.getOwn 2 rfl) rfl)) (by decide) ?_
            refine QL_y (y_len rfl ti28 rfl) (by decide) ?_
            refine QL_y (v := .bool false) (y_lssF (by omega) rfl rfl) (by decide) ?_
            refine QL_y (v := .bool false) (y_move rfl) (by decide) ?_
            refine QL_s rfl (by decide) rfl rfl (by simp) ?_
            refine QL_s rfl (by decide) rfl rfl (by simp) ?_
            refine QL_s rfl (by decide) rfl rfl (by simp) ?_
            refine QL_s rfl (by decide) rfl rfl (by simp) ?_
            refine QL_s rfl (by decide) rfl rfl (by simp) ?_
            refine QL_s rfl (by decide) rfl rfl (by simp) ?_
            refine QL_s rfl (by decide) rfl rfl (by simp) ?_
            refine QL_s rfl (by decide) rfl rfl (by simp) ?_
            refine QL_s rfl (by decide) rfl rfl (by simp) ?_
            refine QL_y (y_pick (b := false) (v := .bool false) rfl rfl) (by decide) ?_
            refine QL_nil ?_
            refine W_condf rfl ?_
            refine W_exit ?_
            refine W_seq ?_
            have hjl : j ≤ vers.length := by omega
            refine W_region ?_
            refine OL_y (y_fieldAddr ti39 rfl ti29 rfl h11) (by decide) ?_
            refine OL_y (y_loadS (v := .int .u64 s.ts) ti29 rfl rfl (Cells.unit (H.getOwn 0 rfl) rfl)) (by decide) ?_
            refine OL_y (y_fieldAddr ti39 rfl ti29 rfl h11) (by decide) ?_
            refine OL_y (y_loadS (v := .int .u64 s.txn) ti29 rfl rfl (Cells.unit (H.getOwn 0 rfl) rfl)) (by decide) ?_
            refine OL_y (y_fieldAddr ti39 rfl ti30 rfl h11) (by decide) ?_
            refine OL_y (y_loadS (v := .slice al s.keys.length cl) ti30 rfl rfl (Cells.unit (H.getOwn 0 rfl) rfl)) (by decide) ?_
            refine OL_y (v := .agg #[.int .u64 s.ts, .int .u64 s.txn, .bool false, .slice none 0 0, .slice al s.keys.length cl]) (y_build ti32 pl32 rfl) (by decide) ?_
            refine OL_var (v := .agg #[.int .u64 s.ts, .int .u64 s.txn, .bool false, .slice none 0 0, .slice al s.keys.length cl]) H ti32 rfl (by decide) (fun _ => rfl) rfl (by simp [Value.cells, Value.oneCell']) fun b13 w9_7 H => ?_
            refine OL_nil ?_
            refine W_drawD H mixed (by kernel_rfl) [14] (fun w0 w' => w'.heap[b9]? = some (.cells #[.slice ak key.length ck, .slice av vers.length cv, .int .u64 0, .int .u64 0, .bool false, .slice none 0 0, .slice none 0 0] 34) ∧ w'.heap[b13]? = some (.cells #[.int .u64 s.ts, .int .u64 s.txn, .bool false, .slice none 0 0, .slice al s.keys.length cl] 32)) fun wd10 H hEd => ?_
            have hS : Sx [14] (fun w' => w'.heap[b9]? = some (.cells #[.slice ak key.length ck, .slice av vers.length cv, .int .u64 0, .int .u64 0, .bool false, .slice none 0 0, .slice none 0 0] 34) ∧ w'.heap[b13]? = some (.cells #[.int .u64 s.ts, .int .u64 s.txn, .bool false, .slice none 0 0, .slice al s.keys.length cl] 32)) (List.replicate 15 false).toArray wd10 := fun _ => ⟨H.getOwn 3 rfl, H.getOwn 0 rfl⟩
            have hcl := hE.1
            have hdl : (cs.drop (j * 5)).length = (vers.length - j) * 5 := by rw [List.length_drop, hcl]; show vers.length * 5 - j * 5 = _; omega
            have htl : (cs.take (j * 5)).length = j * 5 := by rw [List.length_take, hcl]; show min (j * 5) (vers.length * 5) = _; omega
            have hEt : Els tVer Z w (cs.take (j * 5)) (vers.take j) := hE.take j hjl
            have hEd : Els tVer Z w (cs.drop (j * 5)) (vers.drop j) := hE.drop j hjl
            have hnv : tVer.R Z w [.int .u64 s.ts, .int .u64 s.txn, .bool false, .slice none 0 0, .slice al s.keys.length cl] ⟨s.ts, s.txn, false, [], s.keys⟩ := ver_cells.2 ⟨_, _, rfl, hs1, hs2, SlR.nil _ _ _ _, hwl⟩
            have hEn : Els tVer Z w (cs.take (j * 5) ++ ([.int .u64 s.ts, .int .u64 s.txn, .bool false, .slice none 0 0, .slice al s.keys.length cl] ++ cs.drop (j * 5))) (vers.take j ++ ([⟨s.ts, s.txn, false, [], s.keys⟩] ++ vers.drop j)) := hEt.append (((Els.nil tVer Z w).snoc hnv).append hEd)
            have hnew1 : ∀ u ∈ [Value.int .u64 s.ts, .int .u64 s.txn, .bool false, .slice none 0 0, .slice al s.keys.length cl] ++ cs.drop (j * 5), u.oneCell' = true := by
              intro u hu
              rcases List.mem_append.1 hu with hu | hu
              · simp only [List.mem_cons, List.not_mem_nil, or_false] at hu; rcases hu with rfl | rfl | rfl | rfl | rfl <;> rfl
              · exact hE.one (by decide) u (List.mem_of_mem_drop hu)
            refine DA_p 0 rfl (by kernel_rfl) rfl (fun _ => y_fieldAddr ti34 rfl ti28 rfl h9) hS (by decide) fun hS => ?_
            refine DA_y 1 rfl (by kernel_rfl) rfl (by kernel_rfl) (fun w' h => y_loadS (v := .slice av vers.length cv) ti28 rfl rfl (Cells.unit h.1 rfl)) hS (by decide) fun hS => ?_
            refine DA_p 2 rfl (by kernel_rfl) rfl (fun _ => y_move h12) hS (by decide) fun hS => ?_
            refine DA_p 3 rfl (by kernel_rfl) rfl (fun _ => y_move h12) hS (by decide) fun hS => ?_
            refine DA_p 4 rfl (by kernel_rfl) rfl (fun _ => y_sliceHM ti28 ti32 rfl rfl rfl (by omega) (by omega) (by omega)) hS (by decide) fun hS => ?_
            refine DA_y 5 rfl (by kernel_rfl) rfl (by kernel_rfl) (fun w' h => y_loadA (cs := [.int .u64 s.ts, .int .u64 s.txn, .bool false, .slice none 0 0, .slice al s.keys.length cl]) ti32 rfl rfl (Cells.of h.2 rfl) rfl) hS (by decide) fun hS => ?_
            refine DA_p 7 rfl (by kernel_rfl) rfl (fun _ => y_fieldAddr ti34 rfl ti28 rfl h9) hS (by decide) fun hS => ?_
            refine DA_y 8 rfl (by kernel_rfl) rfl (by kernel_rfl) (fun w' h => y_loadS (v := .slice av vers.length cv) ti28 rfl rfl (Cells.unit h.1 rfl)) hS (by decide) fun hS => ?_
            refine DA_p 9 rfl (by kernel_rfl) rfl (fun _ => y_move h12) hS (by decide) fun hS => ?_
            refine DA_p 10 rfl (by kernel_rfl) rfl (fun _ => y_sliceL ti28 ti32 rfl rfl (by omega) (by omega)) hS (by decide) fun hS => ?_
            refine DA_one 6 (by kernel_rfl) rfl (op_buildSlice H [.agg #[.int .u64 s.ts, .int .u64 s.txn, .bool false, .slice none 0 0, .slice al s.keys.length cl]] ti28 ti32 rfl rfl rfl (by simp [Value.cells]) rfl rfl (by decide) fun b86 w10_6 H => ⟨fun _ => ⟨H.getOwn 4 rfl, H.getOwn 1 rfl⟩, ?_⟩)
            refine DA_one 11 (by kernel_rfl) rfl (op_append (news := cs.drop (j * 5)) H 0 rfl rfl ti28 ti32 rfl rfl rfl rfl (Src.dropRow (H.getRow 3 rfl) j hjl) hdl (fun u hu => hE.one (by decide) u (List.mem_of_mem_drop hu)) (by omega) (by simp [maxLen]; omega) (by decide) fun v91 w10_11 H => ⟨fun _ => ⟨H.getOwn 4 rfl, H.getOwn 1 rfl⟩, ?_⟩)
            refine DA_one 12 (by kernel_rfl) rfl (op_appendNew H rfl rfl ti28 ti32 rfl rfl rfl rfl ⟨_, rfl⟩ (Src.takeRow (H.getRow 3 rfl) j hjl) htl (Src.row (H.getRow 0 rfl)) (by rw [List.length_append, hdl]; show 5 + _ = _; omega) hnew1 (by omega) (by omega) (by simp [maxLen]; omega) (by decide) fun v92 w10_12 H => ⟨fun _ => ⟨H.getOwn 5 rfl, H.getOwn 2 rfl⟩, ?_⟩)
            obtain ⟨a92, c92, rfl, hl92, hm92⟩ := H.rowLen 0 rfl
            refine DA_p 13 rfl (by kernel_rfl) rfl (fun _ => y_fieldAddr ti34 rfl ti28 rfl h9) (fun _ => ⟨H.getOwn 5 rfl, H.getOwn 2 rfl⟩) (by decide) fun _ => ?_
            refine DA_one 14 (by kernel_rfl) rfl (op_store (v := .slice a92 (j + (1 + (vers.length - j))) c92) H 5 rfl ti28 rfl rfl rfl (Nat.le_of_ble_eq_true rfl) (by simp [Value.cells, Value.oneCell']) fun w10_14 H => ⟨fun h => absurd (h 14 (by simp)) (by decide), ?_⟩)
            refine DA_done (by kernel_rfl) ?_
            have hl2 : (vers.take j ++ ([(⟨s.ts, s.txn, false, [], s.keys⟩ : Ver)] ++ vers.drop j)).length = j + (1 + (vers.length - j)) := by simp only [List.length_append, List.length_take, List.length_drop, List.length_cons, List.length_nil]; omega
            have h18' := h18.trans hti
            have h17' := h17.trans htn
            refine ⟨h18', h17', .slice a92 (j + (1 + (vers.length - j))) c92, _, vers.take j ++ ([⟨s.ts, s.txn, false, [], s.keys⟩] ++ vers.drop j), h0, h1, h2, h3, h8, h9, h16, rfl, hEn, by rw [hl2]; omega, ?_, ?_⟩
            · intro v hv
              rcases List.mem_append.1 hv with h | h
              · exact hv6 v (List.mem_of_mem_take h)
              · rcases List.mem_append.1 h with h | h
                · rw [List.mem_singleton.1 h]; exact hs6
                · exact hv6 v (List.mem_of_mem_drop h)
            · rw [hl2]
              exact H.sub (.cons_cons _ (.cons _ (.cons _ (.cons _ (.cons _ (.cons_cons _ (.cons_cons _ (.cons_cons _ .slnil))))))))
      · have kp := H.keepsAll 4 rfl Z
        refine W_region ?_
        refine OL_y (y_fieldAddr ti39 rfl ti30 rfl rfl) (by decide) ?_
        refine OL_y (y_loadS (v := .slice al s.keys.length cl) ti30 rfl rfl (Cells.unit (H.getOwn 0 rfl) rfl)) (by decide) ?_
        refine OL_y (y_move h1) (by decide) ?_
        refine OL_c (op_call 22 en22 rfl [.slice al s.keys.length cl, .slice ak key.length ck] rfl (by decide) (((show Calls Try.prog 22 [_, _].toArray _ fun e w' => e = .returned (.bool true) ∧ Ext none' _ w' by have := f22_calls (hwl.keeps kp) (hk.keeps kp); rw [hh] at this; exact this)).mono ?_))
        rintro e w5_3 ⟨rfl, hE22⟩
        refine ⟨_, rfl, ?_⟩
        have H := H.ext0 hE22
        refine OL_y (y_not (b := true) rfl) (by decide) ?_
        refine OL_y (v := .bool false) (y_move rfl) (by decide) ?_
        refine OL_yg rfl (by decide) rfl (y_move h2) (by decide) ?_
        refine OL_yg rfl (by decide) rfl (y_len rfl ti46 rfl) (by decide) ?_
        refine OL_yg (v := .bool false) rfl (by decide) rfl (y_gtrF (by omega) rfl rfl) (by decide) ?_
        refine OL_yg (v := .bool false) rfl (by decide) rfl (y_move rfl) (by decide) ?_
        refine OL_s rfl (by decide) rfl rfl (by simp) ?_
        refine OL_s rfl (by decide) rfl rfl (by simp) ?_
        refine OL_s rfl (by decide) rfl rfl (by simp) ?_
        refine OL_s rfl (by decide) rfl rfl (by simp) ?_
        refine OL_s rfl (by decide) rfl rfl (by simp) ?_
        refine OL_s rfl (by decide) rfl rfl (by simp) ?_
        refine OL_s rfl (by decide) rfl rfl (by simp) ?_
        refine OL_s rfl (by decide) rfl rfl (by simp) ?_
        refine OL_s rfl (by decide) rfl rfl (by simp) ?_
        refine OL_s rfl (by decide) rfl rfl (by simp) ?_
        refine OL_s rfl (by decide) rfl rfl (by simp) ?_
        refine OL_s rfl (by decide) rfl rfl (by simp) ?_
        refine OL_s rfl (by decide) rfl rfl (by simp) ?_
        refine OL_s rfl (by decide) rfl rfl (by simp) ?_
        refine OL_s rfl (by decide) rfl rfl (by simp) ?_
        refine OL_s rfl (by decide) rfl rfl (by simp) ?_
        refine OL_s rfl (by decide) rfl rfl (by simp) ?_
        refine OL_s rfl (by decide) rfl rfl (by simp) ?_
        refine OL_s rfl (by decide) rfl rfl (by simp) ?_
        refine OL_s rfl (by decide) rfl rfl (by simp) ?_
        refine OL_yg rfl (by decide) rfl (y_pick (b := false) (v := .bool false) rfl rfl) (by decide) ?_
        refine OL_y (y_pick (b := false) (v := .bool false) rfl rfl) (by decide) ?_
        refine OL_nil ?_
        refine W_condf rfl ?_
        refine W_skip ?_
        refine W_seq ?_
        refine W_region ?_
        refine OL_y (y_assign rfl) (by decide) ?_
        refine OL_nil ?_
        refine W_seq ?_
        refine W_block (W_loopN (fun g' F ds w' => ∃ j : Nat, g' + j = vers.length ∧ F 0 = .slice a0 xs.length c0 ∧ F 1 = .slice ak key.length ck ∧ F 2 = .slice ab bits.length cb ∧ F 3 = .int .i64 i ∧ F 8 = .pointer (some ⟨b8, 0, none⟩) ∧ F 9 = .pointer (some ⟨b9, 0, none⟩) ∧ F 11 = .pointer (some ⟨b11, 0, none⟩) ∧ F 16 = .slice a0 xs.length c0 ∧ F 18 = f 18 ∧ F 17 = f 17 ∧ F 12 = .int .i64 (j : Int) ∧ ds = [] ∧
            Holds w' [own b11 (.cells #[wk, .int .u64 s.ts, .int .u64 s.txn, .slice al s.keys.length cl] 39), row 32 5 (.slice av vers.length cv) vers.length cs, own b9 (.cells #[.slice ak key.length ck, .slice av vers.length cv, .int .u64 0, .int .u64 0, .bool false, .slice none 0 0, .slice none 0 0] 34), own b8 (.cells #[.slice none 0 0, .slice none 0 0, .int .u64 0, .int .u64 0, .bool false, .slice none 0 0, .slice none 0 0] 34), shr (fun k => k < w.heap.size) w])
            vers.length ⟨0, rfl, h0, h1, h2, h3, h8, h9, rfl, h16, rfl, rfl, rfl, rfl, H⟩
            ?_)
        rintro g' F ds w2 ⟨j, hgj, h0, h1, h2, h3, h8, h9, h11, h16, h18, h17, h12, rfl, H⟩
        refine W_seq ?_
        refine W_seq ?_
        by_cases hj : j < vers.length
        · refine W_drawQ H mixed (by kernel_rfl) (by kernel_rfl) fun wd7 H => ?_
          have hyj := List.getElem?_eq_getElem hj
          obtain ⟨b7, c7, cs7, e7, hc7, hr7⟩ := H.rowAt (T := tVer) (Z := Z) 1 rfl (hE.keeps (H.keepsAll 4 rfl Z)) hyj rfl
          generalize vers[j] = v at *
          obtain ⟨yv, yk, rfl, hy1, -⟩ := ver_cells.1 hr7
          refine QL_y (y_move h12) (by decide) ?_
          refine QL_y (y_fieldAddr ti34 rfl ti28 rfl h9) (by decide) ?_
          refine QL_y (y_loadS (v := .slice av vers.length cv) ti28 rfl rfl (Cells.unit (H.getOwn 2 rfl) rfl)) (by decide) ?_
          refine QL_y (y_len rfl ti28 rfl) (by decide) ?_
          refine QL_y (v := .bool true) (y_lssT (by omega) rfl rfl) (by decide) ?_
          refine QL_y (v := .bool true) (y_move rfl) (by decide) ?_
          refine QL_yg rfl (by decide) rfl (y_fieldAddr ti34 rfl ti28 rfl h9) (by decide) ?_
          refine QL_yg rfl (by decide) rfl (y_loadS (v := .slice av vers.length cv) ti28 rfl rfl (Cells.unit (H.getOwn 2 rfl) rfl)) (by decide) ?_
          refine QL_yg rfl (by decide) rfl (y_move h12) (by decide) ?_
          refine QL_yg rfl (by decide) rfl (y_indexAddr ti28 ti32 e7 rfl (by omega) (by omega)) (by decide) ?_
          refine QL_yg rfl (by decide) rfl (y_fieldAddr ti32 rfl ti29 rfl rfl) (by decide) ?_
          refine QL_yg rfl (by decide) rfl (y_loadS (v := .int .u64 v.ts) ti29 rfl rfl (hc7.take 0 rfl)) (by decide) ?_
          refine QL_yg rfl (by decide) rfl (y_fieldAddr ti39 rfl ti29 rfl h11) (by decide) ?_
          refine QL_yg rfl (by decide) rfl (y_loadS (v := .int .u64 s.ts) ti29 rfl rfl (Cells.unit (H.getOwn 0 rfl) rfl)) (by decide) ?_
          refine QL_yg rfl (by decide) rfl (y_gtr rfl rfl) (by decide) ?_
          refine QL_y (y_pick (b := true) rfl rfl) (by decide) ?_
          refine QL_nil ?_
          refine W_cond rfl (fun hc => ?_) (fun hc => ?_)
          · refine W_skip ?_
            refine W_block ?_
            refine W_region ?_
            refine OL_y (y_move h12) (by decide) ?_
            refine OL_y (y_add64' ((j + 1 : Nat) : Int) rfl rfl (by omega) (by omega) (by omega)) (by decide) ?_
            refine OL_y (y_assign rfl) (by decide) ?_
            refine OL_nil ?_
            exact ⟨g' - 1, by omega, j + 1, by omega, h0, h1, h2, h3, h8, h9, h11, h16, h18, h17, rfl, rfl, H⟩
          · refine W_exit ?_
            refine W_seq ?_
            have hjl : j ≤ vers.length := by omega
            refine W_region ?_
            refine OL_y (y_fieldAddr ti39 rfl ti29 rfl h11) (by decide) ?_
            refine OL_y (y_loadS (v := .int .u64 s.ts) ti29 rfl rfl (Cells.unit (H.getOwn 0 rfl) rfl)) (by decide) ?_
            refine OL_y (y_fieldAddr ti39 rfl ti29 rfl h11) (by decide) ?_
            refine OL_y (y_loadS (v := .int .u64 s.txn) ti29 rfl rfl (Cells.unit (H.getOwn 0 rfl) rfl)) (by decide) ?_
            refine OL_y (y_fieldAddr ti39 rfl ti30 rfl h11) (by decide) ?_
            refine OL_y (y_loadS (v := .slice al s.keys.length cl) ti30 rfl rfl (Cells.unit (H.getOwn 0 rfl) rfl)) (by decide) ?_
            refine OL_y (v := .agg #[.int .u64 s.ts, .int .u64 s.txn, .bool false, .slice none 0 0, .slice al s.keys.length cl]) (y_build ti32 pl32 rfl) (by decide) ?_
            refine OL_var (v := .agg #[.int .u64 s.ts, .int .u64 s.txn, .bool false, .slice none 0 0, .slice al s.keys.length cl]) H ti32 rfl (by decide) (fun _ => rfl) rfl (by simp [Value.cells, Value.oneCell']) fun b13 w9_7 H => ?_
            refine OL_nil ?_
            refine W_drawD H mixed (by kernel_rfl) [14] (fun w0 w' => w'.heap[b9]? = some (.cells #[.slice ak key.length ck, .slice av vers.length cv, .int .u64 0, .int .u64 0, .bool false, .slice none 0 0, .slice none 0 0] 34) ∧ w'.heap[b13]? = some (.cells #[.int .u64 s.ts, .int .u64 s.txn, .bool false, .slice none 0 0, .slice al s.keys.length cl] 32)) fun wd10 H hEd => ?_
            have hS : Sx [14] (fun w' => w'.heap[b9]? = some (.cells #[.slice ak key.length ck, .slice av vers.length cv, .int .u64 0, .int .u64 0, .bool false, .slice none 0 0, .slice none 0 0] 34) ∧ w'.heap[b13]? = some (.cells #[.int .u64 s.ts, .int .u64 s.txn, .bool false, .slice none 0 0, .slice al s.keys.length cl] 32)) (List.replicate 15 false).toArray wd10 := fun _ => ⟨H.getOwn 3 rfl, H.getOwn 0 rfl⟩
            have hcl := hE.1
            have hdl : (cs.drop (j * 5)).length = (vers.length - j) * 5 := by rw [List.length_drop, hcl]; show vers.length * 5 - j * 5 = _; omega
            have htl : (cs.take (j * 5)).length = j * 5 := by rw [List.length_take, hcl]; show min (j * 5) (vers.length * 5) = _; omega
            have hEt : Els tVer Z w (cs.take (j * 5)) (vers.take j) := hE.take j hjl
            have hEd : Els tVer Z w (cs.drop (j * 5)) (vers.drop j) := hE.drop j hjl
            have hnv : tVer.R Z w [.int .u64 s.ts, .int .u64 s.txn, .bool false, .slice none 0 0, .slice al s.keys.length cl] ⟨s.ts, s.txn, false, [], s.keys⟩ := ver_cells.2 ⟨_, _, rfl, hs1, hs2, SlR.nil _ _ _ _, hwl⟩
            have hEn : Els tVer Z w (cs.take (j * 5) ++ ([.int .u64 s.ts, .int .u64 s.txn, .bool false, .slice none 0 0, .slice al s.keys.length cl] ++ cs.drop (j * 5))) (vers.take j ++ ([⟨s.ts, s.txn, false, [], s.keys⟩] ++ vers.drop j)) := hEt.append (((Els.nil tVer Z w).snoc hnv).append hEd)
            have hnew1 : ∀ u ∈ [Value.int .u64 s.ts, .int .u64 s.txn, .bool false, .slice none 0 0, .slice al s.keys.length cl] ++ cs.drop (j * 5), u.oneCell' = true := by
              intro u hu
              rcases List.mem_append.1 hu with hu | hu
              · simp only [List.mem_cons, List.not_mem_nil, or_false] at hu; rcases hu with rfl | rfl | rfl | rfl | rfl <;> rfl
              · exact hE.one (by decide) u (List.mem_of_mem_drop hu)
            refine DA_p 0 rfl (by kernel_rfl) rfl (fun _ => y_fieldAddr ti34 rfl ti28 rfl h9) hS (by decide) fun hS => ?_
            refine DA_y 1 rfl (by kernel_rfl) rfl (by kernel_rfl) (fun w' h => y_loadS (v := .slice av vers.length cv) ti28 rfl rfl (Cells.unit h.1 rfl)) hS (by decide) fun hS => ?_
            refine DA_p 2 rfl (by kernel_rfl) rfl (fun _ => y_move h12) hS (by decide) fun hS => ?_
            refine DA_p 3 rfl (by kernel_rfl) rfl (fun _ => y_move h12) hS (by decide) fun hS => ?_
            refine DA_p 4 rfl (by kernel_rfl) rfl (fun _ => y_sliceHM ti28 ti32 rfl rfl rfl (by omega) (by omega) (by omega)) hS (by decide) fun hS => ?_
            refine DA_y 5 rfl (by kernel_rfl) rfl (by kernel_rfl) (fun w' h => y_loadA (cs := [.int .u64 s.ts, .int .u64 s.txn, .bool false, .slice none 0 0, .slice al s.keys.length cl]) ti32 rfl rfl (Cells.of h.2 rfl) rfl) hS (by decide) fun hS => ?_
            refine DA_p 7 rfl (by kernel_rfl) rfl (fun _ => y_fieldAddr ti34 rfl ti28 rfl h9) hS (by decide) fun hS => ?_
            refine DA_y 8 rfl (by kernel_rfl) rfl (by kernel_rfl) (fun w' h => y_loadS (v := .slice av vers.length cv) ti28 rfl rfl (Cells.unit h.1 rfl)) hS (by decide) fun hS => ?_
            refine DA_p 9 rfl (by kernel_rfl) rfl (fun _ => y_move h12) hS (by decide) fun hS => ?_
            refine DA_p 10 rfl (by kernel_rfl) rfl (fun _ => y_sliceL ti28 ti32 rfl rfl (by omega) (by omega)) hS (by decide) fun hS => ?_
            refine DA_one 6 (by kernel_rfl) rfl (op_buildSlice H [.agg #[.int .u64 s.ts, .int .u64 s.txn, .bool false, .slice none 0 0, .slice al s.keys.length cl]] ti28 ti32 rfl rfl rfl (by simp [Value.cells]) rfl rfl (by decide) fun b86 w10_6 H => ⟨fun _ => ⟨H.getOwn 4 rfl, H.getOwn 1 rfl⟩, ?_⟩)
            refine DA_one 11 (by kernel_rfl) rfl (op_append (news := cs.drop (j * 5)) H 0 rfl rfl ti28 ti32 rfl rfl rfl rfl (Src.dropRow (H.getRow 3 rfl) j hjl) hdl (fun u hu => hE.one (by decide) u (List.mem_of_mem_drop hu)) (by omega) (by simp [maxLen]; omega) (by decide) fun v91 w10_11 H => ⟨fun _ => ⟨H.getOwn 4 rfl, H.getOwn 1 rfl⟩, ?_⟩)
            refine DA_one 12 (by kernel_rfl) rfl (op_appendNew H rfl rfl ti28 ti32 rfl rfl rfl rfl ⟨_, rfl⟩ (Src.takeRow (H.getRow 3 rfl) j hjl) htl (Src.row (H.getRow 0 rfl)) (by rw [List.length_append, hdl]; show 5 + _ = _; omega) hnew1 (by omega) (by omega) (by simp [maxLen]; omega) (by decide) fun v92 w10_12 H => ⟨fun _ => ⟨H.getOwn 5 rfl, H.getOwn 2 rfl⟩, ?_⟩)
            obtain ⟨a92, c92, rfl, hl92, hm92⟩ := H.rowLen 0 rfl
            refine DA_p 13 rfl (by kernel_rfl) rfl (fun _ => y_fieldAddr ti34 rfl ti28 rfl h9) (fun _ => ⟨H.getOwn 5 rfl, H.getOwn 2 rfl⟩) (by decide) fun _ => ?_
            refine DA_one 14 (by kernel_rfl) rfl (op_store (v := .slice a92 (j + (1 + (vers.length - j))) c92) H 5 rfl ti28 rfl rfl rfl (Nat.le_of_ble_eq_true rfl) (by simp [Value.cells, Value.oneCell']) fun w10_14 H => ⟨fun h => absurd (h 14 (by simp)) (by decide), ?_⟩)
            refine DA_done (by kernel_rfl) ?_
            have hl2 : (vers.take j ++ ([(⟨s.ts, s.txn, false, [], s.keys⟩ : Ver)] ++ vers.drop j)).length = j + (1 + (vers.length - j)) := by simp only [List.length_append, List.length_take, List.length_drop, List.length_cons, List.length_nil]; omega
            have h18' := h18.trans hti
            have h17' := h17.trans htn
            refine ⟨h18', h17', .slice a92 (j + (1 + (vers.length - j))) c92, _, vers.take j ++ ([⟨s.ts, s.txn, false, [], s.keys⟩] ++ vers.drop j), h0, h1, h2, h3, h8, h9, h16, rfl, hEn, by rw [hl2]; omega, ?_, ?_⟩
            · intro v hv
              rcases List.mem_append.1 hv with h | h
              · exact hv6 v (List.mem_of_mem_take h)
              · rcases List.mem_append.1 h with h | h
                · rw [List.mem_singleton.1 h]; exact hs6
                · exact hv6 v (List.mem_of_mem_drop h)
            · rw [hl2]
              exact H.sub (.cons_cons _ (.cons _ (.cons _ (.cons _ (.cons _ (.cons_cons _ (.cons_cons _ (.cons_cons _ .slnil))))))))
        · refine W_drawQ H mixed (by kernel_rfl) (by kernel_rfl) fun wd7 H => ?_
          refine QL_y (y_move h12) (by decide) ?_
          refine QL_y (y_fieldAddr ti34 rfl ti28 rfl h9) (by decide) ?_
          refine QL_y (y_loadS (v := .slice av vers.length cv) ti28 rfl rfl (Cells.unit (H.getOwn 2 rfl) rfl)) (by decide) ?_
          refine QL_y (y_len rfl ti28 rfl) (by decide) ?_
          refine QL_y (v := .bool false) (y_lssF (by omega) rfl rfl) (by decide) ?_
          refine QL_y (v := .bool false) (y_move rfl) (by decide) ?_
          refine QL_s rfl (by decide) rfl rfl (by simp) ?_
          refine QL_s rfl (by decide) rfl rfl (by simp) ?_
          refine QL_s rfl (by decide) rfl rfl (by simp) ?_
          refine QL_s rfl (by decide) rfl rfl (by simp) ?_
          refine QL_s rfl (by decide) rfl rfl (by simp) ?_
          refine QL_s rfl (by decide) rfl rfl (by simp) ?_
          refine QL_s rfl (by decide) rfl rfl (by simp) ?_
          refine QL_s rfl (by decide) rfl rfl (by simp) ?_
          refine QL_s rfl (by decide) rfl rfl (by simp) ?_
          refine QL_y (y_pick (b := false) (v := .bool false) rfl rfl) (by decide) ?_
          refine QL_nil ?_
          refine W_condf rfl ?_
          refine W_exit ?_
          refine W_seq ?_
          have hjl : j ≤ vers.length := by omega
          refine W_region ?_
          refine OL_y (y_fieldAddr ti39 rfl ti29 rfl h11) (by decide) ?_
          refine OL_y (y_loadS (v := .int .u64 s.ts) ti29 rfl rfl (Cells.unit (H.getOwn 0 rfl) rfl)) (by decide) ?_
          refine OL_y (y_fieldAddr ti39 rfl ti29 rfl h11) (by decide) ?_
          refine OL_y (y_loadS (v := .int .u64 s.txn) ti29 rfl rfl (Cells.unit (H.getOwn 0 rfl) rfl)) (by decide) ?_
          refine OL_y (y_fieldAddr ti39 rfl ti30 rfl h11) (by decide) ?_
          refine OL_y (y_loadS (v := .slice al s.keys.length cl) ti30 rfl rfl (Cells.unit (H.getOwn 0 rfl) rfl)) (by decide) ?_
          refine OL_y (v := .agg #[.int .u64 s.ts, .int .u64 s.txn, .bool false, .slice none 0 0, .slice al s.keys.length cl]) (y_build ti32 pl32 rfl) (by decide) ?_
          refine OL_var (v := .agg #[.int .u64 s.ts, .int .u64 s.txn, .bool false, .slice none 0 0, .slice al s.keys.length cl]) H ti32 rfl (by decide) (fun _ => rfl) rfl (by simp [Value.cells, Value.oneCell']) fun b13 w9_7 H => ?_
          refine OL_nil ?_
          refine W_drawD H mixed (by kernel_rfl) [14] (fun w0 w' => w'.heap[b9]? = some (.cells #[.slice ak key.length ck, .slice av vers.length cv, .int .u64 0, .int .u64 0, .bool false, .slice none 0 0, .slice none 0 0] 34) ∧ w'.heap[b13]? = some (.cells #[.int .u64 s.ts, .int .u64 s.txn, .bool false, .slice none 0 0, .slice al s.keys.length cl] 32)) fun wd10 H hEd => ?_
          have hS : Sx [14] (fun w' => w'.heap[b9]? = some (.cells #[.slice ak key.length ck, .slice av vers.length cv, .int .u64 0, .int .u64 0, .bool false, .slice none 0 0, .slice none 0 0] 34) ∧ w'.heap[b13]? = some (.cells #[.int .u64 s.ts, .int .u64 s.txn, .bool false, .slice none 0 0, .slice al s.keys.length cl] 32)) (List.replicate 15 false).toArray wd10 := fun _ => ⟨H.getOwn 3 rfl, H.getOwn 0 rfl⟩
          have hcl := hE.1
          have hdl : (cs.drop (j * 5)).length = (vers.length - j) * 5 := by rw [List.length_drop, hcl]; show vers.length * 5 - j * 5 = _; omega
          have htl : (cs.take (j * 5)).length = j * 5 := by rw [List.length_take, hcl]; show min (j * 5) (vers.length * 5) = _; omega
          have hEt : Els tVer Z w (cs.take (j * 5)) (vers.take j) := hE.take j hjl
          have hEd : Els tVer Z w (cs.drop (j * 5)) (vers.drop j) := hE.drop j hjl
          have hnv : tVer.R Z w [.int .u64 s.ts, .int .u64 s.txn, .bool false, .slice none 0 0, .slice al s.keys.length cl] ⟨s.ts, s.txn, false, [], s.keys⟩ := ver_cells.2 ⟨_, _, rfl, hs1, hs2, SlR.nil _ _ _ _, hwl⟩
          have hEn : Els tVer Z w (cs.take (j * 5) ++ ([.int .u64 s.ts, .int .u64 s.txn, .bool false, .slice none 0 0, .slice al s.keys.length cl] ++ cs.drop (j * 5))) (vers.take j ++ ([⟨s.ts, s.txn, false, [], s.keys⟩] ++ vers.drop j)) := hEt.append (((Els.nil tVer Z w).snoc hnv).append hEd)
          have hnew1 : ∀ u ∈ [Value.int .u64 s.ts, .int .u64 s.txn, .bool false, .slice none 0 0, .slice al s.keys.length cl] ++ cs.drop (j * 5), u.oneCell' = true := by
            intro u hu
            rcases List.mem_append.1 hu with hu | hu
            · simp only [List.mem_cons, List.not_mem_nil, or_false] at hu; rcases hu with rfl | rfl | rfl | rfl | rfl <;> rfl
            · exact hE.one (by decide) u (List.mem_of_mem_drop hu)
          refine DA_p 0 rfl (by kernel_rfl) rfl (fun _ => y_fieldAddr ti34 rfl ti28 rfl h9) hS (by decide) fun hS => ?_
          refine DA_y 1 rfl (by kernel_rfl) rfl (by kernel_rfl) (fun w' h => y_loadS (v := .slice av vers.length cv) ti28 rfl rfl (Cells.unit h.1 rfl)) hS (by decide) fun hS => ?_
          refine DA_p 2 rfl (by kernel_rfl) rfl (fun _ => y_move h12) hS (by decide) fun hS => ?_
          refine DA_p 3 rfl (by kernel_rfl) rfl (fun _ => y_move h12) hS (by decide) fun hS => ?_
          refine DA_p 4 rfl (by kernel_rfl) rfl (fun _ => y_sliceHM ti28 ti32 rfl rfl rfl (by omega) (by omega) (by omega)) hS (by decide) fun hS => ?_
          refine DA_y 5 rfl (by kernel_rfl) rfl (by kernel_rfl) (fun w' h => y_loadA (cs := [.int .u64 s.ts, .int .u64 s.txn, .bool false, .slice none 0 0, .slice al s.keys.length cl]) ti32 rfl rfl (Cells.of h.2 rfl) rfl) hS (by decide) fun hS => ?_
          refine DA_p 7 rfl (by kernel_rfl) rfl (fun _ => y_fieldAddr ti34 rfl ti28 rfl h9) hS (by decide) fun hS => ?_
          refine DA_y 8 rfl (by kernel_rfl) rfl (by kernel_rfl) (fun w' h => y_loadS (v := .slice av vers.length cv) ti28 rfl rfl (Cells.unit h.1 rfl)) hS (by decide) fun hS => ?_
          refine DA_p 9 rfl (by kernel_rfl) rfl (fun _ => y_move h12) hS (by decide) fun hS => ?_
          refine DA_p 10 rfl (by kernel_rfl) rfl (fun _ => y_sliceL ti28 ti32 rfl rfl (by omega) (by omega)) hS (by decide) fun hS => ?_
          refine DA_one 6 (by kernel_rfl) rfl (op_buildSlice H [.agg #[.int .u64 s.ts, .int .u64 s.txn, .bool false, .slice none 0 0, .slice al s.keys.length cl]] ti28 ti32 rfl rfl rfl (by simp [Value.cells]) rfl rfl (by decide) fun b86 w10_6 H => ⟨fun _ => ⟨H.getOwn 4 rfl, H.getOwn 1 rfl⟩, ?_⟩)
          refine DA_one 11 (by kernel_rfl) rfl (op_append (news := cs.drop (j * 5)) H 0 rfl rfl ti28 ti32 rfl rfl rfl rfl (Src.dropRow (H.getRow 3 rfl) j hjl) hdl (fun u hu => hE.one (by decide) u (List.mem_of_mem_drop hu)) (by omega) (by simp [maxLen]; omega) (by decide) fun v91 w10_11 H => ⟨fun _ => ⟨H.getOwn 4 rfl, H.getOwn 1 rfl⟩, ?_⟩)
          refine DA_one 12 (by kernel_rfl) rfl (op_appendNew H rfl rfl ti28 ti32 rfl rfl rfl rfl ⟨_, rfl⟩ (Src.takeRow (H.getRow 3 rfl) j hjl) htl (Src.row (H.getRow 0 rfl)) (by rw [List.length_append, hdl]; show 5 + _ = _; omega) hnew1 (by omega) (by omega) (by simp [maxLen]; omega) (by decide) fun v92 w10_12 H => ⟨fun _ => ⟨H.getOwn 5 rfl, H.getOwn 2 rfl⟩, ?_⟩)
          obtain ⟨a92, c92, rfl, hl92, hm92⟩ := H.rowLen 0 rfl
          refine DA_p 13 rfl (by kernel_rfl) rfl (fun _ => y_fieldAddr ti34 rfl ti28 rfl h9) (fun _ => ⟨H.getOwn 5 rfl, H.getOwn 2 rfl⟩) (by decide) fun _ => ?_
          refine DA_one 14 (by kernel_rfl) rfl (op_store (v := .slice a92 (j + (1 + (vers.length - j))) c92) H 5 rfl ti28 rfl rfl rfl (Nat.le_of_ble_eq_true rfl) (by simp [Value.cells, Value.oneCell']) fun w10_14 H => ⟨fun h => absurd (h 14 (by simp)) (by decide), ?_⟩)
          refine DA_done (by kernel_rfl) ?_
          have hl2 : (vers.take j ++ ([(⟨s.ts, s.txn, false, [], s.keys⟩ : Ver)] ++ vers.drop j)).length = j + (1 + (vers.length - j)) := by simp only [List.length_append, List.length_take, List.length_drop, List.length_cons, List.length_nil]; omega
          have h18' := h18.trans hti
          have h17' := h17.trans htn
          refine ⟨h18', h17', .slice a92 (j + (1 + (vers.length - j))) c92, _, vers.take j ++ ([⟨s.ts, s.txn, false, [], s.keys⟩] ++ vers.drop j), h0, h1, h2, h3, h8, h9, h16, rfl, hEn, by rw [hl2]; omega, ?_, ?_⟩
          · intro v hv
            rcases List.mem_append.1 hv with h | h
            · exact hv6 v (List.mem_of_mem_take h)
            · rcases List.mem_append.1 h with h | h
              · rw [List.mem_singleton.1 h]; exact hs6
              · exact hv6 v (List.mem_of_mem_drop h)
          · rw [hl2]
            exact H.sub (.cons_cons _ (.cons _ (.cons _ (.cons _ (.cons _ (.cons_cons _ (.cons_cons _ (.cons_cons _ .slnil))))))))
  · rintro f ds w1 ⟨vv, cs, vers, h0, h1, h2, h3, h8, h9, h16, rfl, hE, hvl, hv6, H⟩ hti htn
    obtain ⟨av, cv, rfl, hlv, hmv⟩ := H.rowLen 0 rfl
    refine W_seq ?_
    refine W_region ?_
    refine OL_y (y_loadA (cs := [.slice ak key.length ck, .slice av vers.length cv, .int .u64 0, .int .u64 0, .bool false, .slice none 0 0, .slice none 0 0]) ti34 rfl h9 (Cells.of (H.getOwn 1 rfl) rfl) rfl) (by decide) ?_
    refine OL_c (op_store (v := .agg #[.slice ak key.length ck, .slice av vers.length cv, .int .u64 0, .int .u64 0, .bool false, .slice none 0 0, .slice none 0 0]) H 2 rfl ti34 h8 rfl rfl (by decide) (by simp [Value.cells, Value.oneCell']) fun w12_1 H => ?_)
    refine OL_nil ?_
    refine W_ret ?_
    show RetOK _ _ _ _ _ _
    have kp := H.keepsAll 3 rfl Z
    refine ret1c Try.results23 h8 (run_loadVarA (cs := [.slice ak key.length ck, .slice av vers.length cv, .int .u64 0, .int .u64 0, .bool false, .slice none 0 0, .slice none 0 0]) ti34 rfl (Cells.of (H.getOwn 2 rfl) rfl) rfl) ⟨_, vers, rfl, hv6, cl_cells.2 ⟨_, _, _, rfl, (hk.keeps kp).mono fun _ _ h => .inl h, ?_, ?_⟩, H.ext_of 3 rfl⟩
    · exact SlR.ofRow (H.getRow 0 rfl) (by decide) ((hE.keeps kp).mono fun _ _ h => .inl h) (fun k hk => .inr (H.fresh 0 3 rfl rfl rfl k hk)) (by show vers.length * 72 ≤ _; omega)
    · exact ver_cells.2 ⟨_, _, rfl, rfl, rfl, SlR.nil _ _ _ _, SlR.nil _ _ _ _⟩
end Go.Proofs.Ytngnplhdokboiaa
