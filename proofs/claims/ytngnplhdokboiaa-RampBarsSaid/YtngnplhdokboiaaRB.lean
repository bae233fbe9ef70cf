/- Barred and seen in part: the code and the reference agree. -/
import Derived.Test.YtngnplhdokboiaaAW
import Derived.Test.YtngnplhdokboiaaE
namespace Go.Proofs.Ytngnplhdokboiaa
open Go Go.Wk
set_option linter.unusedVariables false
set_option linter.unusedSimpArgs false

theorem y_eqlBS {P : Program} {d t t' ty : Nat} {p : String} {af : Array Edge} {g : Option (Nat × Bool)} {f : Fr} {x y : Operand} {w : World} {a : Bool} (ht : P.underlying t = some .bool) (hx : ev f x = .bool a) (hy : ev f y = .bool a) : Yd P ⟨some d, .binOp .eql t x y t', ty, p, af, g⟩ f w (.bool true) := by
  have := y_eqlB (P := P) (w := w) (d := d) (t := t) (t' := t') (ty := ty) (p := p) (af := af) (g := g) ht hx hy
  rwa [beq_self_eq_true] at this

set_option maxHeartbeats 8000000 in
theorem f4_calls {Z : Nat → Prop} {w : World} {a : Value} {xs : List Sn} {cs : List Value} {v : Ver} (hx : SlR tSn 64 Z w a xs) (hv : tVer.R Z w cs v) :
    Calls Try.prog 4 [a, .agg cs.toArray].toArray w fun e w' => e = .returned (.bool true) ∧ Ext none' w w' := by
  have H := Holds.start w
  obtain ⟨vv, vk, rfl, hi1, hi2, hv3, hv4⟩ := ver_cells.1 hv
  obtain ⟨a0, c0, rfl, hl0, hm0⟩ := hx.len
  refine calls_of_W' Try.func4 rfl Try.ntmps4 rfl ?_
  refine W_seq ?_
  refine W_region ?_
  refine OL_c (op_box (v := .agg #[.int .u64 v.ts, .int .u64 v.txn, .bool v.dead, vv, vk]) H rfl (by decide) fun b3 w0_0 H => ?_)
  refine OL_y (v := .bool false) (y_assign rfl) (by decide) ?_
  refine OL_nil ?_
  refine W_seq ?_
  refine W_seq ?_
  refine W_region ?_
  refine OL_c (op_call 6 en6 rfl [] rfl (by decide) ((f6_calls).mono ?_))
  rintro e w1_0 ⟨rfl, hE6⟩
  refine ⟨_, rfl, ?_⟩
  have H := H.ext0 hE6
  refine OL_y (y_not (b := true) rfl) (by decide) ?_
  refine OL_nil ?_
  have kp := H.keepsAll 1 rfl Z
  refine W_condf rfl ?_
  refine W_skip ?_
  refine W_seq ?_
  refine W_seq ?_
  rcases hfew : fewB xs [] with _ | _
  · refine W_region ?_
    refine OL_y (y_move rfl) (by decide) ?_
    refine OL_c (op_call 7 en7 rfl [.slice a0 xs.length c0, .slice none 0 0] rfl (by decide) (((show Calls Try.prog 7 [_, _].toArray _ fun e w' => e = .returned (.bool false) ∧ Ext none' _ w' by have := f7_calls (hx.keeps kp) (SlR.nil tCl 120 Z _); rw [hfew] at this; exact this)).mono ?_))
    rintro e w3_1 ⟨rfl, hE7⟩
    refine ⟨_, rfl, ?_⟩
    have H := H.ext0 hE7
    refine OL_y (y_not (b := false) rfl) (by decide) ?_
    refine OL_y (v := .bool true) (y_move rfl) (by decide) ?_
    refine OL_s rfl (by decide) rfl rfl (by simp) ?_
    refine OL_s rfl (by decide) rfl rfl (by simp) ?_
    refine OL_s rfl (by decide) rfl rfl (by simp) ?_
    refine OL_y (y_pick (b := true) (v := .bool true) rfl rfl) (by decide) ?_
    refine OL_nil ?_
    refine W_condt rfl ?_
    refine W_seq ?_
    refine W_region ?_
    refine OL_y (v := .bool true) (y_assign rfl) (by decide) ?_
    refine OL_nil ?_
    refine W_ret ?_
    show RetOK _ _ _ _ _ _
    exact ret1 (v := .bool true) Try.results4 rfl ⟨rfl, H.ext_of 1 rfl⟩
  · refine W_region ?_
    refine OL_y (y_move rfl) (by decide) ?_
    refine OL_c (op_call 7 en7 rfl [.slice a0 xs.length c0, .slice none 0 0] rfl (by decide) (((show Calls Try.prog 7 [_, _].toArray _ fun e w' => e = .returned (.bool true) ∧ Ext none' _ w' by have := f7_calls (hx.keeps kp) (SlR.nil tCl 120 Z _); rw [hfew] at this; exact this)).mono ?_))
    rintro e w3_1 ⟨rfl, hE7⟩
    refine ⟨_, rfl, ?_⟩
    have H := H.ext0 hE7
    have kp := H.keepsAll 1 rfl Z
    refine OL_y (y_not (b := true) rfl) (by decide) ?_
    refine OL_y (v := .bool false) (y_move rfl) (by decide) ?_
    refine OL_yg rfl (by decide) rfl (y_loadA (cs := [.int .u64 v.ts, .int .u64 v.txn, .bool v.dead, vv, vk]) ti32 rfl rfl (Cells.of (H.getOwn 0 rfl) rfl) rfl) (by decide) ?_
    refine OL_g rfl (by decide) rfl (op_call 9 en9 rfl [.agg #[.int .u64 v.ts, .int .u64 v.txn, .bool v.dead, vv, vk]] rfl (by decide) ((f9_calls (ver_cells.2 ⟨_, _, rfl, hi1, hi2, hv3.keeps kp, hv4.keeps kp⟩)).mono ?_))
    rintro e w3_5 ⟨rfl, hE9⟩
    refine ⟨_, rfl, ?_⟩
    have H := H.ext0 hE9
    refine OL_yg rfl (by decide) rfl (y_not rfl) (by decide) ?_
    refine OL_y (y_pick (b := false) rfl rfl) (by decide) ?_
    refine OL_nil ?_
    refine W_cond rfl (fun hc => ?_) (fun hc => ?_)
    · refine W_seq ?_
      refine W_region ?_
      refine OL_y (v := .bool true) (y_assign rfl) (by decide) ?_
      refine OL_nil ?_
      refine W_ret ?_
      show RetOK _ _ _ _ _ _
      exact ret1 (v := .bool true) Try.results4 rfl ⟨rfl, H.ext_of 1 rfl⟩
    · refine W_skip ?_
      refine W_seq ?_
      refine W_drawD H mixed (by kernel_rfl) [] (fun w0 w' => w'.heap[b3]? = some (.cells #[.int .u64 v.ts, .int .u64 v.txn, .bool v.dead, vv, vk] 32)) fun wd5 H hEd => ?_
      have hS : Sx [] (fun w' => w'.heap[b3]? = some (.cells #[.int .u64 v.ts, .int .u64 v.txn, .bool v.dead, vv, vk] 32)) (List.replicate 18 false).toArray wd5 := fun _ => H.getOwn 0 rfl
      have kp := H.keepsAll 1 rfl Z
      refine DA_p 0 rfl (by kernel_rfl) rfl (fun _ => y_move rfl) hS (by decide) fun hS => ?_
      refine DA_y 1 rfl (by kernel_rfl) rfl (by kernel_rfl) (fun w' h => y_loadA (cs := [.int .u64 v.ts, .int .u64 v.txn, .bool v.dead, vv, vk]) ti32 rfl rfl (Cells.of h rfl) rfl) hS (by decide) fun hS => ?_
      refine DA_p 3 rfl (by kernel_rfl) rfl (fun _ => y_move rfl) hS (by decide) fun hS => ?_
      refine DA_p 4 rfl (by kernel_rfl) rfl (fun _ => y_fieldAddr ti32 rfl ti29 rfl rfl) hS (by decide) fun hS => ?_
      refine DA_y 5 rfl (by kernel_rfl) rfl (by kernel_rfl) (fun w' h => y_loadS (v := .int .u64 v.ts) ti29 rfl rfl (Cells.unit h rfl)) hS (by decide) fun hS => ?_
      refine DA_p 6 rfl (by kernel_rfl) rfl (fun _ => y_fieldAddr ti32 rfl ti30 rfl rfl) hS (by decide) fun hS => ?_
      refine DA_y 7 rfl (by kernel_rfl) rfl (by kernel_rfl) (fun w' h => y_loadS (v := vk) ti30 rfl rfl (Cells.unit h rfl)) hS (by decide) fun hS => ?_
      refine DA_one 2 (by kernel_rfl) rfl (op_call 10 en10 rfl [.slice a0 xs.length c0, .agg #[.int .u64 v.ts, .int .u64 v.txn, .bool v.dead, vv, vk]] rfl (by decide) ((f10_calls (hx.keeps kp) (ver_cells.2 ⟨_, _, rfl, hi1, hi2, hv3.keeps kp, hv4.keeps kp⟩)).mono ?_))
      rintro e w5_2 ⟨rfl, hE10⟩
      refine ⟨_, rfl, fun _ => (H.ext0 hE10).getOwn 0 rfl, ?_⟩
      have H := H.ext0 hE10
      have kp := H.keepsAll 1 rfl Z
      refine DA_one 8 (by kernel_rfl) rfl (op_call 11 en11 rfl [.slice a0 xs.length c0, .int .u64 v.ts, vk] rfl (by decide) ((f11_calls (hx.keeps kp) (hv4.keeps kp)).mono ?_))
      rintro e w5_8 ⟨rfl, hE11⟩
      refine ⟨_, rfl, fun _ => (H.ext0 hE11).getOwn 0 rfl, ?_⟩
      have H := H.ext0 hE11
      have kp := H.keepsAll 1 rfl Z
      refine DA_p (v := .bool true) 9 rfl (by kernel_rfl) rfl (fun _ => y_eqlBS Try.underlying4 rfl rfl) (fun _ => H.getOwn 0 rfl) (by decide) fun hS => ?_
      refine DA_p 10 rfl (by kernel_rfl) rfl (fun _ => y_move (v := .bool true) rfl) hS (by decide) fun hS => ?_
      refine DA_pg 11 rfl rfl (by decide) rfl (by kernel_rfl) rfl (fun _ => y_move rfl) hS (by decide) fun hS => ?_
      refine DA_pg 13 rfl rfl (by decide) rfl (by kernel_rfl) rfl (fun _ => y_move rfl) hS (by decide) fun hS => ?_
      refine DA_oneg 12 (by kernel_rfl) rfl rfl (by decide) rfl (op_call 12 en12 rfl [.slice a0 xs.length c0] rfl (by decide) ((f12_calls (hx.keeps kp)).mono ?_))
      rintro e w5_12 ⟨rfl, hE12⟩
      refine ⟨_, rfl, fun _ => (H.ext0 hE12).getOwn 0 rfl, ?_⟩
      have H := H.ext0 hE12
      have kp := H.keepsAll 1 rfl Z
      refine DA_oneg 14 (by kernel_rfl) rfl rfl (by decide) rfl (op_call 13 en13 rfl [.slice a0 xs.length c0] rfl (by decide) ((f13_calls (hx.keeps kp)).mono ?_))
      rintro e w5_14 ⟨rfl, hE13⟩
      refine ⟨_, rfl, fun _ => (H.ext0 hE13).getOwn 0 rfl, ?_⟩
      have H := H.ext0 hE13
      refine DA_pg (v := .bool true) 15 rfl rfl (by decide) rfl (by kernel_rfl) rfl (fun _ => y_eqlBS Try.underlying4 rfl rfl) (fun _ => H.getOwn 0 rfl) (by decide) fun hS => ?_
      refine DA_p 16 rfl (by kernel_rfl) rfl (fun _ => y_pick (b := true) (v := .bool true) rfl rfl) hS (by decide) fun hS => ?_
      refine DA_p 17 rfl (by kernel_rfl) rfl (fun _ => y_assign rfl) hS (by decide) fun hS => ?_
      refine DA_done (by kernel_rfl) ?_
      refine W_ret ?_
      show RetOK _ _ _ _ _ _
      exact ret1 (v := .bool true) Try.results4 rfl ⟨rfl, H.ext_of 1 rfl⟩
end Go.Proofs.Ytngnplhdokboiaa
