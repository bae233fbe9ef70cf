/- Part 6 of the texts that a law of the seat leans on: the ground of the walks, the facts of the program, its functions one by one. -/
import Derived.Test.YtpandioolpnihaaDoe5
namespace Go.Proofs.Ytpandioolpnihaa
open Go Go.Wk
set_option linter.unusedVariables false
set_option linter.unusedSimpArgs false

def picks (xs : List Key) (k : Key) : Nat := (xs.filter fun x => decide (cmpK x k ≤ 0)).length
set_option maxHeartbeats 16000000 in
theorem f56_calls {Z Z' : Nat → Prop} {w : World} {vx vk : Value} {xs : List Key} {k : Key} (hx : SlR tKey 24 Z w vx xs) (hk : SlR (tInt .u8) 1 Z' w vk k) :
    Calls Try.prog 56 [vx, vk].toArray w fun e w' => e = .returned (.int .i64 (picks xs k)) ∧ Ext none' w w' := by
  obtain ⟨al, cl, rfl, hll, hml⟩ := hx.len
  have hN := hx.len1 (by decide)
  have H := Holds.start w
  refine calls_of_W' Try.func56 rfl Try.ntmps56 rfl ?_
  refine W_seq ?_
  refine W_region ?_
  refine OL_y (y_assign rfl) (by decide) ?_
  refine OL_nil ?_
  refine W_seq ?_
  refine W_region ?_
  refine OL_y (y_assign rfl) (by decide) ?_
  refine OL_nil ?_
  refine W_seq ?_
  refine W_seq ?_
  refine W_region ?_
  refine OL_y (y_move rfl) (by decide) ?_
  refine OL_y (y_len rfl ti30 rfl) (by decide) ?_
  refine OL_y (y_move rfl) (by decide) ?_
  refine OL_nil ?_
  refine W_range (N := xs.length) (by simp only [maxLen] at hml ⊢; omega) (fun j f ds w' => f 1 = vk ∧ f 5 = .int .i64 (picks (xs.take j) k : Nat) ∧ f 8 = .slice al xs.length cl ∧ ds = [] ∧ Holds w' [shr (fun k => k < w.heap.size) w])
      ⟨rfl, rfl, rfl, rfl, H⟩
      rfl rfl (by decide) (by decide) (by decide) rfl rfl ?_ rfl rfl ?_
  · rintro j f ds w3 hj ⟨h1, h5, h8, rfl, H⟩ hti htn
    have hxj := List.getElem?_eq_getElem hj
    have hsn : xs.take (j + 1) = xs.take j ++ [xs[j]] := by rw [List.take_add_one, hxj]; rfl
    have hle : picks (xs.take j) k ≤ xs.length := Nat.le_trans (List.length_filter_le _ _) (by rw [List.length_take]; omega)
    simp only [maxLen] at hml
    obtain ⟨bx, ox, csy, ey, hzy, hcy, vx, rfl, hkx⟩ := hx.at hxj
    have hcy' := hcy.ext ((H.keepsAll 0 rfl (fun _ => True)).2 _ trivial hcy.lt)
    generalize xs[j] = x at *
    obtain ⟨ax, cx, rfl, -, -⟩ := hkx.len
    have h8' := h8.trans (congrArg (Value.slice · _ _) ey)
    refine W_block ?_
    refine W_seq ?_
    refine W_region ?_
    refine OL_y (y_indexAddr ti30 ti23 h8' hti (by omega) (by omega)) (by decide) ?_
    refine OL_y (y_loadS (v := .slice ax x.length cx) ti23 rfl rfl hcy') (by decide) ?_
    refine OL_y (y_assign rfl) (by decide) ?_
    refine OL_nil ?_
    refine W_seq ?_
    by_cases hc : cmpK x k ≤ 0
    · refine W_region ?_
      refine OL_y (y_move rfl) (by decide) ?_
      refine OL_y (y_move h1) (by decide) ?_
      refine OL_c (op_call 74 en74 rfl [.slice ax x.length cx, vk] rfl (by decide) ((f74_calls (hkx.keeps (H.keepsAll 0 rfl _)) (hk.keeps (H.keepsAll 0 rfl _))).mono ?_))
      rintro e w5_2 ⟨rfl, hE⟩
      refine ⟨_, rfl, ?_⟩
      have H := H.ext0 hE
      refine OL_y (v := .bool true) (y_leqT hc rfl rfl) (by decide) ?_
      refine OL_nil ?_
      refine W_condt rfl ?_
      refine W_region ?_
      refine OL_y (y_move h5) (by decide) ?_
      refine OL_y (y_add64 rfl rfl (by omega) (by omega)) (by decide) ?_
      refine OL_y (y_assign rfl) (by decide) ?_
      refine OL_nil ?_
      have e : picks (xs.take (j + 1)) k = picks (xs.take j) k + 1 := by unfold picks; rw [hsn, List.filter_append, List.filter_cons_of_pos (by simpa using hc)]; simp
      refine ⟨hti, htn, h1, ?_, h8, rfl, H⟩
      rw [e]; rfl
    · refine W_region ?_
      refine OL_y (y_move rfl) (by decide) ?_
      refine OL_y (y_move h1) (by decide) ?_
      refine OL_c (op_call 74 en74 rfl [.slice ax x.length cx, vk] rfl (by decide) ((f74_calls (hkx.keeps (H.keepsAll 0 rfl _)) (hk.keeps (H.keepsAll 0 rfl _))).mono ?_))
      rintro e w5_2 ⟨rfl, hE⟩
      refine ⟨_, rfl, ?_⟩
      have H := H.ext0 hE
      refine OL_y (v := .bool false) (y_leqF hc rfl rfl) (by decide) ?_
      refine OL_nil ?_
      refine W_condf rfl ?_
      refine W_skip ?_
      have e : picks (xs.take (j + 1)) k = picks (xs.take j) k := by unfold picks; rw [hsn, List.filter_append, List.filter_cons_of_neg (by simpa using hc)]; simp
      exact ⟨hti, htn, h1, by rw [e]; exact h5, h8, rfl, H⟩
  · rintro f ds w3 ⟨h1, h5, h8, rfl, H⟩ hti htn
    rw [List.take_length] at h5
    refine W_seq ?_
    refine W_region ?_
    refine OL_y (y_move h5) (by decide) ?_
    refine OL_y (y_assign rfl) (by decide) ?_
    refine OL_nil ?_
    refine W_ret ?_
    show RetOK _ _ _ _ _ _
    exact ret1 Try.results56 rfl ⟨rfl, H.ext_of 0 rfl⟩

set_option maxHeartbeats 16000000 in
theorem f57_calls {Z Z' : Nat → Prop} {w : World} {vx vk : Value} {xs : List Key} {lo : Key} (hx : SlR tKey 24 Z w vx xs) (hlo : SlR (tInt .u8) 1 Z' w vk lo) (hxs : xs = [[98]]) (hll : lo = [97]) :
    Calls Try.prog 57 [vx, .agg #[vk, .slice none 0 0]].toArray w fun e w' => ∃ (a : Option Addr) (c : Nat), e = .returned (.slice a 2 c) ∧ Ext none' w w' := by
  have hl1 : xs.length = 1 := by rw [hxs]; rfl
  have hpk : picks xs lo = 0 := by rw [hxs, hll]; decide
  have hwi : withinB [98] lo [] = true := by rw [hll]; decide
  obtain ⟨a0, c0, rfl, -, -⟩ := hx.len
  obtain ⟨a1, c1, rfl, -, -⟩ := hlo.len
  obtain ⟨bx, ox, csy, ey, hzy, hcy, vx, rfl, hkx⟩ := hx.at (i := 0) (x := [98]) (by rw [hxs]; rfl)
  obtain ⟨ax, cx, rfl, -, -⟩ := hkx.len
  have H := Holds.start w
  refine calls_of_W' Try.func57 rfl Try.ntmps57 rfl ?_
  refine W_seq ?_
  refine W_region ?_
  refine OL_c (op_box (v := .agg #[.slice a1 lo.length c1, .slice none 0 0]) H rfl (by decide) fun b3 w0_0 H => ?_)
  refine OL_y (y_assign rfl) (by decide) ?_
  refine OL_nil ?_
  refine W_seq ?_
  refine W_region ?_
  refine OL_y (y_assign rfl) (by decide) ?_
  refine OL_nil ?_
  refine W_seq ?_
  refine W_seq ?_
  refine W_region ?_
  refine OL_y (y_move rfl) (by decide) ?_
  refine OL_y (y_fieldAddr ti118 rfl ti23 rfl rfl) (by decide) ?_
  refine OL_y (y_loadS (v := .slice a1 lo.length c1) ti23 rfl rfl (Cells.unit (H.getOwn 0 rfl) rfl)) (by decide) ?_
  refine OL_c (op_call 56 en56 rfl [.slice a0 xs.length c0, .slice a1 lo.length c1] rfl (by decide) ((f56_calls (hx.keeps (H.keepsAll 1 rfl _)) (hlo.keeps (H.keepsAll 1 rfl _))).mono ?_))
  rintro e w2_3 ⟨rfl, hE56⟩
  refine ⟨_, rfl, ?_⟩
  have H := H.ext0 hE56
  rw [hpk]
  refine OL_y (y_assign rfl) (by decide) ?_
  refine OL_nil ?_
  have H := H.rowNil 3 1
  refine W_block (W_loopN (fun g f ds w' => ∃ (i : Nat) (v5 : Value) (cs5 : List Value), g + i = 2 ∧ f 0 = .slice a0 xs.length c0 ∧ f 3 = .pointer (some ⟨b3, 0, none⟩) ∧ f 5 = v5 ∧ f 6 = .int .i64 (i : Nat) ∧ ds = [] ∧ Holds w' [row 3 1 v5 i cs5, own b3 (.cells #[.slice a1 lo.length c1, .slice none 0 0] 118), shr (fun k => k < w.heap.size) w])
      2 ⟨0, _, _, rfl, rfl, rfl, rfl, rfl, rfl, H⟩
      ?_)
  rintro g f ds w3 ⟨i, v5, cs5, hg, h0, h3, h5, h6, rfl, H⟩
  refine W_seq ?_
  refine W_seq ?_
  by_cases hp : i = 2
  · refine W_region ?_
    refine OL_y (y_move h6) (by decide) ?_
    refine OL_y (y_move h0) (by decide) ?_
    refine OL_y (y_len rfl ti30 rfl) (by decide) ?_
    refine OL_y (v := .bool false) (y_leqF (show ¬ ((i : Nat) : Int) ≤ ((xs.length : Nat) : Int) by omega) rfl rfl) (by decide) ?_
    refine OL_nil ?_
    refine W_condf rfl ?_
    refine W_exit ?_
    refine W_seq ?_
    refine W_region ?_
    refine OL_y (y_move h5) (by decide) ?_
    refine OL_y (y_assign rfl) (by decide) ?_
    refine OL_nil ?_
    refine W_ret ?_
    show RetOK _ _ _ _ _ _
    obtain ⟨ar, cr, hv, -, -⟩ := H.rowLen 0 rfl
    subst hp
    exact ret1 (v := .slice ar 2 cr) Try.results57 hv ⟨_, _, rfl, H.ext_of 2 rfl⟩
  · rcases (show i = 0 ∨ i = 1 by omega) with rfl | rfl
    · refine W_region ?_
      refine OL_y (y_move h6) (by decide) ?_
      refine OL_y (y_move h0) (by decide) ?_
      refine OL_y (y_len rfl ti30 rfl) (by decide) ?_
      refine OL_y (v := .bool true) (y_leqT (show (((0 : Nat) : Nat) : Int) ≤ ((xs.length : Nat) : Int) by omega) rfl rfl) (by decide) ?_
      refine OL_nil ?_
      refine W_condt rfl ?_
      refine W_skip ?_
      refine W_seq ?_
      refine W_block ?_
      refine W_seq ?_
      refine W_seq ?_
      refine W_drawD H mixed (by kernel_rfl) [] (fun wq w' => w'.heap[b3]? = some (.cells #[.slice a1 lo.length c1, .slice none 0 0] 118) ∧ Ext none' w w') fun wd5 H hEd => ?_
      have hS : ∀ {ls : Array Bool}, Sx [] (fun w' => w'.heap[b3]? = some (.cells #[.slice a1 lo.length c1, .slice none 0 0] 118) ∧ Ext none' w w') ls wd5 := fun {_} _ => ⟨H.getOwn 1 rfl, H.ext_of 2 rfl⟩
      refine DA_p 0 rfl (by kernel_rfl) rfl (fun _ => y_move h6) hS (by decide) fun hS => ?_
      refine DA_p 1 rfl (by kernel_rfl) rfl (fun _ => y_move h0) hS (by decide) fun hS => ?_
      refine DA_p 2 rfl (by kernel_rfl) rfl (fun _ => y_fieldAddr ti118 rfl ti23 rfl h3) hS (by decide) fun hS => ?_
      refine DA_y 3 rfl (by kernel_rfl) rfl (by kernel_rfl) (fun w' h => y_loadS (v := .slice a1 lo.length c1) ti23 rfl rfl (Cells.unit h.1 rfl)) hS (by decide) fun hS => ?_
      refine DA_one 4 (by kernel_rfl) rfl (op_call 56 en56 rfl [.slice a0 xs.length c0, .slice a1 lo.length c1] rfl (by decide) ((f56_calls (hx.keeps (H.keepsAll 2 rfl _)) (hlo.keeps (H.keepsAll 2 rfl _))).mono ?_))
      rintro e w5_4 ⟨rfl, hE56⟩
      refine ⟨_, rfl, fun _ => ⟨(H.ext0 hE56).getOwn 1 rfl, (H.ext0 hE56).ext_of 2 rfl⟩, ?_⟩
      have H := H.ext0 hE56
      rw [hpk]
      have hS : ∀ {ls : Array Bool}, Sx [] (fun w' => w'.heap[b3]? = some (.cells #[.slice a1 lo.length c1, .slice none 0 0] 118) ∧ Ext none' w w') ls w5_4 := fun {_} _ => ⟨H.getOwn 1 rfl, H.ext_of 2 rfl⟩
      refine DA_p (v := .bool false) 5 rfl (by kernel_rfl) rfl (fun _ => y_gtrF (show ¬ (((0 : Nat) : Int) < ((0 : Nat) : Int)) by omega) rfl rfl) hS (by decide) fun hS => ?_
      refine DA_p (v := .bool false) 6 rfl (by kernel_rfl) rfl (fun _ => y_move rfl) hS (by decide) fun hS => ?_
      refine DA_s 7 rfl rfl (by decide) rfl rfl (by kernel_rfl) rfl hS (by simp) fun hS => ?_
      refine DA_s 8 rfl rfl (by decide) rfl rfl (by kernel_rfl) rfl hS (by simp) fun hS => ?_
      refine DA_s 9 rfl rfl (by decide) rfl rfl (by kernel_rfl) rfl hS (by simp) fun hS => ?_
      refine DA_s 10 rfl rfl (by decide) rfl rfl (by kernel_rfl) rfl hS (by simp) fun hS => ?_
      refine DA_s 11 rfl rfl (by decide) rfl rfl (by kernel_rfl) rfl hS (by simp) fun hS => ?_
      refine DA_s 12 rfl rfl (by decide) rfl rfl (by kernel_rfl) rfl hS (by simp) fun hS => ?_
      refine DA_s 13 rfl rfl (by decide) rfl rfl (by kernel_rfl) rfl hS (by simp) fun hS => ?_
      refine DA_s 14 rfl rfl (by decide) rfl rfl (by kernel_rfl) rfl hS (by simp) fun hS => ?_
      refine DA_s 15 rfl rfl (by decide) rfl rfl (by kernel_rfl) rfl hS (by simp) fun hS => ?_
      refine DA_s 16 rfl rfl (by decide) rfl rfl (by kernel_rfl) rfl hS (by simp) fun hS => ?_
      refine DA_s 17 rfl rfl (by decide) rfl rfl (by kernel_rfl) rfl hS (by simp) fun hS => ?_
      refine DA_p 18 rfl (by kernel_rfl) rfl (fun _ => y_pick (b := false) (v := .bool false) rfl rfl) hS (by decide) fun hS => ?_
      refine DA_done (by kernel_rfl) ?_
      refine W_condf rfl ?_
      refine W_skip ?_
      refine W_region ?_
      refine OL_y (y_move h5) (by decide) ?_
      refine OL_y (y_move h6) (by decide) ?_
      refine OL_c (op_buildSlice H [.int .i64 ((0 : Nat) : Int)] ti74 ti3 rfl rfl rfl (by simp [Value.cells]) rfl rfl (by decide) fun b38 w6_2 H => ?_)
      refine OL_c (op_append H 1 rfl rfl ti74 ti3 rfl rfl rfl rfl (Src.row (H.getRow 0 rfl)) rfl (by simp [Value.cells, Value.oneCell']) (by omega) (by simp only [maxLen]; omega) (by decide) fun v39 w6_3 H => ?_)
      refine OL_y (y_assign rfl) (by decide) ?_
      refine OL_nil ?_
      refine W_region ?_
      refine OL_y (y_move h6) (by decide) ?_
      refine OL_y (y_add64 rfl rfl (by omega) (by omega)) (by decide) ?_
      refine OL_y (y_assign rfl) (by decide) ?_
      refine OL_nil ?_
      exact ⟨1, by omega, 1, _, _, rfl, h0, h3, rfl, rfl, rfl, H.tail⟩
    · refine W_region ?_
      refine OL_y (y_move h6) (by decide) ?_
      refine OL_y (y_move h0) (by decide) ?_
      refine OL_y (y_len rfl ti30 rfl) (by decide) ?_
      refine OL_y (v := .bool true) (y_leqT (show (((1 : Nat) : Nat) : Int) ≤ ((xs.length : Nat) : Int) by omega) rfl rfl) (by decide) ?_
      refine OL_nil ?_
      refine W_condt rfl ?_
      refine W_skip ?_
      refine W_seq ?_
      refine W_block ?_
      refine W_seq ?_
      refine W_seq ?_
      refine W_drawD H mixed (by kernel_rfl) [] (fun wq w' => w'.heap[b3]? = some (.cells #[.slice a1 lo.length c1, .slice none 0 0] 118) ∧ Ext none' w w') fun wd5 H hEd => ?_
      have hS : ∀ {ls : Array Bool}, Sx [] (fun w' => w'.heap[b3]? = some (.cells #[.slice a1 lo.length c1, .slice none 0 0] 118) ∧ Ext none' w w') ls wd5 := fun {_} _ => ⟨H.getOwn 1 rfl, H.ext_of 2 rfl⟩
      refine DA_p 0 rfl (by kernel_rfl) rfl (fun _ => y_move h6) hS (by decide) fun hS => ?_
      refine DA_p 1 rfl (by kernel_rfl) rfl (fun _ => y_move h0) hS (by decide) fun hS => ?_
      refine DA_p 2 rfl (by kernel_rfl) rfl (fun _ => y_fieldAddr ti118 rfl ti23 rfl h3) hS (by decide) fun hS => ?_
      refine DA_y 3 rfl (by kernel_rfl) rfl (by kernel_rfl) (fun w' h => y_loadS (v := .slice a1 lo.length c1) ti23 rfl rfl (Cells.unit h.1 rfl)) hS (by decide) fun hS => ?_
      refine DA_one 4 (by kernel_rfl) rfl (op_call 56 en56 rfl [.slice a0 xs.length c0, .slice a1 lo.length c1] rfl (by decide) ((f56_calls (hx.keeps (H.keepsAll 2 rfl _)) (hlo.keeps (H.keepsAll 2 rfl _))).mono ?_))
      rintro e w5_4 ⟨rfl, hE56⟩
      refine ⟨_, rfl, fun _ => ⟨(H.ext0 hE56).getOwn 1 rfl, (H.ext0 hE56).ext_of 2 rfl⟩, ?_⟩
      have H := H.ext0 hE56
      rw [hpk]
      have hS : ∀ {ls : Array Bool}, Sx [] (fun w' => w'.heap[b3]? = some (.cells #[.slice a1 lo.length c1, .slice none 0 0] 118) ∧ Ext none' w w') ls w5_4 := fun {_} _ => ⟨H.getOwn 1 rfl, H.ext_of 2 rfl⟩
      refine DA_p (v := .bool true) 5 rfl (by kernel_rfl) rfl (fun _ => y_gtrT (show (((0 : Nat) : Int) < ((1 : Nat) : Int)) by omega) rfl rfl) hS (by decide) fun hS => ?_
      refine DA_p (v := .bool true) 6 rfl (by kernel_rfl) rfl (fun _ => y_move rfl) hS (by decide) fun hS => ?_
      refine DA_pg 7 rfl rfl (by decide) rfl (by kernel_rfl) rfl (fun _ => y_move h0) hS (by decide) fun hS => ?_
      refine DA_pg 8 rfl rfl (by decide) rfl (by kernel_rfl) rfl (fun _ => y_move h6) hS (by decide) fun hS => ?_
      refine DA_pg 9 rfl rfl (by decide) rfl (by kernel_rfl) rfl (fun _ => y_sub64 rfl rfl (by omega) (by omega)) hS (by decide) fun hS => ?_
      refine DA_pg 10 rfl rfl (by decide) rfl (by kernel_rfl) rfl (fun _ => y_indexAddr ti30 ti23 (congrArg (Value.slice · _ _) ey) rfl (by omega) (by omega)) hS (by decide) fun hS => ?_
      refine DA_yg 11 rfl rfl (by decide) rfl (by kernel_rfl) rfl (by kernel_rfl) (fun w' h => y_loadS (v := .slice ax ([98] : Key).length cx) ti23 rfl rfl (hcy.ext (h.2.blk bx hcy.lt fun h => h))) hS (by decide) fun hS => ?_
      refine DA_pg 12 rfl rfl (by decide) rfl (by kernel_rfl) rfl (fun _ => y_fieldAddr ti118 rfl ti23 rfl h3) hS (by decide) fun hS => ?_
      refine DA_yg 13 rfl rfl (by decide) rfl (by kernel_rfl) rfl (by kernel_rfl) (fun w' h => y_loadS (v := .slice a1 lo.length c1) ti23 rfl rfl (Cells.unit h.1 rfl)) hS (by decide) fun hS => ?_
      refine DA_pg 14 rfl rfl (by decide) rfl (by kernel_rfl) rfl (fun _ => y_fieldAddr ti118 rfl ti23 rfl h3) hS (by decide) fun hS => ?_
      refine DA_yg 15 rfl rfl (by decide) rfl (by kernel_rfl) rfl (by kernel_rfl) (fun w' h => y_loadS (v := .slice none 0 0) ti23 rfl rfl (Cells.unit h.1 rfl)) hS (by decide) fun hS => ?_
      refine DA_oneg 16 (by kernel_rfl) rfl rfl (by decide) rfl (op_call 54 en54 rfl [.slice ax ([98] : Key).length cx, .slice a1 lo.length c1, .slice none 0 0] rfl (by decide) ((f54_calls (hkx.keeps (H.keepsAll 2 rfl _)) (hlo.keeps (H.keepsAll 2 rfl _)) (SlR.nil _ _ _ _)).mono ?_))
      rintro e w5_16 ⟨rfl, hE54⟩
      refine ⟨_, rfl, fun _ => ⟨(H.ext0 hE54).getOwn 1 rfl, (H.ext0 hE54).ext_of 2 rfl⟩, ?_⟩
      have H := H.ext0 hE54
      rw [hwi]
      have hS : ∀ {ls : Array Bool}, Sx [] (fun w' => w'.heap[b3]? = some (.cells #[.slice a1 lo.length c1, .slice none 0 0] 118) ∧ Ext none' w w') ls w5_16 := fun {_} _ => ⟨H.getOwn 1 rfl, H.ext_of 2 rfl⟩
      refine DA_pg (v := .bool false) 17 rfl rfl (by decide) rfl (by kernel_rfl) rfl (fun _ => y_not (b := true) rfl) hS (by decide) fun hS => ?_
      refine DA_p 18 rfl (by kernel_rfl) rfl (fun _ => y_pick (b := true) (v := .bool false) rfl rfl) hS (by decide) fun hS => ?_
      refine DA_done (by kernel_rfl) ?_
      refine W_condf rfl ?_
      refine W_skip ?_
      refine W_region ?_
      refine OL_y (y_move h5) (by decide) ?_
      refine OL_y (y_move h6) (by decide) ?_
      refine OL_c (op_buildSlice H [.int .i64 ((1 : Nat) : Int)] ti74 ti3 rfl rfl rfl (by simp [Value.cells]) rfl rfl (by decide) fun b38 w6_2 H => ?_)
      refine OL_c (op_append H 1 rfl rfl ti74 ti3 rfl rfl rfl rfl (Src.row (H.getRow 0 rfl)) rfl (by simp [Value.cells, Value.oneCell']) (by omega) (by simp only [maxLen]; omega) (by decide) fun v39 w6_3 H => ?_)
      refine OL_y (y_assign rfl) (by decide) ?_
      refine OL_nil ?_
      refine W_region ?_
      refine OL_y (y_move h6) (by decide) ?_
      refine OL_y (y_add64 rfl rfl (by omega) (by omega)) (by decide) ?_
      refine OL_y (y_assign rfl) (by decide) ?_
      refine OL_nil ?_
      exact ⟨0, by omega, 2, _, _, rfl, h0, h3, rfl, rfl, rfl, H.tail⟩

theorem inOne {n : Int} (h : InK .u8 n) : ∀ x ∈ ([n] : Key), InK .u8 x := by intro x hx; rw [List.mem_singleton.1 hx]; exact h
set_option maxHeartbeats 16000000 in
theorem f28_calls {w : World} : Calls Try.prog 28 [].toArray w fun e w' => e = .returned (.bool true) ∧ Ext none' w w' := by
  have H := Holds.start w
  refine calls_of_W' Try.func28 rfl Try.ntmps28 rfl ?_
  refine W_seq ?_
  refine W_region ?_
  refine OL_y (v := .bool false) (y_assign rfl) (by decide) ?_
  refine OL_nil ?_
  refine W_seq ?_
  refine W_region ?_
  refine OL_c (op_buildSlice H [.int .u8 98] ti23 ti5 rfl rfl rfl (by simp [Value.cells]) rfl rfl (by decide) fun b1 w1_0 H => ?_)
  refine OL_c (op_convSame (cs := [.int .u8 98]) H 0 rfl Try.underlying23 Try.underlying5 rfl (by decide) fun C1 fr1 w1_1 hC1 hm1 hc1 H => ?_)
  refine OL_c (op_buildSlice H [.int .u8 100] ti23 ti5 rfl rfl rfl (by simp [Value.cells]) rfl rfl (by decide) fun b3 w1_2 H => ?_)
  refine OL_c (op_convSame (cs := [.int .u8 100]) H 0 rfl Try.underlying23 Try.underlying5 rfl (by decide) fun C3 fr3 w1_3 hC3 hm3 hc3 H => ?_)
  refine OL_c (op_buildSlice H [.slice (some ⟨b1, 0, none⟩) 1 1, .slice (some ⟨b3, 0, none⟩) 1 1] ti30 ti23 rfl rfl rfl (by simp [Value.cells]) rfl rfl (by decide) fun b5 w1_4 H => ?_)
  refine OL_c (op_buildSlice H [.int .u8 99] ti23 ti5 rfl rfl rfl (by simp [Value.cells]) rfl rfl (by decide) fun b6 w1_5 H => ?_)
  refine OL_c (op_convSame (cs := [.int .u8 99]) H 0 rfl Try.underlying23 Try.underlying5 rfl (by decide) fun C6 fr6 w1_6 hC6 hm6 hc6 H => ?_)
  refine OL_c (op_call 56 en56 rfl [.slice (some ⟨b5, 0, none⟩) 2 2, .slice (some ⟨b6, 0, none⟩) 1 1] rfl (by decide) ((f56_calls (xs := [[98], [100]]) (k := [99]) (SlR.ofRow (Z := fun _ => True) (H.getRow 1 rfl) (by decide) (((Els.nil tKey _ _).snoc ⟨_, rfl, (SlR_block (Z := fun _ => True) (H.getOwn 3 rfl) hC1 (inOne (by unfold InK; decide)) rfl (by decide) hc1 (by decide) trivial)⟩).snoc ⟨_, rfl, (SlR_block (Z := fun _ => True) (H.getOwn 2 rfl) hC3 (inOne (by unfold InK; decide)) rfl (by decide) hc3 (by decide) trivial)⟩) (fun _ _ => trivial) (by decide)) (SlR_block (Z := fun _ => True) (H.getOwn 0 rfl) hC6 (inOne (by unfold InK; decide)) rfl (by decide) hc6 (by decide) trivial)).mono ?_))
  rintro e w1_7 ⟨rfl, hE56⟩
  refine ⟨_, rfl, ?_⟩
  have H := H.ext0 hE56
  rw [show picks [[98], [100]] [99] = 1 by decide]
  refine OL_y (v := .bool true) (y_eqlT (show (((1 : Nat) : Int) = 1) by decide) rfl rfl) (by decide) ?_
  refine OL_y (v := .bool true) (y_move rfl) (by decide) ?_
  refine OL_g rfl (by decide) rfl (op_buildSlice H [.int .u8 98] ti23 ti5 rfl rfl rfl (by simp [Value.cells]) rfl rfl (by decide) fun b11 w1_10 H => ?_)
  refine OL_g rfl (by decide) rfl (op_convSame (cs := [.int .u8 98]) H 0 rfl Try.underlying23 Try.underlying5 rfl (by decide) fun C11 fr11 w1_11 hC11 hm11 hc11 H => ?_)
  refine OL_g rfl (by decide) rfl (op_buildSlice H [.slice (some ⟨b11, 0, none⟩) 1 1] ti30 ti23 rfl rfl rfl (by simp [Value.cells]) rfl rfl (by decide) fun b13 w1_12 H => ?_)
  refine OL_g rfl (by decide) rfl (op_buildSlice H [.int .u8 97] ti23 ti5 rfl rfl rfl (by simp [Value.cells]) rfl rfl (by decide) fun b14 w1_13 H => ?_)
  refine OL_g rfl (by decide) rfl (op_convSame (cs := [.int .u8 97]) H 0 rfl Try.underlying23 Try.underlying5 rfl (by decide) fun C14 fr14 w1_14 hC14 hm14 hc14 H => ?_)
  refine OL_yg (v := .agg #[.slice (some ⟨b14, 0, none⟩) 1 1, .slice none 0 0]) rfl (by decide) rfl (y_build ti118 pl118 (by kernel_rfl)) (by decide) ?_
  refine OL_g rfl (by decide) rfl (op_call 57 en57 rfl [.slice (some ⟨b13, 0, none⟩) 1 1, .agg #[.slice (some ⟨b14, 0, none⟩) 1 1, .slice none 0 0]] rfl (by decide) ((f57_calls (xs := [[98]]) (lo := [97]) (SlR.ofRow (Z := fun _ => True) (H.getRow 1 rfl) (by decide) ((Els.nil tKey _ _).snoc ⟨_, rfl, (SlR_block (Z := fun _ => True) (H.getOwn 2 rfl) hC11 (inOne (by unfold InK; decide)) rfl (by decide) hc11 (by decide) trivial)⟩) (fun _ _ => trivial) (by decide)) (SlR_block (Z := fun _ => True) (H.getOwn 0 rfl) hC14 (inOne (by unfold InK; decide)) rfl (by decide) hc14 (by decide) trivial) rfl rfl).mono ?_))
  rintro e w1_16 ⟨a17, c17, rfl, hE57⟩
  refine ⟨_, rfl, ?_⟩
  have H := H.ext0 hE57
  refine OL_yg rfl (by decide) rfl (y_len rfl ti74 rfl) (by decide) ?_
  refine OL_yg (v := .bool true) rfl (by decide) rfl (y_eqlT (show (((2 : Nat) : Int) = 2) by decide) rfl rfl) (by decide) ?_
  refine OL_y (y_pick (b := true) (v := .bool true) rfl rfl) (by decide) ?_
  refine OL_y (v := .bool true) (y_assign rfl) (by decide) ?_
  refine OL_nil ?_
  refine W_ret ?_
  show RetOK _ _ _ _ _ _
  exact ret1 (v := .bool true) Try.results28 rfl ⟨rfl, H.ext_of 7 rfl⟩
end Go.Proofs.Ytpandioolpnihaa

namespace Go.Wk
open Go
theorem calls_bool {P : Program} {k : FuncId} {args : Array Value} {w : World} {p : Prop} {K : Value → World → Prop} (h : Calls P k args w fun e w' => ∃ bb : Bool, e = .returned (.bool bb) ∧ Ext none' w w' ∧ (bb = true → p)) (kT : ∀ w', Ext none' w w' → p → K (.bool true) w') (kF : ∀ w', Ext none' w w' → K (.bool false) w') : Calls P k args w fun e w' => ∃ v, e = .returned v ∧ K v w' := by
  refine h.mono ?_
  rintro e w' ⟨bb, rfl, hE, hp⟩
  cases bb with
  | true => exact ⟨_, rfl, kT w' hE (hp rfl)⟩
  | false => exact ⟨_, rfl, kF w' hE⟩
end Go.Wk
namespace Go.Proofs.Ytpandioolpnihaa
open Go Go.Wk
set_option linter.unusedVariables false
set_option linter.unusedSimpArgs false

section
variable {W w0 Wp : World} {F : Nat → Prop} {mb lb sb g1 g2 : Nat} {la : List (Int × Value)} {E : List Ent} {I : List Itn} {x : Atom} {L : List Atom}
theorem mIn1 (H : Holds W (x :: mAt mb lb la sb g1 g2 E I F Wp w0 L)) : Holds W (mAt mb lb la sb g1 g2 E I F Wp w0 (x :: L)) := mInL [x] H
theorem mOut1 (H : Holds W (mAt mb lb la sb g1 g2 E I F Wp w0 (x :: L))) : Holds W (x :: mAt mb lb la sb g1 g2 E I F Wp w0 L) := mOutL [x] H
end
theorem bdLe {j : Nat} (h : j ≤ 43) : bd j ≤ 9460 := bd43 ▸ bd_mono h
end Go.Proofs.Ytpandioolpnihaa

namespace Go.Proofs.Ytpandioolpnihaa
open Go Go.Wk
set_option linter.unusedVariables false
set_option linter.unusedSimpArgs false

section
variable {W w0 Wp W2 : World} {F F2 : Nat → Prop} {mb lb sb g1 g2 b : Nat} {la : List (Int × Value)} {E : List Ent} {I : List Itn} {q v : Value} {T : List TE} {R : List RE} {x : Atom} {L : List Atom}
theorem bothNew (H : Holds W (own b (.cells #[.slice none 0 0, .slice none 0 0] 68) :: mAt mb lb la sb g1 g2 E I F Wp w0 [exc F2 W2, shr (fun k => k < w0.heap.size) w0])) : Holds W (mAt mb lb la sb g1 g2 E I F Wp w0 (shAt b (.slice none 0 0) [] (.slice none 0 0) [] F2 W2 w0 [])) := by
  have H := (H.rowNil 55 7).rowNil 145 9
  have H := mInL (L := [exc F2 W2, shr (fun k => k < w0.heap.size) w0]) [_, _, _] H
  have H := mOutL (L := []) [_, _, _, _, _] H
  refine mInL (L := []) [_, _, _, _, _] (H.perm (List.Perm.append_right _ ?_))
  exact (List.perm_append_comm (l₁ := [_]) (l₂ := [_, _, _, _])).trans (List.Perm.swap _ _ _)
/-- The machine's turn, then the reference's. -/
theorem turnIn (H : Holds W (mAt mb lb la sb g1 g2 E I F Wp w0 (x :: shAt b q T v R F2 W2 w0 []))) : Holds W (shAt b q T v R F2 W2 w0 (x :: mAt mb lb la sb g1 g2 E I F Wp w0 [])) := shIn1 (mOutL (L := []) [_, _, _, _, _, _] H)
theorem turnOut (H : Holds W (shAt b q T v R F2 W2 w0 (x :: mAt mb lb la sb g1 g2 E I F Wp w0 []))) : Holds W (mAt mb lb la sb g1 g2 E I F Wp w0 (x :: shAt b q T v R F2 W2 w0 [])) := mInL (L := []) [_, _, _, _, _, _] (shOut1 H)
theorem refIn' (H : Holds W (mAt mb lb la sb g1 g2 E I F Wp w0 (shAt b q T v R F2 W2 w0 []))) : Holds W (shAt b q T v R F2 W2 w0 (mAt mb lb la sb g1 g2 E I F Wp w0 [])) := mOutL (L := []) [_, _, _, _, _] H
end

set_option maxHeartbeats 16000000 in
theorem f8_calls {Z : Nat → Prop} {w : World} {vl : Value} {l : List Cmd} (hl : SlR tCmd 320 Z w vl l) :
    Calls Try.prog 8 [vl].toArray w fun e w' => e = .returned (.bool true) ∧ Ext none' w w' := by
  have H := Holds.start w
  have hl := hl.mono (Z' := fun k => k < w.heap.size) fun k h _ => h
  obtain ⟨al, cl, rfl, hll, hml⟩ := hl.len
  refine calls_of_W' Try.func8 rfl Try.ntmps8 rfl ?_
  refine W_seq ?_
  refine W_region ?_
  refine OL_y (v := .bool false) (y_assign rfl) (by decide) ?_
  refine OL_nil ?_
  refine W_seq ?_
  refine W_seq ?_
  refine W_region ?_
  refine OL_c (op_call 28 en28 rfl [] rfl (by decide) ((f28_calls).mono ?_))
  rintro e w1_0 ⟨rfl, hE28⟩
  refine ⟨_, rfl, ?_⟩
  have H := H.ext0 hE28
  refine OL_y (y_not (b := true) rfl) (by decide) ?_
  refine OL_nil ?_
  refine W_condf rfl ?_
  refine W_skip ?_
  refine W_seq ?_
  refine W_seq ?_
  refine W_region ?_
  refine OL_y (y_move rfl) (by decide) ?_
  refine OL_c (op_call 29 en29 rfl [.slice al l.length cl] rfl (by decide) (calls_bool (f29_calls (hl.keeps (H.keepsAll 0 rfl _))) (fun w3_1 hE29 hsm => ?_) (fun w3_1 hE29 => ?_)))
  · have H := H.ext0 hE29
    refine OL_y (v := .bool false) (y_not (b := true) rfl) (by decide) ?_
    refine OL_nil ?_
    refine W_condf rfl ?_
    refine W_skip ?_
    refine W_seq ?_
    have hb := H.ext_of 0 rfl
    have hn40 := hsm.1
    have H : Holds w3_1 (exc none' w3_1 :: shr (fun k => k < w.heap.size) w :: exc none' w3_1 :: shr (fun k => k < w.heap.size) w :: []) := H.dup.pool0.pool0.perm (List.perm_middle (l₁ := [exc none' w3_1, shr (fun k => k < w.heap.size) w])).symm
    refine W_region ?_
    refine OL_c (op_call 30 en30 rfl [] rfl (by decide) ((f30_calls H).mono ?_))
    rintro e w5_0 ⟨mb, lb, sb, g1, g2, rfl, H⟩
    refine ⟨_, rfl, ?_⟩
    refine OL_y (v := .agg #[.slice none 0 0, .slice none 0 0]) (y_build ti68 pl68 (by kernel_rfl)) (by decide) ?_
    refine OL_c (op_box (v := .agg #[.slice none 0 0, .slice none 0 0]) H rfl (by decide) fun b15 w5_2 H => ?_)
    have H := bothNew H
    refine OL_y (y_assign rfl) (by decide) ?_
    refine OL_y (y_assign rfl) (by decide) ?_
    refine OL_nil ?_
    refine W_seq ?_
    refine W_seq ?_
    refine W_region ?_
    refine OL_y (y_move rfl) (by decide) ?_
    refine OL_y (y_len rfl ti57 rfl) (by decide) ?_
    refine OL_y (y_move rfl) (by decide) ?_
    refine OL_nil ?_
    refine W_range (N := l.length) (by simp only [maxLen]; omega) (fun j f ds w' => ∃ (la : List (Int × Value)) (lst : Lst) (E : List Ent) (I : List Itn) (F : Nat → Prop) (Wp : World) (a : Abs) (q v : Value) (T : List TE) (R : List RE) (F2 : Nat → Prop) (W2 : World), f 3 = .pointer (some ⟨mb, 0, none⟩) ∧ f 4 = .pointer (some ⟨b15, 0, none⟩) ∧ f 16 = .slice al l.length cl ∧ ds = [] ∧ CRep w F Wp E I a ∧ LRep w F Wp la lst ∧ RRep w F2 W2 R a ∧ TRep w F2 W2 T lst ∧ a.Ok (bd j) ∧ I.length ≤ 10 * j ∧ E.length ≤ bd j ∧ R.length ≤ 2 * bd j + 10 * j ∧ T.length ≤ j ∧ Holds w' (mAt mb lb la sb g1 g2 E I F Wp w (shAt b15 q T v R F2 W2 w [])))
        ⟨[], fun _ => none, [], [], none', w3_1, Abs.empty, .slice none 0 0, .slice none 0 0, [], [], none', w3_1, rfl, rfl, rfl, rfl, CRep.new hb, LRep.new _ _ _, RRep.new hb, TRep.new _ _ _, empty_ok, by simp, by simp, by simp, by simp, H⟩
        rfl rfl (by decide) (by decide) (by decide) rfl rfl ?_ rfl rfl ?_
    · rintro j f ds w7 hj ⟨la, lst, E, I, F, Wp, a, q, v, T, R, F2, W2, h3, h4, h16, rfl, hr, hL, hrr, hT, ha, hI, hE, hRn, hTn, H⟩ hti htn
      have hxj := List.getElem?_eq_getElem hj
      have hsd := hsm.2 _ (List.getElem_mem hj)
      generalize l[j] = d at *
      obtain ⟨bx, ox, cs9, e9, hz9, hc9, hr9⟩ := hl.at hxj
      have hc9' := hc9.ext ((H.keepsAll 6 rfl (fun _ => True)).2 _ trivial hc9.lt)
      have hone9 := tCmd.one hr9
      have hr9' : tCmd.R (Dz w F) Wp _ d := Ty.dzOf hr9 hr.base
      have hr9r : tCmd.R (Dz w F2) W2 _ d := Ty.dzOf hr9 hrr.base
      obtain ⟨y1, y2, y3, y4, y5, y6, y7, y8, y9, rfl, -⟩ := cmd_cells.1 hr9
      have hbj := bdLe (show j ≤ 43 by omega)
      have hw10 := hsd.2.1
      have h16' := h16.trans (congrArg (Value.slice · _ _) e9)
      refine W_block ?_
      refine W_seq ?_
      refine W_region ?_
      refine OL_y (y_indexAddr ti57 ti78 h16' hti (by omega) (by omega)) (by decide) ?_
      refine OL_y (y_loadA (cs := [.int .u64 d.client, .int .u64 d.seq, .int .i64 d.kind, .int .u64 d.txn, .int .u64 d.ts, .bool d.flag, .int .u64 d.lk.txn, .int .i64 d.lk.level, .int .i64 d.lk.mode, y1, y2, y3, y4, y5, y6, y7, .int .i64 d.tb.id, .string d.tb.name, y8, .int .i64 d.tb.key, y9]) ti78 rfl rfl hc9' rfl) (by decide) ?_
      refine OL_var (v := .agg #[.int .u64 d.client, .int .u64 d.seq, .int .i64 d.kind, .int .u64 d.txn, .int .u64 d.ts, .bool d.flag, .int .u64 d.lk.txn, .int .i64 d.lk.level, .int .i64 d.lk.mode, y1, y2, y3, y4, y5, y6, y7, .int .i64 d.tb.id, .string d.tb.name, y8, .int .i64 d.tb.key, y9]) H ti78 rfl (by decide) (fun _ => rfl) rfl (hone9) fun b6 w8_2 H => ?_
      refine OL_nil ?_
      refine W_seq ?_
      refine W_drawD H mixed (by kernel_rfl) [] (fun wq w' => w'.heap[b6]? = some (.cells #[.int .u64 d.client, .int .u64 d.seq, .int .i64 d.kind, .int .u64 d.txn, .int .u64 d.ts, .bool d.flag, .int .u64 d.lk.txn, .int .i64 d.lk.level, .int .i64 d.lk.mode, y1, y2, y3, y4, y5, y6, y7, .int .i64 d.tb.id, .string d.tb.name, y8, .int .i64 d.tb.key, y9] 78)) fun wd9 H hEd => ?_
      have hS : ∀ {ls : Array Bool}, Sx [] (fun w' => w'.heap[b6]? = some (.cells #[.int .u64 d.client, .int .u64 d.seq, .int .i64 d.kind, .int .u64 d.txn, .int .u64 d.ts, .bool d.flag, .int .u64 d.lk.txn, .int .i64 d.lk.level, .int .i64 d.lk.mode, y1, y2, y3, y4, y5, y6, y7, .int .i64 d.tb.id, .string d.tb.name, y8, .int .i64 d.tb.key, y9] 78)) ls wd9 := fun {_} _ => H.getOwn 0 rfl
      refine DA_p 0 rfl (by kernel_rfl) rfl (fun _ => y_move h3) hS (by decide) fun hS => ?_
      refine DA_y 1 rfl (by kernel_rfl) rfl (by kernel_rfl) (fun w' h => y_loadA (cs := [.int .u64 d.client, .int .u64 d.seq, .int .i64 d.kind, .int .u64 d.txn, .int .u64 d.ts, .bool d.flag, .int .u64 d.lk.txn, .int .i64 d.lk.level, .int .i64 d.lk.mode, y1, y2, y3, y4, y5, y6, y7, .int .i64 d.tb.id, .string d.tb.name, y8, .int .i64 d.tb.key, y9]) ti78 rfl rfl (Cells.of h rfl) rfl) hS (by decide) fun hS => ?_
      refine DA_p 3 rfl (by kernel_rfl) rfl (fun _ => y_move h4) hS (by decide) fun hS => ?_
      refine DA_y 4 rfl (by kernel_rfl) rfl (by kernel_rfl) (fun w' h => y_loadA (cs := [.int .u64 d.client, .int .u64 d.seq, .int .i64 d.kind, .int .u64 d.txn, .int .u64 d.ts, .bool d.flag, .int .u64 d.lk.txn, .int .i64 d.lk.level, .int .i64 d.lk.mode, y1, y2, y3, y4, y5, y6, y7, .int .i64 d.tb.id, .string d.tb.name, y8, .int .i64 d.tb.key, y9]) ti78 rfl rfl (Cells.of h rfl) rfl) hS (by decide) fun hS => ?_
      refine DA_one 2 (by kernel_rfl) rfl (op_call 32 en32 rfl [.pointer (some ⟨mb, 0, none⟩), .agg #[.int .u64 d.client, .int .u64 d.seq, .int .i64 d.kind, .int .u64 d.txn, .int .u64 d.ts, .bool d.flag, .int .u64 d.lk.txn, .int .i64 d.lk.level, .int .i64 d.lk.mode, y1, y2, y3, y4, y5, y6, y7, .int .i64 d.tb.id, .string d.tb.name, y8, .int .i64 d.tb.key, y9]] rfl (by decide) ((f32_calls (mIn1 H) hr hL ha (by omega) (by omega) (by omega) hr9' (by have := hsd.1; omega) (fun x hx => by have := hsd.2.2 x hx; omega)).mono ?_))
      rintro e w9_2 ⟨rcs, r, a', lst', la', E', I', F', Wp', rfl, hdo, H, hr', hL', gr, hR, ha', hI', hE'⟩
      refine ⟨_, rfl, fun _ => (mOut1 H).getOwn 0 rfl, ?_⟩
      have hS : ∀ {ls : Array Bool}, Sx [] (fun w' => w'.heap[b6]? = some (.cells #[.int .u64 d.client, .int .u64 d.seq, .int .i64 d.kind, .int .u64 d.txn, .int .u64 d.ts, .bool d.flag, .int .u64 d.lk.txn, .int .i64 d.lk.level, .int .i64 d.lk.mode, y1, y2, y3, y4, y5, y6, y7, .int .i64 d.tb.id, .string d.tb.name, y8, .int .i64 d.tb.key, y9] 78)) ls w9_2 := fun {_} _ => (mOut1 H).getOwn 0 rfl
      have H := turnIn H
      refine DA_one 5 (by kernel_rfl) rfl (op_call 33 en33 rfl [.pointer (some ⟨b15, 0, none⟩), .agg #[.int .u64 d.client, .int .u64 d.seq, .int .i64 d.kind, .int .u64 d.txn, .int .u64 d.ts, .bool d.flag, .int .u64 d.lk.txn, .int .i64 d.lk.level, .int .i64 d.lk.mode, y1, y2, y3, y4, y5, y6, y7, .int .i64 d.tb.id, .string d.tb.name, y8, .int .i64 d.tb.key, y9]] rfl (by decide) ((f33_calls (N := 10 * j) H hrr hT (by omega) ha (by omega) (by omega) (fun ks hks => Nat.le_trans (hr.intLe hks) hI) (by omega) hr9r (by omega)).mono ?_))
      rintro e w9_5 ⟨rcs2, r2, a2, lst2, q2, T2, v2, R2, F3, W3, rfl, hdo2, H, hrr', hT', gr2, hR2, hRn', hTn'⟩
      refine ⟨_, rfl, fun _ => (mOut1 (turnOut H)).getOwn 0 rfl, ?_⟩
      obtain ⟨rfl, rfl, rfl⟩ := hdo.uni hdo2
      have H := turnOut H
      have hS : ∀ {ls : Array Bool}, Sx [] (fun w' => w'.heap[b6]? = some (.cells #[.int .u64 d.client, .int .u64 d.seq, .int .i64 d.kind, .int .u64 d.txn, .int .u64 d.ts, .bool d.flag, .int .u64 d.lk.txn, .int .i64 d.lk.level, .int .i64 d.lk.mode, y1, y2, y3, y4, y5, y6, y7, .int .i64 d.tb.id, .string d.tb.name, y8, .int .i64 d.tb.key, y9] 78)) ls w9_5 := fun {_} _ => (mOut1 H).getOwn 0 rfl
      refine DA_one 6 (by kernel_rfl) rfl (op_call 31 en31 rfl [.agg rcs.toArray, .agg rcs2.toArray] rfl (by decide) ((f31_calls (tRes.keeps hR (H.dz 5 6 rfl rfl hr'.base)) (tRes.keeps hR2 ((turnIn H).dz 2 3 rfl rfl hrr'.base))).mono ?_))
      rintro e w9_6 ⟨rfl, hE31⟩
      refine ⟨_, rfl, fun _ => ((mOut1 H).ext0 hE31).getOwn 0 rfl, ?_⟩
      have H := H.ext0 hE31
      have hS : ∀ {ls : Array Bool}, Sx [] (fun w' => w'.heap[b6]? = some (.cells #[.int .u64 d.client, .int .u64 d.seq, .int .i64 d.kind, .int .u64 d.txn, .int .u64 d.ts, .bool d.flag, .int .u64 d.lk.txn, .int .i64 d.lk.level, .int .i64 d.lk.mode, y1, y2, y3, y4, y5, y6, y7, .int .i64 d.tb.id, .string d.tb.name, y8, .int .i64 d.tb.key, y9] 78)) ls w9_6 := fun {_} _ => (mOut1 H).getOwn 0 rfl
      have H := (mOut1 H).tail
      refine DA_p 7 rfl (by kernel_rfl) rfl (fun _ => y_not (b := true) rfl) hS (by decide) fun hS => ?_
      refine DA_done (by kernel_rfl) ?_
      refine W_condf rfl ?_
      refine W_skip ?_
      exact ⟨hti, htn, la', lst', E', I', F', Wp', a', q2, v2, T2, R2, F3, W3, h3, h4, h16, rfl, hr', hL', hrr', hT', ha'.mono (by show bd j + I.length ≤ bd j + 10 * j + 10; omega), by omega, by show E'.length ≤ bd j + 10 * j + 10; omega, by show R2.length ≤ 2 * (bd j + 10 * j + 10) + 10 * (j + 1); omega, by omega, H⟩
    · rintro f ds w7 ⟨la, lst, E, I, F, Wp, a, q, v, T, R, F2, W2, h3, h4, h16, rfl, hr, hL, hrr, hT, ha, hI, hE, hRn, hTn, H⟩ hti htn
      have hbn := bdLe (show l.length ≤ 43 by omega)
      refine W_seq ?_
      refine W_region ?_
      refine OL_y (y_move h3) (by decide) ?_
      refine OL_c (op_call 34 en34 rfl [.pointer (some ⟨mb, 0, none⟩)] rfl (by decide) ((f34_calls (H.getOwn 0 rfl)).mono ?_))
      rintro e w12_1 ⟨rfl, hE34⟩
      refine ⟨_, rfl, ?_⟩
      have H := H.ext0 hE34
      refine OL_y (y_assign rfl) (by decide) ?_
      refine OL_nil ?_
      refine W_seq ?_
      refine W_drawD H mixed (by kernel_rfl) [] (fun wq w' => True) fun wd13 H hEd => ?_
      refine DA_p 0 rfl (by kernel_rfl) rfl (fun _ => y_move rfl) (fun _ => trivial) (by decide) fun _ => ?_
      refine DA_p 1 rfl (by kernel_rfl) rfl (fun _ => y_neqNil (a := some ⟨sb, 0, none⟩) Try.underlying26 rfl rfl) (fun _ => trivial) (by decide) fun _ => ?_
      refine DA_p (v := .bool true) 2 rfl (by kernel_rfl) rfl (fun _ => y_move rfl) (fun _ => trivial) (by decide) fun _ => ?_
      refine DA_pg 3 rfl rfl (by decide) rfl (by kernel_rfl) rfl (fun _ => y_move rfl) (fun _ => trivial) (by decide) fun _ => ?_
      refine DA_pg 5 rfl rfl (by decide) rfl (by kernel_rfl) rfl (fun _ => y_move h4) (fun _ => trivial) (by decide) fun _ => ?_
      refine DA_pg 6 rfl rfl (by decide) rfl (by kernel_rfl) rfl (fun _ => y_nilCheck rfl ⟨_, rfl⟩) (fun _ => trivial) (by decide) fun _ => ?_
      refine DA_pg 7 rfl rfl (by decide) rfl (by kernel_rfl) rfl (fun _ => y_fieldAddr ti68 rfl ti66 rfl rfl) (fun _ => trivial) (by decide) fun _ => ?_
      refine DA_oneg 4 (by kernel_rfl) rfl rfl (by decide) rfl (op_call 25 en25 rfl [.pointer (some ⟨sb, 0, none⟩), .slice none 0 0, .slice none 0 0, .int .u64 18446744073709551615] rfl (by decide) ((f25_calls H.tail.tail hr ha (by omega) (by omega) (by omega) (SlR.nil (tInt .u8) 1 (fun _ => True) _) (SlR.nil (tInt .u8) 1 (fun _ => True) _)).mono ?_))
      rintro e w13_4 ⟨vs1, ks1, rfl, hsc1, hS1, hE25⟩
      refine ⟨_, rfl, fun _ => trivial, ?_⟩
      have H := H.ext0 hE25
      refine DA_oneg 8 (by kernel_rfl) rfl rfl (by decide) rfl (op_call 26 en26 rfl [.pointer (some ⟨b15, 1, none⟩), .slice none 0 0, .slice none 0 0, .int .u64 18446744073709551615] rfl (by decide) ((f26s_calls (refIn' H) hrr (by omega) ha (by omega) (SlR.nil (tInt .u8) 1 (fun _ => True) _) (SlR.nil (tInt .u8) 1 (fun _ => True) _)).mono ?_))
      rintro e w13_8 ⟨vs2, ks2, rfl, hsc2, hS2, hE26⟩
      refine ⟨_, rfl, fun _ => trivial, ?_⟩
      have H := H.ext0 hE26
      have hkk := scan_uni hsc2 hsc1
      subst hkk
      refine DA_oneg 9 (by kernel_rfl) rfl rfl (by decide) rfl (op_call 24 en24 rfl [vs1, vs2] rfl (by decide) ((f24_same (hS1.keeps hE26.keeps0) hS2).mono ?_))
      rintro e w13_9 ⟨rfl, hE24⟩
      refine ⟨_, rfl, fun _ => trivial, ?_⟩
      have H := H.ext0 hE24
      refine DA_p 10 rfl (by kernel_rfl) rfl (fun _ => y_pick (b := true) (v := .bool true) rfl rfl) (fun _ => trivial) (by decide) fun _ => ?_
      refine DA_p 11 rfl (by kernel_rfl) rfl (fun _ => y_assign rfl) (fun _ => trivial) (by decide) fun _ => ?_
      refine DA_done (by kernel_rfl) ?_
      refine W_ret ?_
      show RetOK _ _ _ _ _ _
      exact ret1 (v := .bool true) Try.results8 rfl ⟨rfl, H.ext_of 6 rfl⟩
  · have H := H.ext0 hE29
    refine OL_y (v := .bool true) (y_not (b := false) rfl) (by decide) ?_
    refine OL_nil ?_
    refine W_condt rfl ?_
    refine W_seq ?_
    refine W_region ?_
    refine OL_y (v := .bool true) (y_assign rfl) (by decide) ?_
    refine OL_nil ?_
    refine W_ret ?_
    show RetOK _ _ _ _ _ _
    exact ret1 (v := .bool true) Try.results8 rfl ⟨rfl, H.ext_of 0 rfl⟩
end Go.Proofs.Ytpandioolpnihaa
