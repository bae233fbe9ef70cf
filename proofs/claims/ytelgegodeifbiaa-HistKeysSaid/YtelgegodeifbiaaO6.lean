/- Two rows of runs in order, one behind the other, put in order. -/
import Derived.Test.YtelgegodeifbiaaO5
namespace Go.Proofs.Ytelgegodeifbiaa
open Go Go.Wk Pl
set_option linter.unusedVariables false

abbrev sl (bb N c : Nat) : Value := .slice (some ⟨bb, 0, none⟩) N c
theorem u64_nat (n : Nat) (h : n ≤ 100000) : IntKind.u64.wrap (n : Int) = (n : Int) := wrap_u64 (by omega) (by omega)
theorem i64_nat (n : Nat) (h : n ≤ 100000) : IntKind.i64.wrap (n : Int) = (n : Int) := wrap_i64 (by omega) (by omega)

theorem perm2 {α : Type} (a b c : List α) : (a ++ (b ++ c)).Perm (b ++ (a ++ c)) := by
  classical
  rw [List.perm_iff_count]; intro x; simp only [List.count_append]; omega
theorem perm4 {α : Type} (a b c d : List α) : ((a ++ b) ++ (c ++ d)).Perm ((a ++ c) ++ (b ++ d)) := by
  classical
  rw [List.perm_iff_count]; intro x; simp only [List.count_append]; omega
set_option maxHeartbeats 8000000 in
theorem f44_calls (fuel : Nat) : ∀ {w : World} {N bb c : Nat} {A B C D : List RR} {a m b : Nat} (hrow : w.ownsRow 0 33 8 (sl bb N c) N ((A ++ B ++ C ++ D).flatMap RR.cells)) (hN : (A ++ B ++ C ++ D).length = N) (hmax : N ≤ 1000)
    (ha : a = A.length) (hm : m = A.length + B.length) (hb : b = A.length + B.length + C.length) (hB : 0 < B.length) (hC : 0 < C.length) (sB : Srt B) (sC : Srt C) (h1 : One (A ++ B ++ C ++ D)) (hfu : B.length + C.length ≤ fuel),
    Calls Try.prog 44 [sl bb N c, .int .i64 a, .int .i64 m, .int .i64 b, .func (.func 30) #[] #[]].toArray w fun e w' => (∃ y, e = .returned y) ∧ Ext (fun k => (sl bb N c).ownBlock = some k) w w' ∧ ∃ S, S.Perm (B ++ C) ∧ Srt S ∧ w'.ownsRow 0 33 8 (sl bb N c) N ((A ++ S ++ D).flatMap RR.cells) := by
  induction fuel with
  | zero => intros; omega
  | succ fuel ih =>
    intro w N bb c A B C D a m b hrow hN hmax ha hm hb hB hC sB sC h1 hfu
    have H := Holds.startRow hrow
    simp only [List.length_append] at hN
    have hob : (sl bb N c).ownBlock = some bb := rfl
    have hv0 : (fr0 [sl bb N c, .int .i64 a, .int .i64 m, .int .i64 b, .func (.func 30) #[] #[]]) 0 = sl bb N c := rfl
    refine calls_of_W' Try.func44 rfl Try.ntmps44 rfl ?_
    refine W_seq ?_
    refine W_seq ?_
    refine W_region ?_
    refine OL_y (y_move rfl) (by decide) ?_
    refine OL_y (y_move rfl) (by decide) ?_
    refine OL_y (y_sub64' ((B.length : Nat) : Int) rfl rfl (by omega) (by omega) (by omega)) (by decide) ?_
    refine OL_y (y_eql rfl rfl) (by decide) ?_
    refine OL_nil ?_
    refine W_cond rfl (fun hc => ?_) (fun hc => ?_)
    · have hc := of_decide_eq_true hc
      obtain ⟨x, rfl⟩ : ∃ x, B = [x] := List.length_eq_one_iff.1 (by omega)
      simp only [List.length_cons, List.length_nil] at *
      refine W_seq ?_
      refine W_region ?_
      refine OL_y (y_move rfl) (by decide) ?_
      refine OL_y (y_assign rfl) (by decide) ?_
      refine OL_nil ?_
      refine W_seq ?_
      refine W_region ?_
      refine OL_y (y_move rfl) (by decide) ?_
      refine OL_y (y_assign rfl) (by decide) ?_
      refine OL_nil ?_
      refine W_seq ?_
      refine W_block (W_loopN (fun g f ds w' => ∃ i j, g + i = j ∧ m ≤ i ∧ j ≤ b ∧ (∀ z ∈ C.take (i - m), le z x) ∧ (∀ z ∈ C.drop (j - m), le x z) ∧ f 0 = sl bb N c ∧ f 1 = .int .i64 a ∧ f 2 = .int .i64 m ∧ f 3 = .int .i64 b ∧ f 4 = .func (.func 30) #[] #[] ∧ f 10 = .int .i64 (i : Nat) ∧ f 11 = .int .i64 (j : Nat) ∧ ds = [] ∧
          Holds w' [row 33 8 (sl bb N c) N ((A ++ [x] ++ C ++ D).flatMap RR.cells), shr (fun k => k < w.heap.size ∧ (sl bb N c).ownBlock ≠ some k) w])
          (b - m) ⟨m, b, by omega, by omega, by omega, by simp, by rw [List.drop_of_length_le (by omega)]; simp, hv0, rfl, rfl, rfl, rfl, rfl, rfl, rfl, H⟩
          ?_)
      rintro g f ds w1 ⟨i, j, hg, hi, hj, hlo, hhi, h0, hh1, h2, h3, h4, h10, h11, rfl, H⟩
      refine W_seq ?_
      refine W_seq ?_
      refine W_region ?_
      refine OL_y (y_move h10) (by decide) ?_
      refine OL_y (y_move h11) (by decide) ?_
      refine OL_y (y_lss rfl rfl) (by decide) ?_
      refine OL_nil ?_
      refine W_cond rfl (fun hc => ?_) (fun hc => ?_)
      · have hc1 := of_decide_eq_true hc
        obtain ⟨h, hh⟩ : ∃ h, h = (i + j) / 2 := ⟨_, rfl⟩
        have hy := List.getElem?_eq_getElem (l := C) (i := h - m) (by omega)
        generalize C[h - m] = y at hy
        have hgx : (A ++ [x] ++ C ++ D)[a]? = some x := by rw [List.append_assoc, List.append_assoc]; exact at_mid (by omega)
        have hgy : (A ++ [x] ++ C ++ D)[h]? = some y := by rw [List.append_assoc, List.getElem?_append_right (by simp; omega), List.getElem?_append_left (by simp; omega)]; simpa [hm, Nat.add_assoc] using hy
        refine W_skip ?_
        refine W_block ?_
        refine W_seq ?_
        refine W_region ?_
        refine OL_y (y_move h10) (by decide) ?_
        refine OL_y (y_move h11) (by decide) ?_
        refine OL_y (y_add64' ((i + j : Nat) : Int) rfl rfl (by omega) (by omega) (by omega)) (by decide) ?_
        refine OL_y (y_conv ((i + j : Nat) : Int) (by kernel_rfl) Try.underlying89 rfl (u64_nat _ (by omega))) (by decide) ?_
        refine OL_y (y_shr1 (h : Nat) rfl rfl (by decide) (by rw [half, hh])) (by decide) ?_
        refine OL_y (y_conv (h : Nat) (by kernel_rfl) Try.underlying3 rfl (i64_nat _ (by omega))) (by decide) ?_
        refine OL_y (y_assign rfl) (by decide) ?_
        refine OL_nil ?_
        refine W_seq ?_
        refine W_drawD H mixed (by kernel_rfl) [] (fun w0 w' => Cells w' bb (0 + h * 8) y.cells ∧ Cells w' bb (0 + a * 8) x.cells) fun wd5 H hEd => ?_
        have hS : ∀ (ls : Array Bool) w', w'.ownsRow 0 33 8 (sl bb N c) N ((A ++ [x] ++ C ++ D).flatMap RR.cells) → Sx [] (fun w' => Cells w' bb (0 + h * 8) y.cells ∧ Cells w' bb (0 + a * 8) x.cells) ls w' := fun _ _ hr _ => ⟨rowElAt RR.len hr hob hgy, rowElAt RR.len hr hob hgx⟩
        have hS0 := hS
        have hS := hS (List.replicate 11 false).toArray _ (H.getRow 0 rfl)
        refine DA_p 0 rfl (by kernel_rfl) rfl (fun _ => y_move h4) hS (by decide) fun hS => ?_
        refine DA_p 1 rfl (by kernel_rfl) rfl (fun _ => y_move h0) hS (by decide) fun hS => ?_
        refine DA_p 2 rfl (by kernel_rfl) rfl (fun _ => y_move rfl) hS (by decide) fun hS => ?_
        refine DA_p 3 rfl (by kernel_rfl) rfl (fun _ => y_indexAddr ti27 ti33 rfl rfl (by omega) (by omega)) hS (by decide) fun hS => ?_
        refine DA_y 4 rfl (by kernel_rfl) rfl (by kernel_rfl) (fun w' h => y_loadA (cs := y.cells) ti33 rfl rfl h.1 rfl) hS (by decide) fun hS => ?_
        refine DA_p 5 rfl (by kernel_rfl) rfl (fun _ => y_move h0) hS (by decide) fun hS => ?_
        refine DA_p 6 rfl (by kernel_rfl) rfl (fun _ => y_move hh1) hS (by decide) fun hS => ?_
        refine DA_p 7 rfl (by kernel_rfl) rfl (fun _ => y_indexAddr ti27 ti33 rfl rfl (by omega) (by omega)) hS (by decide) fun hS => ?_
        refine DA_y 8 rfl (by kernel_rfl) rfl (by kernel_rfl) (fun w' h => y_loadA (cs := x.cells) ti33 rfl rfl h.2 rfl) hS (by decide) fun hS => ?_
        refine DA_one 9 (by kernel_rfl) rfl (op_call 30 en30 rfl [.agg y.cells.toArray, .agg x.cells.toArray] rfl (by decide) ((f30_calls y x).mono ?_))
        rintro e w5_9 ⟨rfl, hE⟩
        refine ⟨_, rfl, fun _ => hS0 #[] _ ((H.ext0 hE).getRow 0 rfl) (fun d hd => by cases hd), ?_⟩
        have H := H.ext0 hE
        have hS := hS0 [true, true, true, true, true, true, true, true, true, true, false].toArray _ (H.getRow 0 rfl)
        refine DA_p 10 rfl (by kernel_rfl) rfl (fun _ => y_lss rfl rfl) hS (by decide) fun hS => ?_
        refine DA_done (by kernel_rfl) ?_
        refine W_cond rfl (fun hc => ?_) (fun hc => ?_)
        · have hc2 := of_decide_eq_true hc
          refine W_region ?_
          refine OL_y (y_move rfl) (by decide) ?_
          refine OL_y (y_add64' ((h + 1 : Nat) : Int) rfl rfl (by omega) (by omega) (by omega)) (by decide) ?_
          refine OL_y (y_assign rfl) (by decide) ?_
          refine OL_nil ?_
          exact ⟨j - (h + 1), by omega, h + 1, j, by omega, by omega, hj, fun z hz => le_trans (take_le sC hy z (by rw [show h - m + 1 = h + 1 - m by omega]; exact hz)) (le_of_lt hc2), hhi, h0, hh1, h2, h3, h4, rfl, h11, rfl, H⟩
        · have hc2 := of_decide_eq_false hc
          refine W_region ?_
          refine OL_y (y_move rfl) (by decide) ?_
          refine OL_y (y_assign rfl) (by decide) ?_
          refine OL_nil ?_
          exact ⟨h - i, by omega, i, h, by omega, hi, by omega, hlo, fun z hz => le_trans hc2 (drop_ge sC hy z hz), h0, hh1, h2, h3, h4, h10, rfl, rfl, H⟩
      · have hc1 := of_decide_eq_false hc
        obtain rfl : i = j := by omega
        refine W_exit ?_
        refine W_seq ?_
        refine W_seq ?_
        refine W_region ?_
        refine OL_y (y_move hh1) (by decide) ?_
        refine OL_y (y_assign rfl) (by decide) ?_
        refine OL_nil ?_
        refine W_block (W_loopN (fun g f ds w' => ∃ k, g + k = i - m ∧ f 0 = sl bb N c ∧ f 10 = .int .i64 (i : Nat) ∧ f 13 = .int .i64 (a + k : Nat) ∧ ds = [] ∧
            Holds w' [row 33 8 (sl bb N c) N ((A ++ C.take k ++ x :: (C.drop k ++ D)).flatMap RR.cells), shr (fun k => k < w.heap.size ∧ (sl bb N c).ownBlock ≠ some k) w])
            (i - m) ⟨0, by omega, h0, h10, rfl, rfl, by simpa using H⟩
            ?_)
        rintro g f ds w2 ⟨k, hg, h0, h10, h13, rfl, H⟩
        refine W_seq ?_
        refine W_seq ?_
        refine W_region ?_
        refine OL_y (y_move h13) (by decide) ?_
        refine OL_y (y_move h10) (by decide) ?_
        refine OL_y (y_sub64' ((i - 1 : Nat) : Int) rfl rfl (by omega) (by omega) (by omega)) (by decide) ?_
        refine OL_y (y_lss rfl rfl) (by decide) ?_
        refine OL_nil ?_
        refine W_cond rfl (fun hc => ?_) (fun hc => ?_)
        · have hc3 := of_decide_eq_true hc
          have hkC : k < C.length := by omega
          have hd : C.drop k = C[k] :: C.drop (k + 1) := List.drop_eq_getElem_cons hkC
          have ht : C.take (k + 1) = C.take k ++ [C[k]] := by rw [List.take_add_one, List.getElem?_eq_getElem hkC]; rfl
          have h1y : ∀ c ∈ C[k].cells, c.oneCell' = true := h1 _ (by simp [List.getElem_mem])
          have h1x : ∀ c ∈ x.cells, c.oneCell' = true := h1 _ (by simp)
          generalize C[k] = y at *
          have hlk : (A ++ C.take k).length = a + k := by rw [List.length_append, List.length_take]; omega
          rw [hd, List.cons_append] at H
          have hgx : ((A ++ C.take k) ++ x :: y :: (C.drop (k + 1) ++ D))[a + k]? = some x := at_mid hlk.symm
          have hgy : ((A ++ C.take k) ++ x :: y :: (C.drop (k + 1) ++ D))[a + k + 1]? = some y := by
            rw [show (A ++ C.take k) ++ x :: y :: (C.drop (k + 1) ++ D) = ((A ++ C.take k) ++ [x]) ++ y :: (C.drop (k + 1) ++ D) by simp only [List.append_assoc, List.cons_append, List.nil_append]]
            exact at_mid (by rw [List.length_append, hlk]; rfl)
          have hln : ((A ++ C.take k) ++ x :: y :: (C.drop (k + 1) ++ D)).length = N := by simp only [List.length_append, List.length_cons, List.length_take, List.length_drop]; omega
          refine W_skip ?_
          refine W_seq ?_
          refine W_block ?_
          refine W_drawD H mixed (by kernel_rfl) [15, 17] (fun w0 w' => Cells w' bb (0 + (a + k) * 8) x.cells ∧ Cells w' bb (0 + (a + k + 1) * 8) y.cells) fun wd11 H hEd => ?_
          have hS : Sx [15, 17] (fun w' => Cells w' bb (0 + (a + k) * 8) x.cells ∧ Cells w' bb (0 + (a + k + 1) * 8) y.cells) (List.replicate 18 false).toArray wd11 := fun _ => ⟨rowElAt RR.len (H.getRow 0 rfl) hob hgx, rowElAt RR.len (H.getRow 0 rfl) hob hgy⟩
          refine DA_p 0 rfl (by kernel_rfl) rfl (fun _ => y_move h0) hS (by decide) fun hS => ?_
          refine DA_p 1 rfl (by kernel_rfl) rfl (fun _ => y_move h13) hS (by decide) fun hS => ?_
          refine DA_p 2 rfl (by kernel_rfl) rfl (fun _ => y_move h0) hS (by decide) fun hS => ?_
          refine DA_p 3 rfl (by kernel_rfl) rfl (fun _ => y_move h13) hS (by decide) fun hS => ?_
          refine DA_p 4 rfl (by kernel_rfl) rfl (fun _ => y_add64' ((a + k + 1 : Nat) : Int) rfl rfl (by omega) (by omega) (by omega)) hS (by decide) fun hS => ?_
          refine DA_p 5 rfl (by kernel_rfl) rfl (fun _ => y_move h0) hS (by decide) fun hS => ?_
          refine DA_p 6 rfl (by kernel_rfl) rfl (fun _ => y_move h13) hS (by decide) fun hS => ?_
          refine DA_p 7 rfl (by kernel_rfl) rfl (fun _ => y_add64' ((a + k + 1 : Nat) : Int) rfl rfl (by omega) (by omega) (by omega)) hS (by decide) fun hS => ?_
          refine DA_p 8 rfl (by kernel_rfl) rfl (fun _ => y_indexAddr ti27 ti33 rfl rfl (by omega) (by omega)) hS (by decide) fun hS => ?_
          refine DA_y 9 rfl (by kernel_rfl) rfl (by kernel_rfl) (fun w' h => y_loadA (cs := y.cells) ti33 rfl rfl h.2 rfl) hS (by decide) fun hS => ?_
          refine DA_p 10 rfl (by kernel_rfl) rfl (fun _ => y_move h0) hS (by decide) fun hS => ?_
          refine DA_p 11 rfl (by kernel_rfl) rfl (fun _ => y_move h13) hS (by decide) fun hS => ?_
          refine DA_p 12 rfl (by kernel_rfl) rfl (fun _ => y_indexAddr ti27 ti33 rfl rfl (by omega) (by omega)) hS (by decide) fun hS => ?_
          refine DA_y 13 rfl (by kernel_rfl) rfl (by kernel_rfl) (fun w' h => y_loadA (cs := x.cells) ti33 rfl rfl h.1 rfl) hS (by decide) fun hS => ?_
          refine DA_p 14 rfl (by kernel_rfl) rfl (fun _ => y_indexAddr ti27 ti33 rfl rfl (by omega) (by omega)) hS (by decide) fun hS => ?_
          refine DA_one 15 (by kernel_rfl) rfl (op_storeEl (j := a + k) RR.len H 0 rfl hob ti33 y rfl rfl rfl (by rw [hln]; omega) h1y fun w11_15 H => ⟨fun h => absurd (h 15 (by simp)) (by decide), ?_⟩)
          have hS : ∀ ls : Array Bool, ls.getD 15 false = true → Sx [15, 17] (fun w' => Cells w' bb (0 + (a + k) * 8) x.cells ∧ Cells w' bb (0 + (a + k + 1) * 8) y.cells) ls w11_15 := fun ls hl h => by rw [h 15 (by simp)] at hl; cases hl
          have hS := hS [true, true, true, true, true, true, true, true, true, true, true, true, true, true, true, true, false, false].toArray rfl
          refine DA_p 16 rfl (by kernel_rfl) rfl (fun _ => y_indexAddr ti27 ti33 rfl rfl (by omega) (by omega)) hS (by decide) fun hS => ?_
          refine DA_one 17 (by kernel_rfl) rfl (op_storeEl (j := a + k + 1) RR.len H 0 rfl hob ti33 x rfl rfl rfl (by rw [List.length_set, hln]; omega) h1x fun w11_17 H => ⟨fun h => absurd (h 15 (by simp)) (by decide), ?_⟩)
          rw [swap_adj' hlk.symm] at H
          refine DA_done (by kernel_rfl) ?_
          refine W_region ?_
          refine OL_y (y_move h13) (by decide) ?_
          refine OL_y (y_add64' ((a + (k + 1) : Nat) : Int) rfl rfl (by omega) (by omega) (by omega)) (by decide) ?_
          refine OL_y (y_assign rfl) (by decide) ?_
          refine OL_nil ?_
          exact ⟨g - 1, by omega, k + 1, by omega, h0, h10, rfl, rfl, by rw [ht]; simpa using H⟩
        · have hc3 := of_decide_eq_false hc
          obtain rfl : k = i - m := by omega
          refine W_exit ?_
          refine W_ret ?_
          show RetOK _ _ _ _ _ _
          refine ret0 Try.results44 ⟨⟨_, rfl⟩, H.ext_row 1 rfl, C.take (i - m) ++ x :: C.drop (i - m), ?_, one_fin (by rw [List.take_append_drop]; exact sC) hlo hhi, by simpa using H.getRow 0 rfl⟩
          exact List.perm_middle.trans (by rw [List.take_append_drop]; exact List.Perm.refl _)
    · have hc0 := of_decide_eq_false hc
      refine W_skip ?_
      refine W_seq ?_
      refine W_seq ?_
      refine W_region ?_
      refine OL_y (y_move rfl) (by decide) ?_
      refine OL_y (y_move rfl) (by decide) ?_
      refine OL_y (y_sub64' ((C.length : Nat) : Int) rfl rfl (by omega) (by omega) (by omega)) (by decide) ?_
      refine OL_y (y_eql rfl rfl) (by decide) ?_
      refine OL_nil ?_
      refine W_cond rfl (fun hc => ?_) (fun hc => ?_)
      · have hc := of_decide_eq_true hc
        obtain ⟨y, rfl⟩ : ∃ y, C = [y] := List.length_eq_one_iff.1 (by omega)
        simp only [List.length_cons, List.length_nil] at *
        refine W_seq ?_
        refine W_region ?_
        refine OL_y (y_move rfl) (by decide) ?_
        refine OL_y (y_assign rfl) (by decide) ?_
        refine OL_nil ?_
        refine W_seq ?_
        refine W_region ?_
        refine OL_y (y_move rfl) (by decide) ?_
        refine OL_y (y_assign rfl) (by decide) ?_
        refine OL_nil ?_
        refine W_seq ?_
        refine W_block (W_loopN (fun g f ds w' => ∃ i j, g + i = j ∧ a ≤ i ∧ j ≤ m ∧ (∀ z ∈ B.take (i - a), le z y) ∧ (∀ z ∈ B.drop (j - a), le y z) ∧ f 0 = sl bb N c ∧ f 1 = .int .i64 a ∧ f 2 = .int .i64 m ∧ f 3 = .int .i64 b ∧ f 4 = .func (.func 30) #[] #[] ∧ f 14 = .int .i64 (i : Nat) ∧ f 15 = .int .i64 (j : Nat) ∧ ds = [] ∧
            Holds w' [row 33 8 (sl bb N c) N ((A ++ B ++ [y] ++ D).flatMap RR.cells), shr (fun k => k < w.heap.size ∧ (sl bb N c).ownBlock ≠ some k) w])
            (m - a) ⟨a, m, by omega, by omega, by omega, by simp, by rw [List.drop_of_length_le (by omega)]; simp, hv0, rfl, rfl, rfl, rfl, rfl, rfl, rfl, H⟩
            ?_)
        rintro g f ds w1 ⟨i, j, hg, hi, hj, hlo, hhi, h0, hh1, h2, h3, h4, h14, h15, rfl, H⟩
        refine W_seq ?_
        refine W_seq ?_
        refine W_region ?_
        refine OL_y (y_move h14) (by decide) ?_
        refine OL_y (y_move h15) (by decide) ?_
        refine OL_y (y_lss rfl rfl) (by decide) ?_
        refine OL_nil ?_
        refine W_cond rfl (fun hc => ?_) (fun hc => ?_)
        · have hc1 := of_decide_eq_true hc
          obtain ⟨h, hh⟩ : ∃ h, h = (i + j) / 2 := ⟨_, rfl⟩
          have hx := List.getElem?_eq_getElem (l := B) (i := h - a) (by omega)
          generalize B[h - a] = x at hx
          have hgy : (A ++ B ++ [y] ++ D)[m]? = some y := by rw [List.append_assoc (A ++ B)]; exact at_mid (by rw [List.length_append]; omega)
          have hgx : (A ++ B ++ [y] ++ D)[h]? = some x := by rw [List.append_assoc, List.append_assoc, List.getElem?_append_right (by omega), List.getElem?_append_left (by omega), ← ha]; exact hx
          refine W_skip ?_
          refine W_block ?_
          refine W_seq ?_
          refine W_region ?_
          refine OL_y (y_move h14) (by decide) ?_
          refine OL_y (y_move h15) (by decide) ?_
          refine OL_y (y_add64' ((i + j : Nat) : Int) rfl rfl (by omega) (by omega) (by omega)) (by decide) ?_
          refine OL_y (y_conv ((i + j : Nat) : Int) (by kernel_rfl) Try.underlying89 rfl (u64_nat _ (by omega))) (by decide) ?_
          refine OL_y (y_shr1 (h : Nat) rfl rfl (by decide) (by rw [half, hh])) (by decide) ?_
          refine OL_y (y_conv (h : Nat) (by kernel_rfl) Try.underlying3 rfl (i64_nat _ (by omega))) (by decide) ?_
          refine OL_y (y_assign rfl) (by decide) ?_
          refine OL_nil ?_
          refine W_seq ?_
          refine W_drawD H mixed (by kernel_rfl) [] (fun w0 w' => Cells w' bb (0 + m * 8) y.cells ∧ Cells w' bb (0 + h * 8) x.cells) fun wd17 H hEd => ?_
          have hS : ∀ (ls : Array Bool) w', w'.ownsRow 0 33 8 (sl bb N c) N ((A ++ B ++ [y] ++ D).flatMap RR.cells) → Sx [] (fun w' => Cells w' bb (0 + m * 8) y.cells ∧ Cells w' bb (0 + h * 8) x.cells) ls w' := fun _ _ hr _ => ⟨rowElAt RR.len hr hob hgy, rowElAt RR.len hr hob hgx⟩
          have hS0 := hS
          have hS := hS (List.replicate 12 false).toArray _ (H.getRow 0 rfl)
          refine DA_p 0 rfl (by kernel_rfl) rfl (fun _ => y_move h4) hS (by decide) fun hS => ?_
          refine DA_p 1 rfl (by kernel_rfl) rfl (fun _ => y_move h0) hS (by decide) fun hS => ?_
          refine DA_p 2 rfl (by kernel_rfl) rfl (fun _ => y_move h2) hS (by decide) fun hS => ?_
          refine DA_p 3 rfl (by kernel_rfl) rfl (fun _ => y_indexAddr ti27 ti33 rfl rfl (by omega) (by omega)) hS (by decide) fun hS => ?_
          refine DA_y 4 rfl (by kernel_rfl) rfl (by kernel_rfl) (fun w' h => y_loadA (cs := y.cells) ti33 rfl rfl h.1 rfl) hS (by decide) fun hS => ?_
          refine DA_p 5 rfl (by kernel_rfl) rfl (fun _ => y_move h0) hS (by decide) fun hS => ?_
          refine DA_p 6 rfl (by kernel_rfl) rfl (fun _ => y_move rfl) hS (by decide) fun hS => ?_
          refine DA_p 7 rfl (by kernel_rfl) rfl (fun _ => y_indexAddr ti27 ti33 rfl rfl (by omega) (by omega)) hS (by decide) fun hS => ?_
          refine DA_y 8 rfl (by kernel_rfl) rfl (by kernel_rfl) (fun w' h => y_loadA (cs := x.cells) ti33 rfl rfl h.2 rfl) hS (by decide) fun hS => ?_
          refine DA_one 9 (by kernel_rfl) rfl (op_call 30 en30 rfl [.agg y.cells.toArray, .agg x.cells.toArray] rfl (by decide) ((f30_calls y x).mono ?_))
          rintro e w17_9 ⟨rfl, hE⟩
          refine ⟨_, rfl, fun _ => hS0 #[] _ ((H.ext0 hE).getRow 0 rfl) (fun d hd => by cases hd), ?_⟩
          have H := H.ext0 hE
          have hS := hS0 [true, true, true, true, true, true, true, true, true, true, false, false].toArray _ (H.getRow 0 rfl)
          refine DA_p 10 rfl (by kernel_rfl) rfl (fun _ => y_lss rfl rfl) hS (by decide) fun hS => ?_
          refine DA_p 11 rfl (by kernel_rfl) rfl (fun _ => y_not rfl) hS (by decide) fun hS => ?_
          refine DA_done (by kernel_rfl) ?_
          refine W_cond rfl (fun hc => ?_) (fun hc => ?_)
          · have hc2 : ¬ cmpR y.r x.r < 0 := by simpa using hc
            refine W_region ?_
            refine OL_y (y_move rfl) (by decide) ?_
            refine OL_y (y_add64' ((h + 1 : Nat) : Int) rfl rfl (by omega) (by omega) (by omega)) (by decide) ?_
            refine OL_y (y_assign rfl) (by decide) ?_
            refine OL_nil ?_
            exact ⟨j - (h + 1), by omega, h + 1, j, by omega, by omega, hj, fun z hz => le_trans (take_le sB hx z (by rw [show h - a + 1 = h + 1 - a by omega]; exact hz)) hc2, hhi, h0, hh1, h2, h3, h4, rfl, h15, rfl, H⟩
          · have hc2 : cmpR y.r x.r < 0 := by simpa using hc
            refine W_region ?_
            refine OL_y (y_move rfl) (by decide) ?_
            refine OL_y (y_assign rfl) (by decide) ?_
            refine OL_nil ?_
            exact ⟨h - i, by omega, i, h, by omega, hi, by omega, hlo, fun z hz => le_trans (le_of_lt hc2) (drop_ge sB hx z hz), h0, hh1, h2, h3, h4, h14, rfl, rfl, H⟩
        · have hc1 := of_decide_eq_false hc
          obtain rfl : i = j := by omega
          refine W_exit ?_
          refine W_seq ?_
          refine W_seq ?_
          refine W_region ?_
          refine OL_y (y_move h2) (by decide) ?_
          refine OL_y (y_assign rfl) (by decide) ?_
          refine OL_nil ?_
          refine W_block (W_loopN (fun g f ds w' => ∃ q, g + i = a + q ∧ q ≤ B.length ∧ f 0 = sl bb N c ∧ f 14 = .int .i64 (i : Nat) ∧ f 17 = .int .i64 (a + q : Nat) ∧ ds = [] ∧
              Holds w' [row 33 8 (sl bb N c) N ((A ++ B.take q ++ y :: (B.drop q ++ D)).flatMap RR.cells), shr (fun k => k < w.heap.size ∧ (sl bb N c).ownBlock ≠ some k) w])
              (m - i) ⟨B.length, by omega, by omega, h0, h14, by rw [show a + B.length = m by omega]; rfl, rfl, by simpa using H⟩
              ?_)
          rintro g f ds w2 ⟨q, hg, hqB, h0, h14, h17, rfl, H⟩
          refine W_seq ?_
          refine W_seq ?_
          refine W_region ?_
          refine OL_y (y_move h17) (by decide) ?_
          refine OL_y (y_move h14) (by decide) ?_
          refine OL_y (y_gtr rfl rfl) (by decide) ?_
          refine OL_nil ?_
          refine W_cond rfl (fun hc => ?_) (fun hc => ?_)
          · have hc3 := of_decide_eq_true hc
            obtain ⟨k, rfl⟩ : ∃ k, q = k + 1 := ⟨q - 1, by omega⟩
            have hkB : k < B.length := by omega
            have hd : B.drop k = B[k] :: B.drop (k + 1) := List.drop_eq_getElem_cons hkB
            have ht : B.take (k + 1) = B.take k ++ [B[k]] := by rw [List.take_add_one, List.getElem?_eq_getElem hkB]; rfl
            have h1x : ∀ c ∈ B[k].cells, c.oneCell' = true := h1 _ (by simp [List.getElem_mem])
            have h1y : ∀ c ∈ y.cells, c.oneCell' = true := h1 _ (by simp)
            generalize B[k] = x at *
            have hlk : (A ++ B.take k).length = a + k := by rw [List.length_append, List.length_take]; omega
            have e1 : A ++ B.take (k + 1) ++ y :: (B.drop (k + 1) ++ D) = (A ++ B.take k) ++ x :: y :: (B.drop (k + 1) ++ D) := by rw [ht]; simp only [List.append_assoc, List.cons_append, List.nil_append]
            rw [e1] at H
            have hgx : ((A ++ B.take k) ++ x :: y :: (B.drop (k + 1) ++ D))[a + k]? = some x := at_mid hlk.symm
            have hgy : ((A ++ B.take k) ++ x :: y :: (B.drop (k + 1) ++ D))[a + (k + 1)]? = some y := by
              rw [show (A ++ B.take k) ++ x :: y :: (B.drop (k + 1) ++ D) = ((A ++ B.take k) ++ [x]) ++ y :: (B.drop (k + 1) ++ D) by simp only [List.append_assoc, List.cons_append, List.nil_append]]
              exact at_mid (by rw [List.length_append, hlk]; rfl)
            have hln : ((A ++ B.take k) ++ x :: y :: (B.drop (k + 1) ++ D)).length = N := by simp only [List.length_append, List.length_cons, List.length_take, List.length_drop]; omega
            refine W_skip ?_
            refine W_seq ?_
            refine W_block ?_
            refine W_drawD H mixed (by kernel_rfl) [15, 17] (fun w0 w' => Cells w' bb (0 + (a + k) * 8) x.cells ∧ Cells w' bb (0 + (a + (k + 1)) * 8) y.cells) fun wd23 H hEd => ?_
            have hS : Sx [15, 17] (fun w' => Cells w' bb (0 + (a + k) * 8) x.cells ∧ Cells w' bb (0 + (a + (k + 1)) * 8) y.cells) (List.replicate 18 false).toArray wd23 := fun _ => ⟨rowElAt RR.len (H.getRow 0 rfl) hob hgx, rowElAt RR.len (H.getRow 0 rfl) hob hgy⟩
            refine DA_p 0 rfl (by kernel_rfl) rfl (fun _ => y_move h0) hS (by decide) fun hS => ?_
            refine DA_p 1 rfl (by kernel_rfl) rfl (fun _ => y_move h17) hS (by decide) fun hS => ?_
            refine DA_p 2 rfl (by kernel_rfl) rfl (fun _ => y_move h0) hS (by decide) fun hS => ?_
            refine DA_p 3 rfl (by kernel_rfl) rfl (fun _ => y_move h17) hS (by decide) fun hS => ?_
            refine DA_p 4 rfl (by kernel_rfl) rfl (fun _ => y_sub64' ((a + k : Nat) : Int) rfl rfl (by omega) (by omega) (by omega)) hS (by decide) fun hS => ?_
            refine DA_p 5 rfl (by kernel_rfl) rfl (fun _ => y_move h0) hS (by decide) fun hS => ?_
            refine DA_p 6 rfl (by kernel_rfl) rfl (fun _ => y_move h17) hS (by decide) fun hS => ?_
            refine DA_p 7 rfl (by kernel_rfl) rfl (fun _ => y_sub64' ((a + k : Nat) : Int) rfl rfl (by omega) (by omega) (by omega)) hS (by decide) fun hS => ?_
            refine DA_p 8 rfl (by kernel_rfl) rfl (fun _ => y_indexAddr ti27 ti33 rfl rfl (by omega) (by omega)) hS (by decide) fun hS => ?_
            refine DA_y 9 rfl (by kernel_rfl) rfl (by kernel_rfl) (fun w' h => y_loadA (cs := x.cells) ti33 rfl rfl h.1 rfl) hS (by decide) fun hS => ?_
            refine DA_p 10 rfl (by kernel_rfl) rfl (fun _ => y_move h0) hS (by decide) fun hS => ?_
            refine DA_p 11 rfl (by kernel_rfl) rfl (fun _ => y_move h17) hS (by decide) fun hS => ?_
            refine DA_p 12 rfl (by kernel_rfl) rfl (fun _ => y_indexAddr ti27 ti33 rfl rfl (by omega) (by omega)) hS (by decide) fun hS => ?_
            refine DA_y 13 rfl (by kernel_rfl) rfl (by kernel_rfl) (fun w' h => y_loadA (cs := y.cells) ti33 rfl rfl h.2 rfl) hS (by decide) fun hS => ?_
            refine DA_p 14 rfl (by kernel_rfl) rfl (fun _ => y_indexAddr ti27 ti33 rfl rfl (by omega) (by omega)) hS (by decide) fun hS => ?_
            refine DA_one 15 (by kernel_rfl) rfl (op_storeEl (j := a + k + 1) RR.len H 0 rfl hob ti33 x rfl rfl rfl (by rw [hln]; omega) h1x fun w23_15 H => ⟨fun h => absurd (h 15 (by simp)) (by decide), ?_⟩)
            have hS : ∀ ls : Array Bool, ls.getD 15 false = true → Sx [15, 17] (fun w' => Cells w' bb (0 + (a + k) * 8) x.cells ∧ Cells w' bb (0 + (a + (k + 1)) * 8) y.cells) ls w23_15 := fun ls hl h => by rw [h 15 (by simp)] at hl; cases hl
            have hS := hS [true, true, true, true, true, true, true, true, true, true, true, true, true, true, true, true, false, false].toArray rfl
            refine DA_p 16 rfl (by kernel_rfl) rfl (fun _ => y_indexAddr ti27 ti33 rfl rfl (by omega) (by omega)) hS (by decide) fun hS => ?_
            refine DA_one 17 (by kernel_rfl) rfl (op_storeEl (j := a + k) RR.len H 0 rfl hob ti33 y rfl rfl rfl (by rw [List.length_set, hln]; omega) h1y fun w23_17 H => ⟨fun h => absurd (h 15 (by simp)) (by decide), ?_⟩)
            rw [swap_adj hlk.symm] at H
            refine DA_done (by kernel_rfl) ?_
            refine W_region ?_
            refine OL_y (y_move h17) (by decide) ?_
            refine OL_y (y_sub64' ((a + k : Nat) : Int) rfl rfl (by omega) (by omega) (by omega)) (by decide) ?_
            refine OL_y (y_assign rfl) (by decide) ?_
            refine OL_nil ?_
            exact ⟨g - 1, by omega, k, by omega, by omega, h0, h14, rfl, rfl, by rw [hd]; simpa using H⟩
          · have hc3 := of_decide_eq_false hc
            obtain rfl : q = i - a := by omega
            refine W_exit ?_
            refine W_ret ?_
            show RetOK _ _ _ _ _ _
            refine ret0 Try.results44 ⟨⟨_, rfl⟩, H.ext_row 1 rfl, B.take (i - a) ++ y :: B.drop (i - a), ?_, one_fin (by rw [List.take_append_drop]; exact sB) hlo hhi, by simpa using H.getRow 0 rfl⟩
            exact List.perm_middle.trans (by rw [List.take_append_drop]; exact (List.perm_append_singleton y B).symm)
      · have hc4 := of_decide_eq_false hc
        obtain ⟨mid, hmid⟩ : ∃ mid, mid = (a + b) / 2 := ⟨_, rfl⟩
        refine W_skip ?_
        refine W_seq ?_
        refine W_region ?_
        refine OL_y (y_move rfl) (by decide) ?_
        refine OL_y (y_move rfl) (by decide) ?_
        refine OL_y (y_add64' ((a + b : Nat) : Int) rfl rfl (by omega) (by omega) (by omega)) (by decide) ?_
        refine OL_y (y_conv ((a + b : Nat) : Int) (by kernel_rfl) Try.underlying89 rfl (u64_nat _ (by omega))) (by decide) ?_
        refine OL_y (y_shr1 (mid : Nat) rfl rfl (by decide) (by rw [half, hmid])) (by decide) ?_
        refine OL_y (y_conv (mid : Nat) (by kernel_rfl) Try.underlying3 rfl (i64_nat _ (by omega))) (by decide) ?_
        refine OL_y (y_assign rfl) (by decide) ?_
        refine OL_nil ?_
        refine W_seq ?_
        refine W_region ?_
        refine OL_y (y_move rfl) (by decide) ?_
        refine OL_y (y_move rfl) (by decide) ?_
        refine OL_y (y_add64' ((mid + m : Nat) : Int) rfl rfl (by omega) (by omega) (by omega)) (by decide) ?_
        refine OL_y (y_assign rfl) (by decide) ?_
        refine OL_nil ?_
        refine W_seq ?_
        refine W_region ?_
        refine OL_y (y_assign rfl) (by decide) ?_
        refine OL_y (y_assign rfl) (by decide) ?_
        refine OL_nil ?_
        refine W_seq ?_
        refine W_seq ?_
        refine W_region ?_
        refine OL_y (y_move rfl) (by decide) ?_
        refine OL_y (y_move rfl) (by decide) ?_
        refine OL_y (y_gtr rfl rfl) (by decide) ?_
        refine OL_nil ?_
        refine W_cut (fun f ds w' => ∃ s0 r0 : Nat, ((mid < m ∧ s0 + b = mid + m ∧ r0 = mid) ∨ (m ≤ mid ∧ s0 = a ∧ r0 = m)) ∧ f 0 = sl bb N c ∧ f 1 = .int .i64 a ∧ f 2 = .int .i64 m ∧ f 3 = .int .i64 b ∧ f 4 = .func (.func 30) #[] #[] ∧ f 18 = .int .i64 (mid : Nat) ∧ f 19 = .int .i64 (mid + m : Nat) ∧ f 20 = .int .i64 (s0 : Nat) ∧ f 21 = .int .i64 (r0 : Nat) ∧ ds = [] ∧ Holds w' [row 33 8 (sl bb N c) N ((A ++ B ++ C ++ D).flatMap RR.cells), shr (fun k => k < w.heap.size ∧ (sl bb N c).ownBlock ≠ some k) w]) ?_ ?_
        · refine W_cond rfl (fun hc => ?_) (fun hc => ?_)
          · have hc8 := of_decide_eq_true hc
            refine W_seq ?_
            refine W_region ?_
            refine OL_y (y_move rfl) (by decide) ?_
            refine OL_y (y_move rfl) (by decide) ?_
            refine OL_y (y_sub64' ((mid + m - b : Nat) : Int) rfl rfl (by omega) (by omega) (by omega)) (by decide) ?_
            refine OL_y (y_assign rfl) (by decide) ?_
            refine OL_nil ?_
            refine W_region ?_
            refine OL_y (y_move rfl) (by decide) ?_
            refine OL_y (y_assign rfl) (by decide) ?_
            refine OL_nil ?_
            exact ⟨mid + m - b, mid, .inl ⟨by omega, by omega, rfl⟩, hv0, rfl, rfl, rfl, rfl, rfl, rfl, rfl, rfl, rfl, H⟩
          · have hc8 := of_decide_eq_false hc
            refine W_seq ?_
            refine W_region ?_
            refine OL_y (y_move rfl) (by decide) ?_
            refine OL_y (y_assign rfl) (by decide) ?_
            refine OL_nil ?_
            refine W_region ?_
            refine OL_y (y_move rfl) (by decide) ?_
            refine OL_y (y_assign rfl) (by decide) ?_
            refine OL_nil ?_
            exact ⟨a, m, .inr ⟨by omega, rfl, rfl⟩, hv0, rfl, rfl, rfl, rfl, rfl, rfl, rfl, rfl, rfl, H⟩
        · rintro f ds w8 ⟨s0, r0, hsr, h0, hh1, h2, h3, h4, h18, h19, h20, h21, rfl, H⟩
          have hbd : a ≤ s0 ∧ r0 ≤ m ∧ r0 ≤ mid ∧ mid ≤ s0 + C.length ∧ s0 ≤ r0 := by omega
          refine W_seq ?_
          refine W_region ?_
          refine OL_y (y_move h19) (by decide) ?_
          refine OL_y (y_sub64' ((mid + m - 1 : Nat) : Int) rfl rfl (by omega) (by omega) (by omega)) (by decide) ?_
          refine OL_y (y_assign rfl) (by decide) ?_
          refine OL_nil ?_
          refine W_seq ?_
          refine W_block (W_loopN (fun g f ds w' => ∃ s r : Nat, g + s = r ∧ s0 ≤ s ∧ r ≤ r0 ∧ (s = s0 ∨ ∀ x y, B[s - 1 - a]? = some x → C[mid - s]? = some y → le x y) ∧ (r = r0 ∨ ∀ x y, B[r - a]? = some x → C[mid - 1 - r]? = some y → cmpR y.r x.r < 0) ∧
              f 0 = sl bb N c ∧ f 1 = .int .i64 a ∧ f 2 = .int .i64 m ∧ f 3 = .int .i64 b ∧ f 4 = .func (.func 30) #[] #[] ∧ f 18 = .int .i64 (mid : Nat) ∧ f 19 = .int .i64 (mid + m : Nat) ∧ f 20 = .int .i64 (s : Nat) ∧ f 21 = .int .i64 (r : Nat) ∧ f 22 = .int .i64 (mid + m - 1 : Nat) ∧ ds = [] ∧ Holds w' [row 33 8 (sl bb N c) N ((A ++ B ++ C ++ D).flatMap RR.cells), shr (fun k => k < w.heap.size ∧ (sl bb N c).ownBlock ≠ some k) w])
              (r0 - s0) ⟨s0, r0, by omega, by omega, by omega, .inl rfl, .inl rfl, h0, hh1, h2, h3, h4, h18, h19, h20, h21, rfl, rfl, H⟩
              ?_)
          rintro g f ds w9 ⟨s, r, hg, hs, hr, hlo, hhi, h0, hh1, h2, h3, h4, h18, h19, h20, h21, h22, rfl, H⟩
          refine W_seq ?_
          refine W_seq ?_
          refine W_region ?_
          refine OL_y (y_move h20) (by decide) ?_
          refine OL_y (y_move h21) (by decide) ?_
          refine OL_y (y_lss rfl rfl) (by decide) ?_
          refine OL_nil ?_
          refine W_cond rfl (fun hc => ?_) (fun hc => ?_)
          · have hc1 := of_decide_eq_true hc
            obtain ⟨h, hh⟩ : ∃ h, h = (s + r) / 2 := ⟨_, rfl⟩
            have hx := List.getElem?_eq_getElem (l := B) (i := h - a) (by omega)
            have hy := List.getElem?_eq_getElem (l := C) (i := mid - 1 - h) (by omega)
            generalize B[h - a] = x at hx
            generalize C[mid - 1 - h] = y at hy
            have hgx : (A ++ B ++ C ++ D)[h]? = some x := by rw [List.append_assoc, List.append_assoc, List.getElem?_append_right (by omega), List.getElem?_append_left (by omega), ← ha]; exact hx
            have hgy : (A ++ B ++ C ++ D)[mid + m - 1 - h]? = some y := by rw [List.append_assoc, List.getElem?_append_right (by rw [List.length_append]; omega), List.getElem?_append_left (by rw [List.length_append]; omega), List.length_append, show mid + m - 1 - h - (A.length + B.length) = mid - 1 - h by omega]; exact hy
            refine W_skip ?_
            refine W_block ?_
            refine W_seq ?_
            refine W_region ?_
            refine OL_y (y_move h20) (by decide) ?_
            refine OL_y (y_move h21) (by decide) ?_
            refine OL_y (y_add64' ((s + r : Nat) : Int) rfl rfl (by omega) (by omega) (by omega)) (by decide) ?_
            refine OL_y (y_conv ((s + r : Nat) : Int) (by kernel_rfl) Try.underlying89 rfl (u64_nat _ (by omega))) (by decide) ?_
            refine OL_y (y_shr1 (h : Nat) rfl rfl (by decide) (by rw [half, hh])) (by decide) ?_
            refine OL_y (y_conv (h : Nat) (by kernel_rfl) Try.underlying3 rfl (i64_nat _ (by omega))) (by decide) ?_
            refine OL_y (y_assign rfl) (by decide) ?_
            refine OL_nil ?_
            refine W_seq ?_
            refine W_drawD H mixed (by kernel_rfl) [] (fun w0 w' => Cells w' bb (0 + (mid + m - 1 - h) * 8) y.cells ∧ Cells w' bb (0 + h * 8) x.cells) fun wd35 H hEd => ?_
            have hS : ∀ (ls : Array Bool) w', w'.ownsRow 0 33 8 (sl bb N c) N ((A ++ B ++ C ++ D).flatMap RR.cells) → Sx [] (fun w' => Cells w' bb (0 + (mid + m - 1 - h) * 8) y.cells ∧ Cells w' bb (0 + h * 8) x.cells) ls w' := fun _ _ hr _ => ⟨rowElAt RR.len hr hob hgy, rowElAt RR.len hr hob hgx⟩
            have hS0 := hS
            have hS := hS (List.replicate 14 false).toArray _ (H.getRow 0 rfl)
            refine DA_p 0 rfl (by kernel_rfl) rfl (fun _ => y_move h4) hS (by decide) fun hS => ?_
            refine DA_p 1 rfl (by kernel_rfl) rfl (fun _ => y_move h0) hS (by decide) fun hS => ?_
            refine DA_p 2 rfl (by kernel_rfl) rfl (fun _ => y_move h22) hS (by decide) fun hS => ?_
            refine DA_p 3 rfl (by kernel_rfl) rfl (fun _ => y_move rfl) hS (by decide) fun hS => ?_
            refine DA_p 4 rfl (by kernel_rfl) rfl (fun _ => y_sub64' ((mid + m - 1 - h : Nat) : Int) rfl rfl (by omega) (by omega) (by omega)) hS (by decide) fun hS => ?_
            refine DA_p 5 rfl (by kernel_rfl) rfl (fun _ => y_indexAddr ti27 ti33 rfl rfl (by omega) (by omega)) hS (by decide) fun hS => ?_
            refine DA_y 6 rfl (by kernel_rfl) rfl (by kernel_rfl) (fun w' h => y_loadA (cs := y.cells) ti33 rfl rfl h.1 rfl) hS (by decide) fun hS => ?_
            refine DA_p 7 rfl (by kernel_rfl) rfl (fun _ => y_move h0) hS (by decide) fun hS => ?_
            refine DA_p 8 rfl (by kernel_rfl) rfl (fun _ => y_move rfl) hS (by decide) fun hS => ?_
            refine DA_p 9 rfl (by kernel_rfl) rfl (fun _ => y_indexAddr ti27 ti33 rfl rfl (by omega) (by omega)) hS (by decide) fun hS => ?_
            refine DA_y 10 rfl (by kernel_rfl) rfl (by kernel_rfl) (fun w' h => y_loadA (cs := x.cells) ti33 rfl rfl h.2 rfl) hS (by decide) fun hS => ?_
            refine DA_one 11 (by kernel_rfl) rfl (op_call 30 en30 rfl [.agg y.cells.toArray, .agg x.cells.toArray] rfl (by decide) ((f30_calls y x).mono ?_))
            rintro e w35_11 ⟨rfl, hE⟩
            refine ⟨_, rfl, fun _ => hS0 #[] _ ((H.ext0 hE).getRow 0 rfl) (fun d hd => by cases hd), ?_⟩
            have H := H.ext0 hE
            have hS := hS0 [true, true, true, true, true, true, true, true, true, true, true, true, false, false].toArray _ (H.getRow 0 rfl)
            refine DA_p 12 rfl (by kernel_rfl) rfl (fun _ => y_lss rfl rfl) hS (by decide) fun hS => ?_
            refine DA_p 13 rfl (by kernel_rfl) rfl (fun _ => y_not rfl) hS (by decide) fun hS => ?_
            refine DA_done (by kernel_rfl) ?_
            refine W_cond rfl (fun hc => ?_) (fun hc => ?_)
            · have hc2 : ¬ cmpR y.r x.r < 0 := by simpa using hc
              refine W_region ?_
              refine OL_y (y_move rfl) (by decide) ?_
              refine OL_y (y_add64' ((h + 1 : Nat) : Int) rfl rfl (by omega) (by omega) (by omega)) (by decide) ?_
              refine OL_y (y_assign rfl) (by decide) ?_
              refine OL_nil ?_
              refine ⟨r - (h + 1), by omega, h + 1, r, by omega, by omega, hr, .inr fun x' y' hx' hy' => ?_, hhi, h0, hh1, h2, h3, h4, h18, h19, rfl, h21, h22, rfl, H⟩
              rw [show h + 1 - 1 - a = h - a from rfl, hx] at hx'
              rw [show mid - (h + 1) = mid - 1 - h by omega, hy] at hy'
              injection hx' with hx'; injection hy' with hy'; subst hx' hy'; exact hc2
            · have hc2 : cmpR y.r x.r < 0 := by simpa using hc
              refine W_region ?_
              refine OL_y (y_move rfl) (by decide) ?_
              refine OL_y (y_assign rfl) (by decide) ?_
              refine OL_nil ?_
              refine ⟨h - s, by omega, s, h, by omega, hs, by omega, hlo, .inr fun x' y' hx' hy' => ?_, h0, hh1, h2, h3, h4, h18, h19, h20, rfl, h22, rfl, H⟩
              rw [hx] at hx'
              rw [hy] at hy'
              injection hx' with hx'; injection hy' with hy'; subst hx' hy'; exact hc2
          · have hc1 := of_decide_eq_false hc
            obtain rfl : s = r := by omega
            refine W_exit ?_
            refine W_seq ?_
            have X1 : ∀ x ∈ B.take (s - a), ∀ y ∈ C.drop (mid - s), le x y := cut_le sB sC (by omega) (by
              rcases hlo with rfl | hlo
              · rcases hsr with ⟨_, h, _⟩ | ⟨_, h, _⟩
                · exact .inr (.inl (by omega))
                · exact .inl (by omega)
              · refine .inr (.inr ?_); rw [show s - a - 1 = s - 1 - a by omega]; exact hlo)
            have X2 : ∀ x ∈ B.drop (s - a), ∀ y ∈ C.take (mid - s), le y x := cut_lt sB sC (by omega) (by
              rcases hhi with rfl | hhi
              · rcases hsr with ⟨_, _, h⟩ | ⟨_, _, h⟩
                · exact .inl (by omega)
                · exact .inr (.inl (by omega))
              · refine .inr (.inr ?_); rw [show mid - s - 1 = mid - 1 - s by omega]; exact hhi)
            obtain ⟨L1, L2, R1, R2, eB, eC, l1, l2, rfl, rfl⟩ : ∃ L1 L2 R1 R2, L1 = B.take (s - a) ∧ R2 = C.drop (mid - s) ∧ L1.length = s - a ∧ R1.length = mid - s ∧ B = L1 ++ L2 ∧ C = R1 ++ R2 :=
              ⟨B.take (s - a), B.drop (s - a), C.take (mid - s), C.drop (mid - s), rfl, rfl, by rw [List.length_take]; omega, by rw [List.length_take]; omega, (List.take_append_drop _ _).symm, (List.take_append_drop _ _).symm⟩
            rw [List.take_left' l1, List.drop_left' l2] at X1
            rw [List.drop_left' l1, List.take_left' l2] at X2
            have sL1 : Srt L1 := (List.pairwise_append.1 sB).1
            have sL2 : Srt L2 := (List.pairwise_append.1 sB).2.1
            have sR1 : Srt R1 := (List.pairwise_append.1 sC).1
            have sR2 : Srt R2 := (List.pairwise_append.1 sC).2.1
            simp only [List.length_append] at *
            have pp : (A ++ (L1 ++ R1) ++ (L2 ++ R2) ++ D).Perm (A ++ (L1 ++ L2) ++ (R1 ++ R2) ++ D) := by
              simp only [List.append_assoc]
              exact List.Perm.append_left A (List.Perm.append_left L1 (perm2 R1 L2 (R2 ++ D)))
            have h1' := h1.perm pp
            refine W_region ?_
            refine OL_y (y_move h19) (by decide) ?_
            refine OL_y (y_move h20) (by decide) ?_
            refine OL_y (y_sub64' ((mid + m - s : Nat) : Int) rfl rfl (by omega) (by omega) (by omega)) (by decide) ?_
            refine OL_y (y_assign rfl) (by decide) ?_
            refine OL_nil ?_
            refine W_seq ?_
            refine W_seq ?_
            by_cases hs1 : s < m
            · by_cases hs2 : m < mid + m - s
              · refine W_region ?_
                refine OL_y (y_move h20) (by decide) ?_
                refine OL_y (y_move h2) (by decide) ?_
                refine OL_y (v := .bool true) (y_lssT (by omega) rfl rfl) (by decide) ?_
                refine OL_y (v := .bool true) (y_move rfl) (by decide) ?_
                refine OL_yg rfl (by decide) rfl (y_move h2) (by decide) ?_
                refine OL_yg rfl (by decide) rfl (y_move rfl) (by decide) ?_
                refine OL_yg (v := .bool true) rfl (by decide) rfl (y_lssT (by omega) rfl rfl) (by decide) ?_
                refine OL_y (y_pick (b := true) (v := .bool true) rfl rfl) (by decide) ?_
                refine OL_nil ?_
                refine W_cut (fun f ds w' => f 0 = sl bb N c ∧ f 1 = .int .i64 a ∧ f 3 = .int .i64 b ∧ f 4 = .func (.func 30) #[] #[] ∧ f 18 = .int .i64 (mid : Nat) ∧ f 20 = .int .i64 (s : Nat) ∧ f 24 = .int .i64 (mid + m - s : Nat) ∧ ds = [] ∧ Holds w' [row 33 8 (sl bb N c) N ((A ++ (L1 ++ R1) ++ (L2 ++ R2) ++ D).flatMap RR.cells), shr (fun k => k < w.heap.size ∧ (sl bb N c).ownBlock ≠ some k) w]) ?_ ?_
                · refine W_condt rfl ?_
                  refine W_region ?_
                  refine OL_y (y_move h0) (by decide) ?_
                  refine OL_y (y_move h20) (by decide) ?_
                  refine OL_y (y_move h2) (by decide) ?_
                  refine OL_y (y_move rfl) (by decide) ?_
                  refine OL_y (y_move h4) (by decide) ?_
                  refine OL_c (op_call 48 en48 rfl [sl bb N c, .int .i64 (s : Nat), .int .i64 m, .int .i64 (mid + m - s : Nat), .func (.func 30) #[] #[]] rfl (by decide) ((f48_calls (A := A ++ L1) (X := L2) (Y := R1) (D := R2 ++ D) (by simpa using H.getRow 0 rfl) (by simp only [List.length_append]; omega) (fun _ => rfl) hmax (by rw [List.length_append]; omega) (by rw [List.length_append]; omega) (by rw [List.length_append]; omega) (by omega) (by omega) (by simpa using h1)).mono ?_))
                  rintro e w40_5 ⟨⟨y, rfl⟩, hE, hr⟩
                  refine ⟨_, rfl, ?_⟩
                  have H := H.step 0 rfl rfl hE (fun _ _ h => h) (row_ok hr) fun _ h => .inl h
                  refine OL_nil ?_
                  exact ⟨h0, hh1, h3, h4, h18, h20, rfl, rfl, by simpa using H⟩
                · rintro f ds w10 ⟨h0, hh1, h3, h4, h18, h20, h24, rfl, H⟩
                  refine W_seq ?_
                  refine W_seq ?_
                  by_cases hs3 : a < s
                  · by_cases hs4 : s < mid
                    · refine W_region ?_
                      refine OL_y (y_move hh1) (by decide) ?_
                      refine OL_y (y_move h20) (by decide) ?_
                      refine OL_y (v := .bool true) (y_lssT (by omega) rfl rfl) (by decide) ?_
                      refine OL_y (v := .bool true) (y_move rfl) (by decide) ?_
                      refine OL_yg rfl (by decide) rfl (y_move h20) (by decide) ?_
                      refine OL_yg rfl (by decide) rfl (y_move h18) (by decide) ?_
                      refine OL_yg (v := .bool true) rfl (by decide) rfl (y_lssT (by omega) rfl rfl) (by decide) ?_
                      refine OL_y (y_pick (b := true) (v := .bool true) rfl rfl) (by decide) ?_
                      refine OL_nil ?_
                      refine W_cut (fun f ds w' => ∃ S1, S1.Perm (L1 ++ R1) ∧ Srt S1 ∧ f 0 = sl bb N c ∧ f 3 = .int .i64 b ∧ f 4 = .func (.func 30) #[] #[] ∧ f 18 = .int .i64 (mid : Nat) ∧ f 24 = .int .i64 (mid + m - s : Nat) ∧ ds = [] ∧ Holds w' [row 33 8 (sl bb N c) N ((A ++ S1 ++ (L2 ++ R2) ++ D).flatMap RR.cells), shr (fun k => k < w.heap.size ∧ (sl bb N c).ownBlock ≠ some k) w]) ?_ ?_
                      · refine W_condt rfl ?_
                        refine W_region ?_
                        refine OL_y (y_move h0) (by decide) ?_
                        refine OL_y (y_move hh1) (by decide) ?_
                        refine OL_y (y_move h20) (by decide) ?_
                        refine OL_y (y_move h18) (by decide) ?_
                        refine OL_y (y_move h4) (by decide) ?_
                        refine OL_c (op_call 44 en44 rfl [sl bb N c, .int .i64 a, .int .i64 (s : Nat), .int .i64 (mid : Nat), .func (.func 30) #[] #[]] rfl (by decide) ((ih (A := A) (B := L1) (C := R1) (D := L2 ++ R2 ++ D) (by simpa using H.getRow 0 rfl) (by simp only [List.length_append]; omega) hmax ha (by omega) (by omega) (by omega) (by omega) sL1 sR1 (by simpa using h1') (by omega)).mono ?_))
                        rintro e w42_5 ⟨⟨y, rfl⟩, hE, S1, p1, s1, hr⟩
                        refine ⟨_, rfl, ?_⟩
                        have H := H.step 0 rfl rfl hE (fun _ _ h => h) (row_ok hr) fun _ h => .inl h
                        refine OL_nil ?_
                        exact ⟨S1, p1, s1, h0, h3, h4, h18, h24, rfl, by simpa using H⟩
                      · rintro f ds w11 ⟨S1, p1, s1, h0, h3, h4, h18, h24, rfl, H⟩
                        have hp1 := p1.length_eq
                        simp only [List.length_append] at hp1
                        have pp1 : (A ++ S1 ++ (L2 ++ R2) ++ D).Perm (A ++ (L1 ++ R1) ++ (L2 ++ R2) ++ D) := List.Perm.append_right _ (List.Perm.append_right _ (List.Perm.append_left _ p1))
                        have h1'' := h1'.perm pp1
                        refine W_seq ?_
                        by_cases hs5 : mid < mid + m - s
                        · by_cases hs6 : mid + m - s < b
                          · refine W_region ?_
                            refine OL_y (y_move h18) (by decide) ?_
                            refine OL_y (y_move h24) (by decide) ?_
                            refine OL_y (v := .bool true) (y_lssT (by omega) rfl rfl) (by decide) ?_
                            refine OL_y (v := .bool true) (y_move rfl) (by decide) ?_
                            refine OL_yg rfl (by decide) rfl (y_move h24) (by decide) ?_
                            refine OL_yg rfl (by decide) rfl (y_move h3) (by decide) ?_
                            refine OL_yg (v := .bool true) rfl (by decide) rfl (y_lssT (by omega) rfl rfl) (by decide) ?_
                            refine OL_y (y_pick (b := true) (v := .bool true) rfl rfl) (by decide) ?_
                            refine OL_nil ?_
                            refine W_condt rfl ?_
                            refine W_region ?_
                            refine OL_y (y_move h0) (by decide) ?_
                            refine OL_y (y_move h18) (by decide) ?_
                            refine OL_y (y_move h24) (by decide) ?_
                            refine OL_y (y_move h3) (by decide) ?_
                            refine OL_y (y_move h4) (by decide) ?_
                            refine OL_c (op_call 44 en44 rfl [sl bb N c, .int .i64 (mid : Nat), .int .i64 (mid + m - s : Nat), .int .i64 b, .func (.func 30) #[] #[]] rfl (by decide) ((ih (A := A ++ S1) (B := L2) (C := R2) (D := D) (by simpa using H.getRow 0 rfl) (by simp only [List.length_append]; omega) hmax (by rw [List.length_append]; omega) (by rw [List.length_append]; omega) (by rw [List.length_append]; omega) (by omega) (by omega) sL2 sR2 (by simpa using h1'') (by omega)).mono ?_))
                            rintro e w44_5 ⟨⟨y, rfl⟩, hE, S2, p2, s2, hr⟩
                            refine ⟨_, rfl, ?_⟩
                            have H := H.step 0 rfl rfl hE (fun _ _ h => h) (row_ok hr) fun _ h => .inl h
                            refine OL_nil ?_
                            show RetOK _ _ _ _ _ _
                            exact ret0 Try.results44 ⟨⟨_, rfl⟩, H.ext_row 1 rfl, S1 ++ S2, (p1.append p2).trans (perm4 L1 R1 L2 R2), merge_fin sB sC X1 X2 p1 p2 s1 s2, by simpa using H.getRow 0 rfl⟩
                          · refine W_region ?_
                            refine OL_y (y_move h18) (by decide) ?_
                            refine OL_y (y_move h24) (by decide) ?_
                            refine OL_y (v := .bool true) (y_lssT (by omega) rfl rfl) (by decide) ?_
                            refine OL_y (v := .bool true) (y_move rfl) (by decide) ?_
                            refine OL_yg rfl (by decide) rfl (y_move h24) (by decide) ?_
                            refine OL_yg rfl (by decide) rfl (y_move h3) (by decide) ?_
                            refine OL_yg (v := .bool false) rfl (by decide) rfl (y_lssF (by omega) rfl rfl) (by decide) ?_
                            refine OL_y (y_pick (b := true) (v := .bool false) rfl rfl) (by decide) ?_
                            refine OL_nil ?_
                            refine W_condf rfl ?_
                            refine W_skip ?_
                            show RetOK _ _ _ _ _ _
                            obtain rfl : R2 = [] := List.eq_nil_of_length_eq_zero (by omega)
                            exact ret0 Try.results44 ⟨⟨_, rfl⟩, H.ext_row 1 rfl, S1 ++ L2, (p1.append (by simp : L2.Perm (L2 ++ []))).trans (perm4 L1 R1 L2 []), merge_fin sB sC X1 X2 p1 (by simp) s1 sL2, by simpa using H.getRow 0 rfl⟩
                        · refine W_region ?_
                          refine OL_y (y_move h18) (by decide) ?_
                          refine OL_y (y_move h24) (by decide) ?_
                          refine OL_y (v := .bool false) (y_lssF (by omega) rfl rfl) (by decide) ?_
                          refine OL_y (v := .bool false) (y_move rfl) (by decide) ?_
                          refine OL_s rfl (by decide) rfl rfl (by simp) ?_
                          refine OL_s rfl (by decide) rfl rfl (by simp) ?_
                          refine OL_s rfl (by decide) rfl rfl (by simp) ?_
                          refine OL_y (y_pick (b := false) (v := .bool false) rfl rfl) (by decide) ?_
                          refine OL_nil ?_
                          refine W_condf rfl ?_
                          refine W_skip ?_
                          show RetOK _ _ _ _ _ _
                          obtain rfl : L2 = [] := List.eq_nil_of_length_eq_zero (by omega)
                          exact ret0 Try.results44 ⟨⟨_, rfl⟩, H.ext_row 1 rfl, S1 ++ R2, (p1.append (by simp : R2.Perm ([] ++ R2))).trans (perm4 L1 R1 [] R2), merge_fin sB sC X1 X2 p1 (by simp) s1 sR2, by simpa using H.getRow 0 rfl⟩
                    · refine W_region ?_
                      refine OL_y (y_move hh1) (by decide) ?_
                      refine OL_y (y_move h20) (by decide) ?_
                      refine OL_y (v := .bool true) (y_lssT (by omega) rfl rfl) (by decide) ?_
                      refine OL_y (v := .bool true) (y_move rfl) (by decide) ?_
                      refine OL_yg rfl (by decide) rfl (y_move h20) (by decide) ?_
                      refine OL_yg rfl (by decide) rfl (y_move h18) (by decide) ?_
                      refine OL_yg (v := .bool false) rfl (by decide) rfl (y_lssF (by omega) rfl rfl) (by decide) ?_
                      refine OL_y (y_pick (b := true) (v := .bool false) rfl rfl) (by decide) ?_
                      refine OL_nil ?_
                      refine W_cut (fun f ds w' => ∃ S1, S1.Perm (L1 ++ R1) ∧ Srt S1 ∧ f 0 = sl bb N c ∧ f 3 = .int .i64 b ∧ f 4 = .func (.func 30) #[] #[] ∧ f 18 = .int .i64 (mid : Nat) ∧ f 24 = .int .i64 (mid + m - s : Nat) ∧ ds = [] ∧ Holds w' [row 33 8 (sl bb N c) N ((A ++ S1 ++ (L2 ++ R2) ++ D).flatMap RR.cells), shr (fun k => k < w.heap.size ∧ (sl bb N c).ownBlock ≠ some k) w]) ?_ ?_
                      · refine W_condf rfl ?_
                        refine W_skip ?_
                        obtain rfl : R1 = [] := List.eq_nil_of_length_eq_zero (by omega)
                        exact ⟨L1, by simp, sL1, h0, h3, h4, h18, h24, rfl, by simpa using H⟩
                      · rintro f ds w11 ⟨S1, p1, s1, h0, h3, h4, h18, h24, rfl, H⟩
                        have hp1 := p1.length_eq
                        simp only [List.length_append] at hp1
                        have pp1 : (A ++ S1 ++ (L2 ++ R2) ++ D).Perm (A ++ (L1 ++ R1) ++ (L2 ++ R2) ++ D) := List.Perm.append_right _ (List.Perm.append_right _ (List.Perm.append_left _ p1))
                        have h1'' := h1'.perm pp1
                        refine W_seq ?_
                        by_cases hs5 : mid < mid + m - s
                        · by_cases hs6 : mid + m - s < b
                          · refine W_region ?_
                            refine OL_y (y_move h18) (by decide) ?_
                            refine OL_y (y_move h24) (by decide) ?_
                            refine OL_y (v := .bool true) (y_lssT (by omega) rfl rfl) (by decide) ?_
                            refine OL_y (v := .bool true) (y_move rfl) (by decide) ?_
                            refine OL_yg rfl (by decide) rfl (y_move h24) (by decide) ?_
                            refine OL_yg rfl (by decide) rfl (y_move h3) (by decide) ?_
                            refine OL_yg (v := .bool true) rfl (by decide) rfl (y_lssT (by omega) rfl rfl) (by decide) ?_
                            refine OL_y (y_pick (b := true) (v := .bool true) rfl rfl) (by decide) ?_
                            refine OL_nil ?_
                            refine W_condt rfl ?_
                            refine W_region ?_
                            refine OL_y (y_move h0) (by decide) ?_
                            refine OL_y (y_move h18) (by decide) ?_
                            refine OL_y (y_move h24) (by decide) ?_
                            refine OL_y (y_move h3) (by decide) ?_
                            refine OL_y (y_move h4) (by decide) ?_
                            refine OL_c (op_call 44 en44 rfl [sl bb N c, .int .i64 (mid : Nat), .int .i64 (mid + m - s : Nat), .int .i64 b, .func (.func 30) #[] #[]] rfl (by decide) ((ih (A := A ++ S1) (B := L2) (C := R2) (D := D) (by simpa using H.getRow 0 rfl) (by simp only [List.length_append]; omega) hmax (by rw [List.length_append]; omega) (by rw [List.length_append]; omega) (by rw [List.length_append]; omega) (by omega) (by omega) sL2 sR2 (by simpa using h1'') (by omega)).mono ?_))
                            rintro e w44_5 ⟨⟨y, rfl⟩, hE, S2, p2, s2, hr⟩
                            refine ⟨_, rfl, ?_⟩
                            have H := H.step 0 rfl rfl hE (fun _ _ h => h) (row_ok hr) fun _ h => .inl h
                            refine OL_nil ?_
                            show RetOK _ _ _ _ _ _
                            exact ret0 Try.results44 ⟨⟨_, rfl⟩, H.ext_row 1 rfl, S1 ++ S2, (p1.append p2).trans (perm4 L1 R1 L2 R2), merge_fin sB sC X1 X2 p1 p2 s1 s2, by simpa using H.getRow 0 rfl⟩
                          · refine W_region ?_
                            refine OL_y (y_move h18) (by decide) ?_
                            refine OL_y (y_move h24) (by decide) ?_
                            refine OL_y (v := .bool true) (y_lssT (by omega) rfl rfl) (by decide) ?_
                            refine OL_y (v := .bool true) (y_move rfl) (by decide) ?_
                            refine OL_yg rfl (by decide) rfl (y_move h24) (by decide) ?_
                            refine OL_yg rfl (by decide) rfl (y_move h3) (by decide) ?_
                            refine OL_yg (v := .bool false) rfl (by decide) rfl (y_lssF (by omega) rfl rfl) (by decide) ?_
                            refine OL_y (y_pick (b := true) (v := .bool false) rfl rfl) (by decide) ?_
                            refine OL_nil ?_
                            refine W_condf rfl ?_
                            refine W_skip ?_
                            show RetOK _ _ _ _ _ _
                            obtain rfl : R2 = [] := List.eq_nil_of_length_eq_zero (by omega)
                            exact ret0 Try.results44 ⟨⟨_, rfl⟩, H.ext_row 1 rfl, S1 ++ L2, (p1.append (by simp : L2.Perm (L2 ++ []))).trans (perm4 L1 R1 L2 []), merge_fin sB sC X1 X2 p1 (by simp) s1 sL2, by simpa using H.getRow 0 rfl⟩
                        · refine W_region ?_
                          refine OL_y (y_move h18) (by decide) ?_
                          refine OL_y (y_move h24) (by decide) ?_
                          refine OL_y (v := .bool false) (y_lssF (by omega) rfl rfl) (by decide) ?_
                          refine OL_y (v := .bool false) (y_move rfl) (by decide) ?_
                          refine OL_s rfl (by decide) rfl rfl (by simp) ?_
                          refine OL_s rfl (by decide) rfl rfl (by simp) ?_
                          refine OL_s rfl (by decide) rfl rfl (by simp) ?_
                          refine OL_y (y_pick (b := false) (v := .bool false) rfl rfl) (by decide) ?_
                          refine OL_nil ?_
                          refine W_condf rfl ?_
                          refine W_skip ?_
                          show RetOK _ _ _ _ _ _
                          obtain rfl : L2 = [] := List.eq_nil_of_length_eq_zero (by omega)
                          exact ret0 Try.results44 ⟨⟨_, rfl⟩, H.ext_row 1 rfl, S1 ++ R2, (p1.append (by simp : R2.Perm ([] ++ R2))).trans (perm4 L1 R1 [] R2), merge_fin sB sC X1 X2 p1 (by simp) s1 sR2, by simpa using H.getRow 0 rfl⟩
                  · refine W_region ?_
                    refine OL_y (y_move hh1) (by decide) ?_
                    refine OL_y (y_move h20) (by decide) ?_
                    refine OL_y (v := .bool false) (y_lssF (by omega) rfl rfl) (by decide) ?_
                    refine OL_y (v := .bool false) (y_move rfl) (by decide) ?_
                    refine OL_s rfl (by decide) rfl rfl (by simp) ?_
                    refine OL_s rfl (by decide) rfl rfl (by simp) ?_
                    refine OL_s rfl (by decide) rfl rfl (by simp) ?_
                    refine OL_y (y_pick (b := false) (v := .bool false) rfl rfl) (by decide) ?_
                    refine OL_nil ?_
                    refine W_cut (fun f ds w' => ∃ S1, S1.Perm (L1 ++ R1) ∧ Srt S1 ∧ f 0 = sl bb N c ∧ f 3 = .int .i64 b ∧ f 4 = .func (.func 30) #[] #[] ∧ f 18 = .int .i64 (mid : Nat) ∧ f 24 = .int .i64 (mid + m - s : Nat) ∧ ds = [] ∧ Holds w' [row 33 8 (sl bb N c) N ((A ++ S1 ++ (L2 ++ R2) ++ D).flatMap RR.cells), shr (fun k => k < w.heap.size ∧ (sl bb N c).ownBlock ≠ some k) w]) ?_ ?_
                    · refine W_condf rfl ?_
                      refine W_skip ?_
                      obtain rfl : L1 = [] := List.eq_nil_of_length_eq_zero (by omega)
                      exact ⟨R1, by simp, sR1, h0, h3, h4, h18, h24, rfl, by simpa using H⟩
                    · rintro f ds w11 ⟨S1, p1, s1, h0, h3, h4, h18, h24, rfl, H⟩
                      have hp1 := p1.length_eq
                      simp only [List.length_append] at hp1
                      have pp1 : (A ++ S1 ++ (L2 ++ R2) ++ D).Perm (A ++ (L1 ++ R1) ++ (L2 ++ R2) ++ D) := List.Perm.append_right _ (List.Perm.append_right _ (List.Perm.append_left _ p1))
                      have h1'' := h1'.perm pp1
                      refine W_seq ?_
                      by_cases hs5 : mid < mid + m - s
                      · by_cases hs6 : mid + m - s < b
                        · refine W_region ?_
                          refine OL_y (y_move h18) (by decide) ?_
                          refine OL_y (y_move h24) (by decide) ?_
                          refine OL_y (v := .bool true) (y_lssT (by omega) rfl rfl) (by decide) ?_
                          refine OL_y (v := .bool true) (y_move rfl) (by decide) ?_
                          refine OL_yg rfl (by decide) rfl (y_move h24) (by decide) ?_
                          refine OL_yg rfl (by decide) rfl (y_move h3) (by decide) ?_
                          refine OL_yg (v := .bool true) rfl (by decide) rfl (y_lssT (by omega) rfl rfl) (by decide) ?_
                          refine OL_y (y_pick (b := true) (v := .bool true) rfl rfl) (by decide) ?_
                          refine OL_nil ?_
                          refine W_condt rfl ?_
                          refine W_region ?_
                          refine OL_y (y_move h0) (by decide) ?_
                          refine OL_y (y_move h18) (by decide) ?_
                          refine OL_y (y_move h24) (by decide) ?_
                          refine OL_y (y_move h3) (by decide) ?_
                          refine OL_y (y_move h4) (by decide) ?_
                          refine OL_c (op_call 44 en44 rfl [sl bb N c, .int .i64 (mid : Nat), .int .i64 (mid + m - s : Nat), .int .i64 b, .func (.func 30) #[] #[]] rfl (by decide) ((ih (A := A ++ S1) (B := L2) (C := R2) (D := D) (by simpa using H.getRow 0 rfl) (by simp only [List.length_append]; omega) hmax (by rw [List.length_append]; omega) (by rw [List.length_append]; omega) (by rw [List.length_append]; omega) (by omega) (by omega) sL2 sR2 (by simpa using h1'') (by omega)).mono ?_))
                          rintro e w44_5 ⟨⟨y, rfl⟩, hE, S2, p2, s2, hr⟩
                          refine ⟨_, rfl, ?_⟩
                          have H := H.step 0 rfl rfl hE (fun _ _ h => h) (row_ok hr) fun _ h => .inl h
                          refine OL_nil ?_
                          show RetOK _ _ _ _ _ _
                          exact ret0 Try.results44 ⟨⟨_, rfl⟩, H.ext_row 1 rfl, S1 ++ S2, (p1.append p2).trans (perm4 L1 R1 L2 R2), merge_fin sB sC X1 X2 p1 p2 s1 s2, by simpa using H.getRow 0 rfl⟩
                        · refine W_region ?_
                          refine OL_y (y_move h18) (by decide) ?_
                          refine OL_y (y_move h24) (by decide) ?_
                          refine OL_y (v := .bool true) (y_lssT (by omega) rfl rfl) (by decide) ?_
                          refine OL_y (v := .bool true) (y_move rfl) (by decide) ?_
                          refine OL_yg rfl (by decide) rfl (y_move h24) (by decide) ?_
                          refine OL_yg rfl (by decide) rfl (y_move h3) (by decide) ?_
                          refine OL_yg (v := .bool false) rfl (by decide) rfl (y_lssF (by omega) rfl rfl) (by decide) ?_
                          refine OL_y (y_pick (b := true) (v := .bool false) rfl rfl) (by decide) ?_
                          refine OL_nil ?_
                          refine W_condf rfl ?_
                          refine W_skip ?_
                          show RetOK _ _ _ _ _ _
                          obtain rfl : R2 = [] := List.eq_nil_of_length_eq_zero (by omega)
                          exact ret0 Try.results44 ⟨⟨_, rfl⟩, H.ext_row 1 rfl, S1 ++ L2, (p1.append (by simp : L2.Perm (L2 ++ []))).trans (perm4 L1 R1 L2 []), merge_fin sB sC X1 X2 p1 (by simp) s1 sL2, by simpa using H.getRow 0 rfl⟩
                      · refine W_region ?_
                        refine OL_y (y_move h18) (by decide) ?_
                        refine OL_y (y_move h24) (by decide) ?_
                        refine OL_y (v := .bool false) (y_lssF (by omega) rfl rfl) (by decide) ?_
                        refine OL_y (v := .bool false) (y_move rfl) (by decide) ?_
                        refine OL_s rfl (by decide) rfl rfl (by simp) ?_
                        refine OL_s rfl (by decide) rfl rfl (by simp) ?_
                        refine OL_s rfl (by decide) rfl rfl (by simp) ?_
                        refine OL_y (y_pick (b := false) (v := .bool false) rfl rfl) (by decide) ?_
                        refine OL_nil ?_
                        refine W_condf rfl ?_
                        refine W_skip ?_
                        show RetOK _ _ _ _ _ _
                        obtain rfl : L2 = [] := List.eq_nil_of_length_eq_zero (by omega)
                        exact ret0 Try.results44 ⟨⟨_, rfl⟩, H.ext_row 1 rfl, S1 ++ R2, (p1.append (by simp : R2.Perm ([] ++ R2))).trans (perm4 L1 R1 [] R2), merge_fin sB sC X1 X2 p1 (by simp) s1 sR2, by simpa using H.getRow 0 rfl⟩
              · refine W_region ?_
                refine OL_y (y_move h20) (by decide) ?_
                refine OL_y (y_move h2) (by decide) ?_
                refine OL_y (v := .bool true) (y_lssT (by omega) rfl rfl) (by decide) ?_
                refine OL_y (v := .bool true) (y_move rfl) (by decide) ?_
                refine OL_yg rfl (by decide) rfl (y_move h2) (by decide) ?_
                refine OL_yg rfl (by decide) rfl (y_move rfl) (by decide) ?_
                refine OL_yg (v := .bool false) rfl (by decide) rfl (y_lssF (by omega) rfl rfl) (by decide) ?_
                refine OL_y (y_pick (b := true) (v := .bool false) rfl rfl) (by decide) ?_
                refine OL_nil ?_
                refine W_cut (fun f ds w' => f 0 = sl bb N c ∧ f 1 = .int .i64 a ∧ f 3 = .int .i64 b ∧ f 4 = .func (.func 30) #[] #[] ∧ f 18 = .int .i64 (mid : Nat) ∧ f 20 = .int .i64 (s : Nat) ∧ f 24 = .int .i64 (mid + m - s : Nat) ∧ ds = [] ∧ Holds w' [row 33 8 (sl bb N c) N ((A ++ (L1 ++ R1) ++ (L2 ++ R2) ++ D).flatMap RR.cells), shr (fun k => k < w.heap.size ∧ (sl bb N c).ownBlock ≠ some k) w]) ?_ ?_
                · refine W_condf rfl ?_
                  refine W_skip ?_
                  obtain rfl : R1 = [] := List.eq_nil_of_length_eq_zero (by omega)
                  exact ⟨h0, hh1, h3, h4, h18, h20, rfl, rfl, by simpa using H⟩
                · rintro f ds w10 ⟨h0, hh1, h3, h4, h18, h20, h24, rfl, H⟩
                  refine W_seq ?_
                  refine W_seq ?_
                  by_cases hs3 : a < s
                  · by_cases hs4 : s < mid
                    · refine W_region ?_
                      refine OL_y (y_move hh1) (by decide) ?_
                      refine OL_y (y_move h20) (by decide) ?_
                      refine OL_y (v := .bool true) (y_lssT (by omega) rfl rfl) (by decide) ?_
                      refine OL_y (v := .bool true) (y_move rfl) (by decide) ?_
                      refine OL_yg rfl (by decide) rfl (y_move h20) (by decide) ?_
                      refine OL_yg rfl (by decide) rfl (y_move h18) (by decide) ?_
                      refine OL_yg (v := .bool true) rfl (by decide) rfl (y_lssT (by omega) rfl rfl) (by decide) ?_
                      refine OL_y (y_pick (b := true) (v := .bool true) rfl rfl) (by decide) ?_
                      refine OL_nil ?_
                      refine W_cut (fun f ds w' => ∃ S1, S1.Perm (L1 ++ R1) ∧ Srt S1 ∧ f 0 = sl bb N c ∧ f 3 = .int .i64 b ∧ f 4 = .func (.func 30) #[] #[] ∧ f 18 = .int .i64 (mid : Nat) ∧ f 24 = .int .i64 (mid + m - s : Nat) ∧ ds = [] ∧ Holds w' [row 33 8 (sl bb N c) N ((A ++ S1 ++ (L2 ++ R2) ++ D).flatMap RR.cells), shr (fun k => k < w.heap.size ∧ (sl bb N c).ownBlock ≠ some k) w]) ?_ ?_
                      · refine W_condt rfl ?_
                        refine W_region ?_
                        refine OL_y (y_move h0) (by decide) ?_
                        refine OL_y (y_move hh1) (by decide) ?_
                        refine OL_y (y_move h20) (by decide) ?_
                        refine OL_y (y_move h18) (by decide) ?_
                        refine OL_y (y_move h4) (by decide) ?_
                        refine OL_c (op_call 44 en44 rfl [sl bb N c, .int .i64 a, .int .i64 (s : Nat), .int .i64 (mid : Nat), .func (.func 30) #[] #[]] rfl (by decide) ((ih (A := A) (B := L1) (C := R1) (D := L2 ++ R2 ++ D) (by simpa using H.getRow 0 rfl) (by simp only [List.length_append]; omega) hmax ha (by omega) (by omega) (by omega) (by omega) sL1 sR1 (by simpa using h1') (by omega)).mono ?_))
                        rintro e w42_5 ⟨⟨y, rfl⟩, hE, S1, p1, s1, hr⟩
                        refine ⟨_, rfl, ?_⟩
                        have H := H.step 0 rfl rfl hE (fun _ _ h => h) (row_ok hr) fun _ h => .inl h
                        refine OL_nil ?_
                        exact ⟨S1, p1, s1, h0, h3, h4, h18, h24, rfl, by simpa using H⟩
                      · rintro f ds w11 ⟨S1, p1, s1, h0, h3, h4, h18, h24, rfl, H⟩
                        have hp1 := p1.length_eq
                        simp only [List.length_append] at hp1
                        have pp1 : (A ++ S1 ++ (L2 ++ R2) ++ D).Perm (A ++ (L1 ++ R1) ++ (L2 ++ R2) ++ D) := List.Perm.append_right _ (List.Perm.append_right _ (List.Perm.append_left _ p1))
                        have h1'' := h1'.perm pp1
                        refine W_seq ?_
                        by_cases hs5 : mid < mid + m - s
                        · by_cases hs6 : mid + m - s < b
                          · refine W_region ?_
                            refine OL_y (y_move h18) (by decide) ?_
                            refine OL_y (y_move h24) (by decide) ?_
                            refine OL_y (v := .bool true) (y_lssT (by omega) rfl rfl) (by decide) ?_
                            refine OL_y (v := .bool true) (y_move rfl) (by decide) ?_
                            refine OL_yg rfl (by decide) rfl (y_move h24) (by decide) ?_
                            refine OL_yg rfl (by decide) rfl (y_move h3) (by decide) ?_
                            refine OL_yg (v := .bool true) rfl (by decide) rfl (y_lssT (by omega) rfl rfl) (by decide) ?_
                            refine OL_y (y_pick (b := true) (v := .bool true) rfl rfl) (by decide) ?_
                            refine OL_nil ?_
                            refine W_condt rfl ?_
                            refine W_region ?_
                            refine OL_y (y_move h0) (by decide) ?_
                            refine OL_y (y_move h18) (by decide) ?_
                            refine OL_y (y_move h24) (by decide) ?_
                            refine OL_y (y_move h3) (by decide) ?_
                            refine OL_y (y_move h4) (by decide) ?_
                            refine OL_c (op_call 44 en44 rfl [sl bb N c, .int .i64 (mid : Nat), .int .i64 (mid + m - s : Nat), .int .i64 b, .func (.func 30) #[] #[]] rfl (by decide) ((ih (A := A ++ S1) (B := L2) (C := R2) (D := D) (by simpa using H.getRow 0 rfl) (by simp only [List.length_append]; omega) hmax (by rw [List.length_append]; omega) (by rw [List.length_append]; omega) (by rw [List.length_append]; omega) (by omega) (by omega) sL2 sR2 (by simpa using h1'') (by omega)).mono ?_))
                            rintro e w44_5 ⟨⟨y, rfl⟩, hE, S2, p2, s2, hr⟩
                            refine ⟨_, rfl, ?_⟩
                            have H := H.step 0 rfl rfl hE (fun _ _ h => h) (row_ok hr) fun _ h => .inl h
                            refine OL_nil ?_
                            show RetOK _ _ _ _ _ _
                            exact ret0 Try.results44 ⟨⟨_, rfl⟩, H.ext_row 1 rfl, S1 ++ S2, (p1.append p2).trans (perm4 L1 R1 L2 R2), merge_fin sB sC X1 X2 p1 p2 s1 s2, by simpa using H.getRow 0 rfl⟩
                          · refine W_region ?_
                            refine OL_y (y_move h18) (by decide) ?_
                            refine OL_y (y_move h24) (by decide) ?_
                            refine OL_y (v := .bool true) (y_lssT (by omega) rfl rfl) (by decide) ?_
                            refine OL_y (v := .bool true) (y_move rfl) (by decide) ?_
                            refine OL_yg rfl (by decide) rfl (y_move h24) (by decide) ?_
                            refine OL_yg rfl (by decide) rfl (y_move h3) (by decide) ?_
                            refine OL_yg (v := .bool false) rfl (by decide) rfl (y_lssF (by omega) rfl rfl) (by decide) ?_
                            refine OL_y (y_pick (b := true) (v := .bool false) rfl rfl) (by decide) ?_
                            refine OL_nil ?_
                            refine W_condf rfl ?_
                            refine W_skip ?_
                            show RetOK _ _ _ _ _ _
                            obtain rfl : R2 = [] := List.eq_nil_of_length_eq_zero (by omega)
                            exact ret0 Try.results44 ⟨⟨_, rfl⟩, H.ext_row 1 rfl, S1 ++ L2, (p1.append (by simp : L2.Perm (L2 ++ []))).trans (perm4 L1 R1 L2 []), merge_fin sB sC X1 X2 p1 (by simp) s1 sL2, by simpa using H.getRow 0 rfl⟩
                        · refine W_region ?_
                          refine OL_y (y_move h18) (by decide) ?_
                          refine OL_y (y_move h24) (by decide) ?_
                          refine OL_y (v := .bool false) (y_lssF (by omega) rfl rfl) (by decide) ?_
                          refine OL_y (v := .bool false) (y_move rfl) (by decide) ?_
                          refine OL_s rfl (by decide) rfl rfl (by simp) ?_
                          refine OL_s rfl (by decide) rfl rfl (by simp) ?_
                          refine OL_s rfl (by decide) rfl rfl (by simp) ?_
                          refine OL_y (y_pick (b := false) (v := .bool false) rfl rfl) (by decide) ?_
                          refine OL_nil ?_
                          refine W_condf rfl ?_
                          refine W_skip ?_
                          show RetOK _ _ _ _ _ _
                          obtain rfl : L2 = [] := List.eq_nil_of_length_eq_zero (by omega)
                          exact ret0 Try.results44 ⟨⟨_, rfl⟩, H.ext_row 1 rfl, S1 ++ R2, (p1.append (by simp : R2.Perm ([] ++ R2))).trans (perm4 L1 R1 [] R2), merge_fin sB sC X1 X2 p1 (by simp) s1 sR2, by simpa using H.getRow 0 rfl⟩
                    · refine W_region ?_
                      refine OL_y (y_move hh1) (by decide) ?_
                      refine OL_y (y_move h20) (by decide) ?_
                      refine OL_y (v := .bool true) (y_lssT (by omega) rfl rfl) (by decide) ?_
                      refine OL_y (v := .bool true) (y_move rfl) (by decide) ?_
                      refine OL_yg rfl (by decide) rfl (y_move h20) (by decide) ?_
                      refine OL_yg rfl (by decide) rfl (y_move h18) (by decide) ?_
                      refine OL_yg (v := .bool false) rfl (by decide) rfl (y_lssF (by omega) rfl rfl) (by decide) ?_
                      refine OL_y (y_pick (b := true) (v := .bool false) rfl rfl) (by decide) ?_
                      refine OL_nil ?_
                      refine W_cut (fun f ds w' => ∃ S1, S1.Perm (L1 ++ R1) ∧ Srt S1 ∧ f 0 = sl bb N c ∧ f 3 = .int .i64 b ∧ f 4 = .func (.func 30) #[] #[] ∧ f 18 = .int .i64 (mid : Nat) ∧ f 24 = .int .i64 (mid + m - s : Nat) ∧ ds = [] ∧ Holds w' [row 33 8 (sl bb N c) N ((A ++ S1 ++ (L2 ++ R2) ++ D).flatMap RR.cells), shr (fun k => k < w.heap.size ∧ (sl bb N c).ownBlock ≠ some k) w]) ?_ ?_
                      · refine W_condf rfl ?_
                        refine W_skip ?_
                        obtain rfl : R1 = [] := List.eq_nil_of_length_eq_zero (by omega)
                        exact ⟨L1, by simp, sL1, h0, h3, h4, h18, h24, rfl, by simpa using H⟩
                      · rintro f ds w11 ⟨S1, p1, s1, h0, h3, h4, h18, h24, rfl, H⟩
                        have hp1 := p1.length_eq
                        simp only [List.length_append] at hp1
                        have pp1 : (A ++ S1 ++ (L2 ++ R2) ++ D).Perm (A ++ (L1 ++ R1) ++ (L2 ++ R2) ++ D) := List.Perm.append_right _ (List.Perm.append_right _ (List.Perm.append_left _ p1))
                        have h1'' := h1'.perm pp1
                        refine W_seq ?_
                        by_cases hs5 : mid < mid + m - s
                        · by_cases hs6 : mid + m - s < b
                          · refine W_region ?_
                            refine OL_y (y_move h18) (by decide) ?_
                            refine OL_y (y_move h24) (by decide) ?_
                            refine OL_y (v := .bool true) (y_lssT (by omega) rfl rfl) (by decide) ?_
                            refine OL_y (v := .bool true) (y_move rfl) (by decide) ?_
                            refine OL_yg rfl (by decide) rfl (y_move h24) (by decide) ?_
                            refine OL_yg rfl (by decide) rfl (y_move h3) (by decide) ?_
                            refine OL_yg (v := .bool true) rfl (by decide) rfl (y_lssT (by omega) rfl rfl) (by decide) ?_
                            refine OL_y (y_pick (b := true) (v := .bool true) rfl rfl) (by decide) ?_
                            refine OL_nil ?_
                            refine W_condt rfl ?_
                            refine W_region ?_
                            refine OL_y (y_move h0) (by decide) ?_
                            refine OL_y (y_move h18) (by decide) ?_
                            refine OL_y (y_move h24) (by decide) ?_
                            refine OL_y (y_move h3) (by decide) ?_
                            refine OL_y (y_move h4) (by decide) ?_
                            refine OL_c (op_call 44 en44 rfl [sl bb N c, .int .i64 (mid : Nat), .int .i64 (mid + m - s : Nat), .int .i64 b, .func (.func 30) #[] #[]] rfl (by decide) ((ih (A := A ++ S1) (B := L2) (C := R2) (D := D) (by simpa using H.getRow 0 rfl) (by simp only [List.length_append]; omega) hmax (by rw [List.length_append]; omega) (by rw [List.length_append]; omega) (by rw [List.length_append]; omega) (by omega) (by omega) sL2 sR2 (by simpa using h1'') (by omega)).mono ?_))
                            rintro e w44_5 ⟨⟨y, rfl⟩, hE, S2, p2, s2, hr⟩
                            refine ⟨_, rfl, ?_⟩
                            have H := H.step 0 rfl rfl hE (fun _ _ h => h) (row_ok hr) fun _ h => .inl h
                            refine OL_nil ?_
                            show RetOK _ _ _ _ _ _
                            exact ret0 Try.results44 ⟨⟨_, rfl⟩, H.ext_row 1 rfl, S1 ++ S2, (p1.append p2).trans (perm4 L1 R1 L2 R2), merge_fin sB sC X1 X2 p1 p2 s1 s2, by simpa using H.getRow 0 rfl⟩
                          · refine W_region ?_
                            refine OL_y (y_move h18) (by decide) ?_
                            refine OL_y (y_move h24) (by decide) ?_
                            refine OL_y (v := .bool true) (y_lssT (by omega) rfl rfl) (by decide) ?_
                            refine OL_y (v := .bool true) (y_move rfl) (by decide) ?_
                            refine OL_yg rfl (by decide) rfl (y_move h24) (by decide) ?_
                            refine OL_yg rfl (by decide) rfl (y_move h3) (by decide) ?_
                            refine OL_yg (v := .bool false) rfl (by decide) rfl (y_lssF (by omega) rfl rfl) (by decide) ?_
                            refine OL_y (y_pick (b := true) (v := .bool false) rfl rfl) (by decide) ?_
                            refine OL_nil ?_
                            refine W_condf rfl ?_
                            refine W_skip ?_
                            show RetOK _ _ _ _ _ _
                            obtain rfl : R2 = [] := List.eq_nil_of_length_eq_zero (by omega)
                            exact ret0 Try.results44 ⟨⟨_, rfl⟩, H.ext_row 1 rfl, S1 ++ L2, (p1.append (by simp : L2.Perm (L2 ++ []))).trans (perm4 L1 R1 L2 []), merge_fin sB sC X1 X2 p1 (by simp) s1 sL2, by simpa using H.getRow 0 rfl⟩
                        · refine W_region ?_
                          refine OL_y (y_move h18) (by decide) ?_
                          refine OL_y (y_move h24) (by decide) ?_
                          refine OL_y (v := .bool false) (y_lssF (by omega) rfl rfl) (by decide) ?_
                          refine OL_y (v := .bool false) (y_move rfl) (by decide) ?_
                          refine OL_s rfl (by decide) rfl rfl (by simp) ?_
                          refine OL_s rfl (by decide) rfl rfl (by simp) ?_
                          refine OL_s rfl (by decide) rfl rfl (by simp) ?_
                          refine OL_y (y_pick (b := false) (v := .bool false) rfl rfl) (by decide) ?_
                          refine OL_nil ?_
                          refine W_condf rfl ?_
                          refine W_skip ?_
                          show RetOK _ _ _ _ _ _
                          obtain rfl : L2 = [] := List.eq_nil_of_length_eq_zero (by omega)
                          exact ret0 Try.results44 ⟨⟨_, rfl⟩, H.ext_row 1 rfl, S1 ++ R2, (p1.append (by simp : R2.Perm ([] ++ R2))).trans (perm4 L1 R1 [] R2), merge_fin sB sC X1 X2 p1 (by simp) s1 sR2, by simpa using H.getRow 0 rfl⟩
                  · refine W_region ?_
                    refine OL_y (y_move hh1) (by decide) ?_
                    refine OL_y (y_move h20) (by decide) ?_
                    refine OL_y (v := .bool false) (y_lssF (by omega) rfl rfl) (by decide) ?_
                    refine OL_y (v := .bool false) (y_move rfl) (by decide) ?_
                    refine OL_s rfl (by decide) rfl rfl (by simp) ?_
                    refine OL_s rfl (by decide) rfl rfl (by simp) ?_
                    refine OL_s rfl (by decide) rfl rfl (by simp) ?_
                    refine OL_y (y_pick (b := false) (v := .bool false) rfl rfl) (by decide) ?_
                    refine OL_nil ?_
                    refine W_cut (fun f ds w' => ∃ S1, S1.Perm (L1 ++ R1) ∧ Srt S1 ∧ f 0 = sl bb N c ∧ f 3 = .int .i64 b ∧ f 4 = .func (.func 30) #[] #[] ∧ f 18 = .int .i64 (mid : Nat) ∧ f 24 = .int .i64 (mid + m - s : Nat) ∧ ds = [] ∧ Holds w' [row 33 8 (sl bb N c) N ((A ++ S1 ++ (L2 ++ R2) ++ D).flatMap RR.cells), shr (fun k => k < w.heap.size ∧ (sl bb N c).ownBlock ≠ some k) w]) ?_ ?_
                    · refine W_condf rfl ?_
                      refine W_skip ?_
                      obtain rfl : L1 = [] := List.eq_nil_of_length_eq_zero (by omega)
                      exact ⟨R1, by simp, sR1, h0, h3, h4, h18, h24, rfl, by simpa using H⟩
                    · rintro f ds w11 ⟨S1, p1, s1, h0, h3, h4, h18, h24, rfl, H⟩
                      have hp1 := p1.length_eq
                      simp only [List.length_append] at hp1
                      have pp1 : (A ++ S1 ++ (L2 ++ R2) ++ D).Perm (A ++ (L1 ++ R1) ++ (L2 ++ R2) ++ D) := List.Perm.append_right _ (List.Perm.append_right _ (List.Perm.append_left _ p1))
                      have h1'' := h1'.perm pp1
                      refine W_seq ?_
                      by_cases hs5 : mid < mid + m - s
                      · by_cases hs6 : mid + m - s < b
                        · refine W_region ?_
                          refine OL_y (y_move h18) (by decide) ?_
                          refine OL_y (y_move h24) (by decide) ?_
                          refine OL_y (v := .bool true) (y_lssT (by omega) rfl rfl) (by decide) ?_
                          refine OL_y (v := .bool true) (y_move rfl) (by decide) ?_
                          refine OL_yg rfl (by decide) rfl (y_move h24) (by decide) ?_
                          refine OL_yg rfl (by decide) rfl (y_move h3) (by decide) ?_
                          refine OL_yg (v := .bool true) rfl (by decide) rfl (y_lssT (by omega) rfl rfl) (by decide) ?_
                          refine OL_y (y_pick (b := true) (v := .bool true) rfl rfl) (by decide) ?_
                          refine OL_nil ?_
                          refine W_condt rfl ?_
                          refine W_region ?_
                          refine OL_y (y_move h0) (by decide) ?_
                          refine OL_y (y_move h18) (by decide) ?_
                          refine OL_y (y_move h24) (by decide) ?_
                          refine OL_y (y_move h3) (by decide) ?_
                          refine OL_y (y_move h4) (by decide) ?_
                          refine OL_c (op_call 44 en44 rfl [sl bb N c, .int .i64 (mid : Nat), .int .i64 (mid + m - s : Nat), .int .i64 b, .func (.func 30) #[] #[]] rfl (by decide) ((ih (A := A ++ S1) (B := L2) (C := R2) (D := D) (by simpa using H.getRow 0 rfl) (by simp only [List.length_append]; omega) hmax (by rw [List.length_append]; omega) (by rw [List.length_append]; omega) (by rw [List.length_append]; omega) (by omega) (by omega) sL2 sR2 (by simpa using h1'') (by omega)).mono ?_))
                          rintro e w44_5 ⟨⟨y, rfl⟩, hE, S2, p2, s2, hr⟩
                          refine ⟨_, rfl, ?_⟩
                          have H := H.step 0 rfl rfl hE (fun _ _ h => h) (row_ok hr) fun _ h => .inl h
                          refine OL_nil ?_
                          show RetOK _ _ _ _ _ _
                          exact ret0 Try.results44 ⟨⟨_, rfl⟩, H.ext_row 1 rfl, S1 ++ S2, (p1.append p2).trans (perm4 L1 R1 L2 R2), merge_fin sB sC X1 X2 p1 p2 s1 s2, by simpa using H.getRow 0 rfl⟩
                        · refine W_region ?_
                          refine OL_y (y_move h18) (by decide) ?_
                          refine OL_y (y_move h24) (by decide) ?_
                          refine OL_y (v := .bool true) (y_lssT (by omega) rfl rfl) (by decide) ?_
                          refine OL_y (v := .bool true) (y_move rfl) (by decide) ?_
                          refine OL_yg rfl (by decide) rfl (y_move h24) (by decide) ?_
                          refine OL_yg rfl (by decide) rfl (y_move h3) (by decide) ?_
                          refine OL_yg (v := .bool false) rfl (by decide) rfl (y_lssF (by omega) rfl rfl) (by decide) ?_
                          refine OL_y (y_pick (b := true) (v := .bool false) rfl rfl) (by decide) ?_
                          refine OL_nil ?_
                          refine W_condf rfl ?_
                          refine W_skip ?_
                          show RetOK _ _ _ _ _ _
                          obtain rfl : R2 = [] := List.eq_nil_of_length_eq_zero (by omega)
                          exact ret0 Try.results44 ⟨⟨_, rfl⟩, H.ext_row 1 rfl, S1 ++ L2, (p1.append (by simp : L2.Perm (L2 ++ []))).trans (perm4 L1 R1 L2 []), merge_fin sB sC X1 X2 p1 (by simp) s1 sL2, by simpa using H.getRow 0 rfl⟩
                      · refine W_region ?_
                        refine OL_y (y_move h18) (by decide) ?_
                        refine OL_y (y_move h24) (by decide) ?_
                        refine OL_y (v := .bool false) (y_lssF (by omega) rfl rfl) (by decide) ?_
                        refine OL_y (v := .bool false) (y_move rfl) (by decide) ?_
                        refine OL_s rfl (by decide) rfl rfl (by simp) ?_
                        refine OL_s rfl (by decide) rfl rfl (by simp) ?_
                        refine OL_s rfl (by decide) rfl rfl (by simp) ?_
                        refine OL_y (y_pick (b := false) (v := .bool false) rfl rfl) (by decide) ?_
                        refine OL_nil ?_
                        refine W_condf rfl ?_
                        refine W_skip ?_
                        show RetOK _ _ _ _ _ _
                        obtain rfl : L2 = [] := List.eq_nil_of_length_eq_zero (by omega)
                        exact ret0 Try.results44 ⟨⟨_, rfl⟩, H.ext_row 1 rfl, S1 ++ R2, (p1.append (by simp : R2.Perm ([] ++ R2))).trans (perm4 L1 R1 [] R2), merge_fin sB sC X1 X2 p1 (by simp) s1 sR2, by simpa using H.getRow 0 rfl⟩
            · refine W_region ?_
              refine OL_y (y_move h20) (by decide) ?_
              refine OL_y (y_move h2) (by decide) ?_
              refine OL_y (v := .bool false) (y_lssF (by omega) rfl rfl) (by decide) ?_
              refine OL_y (v := .bool false) (y_move rfl) (by decide) ?_
              refine OL_s rfl (by decide) rfl rfl (by simp) ?_
              refine OL_s rfl (by decide) rfl rfl (by simp) ?_
              refine OL_s rfl (by decide) rfl rfl (by simp) ?_
              refine OL_y (y_pick (b := false) (v := .bool false) rfl rfl) (by decide) ?_
              refine OL_nil ?_
              refine W_cut (fun f ds w' => f 0 = sl bb N c ∧ f 1 = .int .i64 a ∧ f 3 = .int .i64 b ∧ f 4 = .func (.func 30) #[] #[] ∧ f 18 = .int .i64 (mid : Nat) ∧ f 20 = .int .i64 (s : Nat) ∧ f 24 = .int .i64 (mid + m - s : Nat) ∧ ds = [] ∧ Holds w' [row 33 8 (sl bb N c) N ((A ++ (L1 ++ R1) ++ (L2 ++ R2) ++ D).flatMap RR.cells), shr (fun k => k < w.heap.size ∧ (sl bb N c).ownBlock ≠ some k) w]) ?_ ?_
              · refine W_condf rfl ?_
                refine W_skip ?_
                obtain rfl : L2 = [] := List.eq_nil_of_length_eq_zero (by omega)
                exact ⟨h0, hh1, h3, h4, h18, h20, rfl, rfl, by simpa using H⟩
              · rintro f ds w10 ⟨h0, hh1, h3, h4, h18, h20, h24, rfl, H⟩
                refine W_seq ?_
                refine W_seq ?_
                by_cases hs3 : a < s
                · by_cases hs4 : s < mid
                  · refine W_region ?_
                    refine OL_y (y_move hh1) (by decide) ?_
                    refine OL_y (y_move h20) (by decide) ?_
                    refine OL_y (v := .bool true) (y_lssT (by omega) rfl rfl) (by decide) ?_
                    refine OL_y (v := .bool true) (y_move rfl) (by decide) ?_
                    refine OL_yg rfl (by decide) rfl (y_move h20) (by decide) ?_
                    refine OL_yg rfl (by decide) rfl (y_move h18) (by decide) ?_
                    refine OL_yg (v := .bool true) rfl (by decide) rfl (y_lssT (by omega) rfl rfl) (by decide) ?_
                    refine OL_y (y_pick (b := true) (v := .bool true) rfl rfl) (by decide) ?_
                    refine OL_nil ?_
                    refine W_cut (fun f ds w' => ∃ S1, S1.Perm (L1 ++ R1) ∧ Srt S1 ∧ f 0 = sl bb N c ∧ f 3 = .int .i64 b ∧ f 4 = .func (.func 30) #[] #[] ∧ f 18 = .int .i64 (mid : Nat) ∧ f 24 = .int .i64 (mid + m - s : Nat) ∧ ds = [] ∧ Holds w' [row 33 8 (sl bb N c) N ((A ++ S1 ++ (L2 ++ R2) ++ D).flatMap RR.cells), shr (fun k => k < w.heap.size ∧ (sl bb N c).ownBlock ≠ some k) w]) ?_ ?_
                    · refine W_condt rfl ?_
                      refine W_region ?_
                      refine OL_y (y_move h0) (by decide) ?_
                      refine OL_y (y_move hh1) (by decide) ?_
                      refine OL_y (y_move h20) (by decide) ?_
                      refine OL_y (y_move h18) (by decide) ?_
                      refine OL_y (y_move h4) (by decide) ?_
                      refine OL_c (op_call 44 en44 rfl [sl bb N c, .int .i64 a, .int .i64 (s : Nat), .int .i64 (mid : Nat), .func (.func 30) #[] #[]] rfl (by decide) ((ih (A := A) (B := L1) (C := R1) (D := L2 ++ R2 ++ D) (by simpa using H.getRow 0 rfl) (by simp only [List.length_append]; omega) hmax ha (by omega) (by omega) (by omega) (by omega) sL1 sR1 (by simpa using h1') (by omega)).mono ?_))
                      rintro e w42_5 ⟨⟨y, rfl⟩, hE, S1, p1, s1, hr⟩
                      refine ⟨_, rfl, ?_⟩
                      have H := H.step 0 rfl rfl hE (fun _ _ h => h) (row_ok hr) fun _ h => .inl h
                      refine OL_nil ?_
                      exact ⟨S1, p1, s1, h0, h3, h4, h18, h24, rfl, by simpa using H⟩
                    · rintro f ds w11 ⟨S1, p1, s1, h0, h3, h4, h18, h24, rfl, H⟩
                      have hp1 := p1.length_eq
                      simp only [List.length_append] at hp1
                      have pp1 : (A ++ S1 ++ (L2 ++ R2) ++ D).Perm (A ++ (L1 ++ R1) ++ (L2 ++ R2) ++ D) := List.Perm.append_right _ (List.Perm.append_right _ (List.Perm.append_left _ p1))
                      have h1'' := h1'.perm pp1
                      refine W_seq ?_
                      by_cases hs5 : mid < mid + m - s
                      · by_cases hs6 : mid + m - s < b
                        · refine W_region ?_
                          refine OL_y (y_move h18) (by decide) ?_
                          refine OL_y (y_move h24) (by decide) ?_
                          refine OL_y (v := .bool true) (y_lssT (by omega) rfl rfl) (by decide) ?_
                          refine OL_y (v := .bool true) (y_move rfl) (by decide) ?_
                          refine OL_yg rfl (by decide) rfl (y_move h24) (by decide) ?_
                          refine OL_yg rfl (by decide) rfl (y_move h3) (by decide) ?_
                          refine OL_yg (v := .bool true) rfl (by decide) rfl (y_lssT (by omega) rfl rfl) (by decide) ?_
                          refine OL_y (y_pick (b := true) (v := .bool true) rfl rfl) (by decide) ?_
                          refine OL_nil ?_
                          refine W_condt rfl ?_
                          refine W_region ?_
                          refine OL_y (y_move h0) (by decide) ?_
                          refine OL_y (y_move h18) (by decide) ?_
                          refine OL_y (y_move h24) (by decide) ?_
                          refine OL_y (y_move h3) (by decide) ?_
                          refine OL_y (y_move h4) (by decide) ?_
                          refine OL_c (op_call 44 en44 rfl [sl bb N c, .int .i64 (mid : Nat), .int .i64 (mid + m - s : Nat), .int .i64 b, .func (.func 30) #[] #[]] rfl (by decide) ((ih (A := A ++ S1) (B := L2) (C := R2) (D := D) (by simpa using H.getRow 0 rfl) (by simp only [List.length_append]; omega) hmax (by rw [List.length_append]; omega) (by rw [List.length_append]; omega) (by rw [List.length_append]; omega) (by omega) (by omega) sL2 sR2 (by simpa using h1'') (by omega)).mono ?_))
                          rintro e w44_5 ⟨⟨y, rfl⟩, hE, S2, p2, s2, hr⟩
                          refine ⟨_, rfl, ?_⟩
                          have H := H.step 0 rfl rfl hE (fun _ _ h => h) (row_ok hr) fun _ h => .inl h
                          refine OL_nil ?_
                          show RetOK _ _ _ _ _ _
                          exact ret0 Try.results44 ⟨⟨_, rfl⟩, H.ext_row 1 rfl, S1 ++ S2, (p1.append p2).trans (perm4 L1 R1 L2 R2), merge_fin sB sC X1 X2 p1 p2 s1 s2, by simpa using H.getRow 0 rfl⟩
                        · refine W_region ?_
                          refine OL_y (y_move h18) (by decide) ?_
                          refine OL_y (y_move h24) (by decide) ?_
                          refine OL_y (v := .bool true) (y_lssT (by omega) rfl rfl) (by decide) ?_
                          refine OL_y (v := .bool true) (y_move rfl) (by decide) ?_
                          refine OL_yg rfl (by decide) rfl (y_move h24) (by decide) ?_
                          refine OL_yg rfl (by decide) rfl (y_move h3) (by decide) ?_
                          refine OL_yg (v := .bool false) rfl (by decide) rfl (y_lssF (by omega) rfl rfl) (by decide) ?_
                          refine OL_y (y_pick (b := true) (v := .bool false) rfl rfl) (by decide) ?_
                          refine OL_nil ?_
                          refine W_condf rfl ?_
                          refine W_skip ?_
                          show RetOK _ _ _ _ _ _
                          obtain rfl : R2 = [] := List.eq_nil_of_length_eq_zero (by omega)
                          exact ret0 Try.results44 ⟨⟨_, rfl⟩, H.ext_row 1 rfl, S1 ++ L2, (p1.append (by simp : L2.Perm (L2 ++ []))).trans (perm4 L1 R1 L2 []), merge_fin sB sC X1 X2 p1 (by simp) s1 sL2, by simpa using H.getRow 0 rfl⟩
                      · refine W_region ?_
                        refine OL_y (y_move h18) (by decide) ?_
                        refine OL_y (y_move h24) (by decide) ?_
                        refine OL_y (v := .bool false) (y_lssF (by omega) rfl rfl) (by decide) ?_
                        refine OL_y (v := .bool false) (y_move rfl) (by decide) ?_
                        refine OL_s rfl (by decide) rfl rfl (by simp) ?_
                        refine OL_s rfl (by decide) rfl rfl (by simp) ?_
                        refine OL_s rfl (by decide) rfl rfl (by simp) ?_
                        refine OL_y (y_pick (b := false) (v := .bool false) rfl rfl) (by decide) ?_
                        refine OL_nil ?_
                        refine W_condf rfl ?_
                        refine W_skip ?_
                        show RetOK _ _ _ _ _ _
                        obtain rfl : L2 = [] := List.eq_nil_of_length_eq_zero (by omega)
                        exact ret0 Try.results44 ⟨⟨_, rfl⟩, H.ext_row 1 rfl, S1 ++ R2, (p1.append (by simp : R2.Perm ([] ++ R2))).trans (perm4 L1 R1 [] R2), merge_fin sB sC X1 X2 p1 (by simp) s1 sR2, by simpa using H.getRow 0 rfl⟩
                  · refine W_region ?_
                    refine OL_y (y_move hh1) (by decide) ?_
                    refine OL_y (y_move h20) (by decide) ?_
                    refine OL_y (v := .bool true) (y_lssT (by omega) rfl rfl) (by decide) ?_
                    refine OL_y (v := .bool true) (y_move rfl) (by decide) ?_
                    refine OL_yg rfl (by decide) rfl (y_move h20) (by decide) ?_
                    refine OL_yg rfl (by decide) rfl (y_move h18) (by decide) ?_
                    refine OL_yg (v := .bool false) rfl (by decide) rfl (y_lssF (by omega) rfl rfl) (by decide) ?_
                    refine OL_y (y_pick (b := true) (v := .bool false) rfl rfl) (by decide) ?_
                    refine OL_nil ?_
                    refine W_cut (fun f ds w' => ∃ S1, S1.Perm (L1 ++ R1) ∧ Srt S1 ∧ f 0 = sl bb N c ∧ f 3 = .int .i64 b ∧ f 4 = .func (.func 30) #[] #[] ∧ f 18 = .int .i64 (mid : Nat) ∧ f 24 = .int .i64 (mid + m - s : Nat) ∧ ds = [] ∧ Holds w' [row 33 8 (sl bb N c) N ((A ++ S1 ++ (L2 ++ R2) ++ D).flatMap RR.cells), shr (fun k => k < w.heap.size ∧ (sl bb N c).ownBlock ≠ some k) w]) ?_ ?_
                    · refine W_condf rfl ?_
                      refine W_skip ?_
                      obtain rfl : R1 = [] := List.eq_nil_of_length_eq_zero (by omega)
                      exact ⟨L1, by simp, sL1, h0, h3, h4, h18, h24, rfl, by simpa using H⟩
                    · rintro f ds w11 ⟨S1, p1, s1, h0, h3, h4, h18, h24, rfl, H⟩
                      have hp1 := p1.length_eq
                      simp only [List.length_append] at hp1
                      have pp1 : (A ++ S1 ++ (L2 ++ R2) ++ D).Perm (A ++ (L1 ++ R1) ++ (L2 ++ R2) ++ D) := List.Perm.append_right _ (List.Perm.append_right _ (List.Perm.append_left _ p1))
                      have h1'' := h1'.perm pp1
                      refine W_seq ?_
                      by_cases hs5 : mid < mid + m - s
                      · by_cases hs6 : mid + m - s < b
                        · refine W_region ?_
                          refine OL_y (y_move h18) (by decide) ?_
                          refine OL_y (y_move h24) (by decide) ?_
                          refine OL_y (v := .bool true) (y_lssT (by omega) rfl rfl) (by decide) ?_
                          refine OL_y (v := .bool true) (y_move rfl) (by decide) ?_
                          refine OL_yg rfl (by decide) rfl (y_move h24) (by decide) ?_
                          refine OL_yg rfl (by decide) rfl (y_move h3) (by decide) ?_
                          refine OL_yg (v := .bool true) rfl (by decide) rfl (y_lssT (by omega) rfl rfl) (by decide) ?_
                          refine OL_y (y_pick (b := true) (v := .bool true) rfl rfl) (by decide) ?_
                          refine OL_nil ?_
                          refine W_condt rfl ?_
                          refine W_region ?_
                          refine OL_y (y_move h0) (by decide) ?_
                          refine OL_y (y_move h18) (by decide) ?_
                          refine OL_y (y_move h24) (by decide) ?_
                          refine OL_y (y_move h3) (by decide) ?_
                          refine OL_y (y_move h4) (by decide) ?_
                          refine OL_c (op_call 44 en44 rfl [sl bb N c, .int .i64 (mid : Nat), .int .i64 (mid + m - s : Nat), .int .i64 b, .func (.func 30) #[] #[]] rfl (by decide) ((ih (A := A ++ S1) (B := L2) (C := R2) (D := D) (by simpa using H.getRow 0 rfl) (by simp only [List.length_append]; omega) hmax (by rw [List.length_append]; omega) (by rw [List.length_append]; omega) (by rw [List.length_append]; omega) (by omega) (by omega) sL2 sR2 (by simpa using h1'') (by omega)).mono ?_))
                          rintro e w44_5 ⟨⟨y, rfl⟩, hE, S2, p2, s2, hr⟩
                          refine ⟨_, rfl, ?_⟩
                          have H := H.step 0 rfl rfl hE (fun _ _ h => h) (row_ok hr) fun _ h => .inl h
                          refine OL_nil ?_
                          show RetOK _ _ _ _ _ _
                          exact ret0 Try.results44 ⟨⟨_, rfl⟩, H.ext_row 1 rfl, S1 ++ S2, (p1.append p2).trans (perm4 L1 R1 L2 R2), merge_fin sB sC X1 X2 p1 p2 s1 s2, by simpa using H.getRow 0 rfl⟩
                        · refine W_region ?_
                          refine OL_y (y_move h18) (by decide) ?_
                          refine OL_y (y_move h24) (by decide) ?_
                          refine OL_y (v := .bool true) (y_lssT (by omega) rfl rfl) (by decide) ?_
                          refine OL_y (v := .bool true) (y_move rfl) (by decide) ?_
                          refine OL_yg rfl (by decide) rfl (y_move h24) (by decide) ?_
                          refine OL_yg rfl (by decide) rfl (y_move h3) (by decide) ?_
                          refine OL_yg (v := .bool false) rfl (by decide) rfl (y_lssF (by omega) rfl rfl) (by decide) ?_
                          refine OL_y (y_pick (b := true) (v := .bool false) rfl rfl) (by decide) ?_
                          refine OL_nil ?_
                          refine W_condf rfl ?_
                          refine W_skip ?_
                          show RetOK _ _ _ _ _ _
                          obtain rfl : R2 = [] := List.eq_nil_of_length_eq_zero (by omega)
                          exact ret0 Try.results44 ⟨⟨_, rfl⟩, H.ext_row 1 rfl, S1 ++ L2, (p1.append (by simp : L2.Perm (L2 ++ []))).trans (perm4 L1 R1 L2 []), merge_fin sB sC X1 X2 p1 (by simp) s1 sL2, by simpa using H.getRow 0 rfl⟩
                      · refine W_region ?_
                        refine OL_y (y_move h18) (by decide) ?_
                        refine OL_y (y_move h24) (by decide) ?_
                        refine OL_y (v := .bool false) (y_lssF (by omega) rfl rfl) (by decide) ?_
                        refine OL_y (v := .bool false) (y_move rfl) (by decide) ?_
                        refine OL_s rfl (by decide) rfl rfl (by simp) ?_
                        refine OL_s rfl (by decide) rfl rfl (by simp) ?_
                        refine OL_s rfl (by decide) rfl rfl (by simp) ?_
                        refine OL_y (y_pick (b := false) (v := .bool false) rfl rfl) (by decide) ?_
                        refine OL_nil ?_
                        refine W_condf rfl ?_
                        refine W_skip ?_
                        show RetOK _ _ _ _ _ _
                        obtain rfl : L2 = [] := List.eq_nil_of_length_eq_zero (by omega)
                        exact ret0 Try.results44 ⟨⟨_, rfl⟩, H.ext_row 1 rfl, S1 ++ R2, (p1.append (by simp : R2.Perm ([] ++ R2))).trans (perm4 L1 R1 [] R2), merge_fin sB sC X1 X2 p1 (by simp) s1 sR2, by simpa using H.getRow 0 rfl⟩
                · refine W_region ?_
                  refine OL_y (y_move hh1) (by decide) ?_
                  refine OL_y (y_move h20) (by decide) ?_
                  refine OL_y (v := .bool false) (y_lssF (by omega) rfl rfl) (by decide) ?_
                  refine OL_y (v := .bool false) (y_move rfl) (by decide) ?_
                  refine OL_s rfl (by decide) rfl rfl (by simp) ?_
                  refine OL_s rfl (by decide) rfl rfl (by simp) ?_
                  refine OL_s rfl (by decide) rfl rfl (by simp) ?_
                  refine OL_y (y_pick (b := false) (v := .bool false) rfl rfl) (by decide) ?_
                  refine OL_nil ?_
                  refine W_cut (fun f ds w' => ∃ S1, S1.Perm (L1 ++ R1) ∧ Srt S1 ∧ f 0 = sl bb N c ∧ f 3 = .int .i64 b ∧ f 4 = .func (.func 30) #[] #[] ∧ f 18 = .int .i64 (mid : Nat) ∧ f 24 = .int .i64 (mid + m - s : Nat) ∧ ds = [] ∧ Holds w' [row 33 8 (sl bb N c) N ((A ++ S1 ++ (L2 ++ R2) ++ D).flatMap RR.cells), shr (fun k => k < w.heap.size ∧ (sl bb N c).ownBlock ≠ some k) w]) ?_ ?_
                  · refine W_condf rfl ?_
                    refine W_skip ?_
                    obtain rfl : L1 = [] := List.eq_nil_of_length_eq_zero (by omega)
                    exact ⟨R1, by simp, sR1, h0, h3, h4, h18, h24, rfl, by simpa using H⟩
                  · rintro f ds w11 ⟨S1, p1, s1, h0, h3, h4, h18, h24, rfl, H⟩
                    have hp1 := p1.length_eq
                    simp only [List.length_append] at hp1
                    have pp1 : (A ++ S1 ++ (L2 ++ R2) ++ D).Perm (A ++ (L1 ++ R1) ++ (L2 ++ R2) ++ D) := List.Perm.append_right _ (List.Perm.append_right _ (List.Perm.append_left _ p1))
                    have h1'' := h1'.perm pp1
                    refine W_seq ?_
                    by_cases hs5 : mid < mid + m - s
                    · by_cases hs6 : mid + m - s < b
                      · refine W_region ?_
                        refine OL_y (y_move h18) (by decide) ?_
                        refine OL_y (y_move h24) (by decide) ?_
                        refine OL_y (v := .bool true) (y_lssT (by omega) rfl rfl) (by decide) ?_
                        refine OL_y (v := .bool true) (y_move rfl) (by decide) ?_
                        refine OL_yg rfl (by decide) rfl (y_move h24) (by decide) ?_
                        refine OL_yg rfl (by decide) rfl (y_move h3) (by decide) ?_
                        refine OL_yg (v := .bool true) rfl (by decide) rfl (y_lssT (by omega) rfl rfl) (by decide) ?_
                        refine OL_y (y_pick (b := true) (v := .bool true) rfl rfl) (by decide) ?_
                        refine OL_nil ?_
                        refine W_condt rfl ?_
                        refine W_region ?_
                        refine OL_y (y_move h0) (by decide) ?_
                        refine OL_y (y_move h18) (by decide) ?_
                        refine OL_y (y_move h24) (by decide) ?_
                        refine OL_y (y_move h3) (by decide) ?_
                        refine OL_y (y_move h4) (by decide) ?_
                        refine OL_c (op_call 44 en44 rfl [sl bb N c, .int .i64 (mid : Nat), .int .i64 (mid + m - s : Nat), .int .i64 b, .func (.func 30) #[] #[]] rfl (by decide) ((ih (A := A ++ S1) (B := L2) (C := R2) (D := D) (by simpa using H.getRow 0 rfl) (by simp only [List.length_append]; omega) hmax (by rw [List.length_append]; omega) (by rw [List.length_append]; omega) (by rw [List.length_append]; omega) (by omega) (by omega) sL2 sR2 (by simpa using h1'') (by omega)).mono ?_))
                        rintro e w44_5 ⟨⟨y, rfl⟩, hE, S2, p2, s2, hr⟩
                        refine ⟨_, rfl, ?_⟩
                        have H := H.step 0 rfl rfl hE (fun _ _ h => h) (row_ok hr) fun _ h => .inl h
                        refine OL_nil ?_
                        show RetOK _ _ _ _ _ _
                        exact ret0 Try.results44 ⟨⟨_, rfl⟩, H.ext_row 1 rfl, S1 ++ S2, (p1.append p2).trans (perm4 L1 R1 L2 R2), merge_fin sB sC X1 X2 p1 p2 s1 s2, by simpa using H.getRow 0 rfl⟩
                      · refine W_region ?_
                        refine OL_y (y_move h18) (by decide) ?_
                        refine OL_y (y_move h24) (by decide) ?_
                        refine OL_y (v := .bool true) (y_lssT (by omega) rfl rfl) (by decide) ?_
                        refine OL_y (v := .bool true) (y_move rfl) (by decide) ?_
                        refine OL_yg rfl (by decide) rfl (y_move h24) (by decide) ?_
                        refine OL_yg rfl (by decide) rfl (y_move h3) (by decide) ?_
                        refine OL_yg (v := .bool false) rfl (by decide) rfl (y_lssF (by omega) rfl rfl) (by decide) ?_
                        refine OL_y (y_pick (b := true) (v := .bool false) rfl rfl) (by decide) ?_
                        refine OL_nil ?_
                        refine W_condf rfl ?_
                        refine W_skip ?_
                        show RetOK _ _ _ _ _ _
                        obtain rfl : R2 = [] := List.eq_nil_of_length_eq_zero (by omega)
                        exact ret0 Try.results44 ⟨⟨_, rfl⟩, H.ext_row 1 rfl, S1 ++ L2, (p1.append (by simp : L2.Perm (L2 ++ []))).trans (perm4 L1 R1 L2 []), merge_fin sB sC X1 X2 p1 (by simp) s1 sL2, by simpa using H.getRow 0 rfl⟩
                    · refine W_region ?_
                      refine OL_y (y_move h18) (by decide) ?_
                      refine OL_y (y_move h24) (by decide) ?_
                      refine OL_y (v := .bool false) (y_lssF (by omega) rfl rfl) (by decide) ?_
                      refine OL_y (v := .bool false) (y_move rfl) (by decide) ?_
                      refine OL_s rfl (by decide) rfl rfl (by simp) ?_
                      refine OL_s rfl (by decide) rfl rfl (by simp) ?_
                      refine OL_s rfl (by decide) rfl rfl (by simp) ?_
                      refine OL_y (y_pick (b := false) (v := .bool false) rfl rfl) (by decide) ?_
                      refine OL_nil ?_
                      refine W_condf rfl ?_
                      refine W_skip ?_
                      show RetOK _ _ _ _ _ _
                      obtain rfl : L2 = [] := List.eq_nil_of_length_eq_zero (by omega)
                      exact ret0 Try.results44 ⟨⟨_, rfl⟩, H.ext_row 1 rfl, S1 ++ R2, (p1.append (by simp : R2.Perm ([] ++ R2))).trans (perm4 L1 R1 [] R2), merge_fin sB sC X1 X2 p1 (by simp) s1 sR2, by simpa using H.getRow 0 rfl⟩
end Go.Proofs.Ytelgegodeifbiaa
