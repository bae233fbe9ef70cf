/- Ranges of runs exchanged; a row of runs turned about a place. -/
import Derived.Test.YtelgegodeifbiaaO3
namespace Go.Proofs.Ytelgegodeifbiaa
open Go Go.Wk Pl
set_option linter.unusedVariables false

theorem One.perm {l l' : List RR} (h : One l) (p : l'.Perm l) : One l' := fun x hx => h x (p.mem_iff.1 hx)

theorem perm3 {α : Type} (a b c d : List α) : (a ++ (b ++ (c ++ d))).Perm (c ++ (b ++ (a ++ d))) := by
  classical
  rw [List.perm_iff_count]
  intro x
  simp only [List.count_append]
  omega
set_option maxHeartbeats 4000000 in
theorem f60_calls {w : World} {v : Value} {N bb c : Nat} {P U M V Q : List RR} {a b n : Nat} (hrow : w.ownsRow 0 33 8 v N ((P ++ U ++ M ++ V ++ Q).flatMap RR.cells)) (hN : (P ++ U ++ M ++ V ++ Q).length = N) (hv : 0 < N → v = .slice (some ⟨bb, 0, none⟩) N c) (hmax : N ≤ 1000)
    (ha : a = P.length) (hn : n = U.length) (hn' : n = V.length) (hb : b = P.length + U.length + M.length) (h1 : One (P ++ U ++ M ++ V ++ Q)) :
    Calls Try.prog 60 [v, .int .i64 a, .int .i64 b, .int .i64 n, .func (.func 30) #[] #[]].toArray w fun e w' => (∃ y, e = .returned y) ∧ Ext (fun k => v.ownBlock = some k) w w' ∧ w'.ownsRow 0 33 8 v N ((P ++ V ++ M ++ U ++ Q).flatMap RR.cells) := by
  have H := Holds.startRow hrow
  simp only [List.length_append] at hN
  refine calls_of_W' Try.func60 rfl Try.ntmps60 rfl ?_
  refine W_seq ?_
  refine W_region ?_
  refine OL_y (y_assign rfl) (by decide) ?_
  refine OL_nil ?_
  refine W_block (W_loopN (fun g f ds w' => ∃ i, g + i = n ∧ f 0 = v ∧ f 1 = .int .i64 a ∧ f 2 = .int .i64 b ∧ f 3 = .int .i64 n ∧ f 10 = .int .i64 (i : Int) ∧ ds = [] ∧ Holds w' [row 33 8 v N ((P ++ V.take i ++ U.drop i ++ M ++ U.take i ++ V.drop i ++ Q).flatMap RR.cells), shr (fun k => k < w.heap.size ∧ v.ownBlock ≠ some k) w])
      n ⟨0, rfl, rfl, rfl, rfl, rfl, rfl, rfl, by simpa using H⟩
      ?_)
  rintro g f ds w1 ⟨i, hg, h0, hh1, h2, h3, h10, rfl, H⟩
  refine W_seq ?_
  refine W_seq ?_
  refine W_region ?_
  refine OL_y (y_move h10) (by decide) ?_
  refine OL_y (y_move h3) (by decide) ?_
  refine OL_y (y_lss rfl rfl) (by decide) ?_
  refine OL_nil ?_
  refine W_cond rfl (fun hc => ?_) (fun hc => ?_)
  · have hc := of_decide_eq_true hc
    have hi : i < n := by omega
    have hU : U.drop i = U[i] :: U.drop (i + 1) := List.drop_eq_getElem_cons (by omega)
    have hV : V.drop i = V[i] :: V.drop (i + 1) := List.drop_eq_getElem_cons (by omega)
    have tU : U.take (i + 1) = U.take i ++ [U[i]] := by rw [List.take_add_one, List.getElem?_eq_getElem (by omega)]; rfl
    have tV : V.take (i + 1) = V.take i ++ [V[i]] := by rw [List.take_add_one, List.getElem?_eq_getElem (by omega)]; rfl
    have h1u : ∀ c ∈ U[i].cells, c.oneCell' = true := h1 _ (by simp [List.getElem_mem])
    have h1v : ∀ c ∈ V[i].cells, c.oneCell' = true := h1 _ (by simp [List.getElem_mem])
    have e1 : P ++ V.take i ++ U.drop i ++ M ++ U.take i ++ V.drop i ++ Q = (P ++ V.take i) ++ U[i] :: ((U.drop (i + 1) ++ M ++ U.take i) ++ V[i] :: (V.drop (i + 1) ++ Q)) := by rw [hU, hV]; simp only [List.append_assoc, List.cons_append, List.nil_append]
    have e2 : P ++ V.take (i + 1) ++ U.drop (i + 1) ++ M ++ U.take (i + 1) ++ V.drop (i + 1) ++ Q = (P ++ V.take i) ++ V[i] :: ((U.drop (i + 1) ++ M ++ U.take i) ++ U[i] :: (V.drop (i + 1) ++ Q)) := by rw [tU, tV]; simp only [List.append_assoc, List.cons_append, List.nil_append]
    have hv' := hv (by omega)
    have h0' : f 0 = .slice (some ⟨bb, 0, none⟩) N c := h0.trans hv'
    have hob : v.ownBlock = some bb := by rw [hv']; rfl
    have lP : a + i = (P ++ V.take i).length := by rw [List.length_append, List.length_take]; omega
    have lM : b + i = (P ++ V.take i).length + 1 + (U.drop (i + 1) ++ M ++ U.take i).length := by simp only [List.length_append, List.length_take, List.length_drop]; omega
    generalize U[i] = u at *
    generalize V[i] = x at *
    rw [e1] at H
    have hgu : ((P ++ V.take i) ++ u :: ((U.drop (i + 1) ++ M ++ U.take i) ++ x :: (V.drop (i + 1) ++ Q)))[a + i]? = some u := at_mid lP
    have hgx : ((P ++ V.take i) ++ u :: ((U.drop (i + 1) ++ M ++ U.take i) ++ x :: (V.drop (i + 1) ++ Q)))[b + i]? = some x := by
      rw [show (P ++ V.take i) ++ u :: ((U.drop (i + 1) ++ M ++ U.take i) ++ x :: (V.drop (i + 1) ++ Q)) = ((P ++ V.take i) ++ u :: (U.drop (i + 1) ++ M ++ U.take i)) ++ x :: (V.drop (i + 1) ++ Q) by simp]
      exact at_mid (by rw [lM]; simp; omega)
    have hlen : ((P ++ V.take i) ++ u :: ((U.drop (i + 1) ++ M ++ U.take i) ++ x :: (V.drop (i + 1) ++ Q))).length = N := by rw [← e1]; simp only [List.length_append, List.length_take, List.length_drop]; omega
    refine W_skip ?_
    refine W_seq ?_
    refine W_block ?_
    refine W_drawD H mixed (by kernel_rfl) [21, 23] (fun w0 w' => Cells w' bb (0 + (a + i) * 8) u.cells ∧ Cells w' bb (0 + (b + i) * 8) x.cells) fun wd3 H hEd => ?_
    have hS : Sx [21, 23] (fun w' => Cells w' bb (0 + (a + i) * 8) u.cells ∧ Cells w' bb (0 + (b + i) * 8) x.cells) (List.replicate 24 false).toArray wd3 := fun _ => ⟨rowElAt RR.len (H.getRow 0 rfl) hob hgu, rowElAt RR.len (H.getRow 0 rfl) hob hgx⟩
    refine DA_p 0 rfl (by kernel_rfl) rfl (fun _ => y_move h0') hS (by decide) fun hS => ?_
    refine DA_p 1 rfl (by kernel_rfl) rfl (fun _ => y_move hh1) hS (by decide) fun hS => ?_
    refine DA_p 2 rfl (by kernel_rfl) rfl (fun _ => y_move h10) hS (by decide) fun hS => ?_
    refine DA_p 3 rfl (by kernel_rfl) rfl (fun _ => y_add64' ((a + i : Nat) : Int) rfl rfl (by omega) (by omega) (by omega)) hS (by decide) fun hS => ?_
    refine DA_p 4 rfl (by kernel_rfl) rfl (fun _ => y_move h0') hS (by decide) fun hS => ?_
    refine DA_p 5 rfl (by kernel_rfl) rfl (fun _ => y_move h2) hS (by decide) fun hS => ?_
    refine DA_p 6 rfl (by kernel_rfl) rfl (fun _ => y_move h10) hS (by decide) fun hS => ?_
    refine DA_p 7 rfl (by kernel_rfl) rfl (fun _ => y_add64' ((b + i : Nat) : Int) rfl rfl (by omega) (by omega) (by omega)) hS (by decide) fun hS => ?_
    refine DA_p 8 rfl (by kernel_rfl) rfl (fun _ => y_move h0') hS (by decide) fun hS => ?_
    refine DA_p 9 rfl (by kernel_rfl) rfl (fun _ => y_move h2) hS (by decide) fun hS => ?_
    refine DA_p 10 rfl (by kernel_rfl) rfl (fun _ => y_move h10) hS (by decide) fun hS => ?_
    refine DA_p 11 rfl (by kernel_rfl) rfl (fun _ => y_add64' ((b + i : Nat) : Int) rfl rfl (by omega) (by omega) (by omega)) hS (by decide) fun hS => ?_
    refine DA_p 12 rfl (by kernel_rfl) rfl (fun _ => y_indexAddr ti27 ti33 rfl rfl (by omega) (by omega)) hS (by decide) fun hS => ?_
    refine DA_y 13 rfl (by kernel_rfl) rfl (by kernel_rfl) (fun w' h => y_loadA (cs := x.cells) ti33 rfl rfl h.2 rfl) hS (by decide) fun hS => ?_
    refine DA_p 14 rfl (by kernel_rfl) rfl (fun _ => y_move h0') hS (by decide) fun hS => ?_
    refine DA_p 15 rfl (by kernel_rfl) rfl (fun _ => y_move hh1) hS (by decide) fun hS => ?_
    refine DA_p 16 rfl (by kernel_rfl) rfl (fun _ => y_move h10) hS (by decide) fun hS => ?_
    refine DA_p 17 rfl (by kernel_rfl) rfl (fun _ => y_add64' ((a + i : Nat) : Int) rfl rfl (by omega) (by omega) (by omega)) hS (by decide) fun hS => ?_
    refine DA_p 18 rfl (by kernel_rfl) rfl (fun _ => y_indexAddr ti27 ti33 rfl rfl (by omega) (by omega)) hS (by decide) fun hS => ?_
    refine DA_y 19 rfl (by kernel_rfl) rfl (by kernel_rfl) (fun w' h => y_loadA (cs := u.cells) ti33 rfl rfl h.1 rfl) hS (by decide) fun hS => ?_
    refine DA_p 20 rfl (by kernel_rfl) rfl (fun _ => y_indexAddr ti27 ti33 rfl rfl (by omega) (by omega)) hS (by decide) fun hS => ?_
    refine DA_one 21 (by kernel_rfl) rfl (op_storeEl (j := a + i) RR.len H 0 rfl hob ti33 x rfl rfl rfl (by rw [hlen]; omega) h1v fun w3_21 H => ⟨fun h => absurd (h 21 (by simp)) (by decide), ?_⟩)
    have hS : ∀ ls : Array Bool, ls.getD 21 false = true → Sx [21, 23] (fun w' => Cells w' bb (0 + (a + i) * 8) u.cells ∧ Cells w' bb (0 + (b + i) * 8) x.cells) ls w3_21 := fun ls hl h => by rw [h 21 (by simp)] at hl; cases hl
    have hS := hS [true, true, true, true, true, true, true, true, true, true, true, true, true, true, true, true, true, true, true, true, true, true, false, false].toArray rfl
    refine DA_p 22 rfl (by kernel_rfl) rfl (fun _ => y_indexAddr ti27 ti33 rfl rfl (by omega) (by omega)) hS (by decide) fun hS => ?_
    refine DA_one 23 (by kernel_rfl) rfl (op_storeEl (j := b + i) RR.len H 0 rfl hob ti33 u rfl rfl rfl (by rw [List.length_set, hlen]; omega) h1u fun w3_23 H => ⟨fun h => absurd (h 21 (by simp)) (by decide), ?_⟩)
    rw [swap_two lP lM, ← e2] at H
    refine DA_done (by kernel_rfl) ?_
    refine W_region ?_
    refine OL_y (y_move h10) (by decide) ?_
    refine OL_y (y_add64' ((i + 1 : Nat) : Int) rfl rfl (by omega) (by omega) (by omega)) (by decide) ?_
    refine OL_y (y_assign rfl) (by decide) ?_
    refine OL_nil ?_
    exact ⟨g - 1, by omega, i + 1, by omega, h0, hh1, h2, h3, rfl, rfl, H⟩
  · have hc := of_decide_eq_false hc
    obtain rfl : i = n := by omega
    refine W_exit ?_
    show RetOK _ _ _ _ _ _
    refine ret0 Try.results60 ⟨⟨_, rfl⟩, H.ext_row 1 rfl, ?_⟩
    have h := H.getRow 0 rfl
    rwa [List.take_of_length_le (by omega), List.drop_of_length_le (l := U) (by omega), List.take_of_length_le (l := U) (by omega), List.drop_of_length_le (l := V) (by omega), List.append_nil, List.append_nil] at h
set_option maxHeartbeats 4000000 in
theorem f48_calls {w : World} {v : Value} {N bb c : Nat} {A X Y D : List RR} {a m b : Nat} (hrow : w.ownsRow 0 33 8 v N ((A ++ X ++ Y ++ D).flatMap RR.cells)) (hN : (A ++ X ++ Y ++ D).length = N) (hv : 0 < N → v = .slice (some ⟨bb, 0, none⟩) N c) (hmax : N ≤ 1000)
    (ha : a = A.length) (hm : m = A.length + X.length) (hb : b = A.length + X.length + Y.length) (hX : 0 < X.length) (hY : 0 < Y.length) (h1 : One (A ++ X ++ Y ++ D)) :
    Calls Try.prog 48 [v, .int .i64 a, .int .i64 m, .int .i64 b, .func (.func 30) #[] #[]].toArray w fun e w' => (∃ y, e = .returned y) ∧ Ext (fun k => v.ownBlock = some k) w w' ∧ w'.ownsRow 0 33 8 v N ((A ++ Y ++ X ++ D).flatMap RR.cells) := by
  have H := Holds.startRow hrow
  simp only [List.length_append] at hN
  refine calls_of_W' Try.func48 rfl Try.ntmps48 rfl ?_
  refine W_seq ?_
  refine W_region ?_
  refine OL_y (y_move rfl) (by decide) ?_
  refine OL_y (y_move rfl) (by decide) ?_
  refine OL_y (y_sub64' ((X.length : Nat) : Int) rfl rfl (by omega) (by omega) (by omega)) (by decide) ?_
  refine OL_y (y_assign rfl) (by decide) ?_
  refine OL_nil ?_
  refine W_seq ?_
  refine W_region ?_
  refine OL_y (y_move rfl) (by decide) ?_
  refine OL_y (y_move rfl) (by decide) ?_
  refine OL_y (y_sub64' ((Y.length : Nat) : Int) rfl rfl (by omega) (by omega) (by omega)) (by decide) ?_
  refine OL_y (y_assign rfl) (by decide) ?_
  refine OL_nil ?_
  refine W_seq ?_
  refine W_block (W_loopN (fun g f ds w' => ∃ (P X' Y' Q : List RR), g = X'.length + Y'.length ∧ 0 < X'.length ∧ 0 < Y'.length ∧ m = P.length + X'.length ∧ P ++ Y' ++ X' ++ Q = A ++ Y ++ X ++ D ∧ f 0 = v ∧ f 2 = .int .i64 m ∧ f 4 = .func (.func 30) #[] #[] ∧ f 10 = .int .i64 ((X'.length : Nat) : Int) ∧ f 11 = .int .i64 ((Y'.length : Nat) : Int) ∧ ds = [] ∧ (P ++ X' ++ Y' ++ Q).Perm (A ++ X ++ Y ++ D) ∧
      Holds w' [row 33 8 v N ((P ++ X' ++ Y' ++ Q).flatMap RR.cells), shr (fun k => k < w.heap.size ∧ v.ownBlock ≠ some k) w])
      (X.length + Y.length) ⟨A, X, Y, D, rfl, hX, hY, hm, rfl, rfl, rfl, rfl, rfl, rfl, rfl, List.Perm.refl _, H⟩
      ?_)
  rintro g f ds w1 ⟨P, X', Y', Q, rfl, hX', hY', hm', he, h0, h2, h4, h10, h11, rfl, hp, H⟩
  have hpl := hp.length_eq
  simp only [List.length_append] at hpl
  refine W_seq ?_
  refine W_seq ?_
  refine W_region ?_
  refine OL_y (y_move h10) (by decide) ?_
  refine OL_y (y_move h11) (by decide) ?_
  refine OL_y (y_neq rfl rfl) (by decide) ?_
  refine OL_nil ?_
  refine W_cond rfl (fun hc => ?_) (fun hc => ?_)
  · have hc0 := of_decide_eq_true hc
    refine W_skip ?_
    refine W_block ?_
    refine W_seq ?_
    refine W_region ?_
    refine OL_y (y_move h10) (by decide) ?_
    refine OL_y (y_move h11) (by decide) ?_
    refine OL_y (y_gtr rfl rfl) (by decide) ?_
    refine OL_nil ?_
    refine W_cond rfl (fun hc => ?_) (fun hc => ?_)
    · have hc := of_decide_eq_true hc
      obtain ⟨X1, X2, rfl, hl1⟩ : ∃ X1 X2, X' = X1 ++ X2 ∧ X1.length = Y'.length := ⟨X'.take Y'.length, X'.drop Y'.length, (List.take_append_drop _ _).symm, by rw [List.length_take]; omega⟩
      rw [List.length_append] at *
      have hpp : (P ++ X1 ++ X2 ++ Y' ++ Q).Perm (P ++ (X1 ++ X2) ++ Y' ++ Q) := by rw [List.append_assoc P]
      have H : Holds w1 [row 33 8 v N ((P ++ X1 ++ X2 ++ Y' ++ Q).flatMap RR.cells), shr (fun k => k < w.heap.size ∧ v.ownBlock ≠ some k) w] := by rw [List.append_assoc P]; exact H
      refine W_seq ?_
      refine W_region ?_
      refine OL_y (y_move h0) (by decide) ?_
      refine OL_y (y_move h2) (by decide) ?_
      refine OL_y (y_move h10) (by decide) ?_
      refine OL_y (y_sub64' ((P.length : Nat) : Int) rfl rfl (by omega) (by omega) (by omega)) (by decide) ?_
      refine OL_y (y_move h2) (by decide) ?_
      refine OL_y (y_move h11) (by decide) ?_
      refine OL_y (y_move h4) (by decide) ?_
      refine OL_c (op_call 60 en60 rfl [v, .int .i64 (P.length : Nat), .int .i64 m, .int .i64 (Y'.length : Nat), .func (.func 30) #[] #[]] rfl (by decide) ((f60_calls (H.getRow 0 rfl) (by simp only [List.length_append]; omega) hv hmax rfl hl1.symm rfl (by omega) (h1.perm (hpp.trans hp))).mono ?_))
      rintro e w4_7 ⟨⟨y, rfl⟩, hE, hr⟩
      refine ⟨_, rfl, ?_⟩
      have H := H.step 0 rfl rfl hE (fun _ _ h => h) (row_ok hr) fun _ h => .inl h
      refine OL_nil ?_
      refine W_region ?_
      refine OL_y (y_move h10) (by decide) ?_
      refine OL_y (y_move h11) (by decide) ?_
      refine OL_y (y_sub64' ((X2.length : Nat) : Int) rfl rfl (by omega) (by omega) (by omega)) (by decide) ?_
      refine OL_y (y_assign rfl) (by decide) ?_
      refine OL_nil ?_
      refine ⟨X2.length + X1.length, by omega, P ++ Y', X2, X1, Q, rfl, by omega, by omega, by rw [List.length_append]; omega, by rw [← he]; simp, h0, h2, h4, rfl, by rw [hl1]; exact h11, rfl, ?_, H⟩
      refine List.Perm.trans ?_ (hpp.trans hp)
      simp only [List.append_assoc]
      exact List.Perm.append_left P (perm3 Y' X2 X1 Q)
    · have hc1 := of_decide_eq_false hc
      obtain ⟨Y1, Y2, rfl, hl1⟩ : ∃ Y1 Y2, Y' = Y1 ++ Y2 ∧ Y2.length = X'.length := ⟨Y'.take (Y'.length - X'.length), Y'.drop (Y'.length - X'.length), (List.take_append_drop _ _).symm, by rw [List.length_drop]; omega⟩
      rw [List.length_append] at *
      have hne : Y1.length ≠ 0 := fun h => by simp [h, hl1] at hc0
      have hpp : (P ++ X' ++ Y1 ++ Y2 ++ Q).Perm (P ++ X' ++ (Y1 ++ Y2) ++ Q) := by rw [← List.append_assoc (P ++ X')]
      have H : Holds w1 [row 33 8 v N ((P ++ X' ++ Y1 ++ Y2 ++ Q).flatMap RR.cells), shr (fun k => k < w.heap.size ∧ v.ownBlock ≠ some k) w] := by rw [List.append_assoc (P ++ X')]; exact H
      refine W_seq ?_
      refine W_region ?_
      refine OL_y (y_move h0) (by decide) ?_
      refine OL_y (y_move h2) (by decide) ?_
      refine OL_y (y_move h10) (by decide) ?_
      refine OL_y (y_sub64' ((P.length : Nat) : Int) rfl rfl (by omega) (by omega) (by omega)) (by decide) ?_
      refine OL_y (y_move h2) (by decide) ?_
      refine OL_y (y_move h11) (by decide) ?_
      refine OL_y (y_add64' ((m + (Y1.length + Y2.length) : Nat) : Int) rfl rfl (by omega) (by omega) (by omega)) (by decide) ?_
      refine OL_y (y_move h10) (by decide) ?_
      refine OL_y (y_sub64' ((m + Y1.length : Nat) : Int) rfl rfl (by omega) (by omega) (by omega)) (by decide) ?_
      refine OL_y (y_move h10) (by decide) ?_
      refine OL_y (y_move h4) (by decide) ?_
      refine OL_c (op_call 60 en60 rfl [v, .int .i64 (P.length : Nat), .int .i64 (m + Y1.length : Nat), .int .i64 (X'.length : Nat), .func (.func 30) #[] #[]] rfl (by decide) ((f60_calls (H.getRow 0 rfl) (by simp only [List.length_append]; omega) hv hmax rfl rfl hl1.symm (by omega) (h1.perm (hpp.trans hp))).mono ?_))
      rintro e w6_11 ⟨⟨y, rfl⟩, hE, hr⟩
      refine ⟨_, rfl, ?_⟩
      have H := H.step 0 rfl rfl hE (fun _ _ h => h) (row_ok hr) fun _ h => .inl h
      refine OL_nil ?_
      refine W_region ?_
      refine OL_y (y_move h11) (by decide) ?_
      refine OL_y (y_move h10) (by decide) ?_
      refine OL_y (y_sub64' ((Y1.length : Nat) : Int) rfl rfl (by omega) (by omega) (by omega)) (by decide) ?_
      refine OL_y (y_assign rfl) (by decide) ?_
      refine OL_nil ?_
      refine ⟨Y2.length + Y1.length, by omega, P, Y2, Y1, X' ++ Q, rfl, by omega, by omega, by omega, by rw [← he]; simp, h0, h2, h4, by rw [hl1]; exact h10, rfl, rfl, ?_, by simpa using H⟩
      refine List.Perm.trans ?_ (hpp.trans hp)
      simp only [List.append_assoc]
      exact List.Perm.append_left P (perm3 Y2 Y1 X' Q)
  · have hc : X'.length = Y'.length := by have := of_decide_eq_false hc; omega
    refine W_exit ?_
    refine W_region ?_
    refine OL_y (y_move h0) (by decide) ?_
    refine OL_y (y_move h2) (by decide) ?_
    refine OL_y (y_move h10) (by decide) ?_
    refine OL_y (y_sub64' ((P.length : Nat) : Int) rfl rfl (by omega) (by omega) (by omega)) (by decide) ?_
    refine OL_y (y_move h2) (by decide) ?_
    refine OL_y (y_move h10) (by decide) ?_
    refine OL_y (y_move h4) (by decide) ?_
    refine OL_c (op_call 60 en60 rfl [v, .int .i64 (P.length : Nat), .int .i64 m, .int .i64 (X'.length : Nat), .func (.func 30) #[] #[]] rfl (by decide) ((f60_calls (M := []) (P := P) (U := X') (V := Y') (Q := Q) (by simpa using H.getRow 0 rfl) (by simp only [List.length_append, List.append_nil]; omega) hv hmax rfl rfl hc (by simp; omega) (by simpa using h1.perm hp)).mono ?_))
    rintro e w8_7 ⟨⟨y, rfl⟩, hE, hr⟩
    refine ⟨_, rfl, ?_⟩
    have H := H.step 0 rfl rfl hE (fun _ _ h => h) (row_ok hr) fun _ h => .inl h
    refine OL_nil ?_
    show RetOK _ _ _ _ _ _
    refine ret0 Try.results48 ⟨⟨_, rfl⟩, H.ext_row 1 rfl, ?_⟩
    have h := H.getRow 0 rfl
    rwa [List.append_nil, he] at h
end Go.Proofs.Ytelgegodeifbiaa
