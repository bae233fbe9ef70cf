/- Rows of runs put in order: insertion, exchange of ranges, turning. -/
import Derived.Test.YtelgegodeifbiaaO2
import Derived.Test.YtelgegodeifbiaaWkk
namespace Go.Proofs.Ytelgegodeifbiaa
open Go Go.Wk Pl
set_option linter.unusedVariables false

theorem rr_one (x : RR) (hx : x.vk.oneCell' = true ∧ x.vs.oneCell' = true ∧ x.vp.oneCell' = true) : ∀ u ∈ x.cells, u.oneCell' = true := by
  intro u hu
  simp only [RR.cells, List.mem_cons, List.not_mem_nil, or_false] at hu
  rcases hu with rfl | rfl | rfl | rfl | rfl | rfl | rfl | rfl
  · rfl
  · rfl
  · rfl
  · rfl
  · rfl
  · exact hx.1
  · exact hx.2.1
  · exact hx.2.2
def One (l : List RR) : Prop := ∀ x ∈ l, ∀ u ∈ x.cells, u.oneCell' = true

set_option maxHeartbeats 4000000 in
theorem f43_calls {w : World} {v : Value} {N bb c : Nat} {A B D : List RR} {a b : Nat} (hrow : w.ownsRow 0 33 8 v N ((A ++ B ++ D).flatMap RR.cells)) (hN : (A ++ B ++ D).length = N) (hv : 0 < N → v = .slice (some ⟨bb, 0, none⟩) N c) (hmax : N ≤ 1000) (ha : a = A.length) (hb : b = A.length + B.length) (h1 : One (A ++ B ++ D)) :
    Calls Try.prog 43 [v, .int .i64 a, .int .i64 b, .func (.func 30) #[] #[]].toArray w fun e w' => (∃ y, e = .returned y) ∧ Ext (fun k => v.ownBlock = some k) w w' ∧ ∃ S, S.Perm B ∧ Srt S ∧ w'.ownsRow 0 33 8 v N ((A ++ S ++ D).flatMap RR.cells) := by
  have H := Holds.startRow hrow
  simp only [List.length_append] at hN
  refine calls_of_W' Try.func43 rfl Try.ntmps43 rfl ?_
  refine W_seq ?_
  refine W_region ?_
  refine OL_y (y_move rfl) (by decide) ?_
  refine OL_y (y_add64' ((a + 1 : Nat) : Int) rfl rfl (by omega) (by omega) (by omega)) (by decide) ?_
  refine OL_y (y_assign rfl) (by decide) ?_
  refine OL_nil ?_
  refine W_block (W_loopN (fun g f ds w' => ∃ k S, g + k = B.length + 1 ∧ f 0 = v ∧ f 1 = .int .i64 a ∧ f 2 = .int .i64 b ∧ f 3 = .func (.func 30) #[] #[] ∧ f 8 = .int .i64 ((a + k : Nat) : Int) ∧ ds = [] ∧ S.Perm (B.take k) ∧ Srt S ∧ Holds w' [row 33 8 v N ((A ++ S ++ B.drop k ++ D).flatMap RR.cells), shr (fun k => k < w.heap.size ∧ v.ownBlock ≠ some k) w])
      B.length ⟨1, B.take 1, rfl, rfl, rfl, rfl, rfl, rfl, rfl, List.Perm.refl _, by cases B <;> simp [Srt], by rw [List.append_assoc A, List.take_append_drop]; exact H⟩
      ?_)
  rintro g0 f ds w1 ⟨k, S, hg, h0, hh1, h2, h3, h8, rfl, hp, hs, H⟩
  have hSl : S.length = (B.take k).length := hp.length_eq
  refine W_seq ?_
  refine W_seq ?_
  refine W_region ?_
  refine OL_y (y_move h8) (by decide) ?_
  refine OL_y (y_move h2) (by decide) ?_
  refine OL_y (y_lss rfl rfl) (by decide) ?_
  refine OL_nil ?_
  refine W_cond rfl (fun hc => ?_) (fun hc => ?_)
  · have hc := of_decide_eq_true hc
    have hkB : k < B.length := by omega
    rw [List.length_take, Nat.min_eq_left (by omega)] at hSl
    have hd : B.drop k = B[k] :: B.drop (k + 1) := List.drop_eq_getElem_cons hkB
    have htk : B.take (k + 1) = B.take k ++ [B[k]] := by rw [List.take_add_one, List.getElem?_eq_getElem hkB]; rfl
    have hxB : B[k] ∈ B := List.getElem_mem hkB
    generalize B[k] = x at hd htk hxB
    refine W_skip ?_
    refine W_seq ?_
    refine W_block ?_
    refine W_seq ?_
    refine W_region ?_
    refine OL_y (y_move h8) (by decide) ?_
    refine OL_y (y_assign rfl) (by decide) ?_
    refine OL_nil ?_
    refine W_block (W_loopN (fun g f ds w' => ∃ S1 S2, g = S1.length ∧ S1 ++ S2 = S ∧ (∀ y ∈ S2, cmpR x.r y.r < 0) ∧ f 0 = v ∧ f 1 = .int .i64 a ∧ f 2 = .int .i64 b ∧ f 3 = .func (.func 30) #[] #[] ∧ f 8 = .int .i64 ((a + k : Nat) : Int) ∧ f 9 = .int .i64 ((a + S1.length : Nat) : Int) ∧ ds = [] ∧ Holds w' [row 33 8 v N ((A ++ S1 ++ x :: (S2 ++ B.drop (k + 1) ++ D)).flatMap RR.cells), shr (fun k => k < w.heap.size ∧ v.ownBlock ≠ some k) w])
        S.length ⟨S, [], rfl, by simp, by simp, h0, hh1, h2, h3, h8, by rw [hSl]; rfl, rfl, by rw [hd] at H; simpa using H⟩
        ?_)
    rintro g f ds w2 ⟨S1, S2, rfl, hS12, hlt, h0, hh1, h2, h3, h8, h9, rfl, H⟩
    have hlen : S1.length + S2.length = k := by rw [← hSl, ← hS12, List.length_append]
    have hv' := hv (by omega)
    refine W_seq ?_
    refine W_seq ?_
    rcases List.eq_nil_or_concat S1 with rfl | ⟨S0, z, rfl⟩
    · refine W_drawQ H mixed (by kernel_rfl) (by kernel_rfl) fun wd4 H => ?_
      refine QL_y (y_move h9) (by decide) ?_
      refine QL_y (y_move hh1) (by decide) ?_
      refine QL_y (v := .bool false) (y_gtrF (by simp) rfl rfl) (by decide) ?_
      refine QL_y (v := .bool false) (y_move rfl) (by decide) ?_
      refine QL_s rfl (by decide) rfl rfl (by simp) ?_
      refine QL_s rfl (by decide) rfl rfl (by simp) ?_
      refine QL_s rfl (by decide) rfl rfl (by simp) ?_
      refine QL_s rfl (by decide) rfl rfl (by simp) ?_
      refine QL_s rfl (by decide) rfl rfl (by simp) ?_
      refine QL_s rfl (by decide) rfl rfl (by simp) ?_
      refine QL_s rfl (by decide) rfl rfl (by simp) ?_
      refine QL_s rfl (by decide) rfl rfl (by simp) ?_
      refine QL_s rfl (by decide) rfl rfl (by simp) ?_
      refine QL_s rfl (by decide) rfl rfl (by simp) ?_
      refine QL_s rfl (by decide) rfl rfl (by simp) ?_
      refine QL_s rfl (by decide) rfl rfl (by simp) ?_
      refine QL_y (y_pick (b := false) (v := .bool false) rfl rfl) (by decide) ?_
      refine QL_nil ?_
      refine W_condf rfl ?_
      refine W_exit ?_
      have H : Holds wd4 [row 33 8 v N ((A ++ ([] ++ x :: S2) ++ B.drop (k + 1) ++ D).flatMap RR.cells), shr (fun k => k < w.heap.size ∧ v.ownBlock ≠ some k) w] := by simpa using H
      have hs' : Srt ([] ++ x :: S2) := ins_sorted (by rw [hS12]; exact hs) hlt (.inl rfl)
      have hp' : ([] ++ x :: S2).Perm (B.take (k + 1)) := by rw [htk]; exact List.perm_middle.trans (List.Perm.trans (by rw [hS12]; exact (List.Perm.cons x hp)) (List.perm_append_singleton x _).symm)
      refine W_region ?_
      refine OL_y (y_move h8) (by decide) ?_
      refine OL_y (y_add64' ((a + (k + 1) : Nat) : Int) rfl rfl (by omega) (by omega) (by omega)) (by decide) ?_
      refine OL_y (y_assign rfl) (by decide) ?_
      refine OL_nil ?_
      exact ⟨g0 - 1, by omega, k + 1, _, by omega, h0, hh1, h2, h3, rfl, rfl, hp', hs', H⟩
    · have h0' : f 0 = .slice (some ⟨bb, 0, none⟩) N c := h0.trans hv'
      simp only [List.concat_eq_append, List.length_append, List.length_cons, List.length_nil] at *
      have hj : A.length + S0.length + 1 = a + (S0.length + (0 + 1)) := by omega
      have e1 : A ++ (S0 ++ [z]) ++ x :: (S2 ++ B.drop (k + 1) ++ D) = (A ++ S0) ++ z :: x :: (S2 ++ B.drop (k + 1) ++ D) := by simp
      have hgz : ((A ++ S0) ++ z :: x :: (S2 ++ B.drop (k + 1) ++ D))[a + S0.length]? = some z := at_mid (by simp; omega)
      have hgx : ((A ++ S0) ++ z :: x :: (S2 ++ B.drop (k + 1) ++ D))[a + (S0.length + (0 + 1))]? = some x := by
        rw [show (A ++ S0) ++ z :: x :: (S2 ++ B.drop (k + 1) ++ D) = (A ++ S0 ++ [z]) ++ x :: (S2 ++ B.drop (k + 1) ++ D) by simp]
        exact at_mid (by simp; omega)
      rw [e1] at H
      have hob : v.ownBlock = some bb := by rw [hv']; rfl
      have h1z : ∀ u ∈ z.cells, u.oneCell' = true := h1 z (by
        have : z ∈ B.take k := hp.mem_iff.1 (by rw [← hS12]; simp)
        simp [List.mem_of_mem_take this])
      have h1x : ∀ u ∈ x.cells, u.oneCell' = true := h1 x (by simp [hxB])
      refine W_drawD H mixed (by kernel_rfl) [] (fun w0 w' => Cells w' bb (0 + (a + (S0.length + (0 + 1))) * 8) x.cells ∧ Cells w' bb (0 + (a + S0.length) * 8) z.cells) fun wd4 H hEd => ?_
      have hS : Sx [] (fun w' => Cells w' bb (0 + (a + (S0.length + (0 + 1))) * 8) x.cells ∧ Cells w' bb (0 + (a + S0.length) * 8) z.cells) (List.replicate 17 false).toArray wd4 := fun _ => ⟨rowElAt RR.len (H.getRow 0 rfl) hob hgx, rowElAt RR.len (H.getRow 0 rfl) hob hgz⟩
      refine DA_p 0 rfl (by kernel_rfl) rfl (fun _ => y_move h9) hS (by decide) fun hS => ?_
      refine DA_p 1 rfl (by kernel_rfl) rfl (fun _ => y_move hh1) hS (by decide) fun hS => ?_
      refine DA_p (v := .bool true) 2 rfl (by kernel_rfl) rfl (fun _ => y_gtrT (by omega) rfl rfl) hS (by decide) fun hS => ?_
      refine DA_p (v := .bool true) 3 rfl (by kernel_rfl) rfl (fun _ => y_move rfl) hS (by decide) fun hS => ?_
      refine DA_pg 4 rfl rfl (by decide) rfl (by kernel_rfl) rfl (fun _ => y_move h3) hS (by decide) fun hS => ?_
      refine DA_pg 5 rfl rfl (by decide) rfl (by kernel_rfl) rfl (fun _ => y_move h0') hS (by decide) fun hS => ?_
      refine DA_pg 6 rfl rfl (by decide) rfl (by kernel_rfl) rfl (fun _ => y_move h9) hS (by decide) fun hS => ?_
      refine DA_pg 7 rfl rfl (by decide) rfl (by kernel_rfl) rfl (fun _ => y_indexAddr ti27 ti33 rfl rfl (by omega) (by omega)) hS (by decide) fun hS => ?_
      refine DA_yg 8 rfl rfl (by decide) rfl (by kernel_rfl) rfl (by kernel_rfl) (fun w' h => y_loadA (cs := x.cells) ti33 rfl rfl h.1 rfl) hS (by decide) fun hS => ?_
      refine DA_pg 9 rfl rfl (by decide) rfl (by kernel_rfl) rfl (fun _ => y_move h0') hS (by decide) fun hS => ?_
      refine DA_pg 10 rfl rfl (by decide) rfl (by kernel_rfl) rfl (fun _ => y_move h9) hS (by decide) fun hS => ?_
      refine DA_pg 11 rfl rfl (by decide) rfl (by kernel_rfl) rfl (fun _ => y_sub64' ((a + S0.length : Nat) : Int) rfl rfl (by omega) (by omega) (by omega)) hS (by decide) fun hS => ?_
      refine DA_pg 12 rfl rfl (by decide) rfl (by kernel_rfl) rfl (fun _ => y_indexAddr ti27 ti33 rfl rfl (by omega) (by omega)) hS (by decide) fun hS => ?_
      refine DA_yg 13 rfl rfl (by decide) rfl (by kernel_rfl) rfl (by kernel_rfl) (fun w' h => y_loadA (cs := z.cells) ti33 rfl rfl h.2 rfl) hS (by decide) fun hS => ?_
      refine DA_oneg 14 (by kernel_rfl) rfl rfl (by decide) rfl (op_call 30 en30 rfl [.agg x.cells.toArray, .agg z.cells.toArray] rfl (by decide) ((f30_calls x z).mono ?_))
      rintro e w4_14 ⟨rfl, hE⟩
      refine ⟨_, rfl, fun _ => ⟨rowElAt RR.len ((H.ext0 hE).getRow 0 rfl) hob hgx, rowElAt RR.len ((H.ext0 hE).getRow 0 rfl) hob hgz⟩, ?_⟩
      have H := H.ext0 hE
      have hS : Sx [] (fun w' => Cells w' bb (0 + (a + (S0.length + (0 + 1))) * 8) x.cells ∧ Cells w' bb (0 + (a + S0.length) * 8) z.cells) [true, true, true, true, true, true, true, true, true, true, true, true, true, true, true, false, false].toArray w4_14 := fun _ => ⟨rowElAt RR.len (H.getRow 0 rfl) hob hgx, rowElAt RR.len (H.getRow 0 rfl) hob hgz⟩
      refine DA_pg 15 rfl rfl (by decide) rfl (by kernel_rfl) rfl (fun _ => y_lss rfl rfl) hS (by decide) fun hS => ?_
      refine DA_p 16 rfl (by kernel_rfl) rfl (fun _ => y_pick (b := true) rfl rfl) hS (by decide) fun hS => ?_
      refine DA_done (by kernel_rfl) ?_
      refine W_cond rfl (fun hc => ?_) (fun hc => ?_)
      · have hcz := of_decide_eq_true hc
        refine W_skip ?_
        refine W_seq ?_
        refine W_block ?_
        refine W_drawD H mixed (by kernel_rfl) [15, 17] (fun w0 w' => Cells w' bb (0 + (a + (S0.length + (0 + 1))) * 8) x.cells ∧ Cells w' bb (0 + (a + S0.length) * 8) z.cells) fun wd6 H hEd => ?_
        have hS : Sx [15, 17] (fun w' => Cells w' bb (0 + (a + (S0.length + (0 + 1))) * 8) x.cells ∧ Cells w' bb (0 + (a + S0.length) * 8) z.cells) (List.replicate 18 false).toArray wd6 := fun _ => ⟨rowElAt RR.len (H.getRow 0 rfl) hob hgx, rowElAt RR.len (H.getRow 0 rfl) hob hgz⟩
        refine DA_p 0 rfl (by kernel_rfl) rfl (fun _ => y_move h0') hS (by decide) fun hS => ?_
        refine DA_p 1 rfl (by kernel_rfl) rfl (fun _ => y_move h9) hS (by decide) fun hS => ?_
        refine DA_p 2 rfl (by kernel_rfl) rfl (fun _ => y_move h0') hS (by decide) fun hS => ?_
        refine DA_p 3 rfl (by kernel_rfl) rfl (fun _ => y_move h9) hS (by decide) fun hS => ?_
        refine DA_p 4 rfl (by kernel_rfl) rfl (fun _ => y_sub64' ((a + S0.length : Nat) : Int) rfl rfl (by omega) (by omega) (by omega)) hS (by decide) fun hS => ?_
        refine DA_p 5 rfl (by kernel_rfl) rfl (fun _ => y_move h0') hS (by decide) fun hS => ?_
        refine DA_p 6 rfl (by kernel_rfl) rfl (fun _ => y_move h9) hS (by decide) fun hS => ?_
        refine DA_p 7 rfl (by kernel_rfl) rfl (fun _ => y_sub64' ((a + S0.length : Nat) : Int) rfl rfl (by omega) (by omega) (by omega)) hS (by decide) fun hS => ?_
        refine DA_p 8 rfl (by kernel_rfl) rfl (fun _ => y_indexAddr ti27 ti33 rfl rfl (by omega) (by omega)) hS (by decide) fun hS => ?_
        refine DA_y 9 rfl (by kernel_rfl) rfl (by kernel_rfl) (fun w' h => y_loadA (cs := z.cells) ti33 rfl rfl h.2 rfl) hS (by decide) fun hS => ?_
        refine DA_p 10 rfl (by kernel_rfl) rfl (fun _ => y_move h0') hS (by decide) fun hS => ?_
        refine DA_p 11 rfl (by kernel_rfl) rfl (fun _ => y_move h9) hS (by decide) fun hS => ?_
        refine DA_p 12 rfl (by kernel_rfl) rfl (fun _ => y_indexAddr ti27 ti33 rfl rfl (by omega) (by omega)) hS (by decide) fun hS => ?_
        refine DA_y 13 rfl (by kernel_rfl) rfl (by kernel_rfl) (fun w' h => y_loadA (cs := x.cells) ti33 rfl rfl h.1 rfl) hS (by decide) fun hS => ?_
        refine DA_p 14 rfl (by kernel_rfl) rfl (fun _ => y_indexAddr ti27 ti33 rfl rfl (by omega) (by omega)) hS (by decide) fun hS => ?_
        refine DA_one 15 (by kernel_rfl) rfl (op_storeEl (j := a + S0.length + 1) RR.len H 0 rfl hob ti33 z rfl rfl rfl (by simp; omega) h1z fun w6_15 H => ⟨fun h => absurd (h 15 (by simp)) (by decide), ?_⟩)
        have hS : ∀ ls : Array Bool, ls.getD 15 false = true → Sx [15, 17] (fun w' => Cells w' bb (0 + (a + (S0.length + (0 + 1))) * 8) x.cells ∧ Cells w' bb (0 + (a + S0.length) * 8) z.cells) ls w6_15 := fun ls hl h => by rw [h 15 (by simp)] at hl; cases hl
        have hS := hS [true, true, true, true, true, true, true, true, true, true, true, true, true, true, true, true, false, false].toArray rfl
        refine DA_p 16 rfl (by kernel_rfl) rfl (fun _ => y_indexAddr ti27 ti33 rfl rfl (by omega) (by omega)) hS (by decide) fun hS => ?_
        refine DA_one 17 (by kernel_rfl) rfl (op_storeEl (j := a + S0.length) RR.len H 0 rfl hob ti33 x rfl rfl rfl (by simp; omega) h1x fun w6_17 H => ⟨fun h => absurd (h 15 (by simp)) (by decide), ?_⟩)
        rw [swap_adj (by simp; omega)] at H
        refine DA_done (by kernel_rfl) ?_
        refine W_region ?_
        refine OL_y (y_move h9) (by decide) ?_
        refine OL_y (y_sub64' ((a + S0.length : Nat) : Int) rfl rfl (by omega) (by omega) (by omega)) (by decide) ?_
        refine OL_y (y_assign rfl) (by decide) ?_
        refine OL_nil ?_
        exact ⟨S0.length, by simp, S0, z :: S2, rfl, by rw [← hS12]; simp, fun y hy => (List.mem_cons.1 hy).elim (fun e => e ▸ hcz) (hlt y), h0, hh1, h2, h3, h8, rfl, rfl, by simpa using H⟩
      · have hcz := of_decide_eq_false hc
        refine W_exit ?_
        have H : Holds w4_14 [row 33 8 v N ((A ++ ((S0 ++ [z]) ++ x :: S2) ++ B.drop (k + 1) ++ D).flatMap RR.cells), shr (fun k => k < w.heap.size ∧ v.ownBlock ≠ some k) w] := by simpa using H
        have hs' : Srt ((S0 ++ [z]) ++ x :: S2) := ins_sorted (by rw [hS12]; exact hs) hlt (.inr ⟨S0, z, rfl, hcz⟩)
        have hp' : ((S0 ++ [z]) ++ x :: S2).Perm (B.take (k + 1)) := by rw [htk]; exact List.perm_middle.trans (List.Perm.trans (by rw [hS12]; exact (List.Perm.cons x hp)) (List.perm_append_singleton x _).symm)
        refine W_region ?_
        refine OL_y (y_move h8) (by decide) ?_
        refine OL_y (y_add64' ((a + (k + 1) : Nat) : Int) rfl rfl (by omega) (by omega) (by omega)) (by decide) ?_
        refine OL_y (y_assign rfl) (by decide) ?_
        refine OL_nil ?_
        exact ⟨g0 - 1, by omega, k + 1, _, by omega, h0, hh1, h2, h3, rfl, rfl, hp', hs', H⟩
  · have hc := of_decide_eq_false hc
    have hkB : B.length ≤ k := by omega
    rw [List.take_of_length_le hkB] at hp
    rw [List.drop_of_length_le hkB, List.append_nil] at H
    refine W_exit ?_
    show RetOK _ _ _ _ _ _
    exact ret0 Try.results43 ⟨⟨_, rfl⟩, H.ext_row 1 rfl, S, hp, hs, H.getRow 0 rfl⟩
end Go.Proofs.Ytelgegodeifbiaa
