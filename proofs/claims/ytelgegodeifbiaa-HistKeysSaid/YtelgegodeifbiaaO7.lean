/- A row of at most 30 runs put in order: slices.SortStableFunc. -/
import Derived.Test.YtelgegodeifbiaaO6
namespace Go.Proofs.Ytelgegodeifbiaa
open Go Go.Wk Pl
set_option linter.unusedVariables false

set_option maxHeartbeats 4000000 in
theorem f38_calls {w : World} {v : Value} {N bb c : Nat} {l : List RR} (hrow : w.ownsRow 0 33 8 v N (l.flatMap RR.cells)) (hN : l.length = N) (hv : 0 < N → v = .slice (some ⟨bb, 0, none⟩) N c) (hmax : N ≤ 30) (h1 : One l) :
    Calls Try.prog 38 [v, .int .i64 (N : Nat), .func (.func 30) #[] #[]].toArray w fun e w' => (∃ y, e = .returned y) ∧ Ext (fun k => v.ownBlock = some k) w w' ∧ ∃ S, S.Perm l ∧ Srt S ∧ w'.ownsRow 0 33 8 v N (S.flatMap RR.cells) := by
  have H := Holds.startRow hrow
  refine calls_of_W' Try.func38 rfl Try.ntmps38 rfl ?_
  refine W_seq ?_
  refine W_region ?_
  refine OL_y (y_assign rfl) (by decide) ?_
  refine OL_nil ?_
  refine W_seq ?_
  refine W_region ?_
  refine OL_y (y_move rfl) (by decide) ?_
  refine OL_y (y_assign rfl) (by decide) ?_
  refine OL_y (y_assign rfl) (by decide) ?_
  refine OL_nil ?_
  refine W_seq ?_
  refine W_block (W_loopN (fun g f ds w' => ∃ X, g ≤ 1 ∧ f 0 = v ∧ f 1 = .int .i64 (N : Nat) ∧ f 2 = .func (.func 30) #[] #[] ∧ f 6 = .int .i64 20 ∧ f 7 = .int .i64 (20 - 20 * g : Nat) ∧ f 8 = .int .i64 (40 - 20 * g : Nat) ∧ ds = [] ∧ X.length = 20 - 20 * g ∧ 20 - 20 * g ≤ N ∧ X.Perm (l.take (20 - 20 * g)) ∧ Srt X ∧
      Holds w' [row 33 8 v N ((X ++ l.drop (20 - 20 * g)).flatMap RR.cells), shr (fun k => k < w.heap.size ∧ v.ownBlock ≠ some k) w])
      1 ⟨[], by omega, rfl, rfl, rfl, rfl, rfl, rfl, rfl, rfl, by omega, by simp, by simp [Srt], by simpa using H⟩
      ?_)
  rintro g f ds w1 ⟨X, hg, h0, hh1, h2, h6, h7, h8, rfl, hXl, hgN, hXp, hXs, H⟩
  refine W_seq ?_
  refine W_seq ?_
  refine W_region ?_
  refine OL_y (y_move h8) (by decide) ?_
  refine OL_y (y_move hh1) (by decide) ?_
  refine OL_y (y_leq rfl rfl) (by decide) ?_
  refine OL_nil ?_
  refine W_cond rfl (fun hc => ?_) (fun hc => ?_)
  · have hc := of_decide_eq_true hc
    obtain rfl : g = 1 := by omega
    obtain rfl : X = [] := List.eq_nil_of_length_eq_zero (by omega)
    refine W_skip ?_
    refine W_block ?_
    refine W_seq ?_
    refine W_region ?_
    refine OL_y (y_move h0) (by decide) ?_
    refine OL_y (y_move h7) (by decide) ?_
    refine OL_y (y_move h8) (by decide) ?_
    refine OL_y (y_move h2) (by decide) ?_
    refine OL_c (op_call 43 en43 rfl [v, .int .i64 (0 : Nat), .int .i64 (20 : Nat), .func (.func 30) #[] #[]] rfl (by decide) ((f43_calls (A := []) (B := l.take 20) (D := l.drop 20) (by simpa using H.getRow 0 rfl) (by simpa using hN) hv (by omega) rfl (by rw [List.length_take]; simp; omega) (by simpa using h1)).mono ?_))
    rintro e w3_4 ⟨⟨y, rfl⟩, hE, S, hp, hs, hr⟩
    refine ⟨_, rfl, ?_⟩
    have H := H.step 0 rfl rfl hE (fun _ _ h => h) (row_ok hr) fun _ h => .inl h
    refine OL_nil ?_
    refine W_seq ?_
    refine W_region ?_
    refine OL_y (y_move h8) (by decide) ?_
    refine OL_y (y_assign rfl) (by decide) ?_
    refine OL_nil ?_
    refine W_region ?_
    refine OL_y (y_move h8) (by decide) ?_
    refine OL_y (y_move h6) (by decide) ?_
    refine OL_y (y_add64' ((40 : Nat) : Int) rfl rfl (by decide) (by decide) (by decide)) (by decide) ?_
    refine OL_y (y_assign rfl) (by decide) ?_
    refine OL_nil ?_
    exact ⟨0, by omega, S, by omega, h0, hh1, h2, h6, rfl, rfl, rfl, by rw [hp.length_eq, List.length_take]; omega, by omega, hp, hs, by simpa using H⟩
  · have hc := of_decide_eq_false hc
    refine W_exit ?_
    refine W_seq ?_
    refine W_region ?_
    refine OL_y (y_move h0) (by decide) ?_
    refine OL_y (y_move h7) (by decide) ?_
    refine OL_y (y_move hh1) (by decide) ?_
    refine OL_y (y_move h2) (by decide) ?_
    refine OL_c (op_call 43 en43 rfl [v, .int .i64 (20 - 20 * g : Nat), .int .i64 (N : Nat), .func (.func 30) #[] #[]] rfl (by decide) ((f43_calls (A := X) (B := l.drop (20 - 20 * g)) (D := []) (by simpa using H.getRow 0 rfl) (by rw [List.append_nil, List.length_append, List.length_drop]; omega) hv (by omega) hXl.symm (by rw [List.length_drop]; omega) (by rw [List.append_nil]; exact h1.perm ((List.Perm.append_right _ hXp).trans (by rw [List.take_append_drop])))).mono ?_))
    rintro e w6_4 ⟨⟨y, rfl⟩, hE, Y, hYp, hYs, hr⟩
    refine ⟨_, rfl, ?_⟩
    have H := H.step 0 rfl rfl hE (fun _ _ h => h) (row_ok hr) fun _ h => .inl h
    have hXY : (X ++ Y).Perm l := (hXp.append hYp).trans (by rw [List.take_append_drop])
    have hYl : X.length + Y.length = N := by rw [← hN, ← hXY.length_eq, List.length_append]
    refine OL_nil ?_
    refine W_block (W_loopN (fun j f ds w' => f 0 = v ∧ f 1 = .int .i64 (N : Nat) ∧ f 2 = .func (.func 30) #[] #[] ∧ f 6 = .int .i64 (40 - 20 * j : Nat) ∧ ds = [] ∧ ((j = 1 ∧ Holds w' [row 33 8 v N ((X ++ Y).flatMap RR.cells), shr (fun k => k < w.heap.size ∧ v.ownBlock ≠ some k) w]) ∨
        (j = 0 ∧ ∃ S, S.Perm l ∧ Srt S ∧ Holds w' [row 33 8 v N (S.flatMap RR.cells), shr (fun k => k < w.heap.size ∧ v.ownBlock ≠ some k) w])))
        1 ⟨h0, hh1, h2, h6, rfl, .inl ⟨rfl, by simpa using H⟩⟩
        ?_)
    rintro j f ds w2 ⟨h0, hh1, h2, h6, rfl, hor⟩
    refine W_seq ?_
    refine W_seq ?_
    refine W_region ?_
    refine OL_y (y_move h6) (by decide) ?_
    refine OL_y (y_move hh1) (by decide) ?_
    refine OL_y (y_lss rfl rfl) (by decide) ?_
    refine OL_nil ?_
    refine W_cond rfl (fun hc => ?_) (fun hc => ?_)
    · have hc1 := of_decide_eq_true hc
      obtain ⟨rfl, H2⟩ : j = 1 ∧ Holds w2 [row 33 8 v N ((X ++ Y).flatMap RR.cells), shr (fun k => k < w.heap.size ∧ v.ownBlock ≠ some k) w] := by
        rcases hor with h | ⟨hj, S, hp, hs, H3⟩
        · exact h
        · subst hj; exfalso; have h40 : f 6 = .int .i64 ((40 : Nat) : Int) := h6; omega
      obtain rfl : g = 0 := by omega
      have H := H2
      refine W_skip ?_
      refine W_block ?_
      refine W_seq ?_
      refine W_region ?_
      refine OL_y (y_move h6) (by decide) ?_
      refine OL_y (y_mul64' ((40 : Nat) : Int) rfl rfl (by decide) (by decide) (by decide)) (by decide) ?_
      refine OL_y (y_assign rfl) (by decide) ?_
      refine OL_y (y_assign rfl) (by decide) ?_
      refine OL_nil ?_
      refine W_seq ?_
      refine W_block (W_loopN (fun _ f ds w' => f 0 = v ∧ f 1 = .int .i64 (N : Nat) ∧ f 2 = .func (.func 30) #[] #[] ∧ f 6 = .int .i64 (20 : Nat) ∧ f 7 = .int .i64 (0 : Nat) ∧ f 8 = .int .i64 (40 : Nat) ∧ ds = [] ∧ Holds w' [row 33 8 v N ((X ++ Y).flatMap RR.cells), shr (fun k => k < w.heap.size ∧ v.ownBlock ≠ some k) w])
          0 ⟨h0, hh1, h2, h6, rfl, rfl, rfl, H⟩
          ?_)
      rintro _ f ds w3 ⟨h0, hh1, h2, h6, h7, h8, rfl, H⟩
      refine W_seq ?_
      refine W_seq ?_
      refine W_region ?_
      refine OL_y (y_move h8) (by decide) ?_
      refine OL_y (y_move hh1) (by decide) ?_
      refine OL_y (v := .bool false) (y_leqF (by omega) rfl rfl) (by decide) ?_
      refine OL_nil ?_
      refine W_condf rfl ?_
      refine W_exit ?_
      refine W_seq ?_
      refine W_seq ?_
      refine W_region ?_
      refine OL_y (y_move h7) (by decide) ?_
      refine OL_y (y_move h6) (by decide) ?_
      refine OL_y (y_add64' ((20 : Nat) : Int) rfl rfl (by decide) (by decide) (by decide)) (by decide) ?_
      refine OL_y (y_assign rfl) (by decide) ?_
      refine OL_nil ?_
      refine W_seq ?_
      refine W_region ?_
      refine OL_y (y_move rfl) (by decide) ?_
      refine OL_y (y_move hh1) (by decide) ?_
      refine OL_y (v := .bool true) (y_lssT (by omega) rfl rfl) (by decide) ?_
      refine OL_nil ?_
      refine W_condt rfl ?_
      obtain rfl : v = sl bb N c := hv (by omega)
      refine W_region ?_
      refine OL_y (y_move h0) (by decide) ?_
      refine OL_y (y_move h7) (by decide) ?_
      refine OL_y (y_move rfl) (by decide) ?_
      refine OL_y (y_move hh1) (by decide) ?_
      refine OL_y (y_move h2) (by decide) ?_
      refine OL_c (op_call 44 en44 rfl [sl bb N c, .int .i64 (0 : Nat), .int .i64 (20 : Nat), .int .i64 (N : Nat), .func (.func 30) #[] #[]] rfl (by decide) ((f44_calls N (A := []) (B := X) (C := Y) (D := []) (by simpa using H.getRow 0 rfl) (by simp; omega) (by omega) rfl (by simp; omega) (by simp; omega) (by omega) (by omega) hXs hYs (by simpa using h1.perm hXY) (by omega)).mono ?_))
      rintro e w15_5 ⟨⟨y, rfl⟩, hE, S, hp, hs, hr⟩
      refine ⟨_, rfl, ?_⟩
      have H := H.step 0 rfl rfl hE (fun _ _ h => h) (row_ok hr) fun _ h => .inl h
      refine OL_nil ?_
      refine W_region ?_
      refine OL_y (y_move h6) (by decide) ?_
      refine OL_y (y_mul64' ((40 : Nat) : Int) rfl rfl (by decide) (by decide) (by decide)) (by decide) ?_
      refine OL_y (y_assign rfl) (by decide) ?_
      refine OL_nil ?_
      exact ⟨0, by omega, h0, hh1, h2, rfl, rfl, .inr ⟨rfl, S, hp.trans hXY, hs, by simpa using H⟩⟩
    · have hc1 := of_decide_eq_false hc
      refine W_exit ?_
      show RetOK _ _ _ _ _ _
      rcases hor with ⟨rfl, H2⟩ | ⟨rfl, S, hp, hs, H2⟩
      · refine ret0 Try.results38 ⟨⟨_, rfl⟩, H2.ext_row 1 rfl, X ++ Y, hXY, ?_, H2.getRow 0 rfl⟩
        by_cases hX : X = []
        · subst hX; exact hYs
        · obtain rfl : Y = [] := List.eq_nil_of_length_eq_zero (by
            have := List.length_pos_iff.2 hX
            omega)
          rw [List.append_nil]; exact hXs
      · exact ret0 Try.results38 ⟨⟨_, rfl⟩, H2.ext_row 1 rfl, S, hp, hs, H2.getRow 0 rfl⟩
theorem f29_calls {w : World} {v : Value} {N bb c : Nat} {l : List RR} (hrow : w.ownsRow 0 33 8 v N (l.flatMap RR.cells)) (hN : l.length = N) (hv : 0 < N → v = .slice (some ⟨bb, 0, none⟩) N c) (hsl : ∃ a c, v = .slice a N c) (hmax : N ≤ 30) (h1 : One l) :
    Calls Try.prog 29 [v, .func (.func 30) #[] #[]].toArray w fun e w' => (∃ y, e = .returned y) ∧ Ext (fun k => v.ownBlock = some k) w w' ∧ ∃ S, S.Perm l ∧ Srt S ∧ w'.ownsRow 0 33 8 v N (S.flatMap RR.cells) := by
  have H := Holds.startRow hrow
  obtain ⟨a1, c1, rfl⟩ := hsl
  refine calls_of_W' Try.func29 rfl Try.ntmps29 rfl ?_
  refine W_region ?_
  refine OL_y (y_move rfl) (by decide) ?_
  refine OL_y (y_move rfl) (by decide) ?_
  refine OL_y (y_len rfl ti27 rfl) (by decide) ?_
  refine OL_y (y_move rfl) (by decide) ?_
  refine OL_c (op_call 38 en38 rfl [.slice a1 N c1, .int .i64 (N : Nat), .func (.func 30) #[] #[]] rfl (by decide) ((f38_calls (H.getRow 0 rfl) hN hv hmax h1).mono ?_))
  rintro e w0_4 ⟨⟨y, rfl⟩, hE, S, hp, hs, hr⟩
  refine ⟨_, rfl, ?_⟩
  have H := H.step 0 rfl rfl hE (fun _ _ h => h) (row_ok hr) fun _ h => .inl h
  refine OL_nil ?_
  show RetOK _ _ _ _ _ _
  exact ret0 Try.results29 ⟨⟨_, rfl⟩, H.ext_row 1 rfl, S, hp, hs, H.getRow 0 rfl⟩
end Go.Proofs.Ytelgegodeifbiaa
