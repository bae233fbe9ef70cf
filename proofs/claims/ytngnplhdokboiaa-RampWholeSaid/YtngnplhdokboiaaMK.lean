/- Rows of texts put in order: slices.Sort by its contract; slices.Collect, slices.Sorted of whatever iterator over texts. -/
import Derived.Test.YtngnplhdokboiaaWkm
import Derived.Test.YtngnplhdokboiaaWt
import Derived.Test.YtngnplhdokboiaaSrt
import Derived.Sort.OwnSorted
import Derived.Sort.KeysCollected
namespace Go.Proofs.Ytngnplhdokboiaa
open Go Go.Wk
set_option linter.unusedVariables false
set_option linter.unusedSimpArgs false

abbrev toL (b : ByteArray) : List UInt8 := b.data.toList
theorem str_toL (b : ByteArray) : Value.string b = encStr (toL b) := by
  unfold encStr toL; obtain ⟨a⟩ := b; rfl
abbrev ofL (l : List UInt8) : ByteArray := ⟨l.toArray⟩
theorem toL_ofL (l : List UInt8) : toL (ofL l) = l := by simp [toL]
theorem ofL_toL (b : ByteArray) : ofL (toL b) = b := by obtain ⟨a⟩ := b; simp [toL]
def bLe (a b : ByteArray) : Prop := toL a ≤ toL b

theorem f26_calls {w : World} {v : Value} {n : Nat} {xs : List ByteArray} (hrow : w.ownsRow 0 9 1 v n (xs.map Value.string)) (hM : xs.length ≤ 1000000) :
    Calls Try.prog 26 [v].toArray w fun e w' => (∃ y, e = .returned y) ∧ Ext (fun k => v.ownBlock = some k) w w' ∧ ∃ ys : List ByteArray, ys.Perm xs ∧ ys.Pairwise bLe ∧ w'.ownsRow 0 9 1 v n (ys.map Value.string) := by
  have hn : n = xs.length := by have := hrow.1; simpa using this.symm
  subst hn
  rcases hrow.2 with ⟨rfl, h0⟩ | ⟨g, cap, cur, rfl, hbase, hb, h1, h2, h3, h4⟩
  · obtain rfl : xs = [] := List.eq_nil_of_length_eq_zero h0
    have := Go.Proofs.AnyM.slices_Sort_string_none Go.Proofs.Try.sortS none 0 w
    refine Calls.mono this ?_
    rintro e w' ⟨rfl, rfl⟩
    exact ⟨⟨_, rfl⟩, Ext.refl _ _, [], List.Perm.refl _, List.Pairwise.nil, hrow⟩
  · have hmm : xs.map Value.string = (xs.map toL).map encStr := by rw [List.map_map]; exact List.map_congr_left fun x _ => str_toL x
    have h4' : cur.toList.take (xs.map toL).length = (xs.map toL).map encStr := by rw [List.length_map, ← hmm]; simpa using h4
    have := Go.Proofs.AnyM.slices_Sort_string Go.Proofs.Try.sortS g 0 cap (xs.map toL) w (holds_of_block hb h4') (own_lt hb) (by rw [List.length_map]; omega)
    rw [List.length_map] at this
    refine Calls.mono this ?_
    rintro e w' ⟨rfl, k, os, rfl⟩
    have tr : ∀ a b c : List UInt8, decide (a ≤ b) = true → decide (b ≤ c) = true → decide (a ≤ c) = true := fun a b c h1 h2 => by simp only [decide_eq_true_eq] at *; exact List.le_trans h1 h2
    have to : ∀ a b : List UInt8, (decide (a ≤ b) || decide (b ≤ a)) = true := fun a b => by simp only [Bool.or_eq_true, decide_eq_true_eq]; exact List.le_total a b
    have hp := List.mergeSort_perm (xs.map toL) (fun x y => decide (x ≤ y))
    have hs := List.pairwise_mergeSort tr to (xs.map toL)
    refine ⟨⟨_, rfl⟩, ?_, ((xs.map toL).mergeSort fun x y => decide (x ≤ y)).map ofL, ?_, ?_, ?_⟩
    · have hg := grownBy_sorted (w := w) (g := g) (n := k) (os := os) ((xs.map toL).mergeSort fun x y => decide (x ≤ y)).toArray
      exact ⟨hg.os, hg.tape, hg.output, hg.size, fun j hj hm => hg.block j hj fun e => hm (by rw [Value.ownBlock, ← e])⟩
    · have := hp.map ofL
      rw [List.map_map] at this
      have e : (ofL ∘ toL) = id := funext ofL_toL
      rwa [e, List.map_id] at this
    · rw [List.pairwise_map]
      refine hs.imp fun {a b} h => ?_
      unfold bLe; rw [toL_ofL, toL_ofL]; simpa using h
    · have := ownsRow_sorted (n := k) (os := os) (ss := xs.map toL) (ts := (xs.map toL).mergeSort fun x y => decide (x ≤ y)) (by rw [List.length_mergeSort]) hbase hb (by simpa using h1) h2 (by simpa using h3)
      rw [List.length_map] at this
      have e : (((xs.map toL).mergeSort fun x y => decide (x ≤ y)).map ofL).map Value.string = ((xs.map toL).mergeSort fun x y => decide (x ≤ y)).map encStr := by
        rw [List.map_map]; exact List.map_congr_left fun x _ => by show Value.string (ofL x) = _; rw [str_toL, toL_ofL]
      rw [e]; exact this

set_option maxHeartbeats 2000000 in
theorem f30_calls {w : World} {kf : Nat} {cap : List Value} {Qp Ee : List ByteArray → Prop} {Z : Nat → Prop} {M : Nat} (en : En Try.prog kf) (it : ∀ w', Ext none' w w' → IterQ Try.prog kf cap Value.string Qp Ee Z w') (hZ : ∀ k, Z k → k < w.heap.size)
    (hQ : ∀ pre, Qp pre → pre.length ≤ M) (hM : M ≤ 1000000) :
    Calls Try.prog 30 [.slice none 0 0, .func (.func kf) #[] cap.toArray].toArray w fun e w' => ∃ (v : Value) (xs : List ByteArray), e = .returned v ∧ Ee xs ∧ Ext none' w w' ∧ (∀ k, v.ownBlock = some k → w.heap.size ≤ k) ∧ xs.length ≤ M ∧ w'.ownsRow 0 9 1 v xs.length (xs.map Value.string) := by
  have H := Holds.start w
  refine calls_of_W' Try.func30 rfl Try.ntmps30 rfl ?_
  refine W_seq ?_
  refine W_region ?_
  refine OL_c (op_box (v := .slice none 0 0) H rfl (by decide) fun b2 w0_0 H => ?_)
  refine OL_y (y_assign rfl) (by decide) ?_
  refine OL_nil ?_
  refine W_seq ?_
  refine W_seq ?_
  refine W_region ?_
  refine OL_y (y_move rfl) (by decide) ?_
  refine OL_nil ?_
  have H := H.rowNil 9 1
  have H : Holds w0_0 [own b2 (.cells #[.slice none 0 0] 57), row 9 1 (.slice none 0 0) 0 [], shr (fun k => k < w.heap.size) w] := H.perm (List.Perm.swap _ _ _)
  have hE0 : Ext none' w w0_0 := H.ext_of 2 rfl
  refine W_block ?_
  refine W_rangeFuncQ Value.string Qp Ee Z (fun pre Ls => ∃ v : Value, pre.length ≤ M ∧ Ls = [own b2 (.cells #[v] 57), row 9 1 v pre.length (pre.map Value.string), shr (fun k => k < w.heap.size) w]) (fun _ _ _ => False) rfl en (by decide) H ⟨.slice none 0 0, by simp, rfl⟩ ?_ ?_ ?_ ?_ ?_ ?_ ?_
  · rintro pre Ls ⟨v, _, rfl⟩ at_ ha hx k hk
    simp only [List.mem_cons, List.not_mem_nil, or_false] at ha
    rcases ha with rfl | rfl | rfl
    · cases hx
    · cases hx
    · exact Nat.lt_of_lt_of_le hk hE0.size
  · rintro e pre Ls h; exact h.elim
  · intro k hk
    refine ⟨Nat.lt_of_lt_of_le (hZ k hk) hE0.size, fun a ha hx hF => ?_⟩
    have hk' := hZ k hk
    simp only [List.mem_cons, List.not_mem_nil, or_false] at ha
    rcases ha with rfl | rfl | rfl
    · have := H.fresh 0 2 rfl rfl rfl k hF; omega
    · have := H.fresh 1 2 rfl rfl rfl k hF; omega
    · cases hx
  · intro w' hE; exact it w' (hE0.trans hE)
  · rintro l' aL aL' aD aO pre x Ls Wd ⟨v, hpl, rfl⟩ hpre HH
    have hpM := hQ _ hpre
    rw [List.length_append] at hpM
    simp only [List.length_cons, List.length_nil] at hpM
    refine W_region ?_
    refine OL_y (y_assign rfl) (by decide) ?_
    refine OL_nil ?_
    refine ⟨_, HH, fun W2 HH => ?_⟩
    obtain ⟨ax, cx, rfl, hcx, hmx⟩ := HH.rowLen 4 rfl
    have H := HH
    refine W_block ?_
    have H := HH
    refine W_region ?_
    refine OL_y (y_loadS (v := .slice ax pre.length cx) ti57 rfl rfl (Cells.unit (H.getOwn 3 rfl) rfl)) (by decide) ?_
    refine OL_y (y_move rfl) (by decide) ?_
    refine OL_c (op_buildSlice H [.string x] ti57 ti9 rfl rfl rfl (by simp [Value.cells]) rfl rfl (by decide) fun b10 w3_2 H => ?_)
    refine OL_c (op_append H 5 rfl rfl ti57 ti9 rfl rfl rfl rfl (Src.row (H.getRow 0 rfl)) rfl (by simp [Value.cells, Value.oneCell']) (by omega) (by simp [maxLen]; omega) (by decide) fun v11 w3_3 H => ?_)
    obtain ⟨a11, c11, hv11, _, _⟩ := H.rowLen 5 rfl
    refine OL_c (op_store (v := v11) H 4 rfl ti57 rfl rfl (by rw [hv11]; rfl) (by simp) (by rw [hv11]; simp [Value.cells, Value.oneCell']) fun w3_4 H => ?_)
    refine OL_nil ?_
    have hc11 : v11.cells = #[v11] := by rw [hv11]; rfl
    rw [hc11] at H
    refine ⟨_, ⟨v11, by rw [List.length_append]; simp; omega, rfl⟩, ?_⟩
    have H := H.tail
    have e : (pre ++ [x]).map Value.string = pre.map Value.string ++ [Value.string x].flatMap (fun v => v.cells.toList) := by simp [Value.cells]
    rw [e, List.length_append]
    exact H
  · rintro D xs Ls W hE ⟨v, hl, rfl⟩ HH
    refine W_seq ?_
    have H := HH
    obtain ⟨ax, cx, rfl, hcx, hmx⟩ := HH.rowLen 2 rfl
    refine W_region ?_
    refine OL_y (y_loadS (v := .slice ax xs.length cx) ti57 rfl rfl (Cells.unit (H.getOwn 1 rfl) rfl)) (by decide) ?_
    refine OL_y (y_assign rfl) (by decide) ?_
    refine OL_nil ?_
    refine W_ret ?_
    show RetOK _ _ _ _ _ _
    refine RetOK.mark (H.getOwn 0 rfl) ?_
    have H := H.put 0 rfl (.deferred none)
    refine ret1 (v := .slice ax xs.length cx) Try.results30 rfl ⟨_, xs, rfl, hE, H.ext_of 3 rfl, fun k hk => H.fresh 2 3 rfl rfl rfl k hk, hl, H.getRow 2 rfl⟩
  · rintro D pre Ls W e hp h; exact h.elim
theorem f25_calls {w : World} {kf : Nat} {cap : List Value} {Qp Ee : List ByteArray → Prop} {Z : Nat → Prop} {M : Nat} (en : En Try.prog kf) (it : ∀ w', Ext none' w w' → IterQ Try.prog kf cap Value.string Qp Ee Z w') (hZ : ∀ k, Z k → k < w.heap.size)
    (hQ : ∀ pre, Qp pre → pre.length ≤ M) (hM : M ≤ 1000000) :
    Calls Try.prog 25 [.func (.func kf) #[] cap.toArray].toArray w fun e w' => ∃ (v : Value) (xs : List ByteArray), e = .returned v ∧ Ee xs ∧ Ext none' w w' ∧ (∀ k, v.ownBlock = some k → w.heap.size ≤ k) ∧ xs.length ≤ M ∧ w'.ownsRow 0 9 1 v xs.length (xs.map Value.string) := by
  have H := Holds.start w
  refine calls_of_W' Try.func25 rfl Try.ntmps25 rfl ?_
  refine W_seq ?_
  refine W_region ?_
  refine OL_y (y_assign rfl) (by decide) ?_
  refine OL_nil ?_
  refine W_seq ?_
  refine W_region ?_
  refine OL_y (y_move rfl) (by decide) ?_
  refine OL_c (op_call 30 en30 rfl [.slice none 0 0, .func (.func kf) #[] cap.toArray] rfl (by decide) ((f30_calls en it hZ hQ hM).mono ?_))
  rintro e w1_1 ⟨v, xs, rfl, hx, hE, hf, hxM, hr⟩
  refine ⟨_, rfl, ?_⟩
  have H := H.ext0 hE
  refine OL_y (y_assign rfl) (by decide) ?_
  refine OL_nil ?_
  refine W_ret ?_
  show RetOK _ _ _ _ _ _
  exact ret1 (v := v) Try.results25 rfl ⟨v, xs, rfl, hx, hE, hf, hxM, hr⟩
theorem f18_calls {w : World} {kf : Nat} {cap : List Value} {Qp Ee : List ByteArray → Prop} {Z : Nat → Prop} {M : Nat} (en : En Try.prog kf) (it : ∀ w', Ext none' w w' → IterQ Try.prog kf cap Value.string Qp Ee Z w') (hZ : ∀ k, Z k → k < w.heap.size)
    (hQ : ∀ pre, Qp pre → pre.length ≤ M) (hM : M ≤ 1000000) :
    Calls Try.prog 18 [.func (.func kf) #[] cap.toArray].toArray w fun e w' => ∃ (v : Value) (xs ys : List ByteArray), e = .returned v ∧ Ee xs ∧ ys.Perm xs ∧ ys.Pairwise bLe ∧ Ext none' w w' ∧ (∀ k, v.ownBlock = some k → w.heap.size ≤ k) ∧ w'.ownsRow 0 9 1 v ys.length (ys.map Value.string) := by
  refine calls_of_W' Try.func18 rfl Try.ntmps18 rfl ?_
  refine W_seq ?_
  refine W_region ?_
  refine OL_y (y_assign rfl) (by decide) ?_
  refine OL_nil ?_
  refine W_seq ?_
  refine W_region ?_
  refine OL_y (y_move rfl) (by decide) ?_
  refine OL_c (op_call 25 en25 rfl [.func (.func kf) #[] cap.toArray] rfl (by decide) ((f25_calls en it hZ hQ hM).mono ?_))
  rintro e w1_1 ⟨v, xs, rfl, hx, hE, hf, hxM, hr⟩
  refine ⟨_, rfl, ?_⟩
  have H := Holds.startRow hr
  refine OL_y (y_assign rfl) (by decide) ?_
  refine OL_nil ?_
  refine W_seq ?_
  refine W_region ?_
  refine OL_y (y_move rfl) (by decide) ?_
  refine OL_c (op_call 26 en26 rfl [v] rfl (by decide) ((f26_calls (H.getRow 0 rfl) (by omega)).mono ?_))
  rintro e w2_1 ⟨⟨y, rfl⟩, hE2, ys, hp, hs, hr2⟩
  refine ⟨_, rfl, ?_⟩
  refine OL_nil ?_
  refine W_seq ?_
  refine W_region ?_
  refine OL_y (y_move rfl) (by decide) ?_
  refine OL_y (y_assign rfl) (by decide) ?_
  refine OL_nil ?_
  refine W_ret ?_
  show RetOK _ _ _ _ _ _
  refine ret1 (v := v) Try.results18 rfl ⟨v, xs, ys, rfl, hx, hp, hs, ?_, hf, by rw [hp.length_eq]; exact hr2⟩
  exact hE.trans' hE2 fun i hi hM => by have := hf i hM; omega
end Go.Proofs.Ytngnplhdokboiaa
