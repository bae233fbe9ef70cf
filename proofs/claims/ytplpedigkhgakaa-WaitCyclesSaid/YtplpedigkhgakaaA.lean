import Derived.Test.YtplpedigkhgakaaWt
namespace Go.Proofs.Ytplpedigkhgakaa
open Go Go.Wk
set_option linter.unusedVariables false

/-- SameNumbers: whether two lists of numbers are one. -/
theorem f8_calls {Z : Nat → Prop} {w : World} {a b : Value} {xs ys : List Int} (hx : SlR (tInt .u64) 8 Z w a xs) (hy : SlR (tInt .u64) 8 Z w b ys) :
    Calls Try.prog 8 [a, b].toArray w fun e w' => e = .returned (.bool (decide (xs = ys))) ∧ Ext none' w w' := by
  obtain ⟨a0, c0, rfl, hl0, hm0⟩ := hx.len
  obtain ⟨a1, c1, rfl, hl1, hm1⟩ := hy.len
  have H := Holds.start w
  refine calls_of_W' Try.func8 rfl Try.ntmps8 rfl ?_
  refine W_seq ?_
  refine W_region ?_   -- region 0
  refine OL_y (y_assign rfl) (by decide) ?_   -- 0: t4 := assign c(bool(false))  <4>
  refine OL_nil ?_
  refine W_seq ?_
  refine W_seq ?_
  refine W_region ?_   -- region 1
  refine OL_y (y_move rfl) (by decide) ?_   -- 0: t6 := move t0  <26>
  refine OL_y (y_len rfl ti26 rfl) (by decide) ?_   -- 1: t7 := CALL len [t6] :[26]  <3>
  refine OL_y (y_move rfl) (by decide) ?_   -- 2: t8 := move t1  <26>
  refine OL_y (y_len rfl ti26 rfl) (by decide) ?_   -- 3: t9 := CALL len [t8] :[26]  <3>
  refine OL_y (y_neq rfl rfl) (by decide) ?_   -- 4: t10 := neq t7 t9 :3  <4>
  refine OL_nil ?_
  refine W_cond rfl (fun hc => ?_) (fun hc => ?_)   -- t10
  · have hne : xs ≠ ys := by rintro rfl; simp at hc
    refine W_seq ?_
    refine W_region ?_   -- region 2
    refine OL_y (y_assign rfl) (by decide) ?_   -- 0: t4 := assign c(bool(false))  <4>
    refine OL_nil ?_
    refine W_ret ?_
    show RetOK _ _ _ _ _ _
    refine ret1 (v := .bool false) Try.results8 rfl ?_
    exact ⟨by simp [hne], Ext.refl _ _⟩
  have hlen : xs.length = ys.length := by simp at hc; omega
  refine W_skip ?_
  refine W_seq ?_
  refine W_seq ?_
  refine W_region ?_   -- region 3
  refine OL_y (y_move rfl) (by decide) ?_   -- 0: t11 := move t0  <26>
  refine OL_y (y_len rfl ti26 rfl) (by decide) ?_   -- 1: t12 := CALL len [t11] :[26]  <3>
  refine OL_y (y_move rfl) (by decide) ?_   -- 2: t13 := move c(0:i64)  <3>
  refine OL_nil ?_
  refine W_range (N := xs.length) (by omega) (fun k f ds w' => f 0 = .slice a0 xs.length c0 ∧ f 1 = .slice a1 ys.length c1 ∧ ds = [] ∧ Holds w' [shr (fun k => k < w.heap.size) w] ∧ xs.take k = ys.take k)
    ⟨rfl, rfl, rfl, H, by simp⟩ rfl rfl (by decide) (by decide) (by decide) rfl rfl ?_ rfl rfl ?_
  · rintro k f ds w' hk ⟨h0, h1, rfl, H, hp⟩ hi hn
    have hxk := List.getElem?_eq_getElem hk
    have hyk := List.getElem?_eq_getElem (hlen ▸ hk)
    refine W_block ?_   -- block 1
    refine W_seq ?_
    refine W_region ?_   -- region 5
    refine OL_y (y_move hi) (by decide) ?_   -- 0: t15 := move t13  <3>
    refine OL_y (y_assign rfl) (by decide) ?_   -- 1: t5 := assign t15  <3>
    refine OL_nil ?_
    refine W_seq ?_
    refine W_drawQ H mixed (by kernel_rfl) (by kernel_rfl) fun w H => ?_   -- region 6
    obtain ⟨b0, o0, cs0, rfl, _, hc0, hr0⟩ := (hx.keeps (H.keepsAll 0 rfl _)).at hxk
    obtain ⟨rfl, _⟩ := hr0
    obtain ⟨b1, o1, cs1, rfl, _, hc1, hr1⟩ := (hy.keeps (H.keepsAll 0 rfl _)).at hyk
    obtain ⟨rfl, _⟩ := hr1
    refine QL_y (y_move h0) (by decide) ?_   -- 0: t16 := move t0  <26>
    refine QL_y (y_move rfl) (by decide) ?_   -- 1: t17 := move t5  <3>
    refine QL_y (y_indexAddr ti26 ti23 rfl rfl (by omega) (by omega)) (by decide) ?_   -- 2: t18 := indexAddr 26 t16 t17  <0>
    refine QL_y (y_loadS ti23 rfl rfl hc0) (by decide) ?_   -- 3: t19 := load 23 t18  <23>
    refine QL_y (y_move h1) (by decide) ?_   -- 4: t20 := move t1  <26>
    refine QL_y (y_move rfl) (by decide) ?_   -- 5: t21 := move t5  <3>
    refine QL_y (y_indexAddr ti26 ti23 rfl rfl (by omega) (by omega)) (by decide) ?_   -- 6: t22 := indexAddr 26 t20 t21  <0>
    refine QL_y (y_loadS ti23 rfl rfl hc1) (by decide) ?_   -- 7: t23 := load 23 t22  <23>
    refine QL_y (y_neq rfl rfl) (by decide) ?_   -- 8: t24 := neq t19 t23 :23  <4>
    refine QL_nil ?_
    refine W_cond rfl (fun hc => ?_) (fun hc => ?_)   -- t24
    · have hne : xs ≠ ys := by rintro rfl; simp at hc
      refine W_seq ?_
      refine W_region ?_   -- region 7
      refine OL_y (y_assign rfl) (by decide) ?_   -- 0: t4 := assign c(bool(false))  <4>
      refine OL_nil ?_
      refine W_ret ?_
      show RetOK _ _ _ _ _ _
      refine ret1 (v := .bool false) Try.results8 rfl ?_
      exact ⟨by simp [hne], H.ext_of 0 rfl⟩
    · refine W_skip ?_
      refine ⟨hi, hn, h0, h1, rfl, H, ?_⟩
      rw [List.take_add_one, List.take_add_one, hxk, hyk, hp]
      simp at hc
      simp [hc]
  · rintro f ds w' ⟨h0, h1, rfl, H, hp⟩ hi hn
    have he : xs = ys := by
      rw [List.take_length, hlen, List.take_length] at hp; exact hp
    refine W_seq ?_
    refine W_region ?_   -- region 9
    refine OL_y (y_assign rfl) (by decide) ?_   -- 0: t4 := assign c(bool(true))  <4>
    refine OL_nil ?_
    refine W_ret ?_
    show RetOK _ _ _ _ _ _
    refine ret1 (v := .bool true) Try.results8 rfl ?_
    exact ⟨by simp [he], H.ext_of 0 rfl⟩
end Go.Proofs.Ytplpedigkhgakaa
