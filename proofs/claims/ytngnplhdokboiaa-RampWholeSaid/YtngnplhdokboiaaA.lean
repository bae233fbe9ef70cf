/- Keys held against each other; within bounds; what is barred. -/
import Derived.Test.YtngnplhdokboiaaX
namespace Go.Proofs.Ytngnplhdokboiaa
open Go Go.Wk
set_option linter.unusedVariables false
set_option linter.unusedSimpArgs false

theorem f21_calls {Z : Nat → Prop} {w : World} {a vb : Value} {xs : List Key} {key : Key} (hx : SlR tKey 24 Z w a xs) (hk : SlR (tInt .u8) 1 Z w vb key) :
    Calls Try.prog 21 [a, vb].toArray w fun e w' => e = .returned (.bool (decide (key ∈ xs))) ∧ Ext none' w w' := by
  have H := Holds.start w
  have hN := hx.len1 (by decide)
  obtain ⟨a0, c0, rfl, hl0, hm0⟩ := hx.len
  refine calls_of_W' Try.func21 rfl Try.ntmps21 rfl ?_
  refine W_seq ?_
  refine W_region ?_
  refine OL_y (v := .bool false) (y_assign rfl) (by decide) ?_
  refine OL_nil ?_
  refine W_seq ?_
  refine W_seq ?_
  refine W_region ?_
  refine OL_y (y_move rfl) (by decide) ?_
  refine OL_y (y_len rfl ti30 rfl) (by decide) ?_
  refine OL_y (y_move rfl) (by decide) ?_
  refine OL_nil ?_
  refine W_range (N := xs.length) (by omega) (fun k f ds w' => f 7 = .slice a0 xs.length c0 ∧ f 1 = vb ∧ ds = [] ∧ Holds w' [shr (fun k => k < w.heap.size) w] ∧ key ∉ xs.take k)
      ⟨rfl, rfl, rfl, H, by simp⟩
      rfl rfl (by decide) (by decide) (by decide) rfl rfl ?_ rfl rfl ?_
  · rintro k f ds w1 hk' ⟨h7, hh1, rfl, H, hp⟩ hti htn
    have hxk := List.getElem?_eq_getElem hk'
    obtain ⟨b1, o1, cs1, e1, hz1, hc1, hr1⟩ := (hx.keeps (H.keepsAll 0 rfl _)).at hxk
    obtain ⟨vy, rfl, hvy⟩ := hr1
    have htk : xs.take (k + 1) = xs.take k ++ [xs[k]] := by rw [List.take_add_one, hxk]; rfl
    generalize xs[k] = y at *
    have h7' := h7.trans (congrArg (Value.slice · _ _) e1)
    refine W_block ?_
    refine W_seq ?_
    refine W_region ?_
    refine OL_y (y_indexAddr ti30 ti22 h7' hti (by omega) (by omega)) (by decide) ?_
    refine OL_y (y_loadS (v := vy) ti22 rfl rfl hc1) (by decide) ?_
    refine OL_y (y_assign rfl) (by decide) ?_
    refine OL_nil ?_
    refine W_seq ?_
    refine W_region ?_
    refine OL_y (y_move rfl) (by decide) ?_
    refine OL_y (y_toStr Try.underlying22 Try.underlying5 Try.underlying9 rfl hvy) (by decide) ?_
    refine OL_y (y_move hh1) (by decide) ?_
    refine OL_y (y_toStr Try.underlying22 Try.underlying5 Try.underlying9 rfl (hk.keeps (H.keepsAll 0 rfl _))) (by decide) ?_
    refine OL_y (y_eqlS rfl rfl) (by decide) ?_
    refine OL_nil ?_
    refine W_cond rfl (fun hc => ?_) (fun hc => ?_)
    · have hc := kb_inj hvy.allIn hk.allIn (of_decide_eq_true hc)
      refine W_seq ?_
      refine W_region ?_
      refine OL_y (v := .bool true) (y_assign rfl) (by decide) ?_
      refine OL_nil ?_
      refine W_ret ?_
      show RetOK _ _ _ _ _ _
      refine ret1 (v := .bool true) Try.results21 rfl ⟨?_, H.ext_of 0 rfl⟩
      rw [decide_eq_true (show key ∈ xs from hc ▸ List.mem_of_getElem? hxk)]
    · have hc := of_decide_eq_false hc
      refine W_skip ?_
      exact ⟨hti, htn, h7, hh1, rfl, H, by rw [htk, List.mem_append]; exact fun h => h.elim hp (fun h => hc (by rw [List.mem_singleton.1 h]))⟩
  · rintro f ds w1 ⟨h7, hh1, rfl, H, hp⟩ hti htn
    rw [List.take_length] at hp
    refine W_seq ?_
    refine W_region ?_
    refine OL_y (v := .bool false) (y_assign rfl) (by decide) ?_
    refine OL_nil ?_
    refine W_ret ?_
    show RetOK _ _ _ _ _ _
    refine ret1 (v := .bool false) Try.results21 rfl ⟨?_, H.ext_of 0 rfl⟩
    rw [decide_eq_false hp]

theorem f22_calls {Z : Nat → Prop} {w : World} {a vb : Value} {xs : List Key} {key : Key} (hx : SlR tKey 24 Z w a xs) (hk : SlR (tInt .u8) 1 Z w vb key) :
    Calls Try.prog 22 [a, vb].toArray w fun e w' => e = .returned (.bool (decide (key ∈ xs))) ∧ Ext none' w w' := by
  have H := Holds.start w
  have hN := hx.len1 (by decide)
  obtain ⟨a0, c0, rfl, hl0, hm0⟩ := hx.len
  refine calls_of_W' Try.func22 rfl Try.ntmps22 rfl ?_
  refine W_seq ?_
  refine W_region ?_
  refine OL_y (v := .bool false) (y_assign rfl) (by decide) ?_
  refine OL_nil ?_
  refine W_seq ?_
  refine W_seq ?_
  refine W_region ?_
  refine OL_y (y_move rfl) (by decide) ?_
  refine OL_y (y_len rfl ti30 rfl) (by decide) ?_
  refine OL_y (y_move rfl) (by decide) ?_
  refine OL_nil ?_
  refine W_range (N := xs.length) (by omega) (fun k f ds w' => f 7 = .slice a0 xs.length c0 ∧ f 1 = vb ∧ ds = [] ∧ Holds w' [shr (fun k => k < w.heap.size) w] ∧ key ∉ xs.take k)
      ⟨rfl, rfl, rfl, H, by simp⟩
      rfl rfl (by decide) (by decide) (by decide) rfl rfl ?_ rfl rfl ?_
  · rintro k f ds w1 hk' ⟨h7, hh1, rfl, H, hp⟩ hti htn
    have hxk := List.getElem?_eq_getElem hk'
    obtain ⟨b1, o1, cs1, e1, hz1, hc1, hr1⟩ := (hx.keeps (H.keepsAll 0 rfl _)).at hxk
    obtain ⟨vy, rfl, hvy⟩ := hr1
    have htk : xs.take (k + 1) = xs.take k ++ [xs[k]] := by rw [List.take_add_one, hxk]; rfl
    generalize xs[k] = y at *
    have h7' := h7.trans (congrArg (Value.slice · _ _) e1)
    refine W_block ?_
    refine W_seq ?_
    refine W_region ?_
    refine OL_y (y_indexAddr ti30 ti22 h7' hti (by omega) (by omega)) (by decide) ?_
    refine OL_y (y_loadS (v := vy) ti22 rfl rfl hc1) (by decide) ?_
    refine OL_y (y_assign rfl) (by decide) ?_
    refine OL_nil ?_
    refine W_seq ?_
    refine W_region ?_
    refine OL_y (y_move rfl) (by decide) ?_
    refine OL_y (y_toStr Try.underlying22 Try.underlying5 Try.underlying9 rfl hvy) (by decide) ?_
    refine OL_y (y_move hh1) (by decide) ?_
    refine OL_y (y_toStr Try.underlying22 Try.underlying5 Try.underlying9 rfl (hk.keeps (H.keepsAll 0 rfl _))) (by decide) ?_
    refine OL_y (y_eqlS rfl rfl) (by decide) ?_
    refine OL_nil ?_
    refine W_cond rfl (fun hc => ?_) (fun hc => ?_)
    · have hc := kb_inj hvy.allIn hk.allIn (of_decide_eq_true hc)
      refine W_seq ?_
      refine W_region ?_
      refine OL_y (v := .bool true) (y_assign rfl) (by decide) ?_
      refine OL_nil ?_
      refine W_ret ?_
      show RetOK _ _ _ _ _ _
      refine ret1 (v := .bool true) Try.results22 rfl ⟨?_, H.ext_of 0 rfl⟩
      rw [decide_eq_true (show key ∈ xs from hc ▸ List.mem_of_getElem? hxk)]
    · have hc := of_decide_eq_false hc
      refine W_skip ?_
      exact ⟨hti, htn, h7, hh1, rfl, H, by rw [htk, List.mem_append]; exact fun h => h.elim hp (fun h => hc (by rw [List.mem_singleton.1 h]))⟩
  · rintro f ds w1 ⟨h7, hh1, rfl, H, hp⟩ hti htn
    rw [List.take_length] at hp
    refine W_seq ?_
    refine W_region ?_
    refine OL_y (v := .bool false) (y_assign rfl) (by decide) ?_
    refine OL_nil ?_
    refine W_ret ?_
    show RetOK _ _ _ _ _ _
    refine ret1 (v := .bool false) Try.results22 rfl ⟨?_, H.ext_of 0 rfl⟩
    rw [decide_eq_false hp]

theorem f20_calls {Z Z' : Nat → Prop} {w : World} {va vb : Value} {k1 k2 : Key} (h1 : SlR (tInt .u8) 1 Z w va k1) (h2 : SlR (tInt .u8) 1 Z' w vb k2) :
    Calls Try.prog 20 [va, vb].toArray w fun e w' => e = .returned (.bool (decide (k1 = k2))) ∧ Ext none' w w' := by
  have H := Holds.start w
  refine calls_of_W' Try.func20 rfl Try.ntmps20 rfl ?_
  refine W_seq ?_
  refine W_region ?_
  refine OL_y (v := .bool false) (y_assign rfl) (by decide) ?_
  refine OL_nil ?_
  refine W_seq ?_
  refine W_region ?_
  refine OL_y (y_move rfl) (by decide) ?_
  refine OL_y (y_toStr Try.underlying22 Try.underlying5 Try.underlying9 rfl h1) (by decide) ?_
  refine OL_y (y_move rfl) (by decide) ?_
  refine OL_y (y_toStr Try.underlying22 Try.underlying5 Try.underlying9 rfl h2) (by decide) ?_
  refine OL_y (y_eqlS rfl rfl) (by decide) ?_
  refine OL_y (y_assign rfl) (by decide) ?_
  refine OL_nil ?_
  refine W_ret ?_
  show RetOK _ _ _ _ _ _
  refine ret1 (v := .bool (decide (k1 = k2))) Try.results20 ?_ ⟨rfl, H.ext_of 0 rfl⟩
  show Value.bool (decide (kb k1 = kb k2)) = _
  congr 1
  rw [decide_eq_decide]
  exact ⟨kb_inj h1.allIn h2.allIn, fun h => by rw [h]⟩
theorem f29_calls {Z Z' : Nat → Prop} {w : World} {va vb : Value} {k1 k2 : Key} (h1 : SlR (tInt .u8) 1 Z w va k1) (h2 : SlR (tInt .u8) 1 Z' w vb k2) :
    Calls Try.prog 29 [va, vb].toArray w fun e w' => e = .returned (.int .i64 (cmpK k1 k2)) ∧ Ext none' w w' := by
  have H := Holds.start w
  refine calls_of_W' Try.func29 rfl Try.ntmps29 rfl ?_
  refine W_seq ?_
  refine W_region ?_
  refine OL_y (y_assign rfl) (by decide) ?_
  refine OL_nil ?_
  refine W_seq ?_
  refine W_region ?_
  refine OL_y (y_move rfl) (by decide) ?_
  refine OL_y (y_move rfl) (by decide) ?_
  refine OL_c (op_compare 33 Try.func33 (by kernel_rfl) (by kernel_rfl) (by kernel_rfl) (by kernel_rfl) rfl rfl h1 h2 (by decide) ?_)
  refine OL_y (y_assign rfl) (by decide) ?_
  refine OL_nil ?_
  refine W_ret ?_
  show RetOK _ _ _ _ _ _
  exact ret1 (v := .int .i64 (cmpK k1 k2)) Try.results29 rfl ⟨rfl, H.ext_of 0 rfl⟩
def withinB (k lo hi : Key) : Bool := decide (¬ bLt (kb k) (kb lo)) && (decide (hi = []) || decide (bLt (kb k) (kb hi)))
theorem f24_calls {Z Z' : Nat → Prop} {w : World} {va vb vc : Value} {k lo hi : Key} (h1 : SlR (tInt .u8) 1 Z w va k) (h2 : SlR (tInt .u8) 1 Z' w vb lo) (h3 : SlR (tInt .u8) 1 Z' w vc hi) :
    Calls Try.prog 24 [va, vb, vc].toArray w fun e w' => e = .returned (.bool (withinB k lo hi)) ∧ Ext none' w w' := by
  have H := Holds.start w
  obtain ⟨ac, cc, rfl, _⟩ := h3.len
  refine calls_of_W' Try.func24 rfl Try.ntmps24 rfl ?_
  refine W_seq ?_
  refine W_region ?_
  refine OL_y (v := .bool false) (y_assign rfl) (by decide) ?_
  refine OL_nil ?_
  refine W_seq ?_
  by_cases hlo : 0 ≤ cmpK k lo
  · by_cases hhi : hi = []
    · have hg : decide (0 ≤ cmpK k lo) = decide (¬ bLt (kb k) (kb lo)) := by rw [decide_eq_decide]; exact cmpK_ge
      refine W_region ?_
      refine OL_y (y_move rfl) (by decide) ?_
      refine OL_y (y_move rfl) (by decide) ?_
      refine OL_c (op_call 29 en29 rfl [va, vb] rfl (by decide) ((f29_calls h1 h2).mono ?_))
      rintro e w1_2 ⟨rfl, hE⟩
      refine ⟨_, rfl, ?_⟩
      have H := H.ext0 hE
      refine OL_y (v := .bool true) (y_geqT hlo rfl rfl) (by decide) ?_
      refine OL_y (v := .bool true) (y_move rfl) (by decide) ?_
      refine OL_yg rfl (by decide) rfl (y_move rfl) (by decide) ?_
      refine OL_yg rfl (by decide) rfl (y_len rfl ti22 rfl) (by decide) ?_
      refine OL_yg (v := .bool true) rfl (by decide) rfl (y_eqlT (by rw [hhi]; rfl) rfl rfl) (by decide) ?_
      refine OL_yg (v := .bool true) rfl (by decide) rfl (y_move rfl) (by decide) ?_
      refine OL_s rfl (by decide) rfl rfl (by simp) ?_
      refine OL_s rfl (by decide) rfl rfl (by simp) ?_
      refine OL_s rfl (by decide) rfl rfl (by simp) ?_
      refine OL_s rfl (by decide) rfl rfl (by simp) ?_
      refine OL_yg rfl (by decide) rfl (y_pick (b := true) (v := .bool true) rfl rfl) (by decide) ?_
      refine OL_y (y_pick (b := true) (v := .bool true) rfl rfl) (by decide) ?_
      refine OL_y (v := .bool true) (y_assign rfl) (by decide) ?_
      refine OL_nil ?_
      refine W_ret ?_
      show RetOK _ _ _ _ _ _
      refine ret1 (v := .bool true) Try.results24 rfl ⟨?_, H.ext_of 0 rfl⟩
      unfold withinB; rw [← hg, decide_eq_true hlo, decide_eq_true hhi]; rfl
    · have hg : decide (0 ≤ cmpK k lo) = decide (¬ bLt (kb k) (kb lo)) := by rw [decide_eq_decide]; exact cmpK_ge
      refine W_region ?_
      refine OL_y (y_move rfl) (by decide) ?_
      refine OL_y (y_move rfl) (by decide) ?_
      refine OL_c (op_call 29 en29 rfl [va, vb] rfl (by decide) ((f29_calls h1 h2).mono ?_))
      rintro e w1_2 ⟨rfl, hE⟩
      refine ⟨_, rfl, ?_⟩
      have H := H.ext0 hE
      refine OL_y (v := .bool true) (y_geqT hlo rfl rfl) (by decide) ?_
      refine OL_y (v := .bool true) (y_move rfl) (by decide) ?_
      refine OL_yg rfl (by decide) rfl (y_move rfl) (by decide) ?_
      refine OL_yg rfl (by decide) rfl (y_len rfl ti22 rfl) (by decide) ?_
      refine OL_yg (v := .bool false) rfl (by decide) rfl (y_eqlF (by have := List.length_pos_iff.2 hhi; omega) rfl rfl) (by decide) ?_
      refine OL_yg (v := .bool false) rfl (by decide) rfl (y_move rfl) (by decide) ?_
      refine OL_yg rfl (by decide) rfl (y_move rfl) (by decide) ?_
      refine OL_yg rfl (by decide) rfl (y_move rfl) (by decide) ?_
      refine OL_g rfl (by decide) rfl (op_call 29 en29 rfl [va, .slice ac hi.length cc] rfl (by decide) ((f29_calls (h1.keeps (H.keepsAll 0 rfl _)) (h3.keeps (H.keepsAll 0 rfl _))).mono ?_))
      rintro e w1_11 ⟨rfl, hE2⟩
      refine ⟨_, rfl, ?_⟩
      have H := H.ext0 hE2
      refine OL_yg rfl (by decide) rfl (y_lss rfl rfl) (by decide) ?_
      refine OL_yg rfl (by decide) rfl (y_pick (b := false) rfl rfl) (by decide) ?_
      refine OL_y (y_pick (b := true) rfl rfl) (by decide) ?_
      refine OL_y (y_assign rfl) (by decide) ?_
      refine OL_nil ?_
      refine W_ret ?_
      show RetOK _ _ _ _ _ _
      refine ret1 (v := .bool (decide (cmpK k hi < 0))) Try.results24 rfl ⟨?_, H.ext_of 0 rfl⟩
      have hd : decide (cmpK k hi < 0) = decide (bLt (kb k) (kb hi)) := by rw [decide_eq_decide]; exact cmpK_lt
      unfold withinB; rw [← hg, decide_eq_true hlo, decide_eq_false hhi, hd]; rfl
  · have hg : decide (0 ≤ cmpK k lo) = decide (¬ bLt (kb k) (kb lo)) := by rw [decide_eq_decide]; exact cmpK_ge
    refine W_region ?_
    refine OL_y (y_move rfl) (by decide) ?_
    refine OL_y (y_move rfl) (by decide) ?_
    refine OL_c (op_call 29 en29 rfl [va, vb] rfl (by decide) ((f29_calls h1 h2).mono ?_))
    rintro e w1_2 ⟨rfl, hE⟩
    refine ⟨_, rfl, ?_⟩
    have H := H.ext0 hE
    refine OL_y (v := .bool false) (y_geqF hlo rfl rfl) (by decide) ?_
    refine OL_y (v := .bool false) (y_move rfl) (by decide) ?_
    refine OL_s rfl (by decide) rfl rfl (by simp) ?_
    refine OL_s rfl (by decide) rfl rfl (by simp) ?_
    refine OL_s rfl (by decide) rfl rfl (by simp) ?_
    refine OL_s rfl (by decide) rfl rfl (by simp) ?_
    refine OL_u rfl (by decide) rfl (by simp) ?_
    refine OL_u rfl (by decide) rfl (by simp) ?_
    refine OL_u rfl (by decide) rfl (by simp) ?_
    refine OL_u rfl (by decide) rfl (by simp) ?_
    refine OL_s rfl (by decide) rfl rfl (by simp) ?_
    refine OL_y (y_pick (b := false) (v := .bool false) rfl rfl) (by decide) ?_
    refine OL_y (v := .bool false) (y_assign rfl) (by decide) ?_
    refine OL_nil ?_
    refine W_ret ?_
    show RetOK _ _ _ _ _ _
    refine ret1 (v := .bool false) Try.results24 rfl ⟨?_, H.ext_of 0 rfl⟩
    unfold withinB; rw [← hg, decide_eq_false hlo]; rfl
theorem f15_calls {Z Z' : Nat → Prop} {w : World} {va vb vc : Value} {k lo hi : Key} (h1 : SlR (tInt .u8) 1 Z w va k) (h2 : SlR (tInt .u8) 1 Z' w vb lo) (h3 : SlR (tInt .u8) 1 Z' w vc hi) :
    Calls Try.prog 15 [va, vb, vc].toArray w fun e w' => e = .returned (.bool (withinB k lo hi)) ∧ Ext none' w w' := by
  have H := Holds.start w
  obtain ⟨ac, cc, rfl, _⟩ := h3.len
  refine calls_of_W' Try.func15 rfl Try.ntmps15 rfl ?_
  refine W_seq ?_
  refine W_region ?_
  refine OL_y (v := .bool false) (y_assign rfl) (by decide) ?_
  refine OL_nil ?_
  refine W_seq ?_
  by_cases hlo : ¬ bLt (kb k) (kb lo)
  · by_cases hhi : hi = []
    · refine W_region ?_
      refine OL_y (y_move rfl) (by decide) ?_
      refine OL_y (y_toStr Try.underlying22 Try.underlying5 Try.underlying9 rfl h1) (by decide) ?_
      refine OL_y (y_move rfl) (by decide) ?_
      refine OL_y (y_toStr Try.underlying22 Try.underlying5 Try.underlying9 rfl h2) (by decide) ?_
      refine OL_y (v := .bool true) (y_geqST hlo rfl rfl) (by decide) ?_
      refine OL_y (v := .bool true) (y_move rfl) (by decide) ?_
      refine OL_yg rfl (by decide) rfl (y_move rfl) (by decide) ?_
      refine OL_yg rfl (by decide) rfl (y_len rfl ti22 rfl) (by decide) ?_
      refine OL_yg (v := .bool true) rfl (by decide) rfl (y_eqlT (by rw [hhi]; rfl) rfl rfl) (by decide) ?_
      refine OL_yg (v := .bool true) rfl (by decide) rfl (y_move rfl) (by decide) ?_
      refine OL_s rfl (by decide) rfl rfl (by simp) ?_
      refine OL_s rfl (by decide) rfl rfl (by simp) ?_
      refine OL_s rfl (by decide) rfl rfl (by simp) ?_
      refine OL_s rfl (by decide) rfl rfl (by simp) ?_
      refine OL_s rfl (by decide) rfl rfl (by simp) ?_
      refine OL_yg rfl (by decide) rfl (y_pick (b := true) (v := .bool true) rfl rfl) (by decide) ?_
      refine OL_y (y_pick (b := true) (v := .bool true) rfl rfl) (by decide) ?_
      refine OL_y (v := .bool true) (y_assign rfl) (by decide) ?_
      refine OL_nil ?_
      refine W_ret ?_
      show RetOK _ _ _ _ _ _
      refine ret1 (v := .bool true) Try.results15 rfl ⟨?_, H.ext_of 0 rfl⟩
      unfold withinB; rw [decide_eq_true hlo, decide_eq_true hhi]; rfl
    · refine W_region ?_
      refine OL_y (y_move rfl) (by decide) ?_
      refine OL_y (y_toStr Try.underlying22 Try.underlying5 Try.underlying9 rfl h1) (by decide) ?_
      refine OL_y (y_move rfl) (by decide) ?_
      refine OL_y (y_toStr Try.underlying22 Try.underlying5 Try.underlying9 rfl h2) (by decide) ?_
      refine OL_y (v := .bool true) (y_geqST hlo rfl rfl) (by decide) ?_
      refine OL_y (v := .bool true) (y_move rfl) (by decide) ?_
      refine OL_yg rfl (by decide) rfl (y_move rfl) (by decide) ?_
      refine OL_yg rfl (by decide) rfl (y_len rfl ti22 rfl) (by decide) ?_
      refine OL_yg (v := .bool false) rfl (by decide) rfl (y_eqlF (by have := List.length_pos_iff.2 hhi; omega) rfl rfl) (by decide) ?_
      refine OL_yg (v := .bool false) rfl (by decide) rfl (y_move rfl) (by decide) ?_
      refine OL_yg rfl (by decide) rfl (y_move rfl) (by decide) ?_
      refine OL_yg rfl (by decide) rfl (y_toStr Try.underlying22 Try.underlying5 Try.underlying9 rfl h1) (by decide) ?_
      refine OL_yg rfl (by decide) rfl (y_move rfl) (by decide) ?_
      refine OL_yg rfl (by decide) rfl (y_toStr Try.underlying22 Try.underlying5 Try.underlying9 rfl h3) (by decide) ?_
      refine OL_yg rfl (by decide) rfl (y_lssS rfl rfl) (by decide) ?_
      refine OL_yg rfl (by decide) rfl (y_pick (b := false) rfl rfl) (by decide) ?_
      refine OL_y (y_pick (b := true) rfl rfl) (by decide) ?_
      refine OL_y (y_assign rfl) (by decide) ?_
      refine OL_nil ?_
      refine W_ret ?_
      show RetOK _ _ _ _ _ _
      refine ret1 (v := .bool (decide (bLt (kb k) (kb hi)))) Try.results15 rfl ⟨?_, H.ext_of 0 rfl⟩
      unfold withinB; rw [decide_eq_true hlo, decide_eq_false hhi]; rfl
  · refine W_region ?_
    refine OL_y (y_move rfl) (by decide) ?_
    refine OL_y (y_toStr Try.underlying22 Try.underlying5 Try.underlying9 rfl h1) (by decide) ?_
    refine OL_y (y_move rfl) (by decide) ?_
    refine OL_y (y_toStr Try.underlying22 Try.underlying5 Try.underlying9 rfl h2) (by decide) ?_
    refine OL_y (v := .bool false) (y_geqSF (Classical.not_not.1 hlo) rfl rfl) (by decide) ?_
    refine OL_y (v := .bool false) (y_move rfl) (by decide) ?_
    refine OL_s rfl (by decide) rfl rfl (by simp) ?_
    refine OL_s rfl (by decide) rfl rfl (by simp) ?_
    refine OL_s rfl (by decide) rfl rfl (by simp) ?_
    refine OL_s rfl (by decide) rfl rfl (by simp) ?_
    refine OL_u rfl (by decide) rfl (by simp) ?_
    refine OL_u rfl (by decide) rfl (by simp) ?_
    refine OL_u rfl (by decide) rfl (by simp) ?_
    refine OL_u rfl (by decide) rfl (by simp) ?_
    refine OL_u rfl (by decide) rfl (by simp) ?_
    refine OL_s rfl (by decide) rfl rfl (by simp) ?_
    refine OL_y (y_pick (b := false) (v := .bool false) rfl rfl) (by decide) ?_
    refine OL_y (v := .bool false) (y_assign rfl) (by decide) ?_
    refine OL_nil ?_
    refine W_ret ?_
    show RetOK _ _ _ _ _ _
    refine ret1 (v := .bool false) Try.results15 rfl ⟨?_, H.ext_of 0 rfl⟩
    unfold withinB; rw [decide_eq_false hlo]; rfl
/-- Whether one of what was seen is older than a version of the same keys. -/
def barredB (seen : List Sn) (ts : Int) (keys : List Key) : Bool := keys.any fun k => seen.any fun s => decide (s.ts < ts) && decide (s.key = k)
abbrev verC (v : Ver) (vv vk : Value) : List Value := [.int .u64 v.ts, .int .u64 v.txn, .bool v.dead, vv, vk]

set_option maxHeartbeats 2000000 in
theorem f10_calls {Z : Nat → Prop} {w : World} {a : Value} {xs : List Sn} {cs : List Value} {v : Ver} (hx : SlR tSn 64 Z w a xs) (hv : tVer.R Z w cs v) :
    Calls Try.prog 10 [a, .agg cs.toArray].toArray w fun e w' => e = .returned (.bool (barredB xs v.ts v.keys)) ∧ Ext none' w w' := by
  have H := Holds.start w
  have hN := hx.len1 (by decide)
  obtain ⟨a0, c0, rfl, hl0, hm0⟩ := hx.len
  obtain ⟨vv, vk, rfl, hi1, hi2, hvv, hks⟩ := ver_cells.1 hv
  have hK := hks.len1 (by decide)
  obtain ⟨ak, ck, rfl, hlk, hmk⟩ := hks.len
  refine calls_of_W' Try.func10 rfl Try.ntmps10 rfl ?_
  refine W_seq ?_
  refine W_region ?_
  refine OL_c (op_box (v := .agg #[.int .u64 v.ts, .int .u64 v.txn, .bool v.dead, vv, .slice ak v.keys.length ck]) H rfl (by decide) fun b3 w0_0 H => ?_)
  refine OL_y (v := .bool false) (y_assign rfl) (by decide) ?_
  refine OL_nil ?_
  refine W_seq ?_
  refine W_seq ?_
  refine W_region ?_
  refine OL_y (y_fieldAddr ti32 rfl ti30 rfl rfl) (by decide) ?_
  refine OL_y (y_loadS (v := .slice ak v.keys.length ck) ti30 rfl rfl (Cells.unit (H.getOwn 0 rfl) rfl)) (by decide) ?_
  refine OL_y (y_len rfl ti30 rfl) (by decide) ?_
  refine OL_y (y_move rfl) (by decide) ?_
  refine OL_nil ?_
  refine W_range (N := v.keys.length) (by omega) (fun k f ds w' => f 0 = .slice a0 xs.length c0 ∧ f 3 = .pointer (some ⟨b3, 0, none⟩) ∧ f 10 = .slice ak v.keys.length ck ∧ ds = [] ∧ barredB xs v.ts (v.keys.take k) = false ∧ Holds w' [own b3 (.cells #[.int .u64 v.ts, .int .u64 v.txn, .bool v.dead, vv, .slice ak v.keys.length ck] 32), shr (fun k => k < w.heap.size) w])
      ⟨rfl, rfl, rfl, rfl, rfl, H⟩
      rfl rfl (by decide) (by decide) (by decide) rfl rfl ?_ rfl rfl ?_
  · rintro k f ds w1 hk ⟨h0, h3, h10, rfl, hb, H⟩ hti htn
    have hxk := List.getElem?_eq_getElem hk
    obtain ⟨b1, o1, cs1, e1, hz1, hc1, hr1⟩ := hks.at hxk
    have hc1' := hc1.ext ((H.keepsAll 1 rfl Z).2 _ hz1 hc1.lt)
    obtain ⟨vy, rfl, hvy⟩ := hr1
    have htk : barredB xs v.ts (v.keys.take (k + 1)) = (barredB xs v.ts (v.keys.take k) || xs.any fun s => decide (s.ts < v.ts) && decide (s.key = v.keys[k])) := any_take hxk _
    have hmem := List.getElem_mem hk
    generalize v.keys[k] = y at *
    have h10' := h10.trans (congrArg (Value.slice · _ _) e1)
    refine W_block ?_
    refine W_seq ?_
    refine W_region ?_
    refine OL_y (y_indexAddr ti30 ti22 h10' hti (by omega) (by omega)) (by decide) ?_
    refine OL_y (y_loadS (v := vy) ti22 rfl rfl hc1') (by decide) ?_
    refine OL_y (y_assign rfl) (by decide) ?_
    refine OL_nil ?_
    refine W_seq ?_
    refine W_region ?_
    refine OL_y (y_move h0) (by decide) ?_
    refine OL_y (y_len rfl ti35 rfl) (by decide) ?_
    refine OL_y (y_move rfl) (by decide) ?_
    refine OL_nil ?_
    refine W_range (N := xs.length) (by omega) (fun j f ds w' => f 0 = .slice a0 xs.length c0 ∧ f 3 = .pointer (some ⟨b3, 0, none⟩) ∧ f 10 = .slice ak v.keys.length ck ∧ f 12 = .int .i64 k ∧ f 11 = .int .i64 v.keys.length ∧ f 6 = vy ∧ f 16 = .slice a0 xs.length c0 ∧ ds = [] ∧ ((xs.take j).any fun s => decide (s.ts < v.ts) && decide (s.key = y)) = false ∧ Holds w' [own b3 (.cells #[.int .u64 v.ts, .int .u64 v.txn, .bool v.dead, vv, .slice ak v.keys.length ck] 32), shr (fun k => k < w.heap.size) w])
        ⟨h0, h3, h10, hti, htn, rfl, rfl, rfl, rfl, H⟩
        rfl rfl (by decide) (by decide) (by decide) rfl rfl ?_ rfl rfl ?_
    · rintro j f ds w2 hj ⟨h0, h3, h10, h12, h11, h6, h16, rfl, hb2, H⟩ htj htm
      have hxj := List.getElem?_eq_getElem hj
      obtain ⟨b2, o2, cs2, e2, hz2, hc2, hr2⟩ := hx.at hxj
      have hc2' := hc2.ext ((H.keepsAll 1 rfl Z).2 _ hz2 hc2.lt)
      have htj2 : ((xs.take (j + 1)).any fun s => decide (s.ts < v.ts) && decide (s.key = y)) = (((xs.take j).any fun s => decide (s.ts < v.ts) && decide (s.key = y)) || (decide (xs[j].ts < v.ts) && decide (xs[j].key = y))) := any_take hxj _
      have hmj := List.getElem_mem hj
      generalize xs[j] = s at *
      obtain ⟨wk, wl, rfl, hwk, -, -, -⟩ := sn_cells.1 hr2
      have hone := tSn.one hr2
      have h16' := h16.trans (congrArg (Value.slice · _ _) e2)
      refine W_block ?_
      refine W_seq ?_
      refine W_region ?_
      refine OL_y (y_indexAddr ti35 ti39 h16' htj (by omega) (by omega)) (by decide) ?_
      refine OL_y (y_loadA ti39 rfl rfl hc2' rfl) (by decide) ?_
      refine OL_var (v := .agg #[wk, .int .u64 s.ts, .int .u64 s.txn, wl]) H ti39 rfl (by decide) (fun _ => rfl) rfl (hone) fun b8 w6_2 H => ?_
      refine OL_nil ?_
      refine W_seq ?_
      by_cases hlt : s.ts < v.ts
      · refine W_region ?_
        refine OL_y (y_fieldAddr ti39 rfl ti29 rfl rfl) (by decide) ?_
        refine OL_y (y_loadS (v := .int .u64 s.ts) ti29 rfl rfl (Cells.unit (H.getOwn 0 rfl) rfl)) (by decide) ?_
        refine OL_y (y_fieldAddr ti32 rfl ti29 rfl h3) (by decide) ?_
        refine OL_y (y_loadS (v := .int .u64 v.ts) ti29 rfl rfl (Cells.unit (H.getOwn 1 rfl) rfl)) (by decide) ?_
        refine OL_y (v := .bool true) (y_lssT hlt rfl rfl) (by decide) ?_
        refine OL_y (v := .bool true) (y_move rfl) (by decide) ?_
        refine OL_yg rfl (by decide) rfl (y_fieldAddr ti39 rfl ti22 rfl rfl) (by decide) ?_
        refine OL_yg rfl (by decide) rfl (y_loadS (v := wk) ti22 rfl rfl (Cells.unit (H.getOwn 0 rfl) rfl)) (by decide) ?_
        refine OL_yg rfl (by decide) rfl (y_move h6) (by decide) ?_
        refine OL_g rfl (by decide) rfl (op_call 20 en20 rfl [wk, vy] rfl (by decide) ((f20_calls (hwk.keeps (H.keepsAll 2 rfl _)) (hvy.keeps (H.keepsAll 2 rfl _))).mono ?_))
        rintro e w7_9 ⟨rfl, hE⟩
        refine ⟨_, rfl, ?_⟩
        have H := H.ext0 hE
        refine OL_y (y_pick (b := true) rfl rfl) (by decide) ?_
        refine OL_nil ?_
        refine W_cond rfl (fun hc => ?_) (fun hc => ?_)
        · have hc := of_decide_eq_true hc
          refine W_seq ?_
          refine W_region ?_
          refine OL_y (v := .bool true) (y_assign rfl) (by decide) ?_
          refine OL_nil ?_
          refine W_ret ?_
          show RetOK _ _ _ _ _ _
          refine ret1 (v := .bool true) Try.results10 rfl ⟨?_, H.ext_of 2 rfl⟩
          have : barredB xs v.ts v.keys = true := List.any_eq_true.2 ⟨y, hmem, List.any_eq_true.2 ⟨s, hmj, by simp [hlt, hc]⟩⟩
          rw [this]
        · have hc := of_decide_eq_false hc
          refine W_skip ?_
          exact ⟨htj, htm, h0, h3, h10, h12, h11, h6, h16, rfl, by rw [htj2, hb2]; simp [hc], H.tail⟩
      · refine W_region ?_
        refine OL_y (y_fieldAddr ti39 rfl ti29 rfl rfl) (by decide) ?_
        refine OL_y (y_loadS (v := .int .u64 s.ts) ti29 rfl rfl (Cells.unit (H.getOwn 0 rfl) rfl)) (by decide) ?_
        refine OL_y (y_fieldAddr ti32 rfl ti29 rfl h3) (by decide) ?_
        refine OL_y (y_loadS (v := .int .u64 v.ts) ti29 rfl rfl (Cells.unit (H.getOwn 1 rfl) rfl)) (by decide) ?_
        refine OL_y (v := .bool false) (y_lssF hlt rfl rfl) (by decide) ?_
        refine OL_y (v := .bool false) (y_move rfl) (by decide) ?_
        refine OL_s rfl (by decide) rfl rfl (by simp) ?_
        refine OL_s rfl (by decide) rfl rfl (by simp) ?_
        refine OL_s rfl (by decide) rfl rfl (by simp) ?_
        refine OL_s rfl (by decide) rfl rfl (by simp) ?_
        refine OL_y (y_pick (b := false) (v := .bool false) rfl rfl) (by decide) ?_
        refine OL_nil ?_
        refine W_condf rfl ?_
        refine W_skip ?_
        exact ⟨htj, htm, h0, h3, h10, h12, h11, h6, h16, rfl, by rw [htj2, hb2]; simp [hlt], H.tail⟩
    · rintro f ds w2 ⟨h0, h3, h10, h12, h11, h6, h16, rfl, hb2, H⟩ htj htm
      rw [List.take_length] at hb2
      exact ⟨h12, h11, h0, h3, h10, rfl, by rw [htk, hb, hb2]; rfl, H⟩
  · rintro f ds w1 ⟨h0, h3, h10, rfl, hb, H⟩ hti htn
    rw [List.take_length] at hb
    refine W_seq ?_
    refine W_region ?_
    refine OL_y (v := .bool false) (y_assign rfl) (by decide) ?_
    refine OL_nil ?_
    refine W_ret ?_
    show RetOK _ _ _ _ _ _
    exact ret1 (v := .bool false) Try.results10 rfl ⟨by rw [hb], H.ext_of 1 rfl⟩
theorem barred_swap (xs : List Sn) (ts : Int) (ks : List Key) : barredB xs ts ks = xs.any fun s => decide (s.ts < ts) && decide (s.key ∈ ks) := by
  rw [Bool.eq_iff_iff]
  simp only [barredB, List.any_eq_true, Bool.and_eq_true, decide_eq_true_eq]
  constructor
  · rintro ⟨k, hk, s, hs, h1, rfl⟩; exact ⟨s, hs, h1, hk⟩
  · rintro ⟨s, hs, h1, h2⟩; exact ⟨_, h2, s, hs, h1, rfl⟩

set_option maxHeartbeats 2000000 in
theorem f11_calls {Z : Nat → Prop} {w : World} {a vk : Value} {xs : List Sn} {ts : Int} {ks : List Key} (hx : SlR tSn 64 Z w a xs) (hk : SlR tKey 24 Z w vk ks) :
    Calls Try.prog 11 [a, .int .u64 ts, vk].toArray w fun e w' => e = .returned (.bool (barredB xs ts ks)) ∧ Ext none' w w' := by
  have H := Holds.start w
  have hN := hx.len1 (by decide)
  obtain ⟨a0, c0, rfl, hl0, hm0⟩ := hx.len
  refine calls_of_W' Try.func11 rfl Try.ntmps11 rfl ?_
  refine W_seq ?_
  refine W_region ?_
  refine OL_y (v := .bool false) (y_assign rfl) (by decide) ?_
  refine OL_nil ?_
  refine W_seq ?_
  refine W_seq ?_
  refine W_region ?_
  refine OL_y (y_move rfl) (by decide) ?_
  refine OL_y (y_len rfl ti35 rfl) (by decide) ?_
  refine OL_y (y_move rfl) (by decide) ?_
  refine OL_nil ?_
  refine W_range (N := xs.length) (by omega) (fun j f ds w' => f 9 = .slice a0 xs.length c0 ∧ f 1 = .int .u64 ts ∧ f 2 = vk ∧ ds = [] ∧ ((xs.take j).any fun s => decide (s.ts < ts) && decide (s.key ∈ ks)) = false ∧ Holds w' [shr (fun k => k < w.heap.size) w])
      ⟨rfl, rfl, rfl, rfl, rfl, H⟩
      rfl rfl (by decide) (by decide) (by decide) rfl rfl ?_ rfl rfl ?_
  · rintro j f ds w2 hj ⟨h9, hh1, h2, rfl, hb, H⟩ hti htn
    have hxj := List.getElem?_eq_getElem hj
    obtain ⟨b2, o2, cs2, e2, hz2, hc2, hr2⟩ := hx.at hxj
    have hc2' := hc2.ext ((H.keepsAll 0 rfl Z).2 _ hz2 hc2.lt)
    have htj2 : ((xs.take (j + 1)).any fun s => decide (s.ts < ts) && decide (s.key ∈ ks)) = (((xs.take j).any fun s => decide (s.ts < ts) && decide (s.key ∈ ks)) || (decide (xs[j].ts < ts) && decide (xs[j].key ∈ ks))) := any_take hxj _
    have hmj := List.getElem_mem hj
    generalize xs[j] = s at *
    obtain ⟨wk, wl, rfl, hwk, -, -, -⟩ := sn_cells.1 hr2
    have hone := tSn.one hr2
    have h9' := h9.trans (congrArg (Value.slice · _ _) e2)
    refine W_block ?_
    refine W_seq ?_
    refine W_region ?_
    refine OL_y (y_indexAddr ti35 ti39 h9' hti (by omega) (by omega)) (by decide) ?_
    refine OL_y (y_loadA ti39 rfl rfl hc2' rfl) (by decide) ?_
    refine OL_var (v := .agg #[wk, .int .u64 s.ts, .int .u64 s.txn, wl]) H ti39 rfl (by decide) (fun _ => rfl) rfl (hone) fun b8 w3_2 H => ?_
    refine OL_nil ?_
    refine W_seq ?_
    by_cases hlt : s.ts < ts
    · refine W_region ?_
      refine OL_y (y_fieldAddr ti39 rfl ti29 rfl rfl) (by decide) ?_
      refine OL_y (y_loadS (v := .int .u64 s.ts) ti29 rfl rfl (Cells.unit (H.getOwn 0 rfl) rfl)) (by decide) ?_
      refine OL_y (y_move hh1) (by decide) ?_
      refine OL_y (v := .bool true) (y_lssT hlt rfl rfl) (by decide) ?_
      refine OL_y (v := .bool true) (y_move rfl) (by decide) ?_
      refine OL_yg rfl (by decide) rfl (y_move h2) (by decide) ?_
      refine OL_yg rfl (by decide) rfl (y_fieldAddr ti39 rfl ti22 rfl rfl) (by decide) ?_
      refine OL_yg rfl (by decide) rfl (y_loadS (v := wk) ti22 rfl rfl (Cells.unit (H.getOwn 0 rfl) rfl)) (by decide) ?_
      refine OL_g rfl (by decide) rfl (op_call 21 en21 rfl [vk, wk] rfl (by decide) ((f21_calls (hk.keeps (H.keepsAll 1 rfl _)) (hwk.keeps (H.keepsAll 1 rfl _))).mono ?_))
      rintro e w4_8 ⟨rfl, hE⟩
      refine ⟨_, rfl, ?_⟩
      have H := H.ext0 hE
      refine OL_y (y_pick (b := true) rfl rfl) (by decide) ?_
      refine OL_nil ?_
      refine W_cond rfl (fun hc => ?_) (fun hc => ?_)
      · have hc := of_decide_eq_true hc
        refine W_seq ?_
        refine W_region ?_
        refine OL_y (v := .bool true) (y_assign rfl) (by decide) ?_
        refine OL_nil ?_
        refine W_ret ?_
        show RetOK _ _ _ _ _ _
        refine ret1 (v := .bool true) Try.results11 rfl ⟨?_, H.ext_of 1 rfl⟩
        have : barredB xs ts ks = true := by rw [barred_swap]; exact List.any_eq_true.2 ⟨s, hmj, by simp [hlt, hc]⟩
        rw [this]
      · have hc := of_decide_eq_false hc
        refine W_skip ?_
        exact ⟨hti, htn, h9, hh1, h2, rfl, by rw [htj2, hb]; simp [hc], H.tail⟩
    · refine W_region ?_
      refine OL_y (y_fieldAddr ti39 rfl ti29 rfl rfl) (by decide) ?_
      refine OL_y (y_loadS (v := .int .u64 s.ts) ti29 rfl rfl (Cells.unit (H.getOwn 0 rfl) rfl)) (by decide) ?_
      refine OL_y (y_move hh1) (by decide) ?_
      refine OL_y (v := .bool false) (y_lssF hlt rfl rfl) (by decide) ?_
      refine OL_y (v := .bool false) (y_move rfl) (by decide) ?_
      refine OL_s rfl (by decide) rfl rfl (by simp) ?_
      refine OL_s rfl (by decide) rfl rfl (by simp) ?_
      refine OL_s rfl (by decide) rfl rfl (by simp) ?_
      refine OL_s rfl (by decide) rfl rfl (by simp) ?_
      refine OL_y (y_pick (b := false) (v := .bool false) rfl rfl) (by decide) ?_
      refine OL_nil ?_
      refine W_condf rfl ?_
      refine W_skip ?_
      exact ⟨hti, htn, h9, hh1, h2, rfl, by rw [htj2, hb]; simp [hlt], H.tail⟩
  · rintro f ds w2 ⟨h9, hh1, h2, rfl, hb, H⟩ hti htn
    rw [List.take_length] at hb
    refine W_seq ?_
    refine W_region ?_
    refine OL_y (v := .bool false) (y_assign rfl) (by decide) ?_
    refine OL_nil ?_
    refine W_ret ?_
    show RetOK _ _ _ _ _ _
    exact ret1 (v := .bool false) Try.results11 rfl ⟨by rw [barred_swap, hb], H.ext_of 0 rfl⟩
def fracturedB (xs : List Sn) : Bool := xs.any fun a => barredB xs a.ts a.keys

set_option maxHeartbeats 2000000 in
theorem f12_calls {Z : Nat → Prop} {w : World} {a : Value} {xs : List Sn} (hx : SlR tSn 64 Z w a xs) :
    Calls Try.prog 12 [a].toArray w fun e w' => e = .returned (.bool (fracturedB xs)) ∧ Ext none' w w' := by
  have H := Holds.start w
  have hN := hx.len1 (by decide)
  obtain ⟨a0, c0, rfl, hl0, hm0⟩ := hx.len
  refine calls_of_W' Try.func12 rfl Try.ntmps12 rfl ?_
  refine W_seq ?_
  refine W_region ?_
  refine OL_y (v := .bool false) (y_assign rfl) (by decide) ?_
  refine OL_nil ?_
  refine W_seq ?_
  refine W_seq ?_
  refine W_region ?_
  refine OL_y (y_move rfl) (by decide) ?_
  refine OL_y (y_len rfl ti35 rfl) (by decide) ?_
  refine OL_y (y_move rfl) (by decide) ?_
  refine OL_nil ?_
  refine W_range (N := xs.length) (by omega) (fun j f ds w' => f 0 = .slice a0 xs.length c0 ∧ f 5 = .slice a0 xs.length c0 ∧ ds = [] ∧ ((xs.take j).any fun a => barredB xs a.ts a.keys) = false ∧ Holds w' [shr (fun k => k < w.heap.size) w])
      ⟨rfl, rfl, rfl, rfl, H⟩
      rfl rfl (by decide) (by decide) (by decide) rfl rfl ?_ rfl rfl ?_
  · rintro j f ds w2 hj ⟨h0, h5, rfl, hb, H⟩ hti htn
    have hxj := List.getElem?_eq_getElem hj
    obtain ⟨b2, o2, cs2, e2, hz2, hc2, hr2⟩ := hx.at hxj
    have hc2' := hc2.ext ((H.keepsAll 0 rfl Z).2 _ hz2 hc2.lt)
    have htj2 : ((xs.take (j + 1)).any fun a => barredB xs a.ts a.keys) = (((xs.take j).any fun a => barredB xs a.ts a.keys) || barredB xs xs[j].ts xs[j].keys) := any_take hxj _
    have hmj := List.getElem_mem hj
    generalize xs[j] = s at *
    obtain ⟨wk, wl, rfl, hwk, hi1, hi2, hwl⟩ := sn_cells.1 hr2
    have hone := tSn.one hr2
    obtain ⟨al, cl, rfl, _⟩ := hwl.len
    have h5' := h5.trans (congrArg (Value.slice · _ _) e2)
    refine W_block ?_
    refine W_seq ?_
    refine W_region ?_
    refine OL_y (y_indexAddr ti35 ti39 h5' hti (by omega) (by omega)) (by decide) ?_
    refine OL_y (y_loadA ti39 rfl rfl hc2' rfl) (by decide) ?_
    refine OL_var (v := .agg #[wk, .int .u64 s.ts, .int .u64 s.txn, .slice al s.keys.length cl]) H ti39 rfl (by decide) (fun _ => rfl) rfl (hone) fun b4 w3_2 H => ?_
    refine OL_nil ?_
    refine W_seq ?_
    have hkW := H.keepsAll 1 rfl Z
    refine W_region ?_
    refine OL_y (y_move h0) (by decide) ?_
    refine OL_y (y_fieldAddr ti39 rfl ti29 rfl rfl) (by decide) ?_
    refine OL_y (y_loadS (v := .int .u64 s.ts) ti29 rfl rfl (Cells.unit (H.getOwn 0 rfl) rfl)) (by decide) ?_
    refine OL_y (y_fieldAddr ti39 rfl ti30 rfl rfl) (by decide) ?_
    refine OL_y (y_loadS (v := .slice al s.keys.length cl) ti30 rfl rfl (Cells.unit (H.getOwn 0 rfl) rfl)) (by decide) ?_
    refine OL_y (y_build ti32 pl32 rfl) (by decide) ?_
    refine OL_c (op_call 10 en10 rfl [.slice a0 xs.length c0, .agg #[.int .u64 s.ts, .int .u64 0, .bool false, .slice none 0 0, .slice al s.keys.length cl]] rfl (by decide) ((f10_calls (v := ⟨s.ts, 0, false, [], s.keys⟩) (hx.keeps hkW) (ver_cells.2 ⟨_, _, rfl, hi1, rfl, SlR.nil _ _ _ _, hwl.keeps hkW⟩)).mono ?_))
    rintro e w4_6 ⟨rfl, hE⟩
    refine ⟨_, rfl, ?_⟩
    have H := H.ext0 hE
    refine OL_nil ?_
    refine W_cond rfl (fun hc => ?_) (fun hc => ?_)
    · refine W_seq ?_
      refine W_region ?_
      refine OL_y (v := .bool true) (y_assign rfl) (by decide) ?_
      refine OL_nil ?_
      refine W_ret ?_
      show RetOK _ _ _ _ _ _
      refine ret1 (v := .bool true) Try.results12 rfl ⟨?_, H.ext_of 1 rfl⟩
      have : fracturedB xs = true := List.any_eq_true.2 ⟨s, hmj, hc⟩
      rw [this]
    · refine W_skip ?_
      exact ⟨hti, htn, h0, h5, rfl, by rw [htj2, hb, Bool.false_or]; exact hc, H.tail⟩
  · rintro f ds w2 ⟨h0, h5, rfl, hb, H⟩ hti htn
    rw [List.take_length] at hb
    refine W_seq ?_
    refine W_region ?_
    refine OL_y (v := .bool false) (y_assign rfl) (by decide) ?_
    refine OL_nil ?_
    refine W_ret ?_
    show RetOK _ _ _ _ _ _
    exact ret1 (v := .bool false) Try.results12 rfl ⟨by rw [show fracturedB xs = false from hb], H.ext_of 0 rfl⟩
set_option maxHeartbeats 2000000 in
theorem f13_calls {Z : Nat → Prop} {w : World} {a : Value} {xs : List Sn} (hx : SlR tSn 64 Z w a xs) :
    Calls Try.prog 13 [a].toArray w fun e w' => e = .returned (.bool (fracturedB xs)) ∧ Ext none' w w' := by
  have H := Holds.start w
  have hN := hx.len1 (by decide)
  obtain ⟨a0, c0, rfl, hl0, hm0⟩ := hx.len
  refine calls_of_W' Try.func13 rfl Try.ntmps13 rfl ?_
  refine W_seq ?_
  refine W_region ?_
  refine OL_y (v := .bool false) (y_assign rfl) (by decide) ?_
  refine OL_nil ?_
  refine W_seq ?_
  refine W_seq ?_
  refine W_region ?_
  refine OL_y (y_move rfl) (by decide) ?_
  refine OL_y (y_len rfl ti35 rfl) (by decide) ?_
  refine OL_y (y_move rfl) (by decide) ?_
  refine OL_nil ?_
  refine W_range (N := xs.length) (by omega) (fun j f ds w' => f 0 = .slice a0 xs.length c0 ∧ f 5 = .slice a0 xs.length c0 ∧ ds = [] ∧ ((xs.take j).any fun a => barredB xs a.ts a.keys) = false ∧ Holds w' [shr (fun k => k < w.heap.size) w])
      ⟨rfl, rfl, rfl, rfl, H⟩
      rfl rfl (by decide) (by decide) (by decide) rfl rfl ?_ rfl rfl ?_
  · rintro j f ds w2 hj ⟨h0, h5, rfl, hb, H⟩ hti htn
    have hxj := List.getElem?_eq_getElem hj
    obtain ⟨b2, o2, cs2, e2, hz2, hc2, hr2⟩ := hx.at hxj
    have hc2' := hc2.ext ((H.keepsAll 0 rfl Z).2 _ hz2 hc2.lt)
    have htj2 : ((xs.take (j + 1)).any fun a => barredB xs a.ts a.keys) = (((xs.take j).any fun a => barredB xs a.ts a.keys) || barredB xs xs[j].ts xs[j].keys) := any_take hxj _
    have hmj := List.getElem_mem hj
    generalize xs[j] = s at *
    obtain ⟨wk, wl, rfl, hwk, hi1, hi2, hwl⟩ := sn_cells.1 hr2
    have hone := tSn.one hr2
    have h5' := h5.trans (congrArg (Value.slice · _ _) e2)
    refine W_block ?_
    refine W_seq ?_
    refine W_region ?_
    refine OL_y (y_indexAddr ti35 ti39 h5' hti (by omega) (by omega)) (by decide) ?_
    refine OL_y (y_loadA ti39 rfl rfl hc2' rfl) (by decide) ?_
    refine OL_var (v := .agg #[wk, .int .u64 s.ts, .int .u64 s.txn, wl]) H ti39 rfl (by decide) (fun _ => rfl) rfl (hone) fun b4 w3_2 H => ?_
    refine OL_nil ?_
    refine W_seq ?_
    have hkW := H.keepsAll 1 rfl Z
    refine W_region ?_
    refine OL_y (y_move h0) (by decide) ?_
    refine OL_y (y_fieldAddr ti39 rfl ti29 rfl rfl) (by decide) ?_
    refine OL_y (y_loadS (v := .int .u64 s.ts) ti29 rfl rfl (Cells.unit (H.getOwn 0 rfl) rfl)) (by decide) ?_
    refine OL_y (y_fieldAddr ti39 rfl ti30 rfl rfl) (by decide) ?_
    refine OL_y (y_loadS (v := wl) ti30 rfl rfl (Cells.unit (H.getOwn 0 rfl) rfl)) (by decide) ?_
    refine OL_c (op_call 11 en11 rfl [.slice a0 xs.length c0, .int .u64 s.ts, wl] rfl (by decide) ((f11_calls (hx.keeps hkW) (hwl.keeps hkW)).mono ?_))
    rintro e w4_5 ⟨rfl, hE⟩
    refine ⟨_, rfl, ?_⟩
    have H := H.ext0 hE
    refine OL_nil ?_
    refine W_cond rfl (fun hc => ?_) (fun hc => ?_)
    · refine W_seq ?_
      refine W_region ?_
      refine OL_y (v := .bool true) (y_assign rfl) (by decide) ?_
      refine OL_nil ?_
      refine W_ret ?_
      show RetOK _ _ _ _ _ _
      refine ret1 (v := .bool true) Try.results13 rfl ⟨?_, H.ext_of 1 rfl⟩
      have : fracturedB xs = true := List.any_eq_true.2 ⟨s, hmj, hc⟩
      rw [this]
    · refine W_skip ?_
      exact ⟨hti, htn, h0, h5, rfl, by rw [htj2, hb, Bool.false_or]; exact hc, H.tail⟩
  · rintro f ds w2 ⟨h0, h5, rfl, hb, H⟩ hti htn
    rw [List.take_length] at hb
    refine W_seq ?_
    refine W_region ?_
    refine OL_y (v := .bool false) (y_assign rfl) (by decide) ?_
    refine OL_nil ?_
    refine W_ret ?_
    show RetOK _ _ _ _ _ _
    exact ret1 (v := .bool false) Try.results13 rfl ⟨by rw [show fracturedB xs = false from hb], H.ext_of 0 rfl⟩
end Go.Proofs.Ytngnplhdokboiaa
