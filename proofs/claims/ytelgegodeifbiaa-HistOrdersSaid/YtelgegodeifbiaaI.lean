/- SameSeen answers yes on what is alike. -/
import Derived.Test.YtelgegodeifbiaaG
import Derived.Test.YtelgegodeifbiaaWki
namespace Go.Proofs.Ytelgegodeifbiaa
open Go Go.Wk Pl
set_option linter.unusedVariables false

set_option maxHeartbeats 2000000 in
theorem f25_same {Z Z' : Nat → Prop} {w : World} {a b : Value} {xs : List Sn} (hx : SlR tSn 64 Z w a xs) (hy : SlR tSn 64 Z' w b xs) :
    Calls Try.prog 25 [a, b].toArray w fun e w' => e = .returned (.bool true) ∧ Ext none' w w' := by
  have H := Holds.start w
  have hN := hx.len1 (by decide)
  obtain ⟨a0, c0, rfl, hl0, hm0⟩ := hx.len
  obtain ⟨a1, c1, rfl, hl1, hm1⟩ := hy.len
  refine calls_of_W' Try.func25 rfl Try.ntmps25 rfl ?_
  refine W_seq ?_
  refine W_region ?_
  refine OL_y (y_assign rfl) (by decide) ?_
  refine OL_nil ?_
  refine W_seq ?_
  refine W_seq ?_
  refine W_region ?_
  refine OL_y (y_move rfl) (by decide) ?_
  refine OL_y (y_len rfl ti30 rfl) (by decide) ?_
  refine OL_y (y_move rfl) (by decide) ?_
  refine OL_y (y_len rfl ti30 rfl) (by decide) ?_
  refine OL_y (y_neq0 rfl rfl) (by decide) ?_
  refine OL_nil ?_
  refine W_condf rfl ?_
  refine W_skip ?_
  refine W_seq ?_
  refine W_seq ?_
  refine W_region ?_
  refine OL_y (y_move rfl) (by decide) ?_
  refine OL_y (y_len rfl ti30 rfl) (by decide) ?_
  refine OL_y (y_move rfl) (by decide) ?_
  refine OL_nil ?_
  refine W_range (N := xs.length) (by omega) (fun k f ds w' => f 0 = .slice a0 xs.length c0 ∧ f 1 = .slice a1 xs.length c1 ∧ ds = [] ∧ Holds w' [shr (fun k => k < w.heap.size) w]) ⟨rfl, rfl, rfl, H⟩ rfl rfl (by decide) (by decide) (by decide) rfl rfl ?_ rfl rfl ?_
  · rintro k f ds w1 hk ⟨h0, h1, rfl, H⟩ hti htn
    have hxk := List.getElem?_eq_getElem hk
    obtain ⟨b1, o1, cs1, e1, hz1, hc1, hr1⟩ := hx.at hxk
    obtain ⟨b2, o2, cs2, e2, hz2, hc2, hr2⟩ := hy.at hxk
    generalize xs[k] = s at hxk hr1 hr2
    obtain ⟨vk1, vl1, rfl, hk1, -, -, hl1'⟩ := sn_cells.1 hr1
    obtain ⟨vk2, vl2, rfl, hk2, -, -, hl2'⟩ := sn_cells.1 hr2
    refine W_block ?_
    refine W_seq ?_
    refine W_region ?_
    refine OL_y (y_move hti) (by decide) ?_
    refine OL_y (y_assign rfl) (by decide) ?_
    refine OL_nil ?_
    refine W_seq ?_
    refine W_drawD H mixed (by kernel_rfl) [] (fun w0 w' => Ext none' w w') fun w2 H hE => ?_
    have hS : Sx [] (fun w' => Ext none' w w') (List.replicate 53 false).toArray w2 := fun _ => H.ext_of 0 rfl
    have c1 : ∀ {w' : World}, Ext none' w w' → Cells w' b1 (o1 + k * 4) [vk1, .int .u64 s.ts, .int .u64 s.txn, vl1] := fun h => hc1.ext (h.blk _ hc1.lt fun h => h)
    have c2 : ∀ {w' : World}, Ext none' w w' → Cells w' b2 (o2 + k * 4) [vk2, .int .u64 s.ts, .int .u64 s.txn, vl2] := fun h => hc2.ext (h.blk _ hc2.lt fun h => h)
    refine DA_p 0 rfl (by kernel_rfl) rfl (fun _ => y_move h0) hS (by decide) fun hS => ?_
    refine DA_p 1 rfl (by kernel_rfl) rfl (fun _ => y_move rfl) hS (by decide) fun hS => ?_
    refine DA_p 2 rfl (by kernel_rfl) rfl (fun _ => y_indexAddr ti30 ti50 (congrArg (Value.slice · _ _) e1) rfl (by omega) (by omega)) hS (by decide) fun hS => ?_
    refine DA_p 3 rfl (by kernel_rfl) rfl (fun _ => y_fieldAddr ti50 rfl ti38 rfl rfl) hS (by decide) fun hS => ?_
    refine DA_y (v := vk1) 4 rfl (by kernel_rfl) rfl (by kernel_rfl) (fun w' h => y_loadS ti38 rfl rfl (Cells.take (c1 h) 0 rfl)) hS (by decide) fun hS => ?_
    refine DA_y 5 rfl (by kernel_rfl) rfl (by kernel_rfl) (fun w' h => y_toStr Try.underlying38 Try.underlying5 Try.underlying9 rfl (hk1.keeps h.keeps0)) hS (by decide) fun hS => ?_
    refine DA_p 6 rfl (by kernel_rfl) rfl (fun _ => y_move h1) hS (by decide) fun hS => ?_
    refine DA_p 7 rfl (by kernel_rfl) rfl (fun _ => y_move rfl) hS (by decide) fun hS => ?_
    refine DA_p 8 rfl (by kernel_rfl) rfl (fun _ => y_indexAddr ti30 ti50 (congrArg (Value.slice · _ _) e2) rfl (by omega) (by omega)) hS (by decide) fun hS => ?_
    refine DA_p 9 rfl (by kernel_rfl) rfl (fun _ => y_fieldAddr ti50 rfl ti38 rfl rfl) hS (by decide) fun hS => ?_
    refine DA_y (v := vk2) 10 rfl (by kernel_rfl) rfl (by kernel_rfl) (fun w' h => y_loadS ti38 rfl rfl (Cells.take (c2 h) 0 rfl)) hS (by decide) fun hS => ?_
    refine DA_y 11 rfl (by kernel_rfl) rfl (by kernel_rfl) (fun w' h => y_toStr Try.underlying38 Try.underlying5 Try.underlying9 rfl (hk2.keeps h.keeps0)) hS (by decide) fun hS => ?_
    refine DA_p 12 rfl (by kernel_rfl) rfl (fun _ => y_neqS0 rfl rfl) hS (by decide) fun hS => ?_
    refine DA_p 13 rfl (by kernel_rfl) rfl (fun _ => y_move rfl) hS (by decide) fun hS => ?_
    refine DA_pg 14 rfl rfl (by decide) rfl (by kernel_rfl) rfl (fun _ => y_move h0) hS (by decide) fun hS => ?_
    refine DA_pg 15 rfl rfl (by decide) rfl (by kernel_rfl) rfl (fun _ => y_move rfl) hS (by decide) fun hS => ?_
    refine DA_pg 16 rfl rfl (by decide) rfl (by kernel_rfl) rfl (fun _ => y_indexAddr ti30 ti50 (congrArg (Value.slice · _ _) e1) rfl (by omega) (by omega)) hS (by decide) fun hS => ?_
    refine DA_pg 17 rfl rfl (by decide) rfl (by kernel_rfl) rfl (fun _ => y_fieldAddr ti50 rfl ti26 rfl rfl) hS (by decide) fun hS => ?_
    refine DA_yg (v := .int .u64 s.ts) 18 rfl rfl (by decide) rfl (by kernel_rfl) rfl (by kernel_rfl) (fun w' h => y_loadS ti26 rfl rfl (Cells.take (c1 h) 1 rfl)) hS (by decide) fun hS => ?_
    refine DA_pg 19 rfl rfl (by decide) rfl (by kernel_rfl) rfl (fun _ => y_move h1) hS (by decide) fun hS => ?_
    refine DA_pg 20 rfl rfl (by decide) rfl (by kernel_rfl) rfl (fun _ => y_move rfl) hS (by decide) fun hS => ?_
    refine DA_pg 21 rfl rfl (by decide) rfl (by kernel_rfl) rfl (fun _ => y_indexAddr ti30 ti50 (congrArg (Value.slice · _ _) e2) rfl (by omega) (by omega)) hS (by decide) fun hS => ?_
    refine DA_pg 22 rfl rfl (by decide) rfl (by kernel_rfl) rfl (fun _ => y_fieldAddr ti50 rfl ti26 rfl rfl) hS (by decide) fun hS => ?_
    refine DA_yg (v := .int .u64 s.ts) 23 rfl rfl (by decide) rfl (by kernel_rfl) rfl (by kernel_rfl) (fun w' h => y_loadS ti26 rfl rfl (Cells.take (c2 h) 1 rfl)) hS (by decide) fun hS => ?_
    refine DA_pg 24 rfl rfl (by decide) rfl (by kernel_rfl) rfl (fun _ => y_neq0 rfl rfl) hS (by decide) fun hS => ?_
    refine DA_p 25 rfl (by kernel_rfl) rfl (fun _ => y_pick (b := false) (v := .bool false) rfl rfl) hS (by decide) fun hS => ?_
    refine DA_p 26 rfl (by kernel_rfl) rfl (fun _ => y_move rfl) hS (by decide) fun hS => ?_
    refine DA_pg 27 rfl rfl (by decide) rfl (by kernel_rfl) rfl (fun _ => y_move h0) hS (by decide) fun hS => ?_
    refine DA_pg 28 rfl rfl (by decide) rfl (by kernel_rfl) rfl (fun _ => y_move rfl) hS (by decide) fun hS => ?_
    refine DA_pg 29 rfl rfl (by decide) rfl (by kernel_rfl) rfl (fun _ => y_indexAddr ti30 ti50 (congrArg (Value.slice · _ _) e1) rfl (by omega) (by omega)) hS (by decide) fun hS => ?_
    refine DA_pg 30 rfl rfl (by decide) rfl (by kernel_rfl) rfl (fun _ => y_fieldAddr ti50 rfl ti26 rfl rfl) hS (by decide) fun hS => ?_
    refine DA_yg (v := .int .u64 s.txn) 31 rfl rfl (by decide) rfl (by kernel_rfl) rfl (by kernel_rfl) (fun w' h => y_loadS ti26 rfl rfl (Cells.take (c1 h) 2 rfl)) hS (by decide) fun hS => ?_
    refine DA_pg 32 rfl rfl (by decide) rfl (by kernel_rfl) rfl (fun _ => y_move h1) hS (by decide) fun hS => ?_
    refine DA_pg 33 rfl rfl (by decide) rfl (by kernel_rfl) rfl (fun _ => y_move rfl) hS (by decide) fun hS => ?_
    refine DA_pg 34 rfl rfl (by decide) rfl (by kernel_rfl) rfl (fun _ => y_indexAddr ti30 ti50 (congrArg (Value.slice · _ _) e2) rfl (by omega) (by omega)) hS (by decide) fun hS => ?_
    refine DA_pg 35 rfl rfl (by decide) rfl (by kernel_rfl) rfl (fun _ => y_fieldAddr ti50 rfl ti26 rfl rfl) hS (by decide) fun hS => ?_
    refine DA_yg (v := .int .u64 s.txn) 36 rfl rfl (by decide) rfl (by kernel_rfl) rfl (by kernel_rfl) (fun w' h => y_loadS ti26 rfl rfl (Cells.take (c2 h) 2 rfl)) hS (by decide) fun hS => ?_
    refine DA_pg 37 rfl rfl (by decide) rfl (by kernel_rfl) rfl (fun _ => y_neq0 rfl rfl) hS (by decide) fun hS => ?_
    refine DA_p 38 rfl (by kernel_rfl) rfl (fun _ => y_pick (b := false) (v := .bool false) rfl rfl) hS (by decide) fun hS => ?_
    refine DA_p 39 rfl (by kernel_rfl) rfl (fun _ => y_move rfl) hS (by decide) fun hS => ?_
    refine DA_pg 40 rfl rfl (by decide) rfl (by kernel_rfl) rfl (fun _ => y_move h0) hS (by decide) fun hS => ?_
    refine DA_pg 41 rfl rfl (by decide) rfl (by kernel_rfl) rfl (fun _ => y_move rfl) hS (by decide) fun hS => ?_
    refine DA_pg 42 rfl rfl (by decide) rfl (by kernel_rfl) rfl (fun _ => y_indexAddr ti30 ti50 (congrArg (Value.slice · _ _) e1) rfl (by omega) (by omega)) hS (by decide) fun hS => ?_
    refine DA_pg 43 rfl rfl (by decide) rfl (by kernel_rfl) rfl (fun _ => y_fieldAddr ti50 rfl ti29 rfl rfl) hS (by decide) fun hS => ?_
    refine DA_yg (v := vl1) 44 rfl rfl (by decide) rfl (by kernel_rfl) rfl (by kernel_rfl) (fun w' h => y_loadS ti29 rfl rfl (Cells.take (c1 h) 3 rfl)) hS (by decide) fun hS => ?_
    refine DA_pg 45 rfl rfl (by decide) rfl (by kernel_rfl) rfl (fun _ => y_move h1) hS (by decide) fun hS => ?_
    refine DA_pg 46 rfl rfl (by decide) rfl (by kernel_rfl) rfl (fun _ => y_move rfl) hS (by decide) fun hS => ?_
    refine DA_pg 47 rfl rfl (by decide) rfl (by kernel_rfl) rfl (fun _ => y_indexAddr ti30 ti50 (congrArg (Value.slice · _ _) e2) rfl (by omega) (by omega)) hS (by decide) fun hS => ?_
    refine DA_pg 48 rfl rfl (by decide) rfl (by kernel_rfl) rfl (fun _ => y_fieldAddr ti50 rfl ti29 rfl rfl) hS (by decide) fun hS => ?_
    refine DA_yg (v := vl2) 49 rfl rfl (by decide) rfl (by kernel_rfl) rfl (by kernel_rfl) (fun w' h => y_loadS ti29 rfl rfl (Cells.take (c2 h) 3 rfl)) hS (by decide) fun hS => ?_
    have hE2 : Ext none' w w2 := H.ext_of 0 rfl
    refine DA_oneg 50 (by kernel_rfl) rfl rfl (by decide) rfl (op_call 17 en17 rfl [vl1, vl2] rfl (by decide) ((f17_same (hl1'.keeps hE2.keeps0) (hl2'.keeps hE2.keeps0)).mono ?_))
    rintro e w3 ⟨rfl, hE3⟩
    refine ⟨_, rfl, fun _ => hE2.trans hE3, ?_⟩
    have H := H.ext0 hE3
    have hS : ∀ ls, Sx [] (fun w' => Ext none' w w') ls w3 := fun _ _ => H.ext_of 0 rfl
    refine DA_pg 51 rfl rfl (by decide) rfl (by kernel_rfl) rfl (fun _ => y_not rfl) (hS _) (by decide) fun _ => ?_
    refine DA_p 52 rfl (by kernel_rfl) rfl (fun _ => y_pick (b := false) (v := .bool false) rfl rfl) (hS _) (by decide) fun _ => ?_
    refine DA_done (by kernel_rfl) ?_
    refine W_condf rfl ?_
    refine W_skip ?_
    exact ⟨hti, htn, h0, h1, rfl, H⟩
  · rintro f ds w1 ⟨h0, h1, rfl, H⟩ hti htn
    refine W_seq ?_
    refine W_region ?_
    refine OL_y (y_assign rfl) (by decide) ?_
    refine OL_nil ?_
    refine W_ret ?_
    show RetOK _ _ _ _ _ _
    exact ret1 (v := .bool true) Try.results25 rfl ⟨rfl, H.ext_of 0 rfl⟩
end Go.Proofs.Ytelgegodeifbiaa
