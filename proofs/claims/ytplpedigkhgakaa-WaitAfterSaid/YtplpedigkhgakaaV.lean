/- The law WaitAfter: what is told one by one is the reference's list, until it is stopped. -/
import Derived.Test.YtplpedigkhgakaaU
namespace Go.Proofs.Ytplpedigkhgakaa
open Go Go.Wk Pl
set_option linter.unusedVariables false

theorem walk_eq (xs : List E) (fr : Int) : (refWalk xs fr).map (·.1) = (walkE xs fr).map (·.2) := by simp [walkE, ed]

set_option maxHeartbeats 2000000 in
theorem f5_calls {Zx : Nat → Prop} {w : World} {a : Value} {xs : List E} {fr to stop : Int} (hx : SlR tE 16 Zx w a xs) (hfr : InK .u64 fr) (hto : InK .u64 to) (hst : InK .i64 stop) :
    Calls Try.prog 5 [a, .int .u64 fr, .int .u64 to, .int .i64 stop].toArray w fun e w' => e = .returned (.bool true) ∧ Ext none' w w' := by
  have H := Holds.start w
  obtain ⟨a0, c0, rfl, hl0, hm0⟩ := hx.len
  have hx := hx.mono (Z' := fun k => Zx k ∧ k < w.heap.size) fun k hk hz => ⟨hz, hk⟩
  refine calls_of_W' Try.func5 rfl Try.ntmps5 rfl ?_
  refine W_seq ?_
  refine W_region ?_
  refine OL_c (op_box (v := .int .i64 stop) H rfl (by decide) fun b7 w1 H => ?_)
  refine OL_c (op_alloc H ti4 (by decide) fun b8 w2 H => ?_)
  refine OL_nil ?_
  refine W_seq ?_
  refine W_seq ?_
  refine W_region ?_
  refine OL_c (op_call 7 en7 rfl [] rfl (by decide) (f7_calls.mono ?_))
  rintro e w3 ⟨rfl, hE1⟩
  refine ⟨_, rfl, ?_⟩
  refine OL_y (y_not rfl) (by decide) ?_
  refine OL_nil ?_
  refine W_condf rfl ?_
  refine W_skip ?_
  have H := H.ext0 hE1
  refine W_seq ?_
  refine W_seq (W_cut (fun f ds w' => f 0 = .slice a0 xs.length c0 ∧ f 1 = .int .u64 fr ∧ f 2 = .int .u64 to ∧ f 7 = .pointer (some ⟨b7, 0, none⟩) ∧ f 8 = .pointer (some ⟨b8, 0, none⟩) ∧ f 23 = .bool (decide (40 < xs.length ∨ stop < 0)) ∧ ds = [] ∧ Holds w' [own b8 (.cells #[.bool false] 4), own b7 (.cells #[.int .i64 stop] 3), shr (fun k => k < w.heap.size) w]) ?_ ?_)
  · refine W_region ?_
    refine OL_y (y_move rfl) (by decide) ?_
    refine OL_y (y_len rfl ti22 rfl) (by decide) ?_
    refine OL_y (y_gtr rfl rfl) (by decide) ?_
    refine OL_y (y_move rfl) (by decide) ?_
    by_cases h40 : xs.length ≤ 40
    · have hb : decide ((xs.length : Int) > 40) = false := decide_eq_false (by omega)
      refine OL_yg rfl (by decide) (show _ = Value.bool false by simp only [← hb]; rfl) (y_loadS (v := .int .i64 stop) ti3 rfl rfl (Cells.unit (H.getOwn 1 rfl) rfl)) (by decide) ?_
      refine OL_yg rfl (by decide) (show _ = Value.bool false by simp only [← hb]; rfl) (y_lss rfl rfl) (by decide) ?_
      refine OL_y (y_pick (b := false) (show _ = Value.bool false by simp only [← hb]; rfl) rfl) (by decide) ?_
      refine OL_nil ?_
      refine ⟨rfl, rfl, rfl, rfl, rfl, ?_, rfl, H⟩
      rw [show decide (40 < xs.length ∨ stop < 0) = decide (stop < 0) by rw [decide_eq_decide]; exact ⟨fun h => h.resolve_left (by omega), .inr⟩]
      rfl
    · have hb : decide ((xs.length : Int) > 40) = true := decide_eq_true (by omega)
      refine OL_s rfl (by decide) (show _ = Value.bool true by simp only [← hb]; rfl) rfl (by simp) ?_
      refine OL_s rfl (by decide) (show _ = Value.bool true by simp only [← hb]; rfl) rfl (by simp) ?_
      refine OL_y (y_pick (b := true) (show _ = Value.bool true by simp only [← hb]; rfl) rfl) (by decide) ?_
      refine OL_nil ?_
      refine ⟨rfl, rfl, rfl, rfl, rfl, ?_, rfl, H⟩
      rw [decide_eq_true (show 40 < xs.length ∨ stop < 0 from .inl (by omega))]
      rfl
  rintro f ds w4 ⟨h0, h1, h2, h7, h8, h23, rfl, H⟩
  refine W_cond h23 (fun hc => ?_) (fun hc => ?_)
  · refine W_seq ?_
    refine W_region ?_
    refine OL_c (op_store (v := .bool true) H 0 rfl ti4 h8 rfl rfl (by decide) (by simp [Value.cells, Value.oneCell']) fun w5 H => ?_)
    refine OL_nil ?_
    refine W_ret ?_
    show RetOK _ _ _ _ _ _
    exact ret1c (v := .bool true) Try.results5 h8 (run_loadVarS ti4 rfl (Cells.unit (H.getOwn 0 rfl) rfl)) ⟨rfl, H.ext_of 2 rfl⟩
  have hnot := of_decide_eq_false hc
  have h40 : xs.length ≤ 40 := by omega
  have hs0 : 0 ≤ stop := by omega
  clear hnot hc
  have hwl := refWalk_len xs fr
  refine W_skip ?_
  refine W_seq ?_
  refine W_region ?_
  refine OL_y (y_move h0) (by decide) ?_
  refine OL_y (y_move h1) (by decide) ?_
  refine OL_c (op_call 11 en11 rfl [.slice a0 xs.length c0, .int .u64 fr] rfl (by decide) ((f11_calls (hx.keeps (H.keepsAll 2 rfl _)) hfr h40).mono ?_))
  rintro e w5 ⟨v5, rfl, hv5, hE5⟩
  refine ⟨_, rfl, ?_⟩
  rw [walk_eq] at hv5
  have hyl : ((walkE xs fr).map (·.2)).length ≤ 40 := by rw [← walk_eq, List.length_map]; omega
  generalize hY : (walkE xs fr).map (·.2) = ys at hv5 hyl
  obtain ⟨a5, c5, rfl, hl5, hm5⟩ := hv5.len
  have hv5 := hv5.mono (Z' := fun k => w4.heap.size ≤ k ∧ k < w5.heap.size) fun k h1 h2 => ⟨h2, h1⟩
  have H := H.addNew hE5
  refine OL_var H ti26 rfl (by decide) (fun _ => rfl) rfl (by simp [Value.cells, Value.oneCell']) fun b9 w6 H => ?_
  refine OL_nil ?_
  refine W_seq ?_
  refine W_region ?_
  refine OL_y (y_assign rfl) (by decide) ?_
  refine OL_nil ?_
  refine W_seq ?_
  refine W_seq ?_
  refine W_region ?_
  refine OL_y (y_loadS ti26 rfl rfl (Cells.unit (H.getOwn 0 rfl) rfl)) (by decide) ?_
  refine OL_y (y_len rfl ti26 rfl) (by decide) ?_
  refine OL_y (y_move rfl) (by decide) ?_
  refine OL_nil ?_
  refine W_range (N := ys.length) (by simp [maxLen]; omega) (fun k f ds w' => f 0 = .slice a0 xs.length c0 ∧ f 1 = .int .u64 fr ∧ f 2 = .int .u64 to ∧ f 7 = .pointer (some ⟨b7, 0, none⟩) ∧ f 8 = .pointer (some ⟨b8, 0, none⟩) ∧ f 9 = .pointer (some ⟨b9, 0, none⟩) ∧ f 10 = .bool (decide (to ∈ ys.take k)) ∧ f 27 = .slice a5 ys.length c5 ∧ ds = [] ∧
      Holds w' [own b9 (.cells #[.slice a5 ys.length c5] 26), shr (fun k => w4.heap.size ≤ k ∧ k < w5.heap.size) w5, own b8 (.cells #[.bool false] 4), own b7 (.cells #[.int .i64 stop] 3), shr (fun k => k < w.heap.size) w])
    ⟨h0, h1, h2, h7, h8, rfl, rfl, rfl, rfl, H⟩ rfl rfl (by decide) (by decide) (by decide) rfl rfl ?_ rfl rfl ?_
  · rintro k f ds w7 hk ⟨h0, h1, h2, h7, h8, h9, h10, h27, rfl, H⟩ hti htn
    have hyk := List.getElem?_eq_getElem hk
    obtain ⟨b3, o3, cs3, e3, hz3, hc3, rfl, _⟩ := (hv5.keeps (H.keeps (i := 1) rfl)).at hyk
    subst e3
    have htk : ys.take (k + 1) = ys.take k ++ [ys[k]] := by rw [List.take_add_one, hyk]; rfl
    refine W_block ?_
    refine W_seq ?_
    refine W_region ?_
    refine OL_y (y_indexAddr ti26 ti23 h27 hti (by omega) (by omega)) (by decide) ?_
    refine OL_y (y_loadS ti23 rfl rfl hc3) (by decide) ?_
    refine OL_y (y_assign rfl) (by decide) ?_
    refine OL_nil ?_
    refine W_region ?_
    refine OL_y (y_move h10) (by decide) ?_
    refine OL_y (y_move rfl) (by decide) ?_
    by_cases hin : to ∈ ys.take k
    · rw [decide_eq_true hin]
      refine OL_s rfl (by decide) rfl rfl (by simp) ?_
      refine OL_s rfl (by decide) rfl rfl (by simp) ?_
      refine OL_s rfl (by decide) rfl rfl (by simp) ?_
      refine OL_y (y_pick (b := true) rfl rfl) (by decide) ?_
      refine OL_y (y_assign rfl) (by decide) ?_
      refine OL_nil ?_
      exact ⟨hti, htn, h0, h1, h2, h7, h8, h9, by rw [decide_eq_true (show to ∈ ys.take (k + 1) by rw [htk]; exact List.mem_append_left _ hin)]; rfl, h27, rfl, H⟩
    · rw [decide_eq_false hin]
      refine OL_yg rfl (by decide) rfl (y_move rfl) (by decide) ?_
      refine OL_yg rfl (by decide) rfl (y_move h2) (by decide) ?_
      refine OL_yg rfl (by decide) rfl (y_eql rfl rfl) (by decide) ?_
      refine OL_y (y_pick (b := false) rfl rfl) (by decide) ?_
      refine OL_y (y_assign rfl) (by decide) ?_
      refine OL_nil ?_
      have hd : decide (to ∈ ys.take (k + 1)) = decide (ys[k] = to) := by
        rw [decide_eq_decide, htk, List.mem_append, List.mem_singleton]
        exact ⟨fun h => (h.resolve_left hin).symm, fun h => .inr h.symm⟩
      exact ⟨hti, htn, h0, h1, h2, h7, h8, h9, by rw [hd]; rfl, h27, rfl, H⟩
  rintro f ds w7 ⟨h0, h1, h2, h7, h8, h9, h10, h27, rfl, H⟩ hti htn
  rw [List.take_length] at h10
  refine W_seq ?_
  refine W_seq ?_
  refine W_region ?_
  refine OL_y (y_move h0) (by decide) ?_
  refine OL_y (y_move h1) (by decide) ?_
  refine OL_y (y_move h2) (by decide) ?_
  refine OL_c (op_call 12 en12 rfl [.slice a0 xs.length c0, .int .u64 fr, .int .u64 to] rfl (by decide) ((f12_calls (hx.keeps (H.keepsAll 4 rfl _)) hfr h40).mono ?_))
  rintro e w8 ⟨rfl, hE8⟩
  refine ⟨_, rfl, ?_⟩
  rw [hY]
  have H := H.ext0 hE8
  refine OL_y (y_move h10) (by decide) ?_
  refine OL_y (y_neq_same (decide (to ∈ ys)) rfl rfl) (by decide) ?_
  refine OL_nil ?_
  refine W_condf rfl ?_
  refine W_skip ?_
  refine W_seq ?_
  refine W_region ?_
  refine OL_var (v := .int .i64 0) H ti3 rfl (by decide) (fun _ => rfl) rfl (by simp [Value.cells, Value.oneCell']) fun b13 w9 H => ?_
  refine OL_nil ?_
  refine W_seq ?_
  refine W_seq ?_
  refine W_region ?_
  refine OL_y (y_move h0) (by decide) ?_
  refine OL_y (y_move h1) (by decide) ?_
  refine OL_c (op_call 13 en13 rfl [.slice a0 xs.length c0, .int .u64 fr] rfl (by decide) (f13_calls.mono ?_))
  rintro e w10 ⟨bl, bf, rfl, hE, hbf, hbl, hn1, hn2⟩
  refine ⟨_, rfl, ?_⟩
  refine OL_nil ?_
  have Hw9 := H
  have H := H.ext0 hE
  have hxw := hx.keeps (H.keepsAll 5 rfl _)
  have hcell : ∀ (W : World), Keeps (fun k => w4.heap.size ≤ k ∧ k < w5.heap.size) w5 W → ∀ i y, ys[i]? = some y → ∃ b o, a5 = some ⟨b, o, none⟩ ∧ Cells W b (o + i * 1) [.int .u64 y] := fun W hK i y hy => by
    obtain ⟨b, o, cs, e, _, hc, rfl, _⟩ := (hv5.keeps hK).at hy
    exact ⟨b, o, e, hc⟩
  refine W_block ?_
  refine W_rangeFunc (Value.int .u64) ys (fun k => k = bf ∨ k = bl ∨ ((Zx k ∧ k < w.heap.size) ∧ k < w10.heap.size))
    (fun pre Ls => Ls = [own b13 (.cells #[.int .i64 pre.length] 3), own b9 (.cells #[.slice a5 ys.length c5] 26), shr (fun k => w4.heap.size ≤ k ∧ k < w5.heap.size) w5, own b8 (.cells #[.bool false] 4), own b7 (.cells #[.int .i64 stop] 3), shr (fun k => k < w.heap.size) w])
    (fun e pre Ls => e = .ret ∧ ∃ x, Ls = [own b13 x, own b9 (.cells #[.slice a5 ys.length c5] 26), shr (fun k => w4.heap.size ≤ k ∧ k < w5.heap.size) w5, own b8 (.cells #[.bool true] 4), own b7 (.cells #[.int .i64 stop] 3), shr (fun k => k < w.heap.size) w])
    rfl en17 (by decide) H rfl ?_ ?_ ?_ ?_ ?_ ?_ ?_
  · rintro pre Ls rfl at_ ha hx k hk
    simp only [List.mem_cons, List.not_mem_nil, or_false] at ha
    rcases ha with rfl | rfl | rfl | rfl | rfl | rfl
    · cases hx
    · cases hx
    · have := (H.get (i := 2) rfl).1; simp only at hk; omega
    · cases hx
    · cases hx
    · have := (H.get (i := 5) rfl).1; simp only at hk; omega
  · rintro e pre Ls ⟨_, x, rfl⟩ at_ ha hx k hk
    simp only [List.mem_cons, List.not_mem_nil, or_false] at ha
    rcases ha with rfl | rfl | rfl | rfl | rfl | rfl
    · cases hx
    · cases hx
    · have := (H.get (i := 2) rfl).1; simp only at hk; omega
    · cases hx
    · cases hx
    · have := (H.get (i := 5) rfl).1; simp only at hk; omega
  · intro k hk
    rcases hk with rfl | rfl | ⟨hk, hlt⟩
    · exact ⟨own_lt hbf, fun a ha _ hF => by have := (Hw9.ok a ha).2.1 k hF; omega⟩
    · exact ⟨own_lt hbl, fun a ha _ hF => by have := (Hw9.ok a ha).2.1 k hF; omega⟩
    · refine ⟨hlt, fun a ha hx hF => ?_⟩
      simp only [List.mem_cons, List.not_mem_nil, or_false] at ha
      rcases ha with rfl | rfl | rfl | rfl | rfl | rfl
      · have := Hw9.fresh 0 5 rfl rfl rfl k hF; have := hk.2; omega
      · have := Hw9.fresh 1 5 rfl rfl rfl k hF; have := hk.2; omega
      · cases hx
      · have := Hw9.fresh 3 5 rfl rfl rfl k hF; have := hk.2; omega
      · have := Hw9.fresh 4 5 rfl rfl rfl k hF; have := hk.2; omega
      · cases hx
  · intro w' hE'
    have := f17_iter (Zx := fun k => (Zx k ∧ k < w.heap.size) ∧ k < w10.heap.size) (blk_ext hbf hE') (blk_ext hbl hE') ((hxw.mono fun k hk hz => ⟨hz, hk⟩).keeps hE'.keeps0) hfr h40
    rw [hY] at this
    intro l B J Jx hR hJ hZ
    exact this l B J Jx hR hJ fun k hk => hZ k (hk.imp id (Or.imp id fun h => h.1))
  · rintro l' aL aL' aD aO pre x Ls Wd rfl hpre HH
    refine W_region ?_
    refine OL_y (y_assign rfl) (by decide) ?_
    refine OL_nil ?_
    refine ⟨_, HH, fun W2 HH => ?_⟩
    have hxk : ys[pre.length]? = some x := by
      obtain ⟨c, hc⟩ := hpre
      rw [← hc]; simp
    have hlt := (List.getElem?_eq_some_iff.1 hxk).1
    refine W_block ?_
    refine W_seq ?_
    refine W_seq ?_
    refine W_region ?_
    refine OL_y (y_loadS (v := .int .i64 pre.length) ti3 rfl rfl (Cells.unit (HH.getOwn 3 rfl) rfl)) (by decide) ?_
    refine OL_y (y_loadS (v := .int .i64 stop) ti3 rfl h7 (Cells.unit (HH.getOwn 7 rfl) rfl)) (by decide) ?_
    refine OL_y (y_eql rfl rfl) (by decide) ?_
    refine OL_nil ?_
    refine W_cond rfl (fun hc => ?_) (fun hc => ?_)
    · refine W_seq ?_
      refine W_region ?_
      refine OL_c (op_store (v := .bool true) HH 6 rfl ti4 h8 rfl rfl (by decide) (by simp [Value.cells, Value.oneCell']) fun w4 HH => ?_)
      refine OL_nil ?_
      refine W_ret ?_
      exact ⟨_, ⟨rfl, _, rfl⟩, HH⟩
    refine W_skip ?_
    obtain ⟨b3, o3, rfl, hc3⟩ := hcell W2 (HH.keeps (i := 5) rfl) _ _ hxk
    have hb : decide ((pre.length : Int) ≥ (ys.length : Int)) = false := decide_eq_false (by omega)
    refine W_seq ?_
    refine W_seq ?_
    refine W_region ?_
    refine OL_y (y_loadS (v := .int .i64 pre.length) ti3 rfl rfl (Cells.unit (HH.getOwn 3 rfl) rfl)) (by decide) ?_
    refine OL_y (y_loadS ti26 rfl h9 (Cells.unit (HH.getOwn 4 rfl) rfl)) (by decide) ?_
    refine OL_y (y_len rfl ti26 rfl) (by decide) ?_
    refine OL_y (y_geq rfl rfl) (by decide) ?_
    refine OL_y (y_move rfl) (by decide) ?_
    refine OL_yg rfl (by decide) (show _ = Value.bool false by simp only [← hb]; rfl) (y_move rfl) (by decide) ?_
    refine OL_yg rfl (by decide) (show _ = Value.bool false by simp only [← hb]; rfl) (y_loadS ti26 rfl h9 (Cells.unit (HH.getOwn 4 rfl) rfl)) (by decide) ?_
    refine OL_yg rfl (by decide) (show _ = Value.bool false by simp only [← hb]; rfl) (y_loadS (v := .int .i64 pre.length) ti3 rfl rfl (Cells.unit (HH.getOwn 3 rfl) rfl)) (by decide) ?_
    refine OL_yg rfl (by decide) (show _ = Value.bool false by simp only [← hb]; rfl) (y_indexAddr ti26 ti23 rfl rfl (by omega) (by omega)) (by decide) ?_
    refine OL_yg rfl (by decide) (show _ = Value.bool false by simp only [← hb]; rfl) (y_loadS (v := .int .u64 x) ti23 rfl rfl hc3) (by decide) ?_
    refine OL_yg rfl (by decide) (show _ = Value.bool false by simp only [← hb]; rfl) (y_neq rfl rfl) (by decide) ?_
    rw [decide_eq_false (show ¬ (x ≠ x) from fun h => h rfl)]
    refine OL_y (y_pick (b := false) (v := .bool false) (show _ = Value.bool false by simp only [← hb]; rfl) rfl) (by decide) ?_
    refine OL_nil ?_
    refine W_condf rfl ?_
    refine W_skip ?_
    refine W_region ?_
    refine OL_y (y_loadS (v := .int .i64 pre.length) ti3 rfl rfl (Cells.unit (HH.getOwn 3 rfl) rfl)) (by decide) ?_
    refine OL_y (y_add64 (a := pre.length) (b := 1) rfl rfl (by omega) (by omega)) (by decide) ?_
    refine OL_c (op_store (v := .int .i64 ((pre.length : Int) + 1)) HH 3 rfl ti3 rfl rfl rfl (by simp) (by simp [Value.cells, Value.oneCell']) fun w11 HH => ?_)
    refine OL_nil ?_
    have hle : ((pre ++ [x]).length : Int) = (pre.length : Int) + 1 := by simp
    refine ⟨_, rfl, ?_⟩
    rw [hle]; exact HH
  · rintro D Ls W rfl HH
    refine W_seq ?_
    refine W_region ?_
    refine OL_y (y_loadS (v := .int .i64 ys.length) ti3 rfl rfl (Cells.unit (HH.getOwn 1 rfl) rfl)) (by decide) ?_
    refine OL_y (y_loadS ti26 rfl h9 (Cells.unit (HH.getOwn 2 rfl) rfl)) (by decide) ?_
    refine OL_y (y_len rfl ti26 rfl) (by decide) ?_
    refine OL_y (y_eql rfl rfl) (by decide) ?_
    rw [decide_eq_true (rfl : (ys.length : Int) = ys.length)]
    refine OL_c (op_store (v := .bool true) HH 4 rfl ti4 h8 rfl rfl (by decide) (by simp [Value.cells, Value.oneCell']) fun w4 HH => ?_)
    refine OL_nil ?_
    refine W_ret ?_
    refine RetOK.mark (HH.getOwn 0 rfl) ?_
    have HH := HH.put 0 rfl (.deferred none)
    exact ret1c (v := .bool true) Try.results5 h8 (run_loadVarS ti4 rfl (Cells.unit (HH.getOwn 4 rfl) rfl)) ⟨rfl, HH.ext_of 6 rfl⟩
  · rintro D pre Ls W e hpre ⟨rfl, x, rfl⟩ HH
    refine RetOK.mark (HH.getOwn 0 rfl) ?_
    have HH := HH.put 0 rfl (.deferred none)
    exact ret1c (v := .bool true) Try.results5 h8 (run_loadVarS ti4 rfl (Cells.unit (HH.getOwn 4 rfl) rfl)) ⟨rfl, HH.ext_of 6 rfl⟩
end Go.Proofs.Ytplpedigkhgakaa
