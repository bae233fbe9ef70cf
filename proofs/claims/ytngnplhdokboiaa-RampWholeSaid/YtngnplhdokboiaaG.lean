/- What is shown of a span. -/
import Derived.Test.YtngnplhdokboiaaF
import Derived.Test.YtngnplhdokboiaaWkq
namespace Go.Proofs.Ytngnplhdokboiaa
open Go Go.Wk
set_option linter.unusedVariables false
set_option linter.unusedSimpArgs false

/-- What a call made is pooled. -/
theorem _root_.Go.Wk.Holds.poolCall {w w' w0 : World} {L : List Atom} {Z : Nat → Prop} (H : Holds w L) (hE : Ext none' w w') (j : Nat) (hj : L[j]? = some (shr Z w0)) : Holds w' (shr (fun k => Z k ∨ (w.heap.size ≤ k ∧ k < w'.heap.size)) w' :: L) := by
  refine (H.ext0 hE).share _ (fun k hk => hk.elim (fun h => Nat.lt_of_lt_of_le ((H.ok _ (List.mem_of_getElem? hj)).2.1 k h) hE.size) (·.2)) fun a ha hx k hk hF => ?_
  rcases hk with hk | hk
  · obtain ⟨i, hi⟩ := List.getElem?_of_mem ha
    have hij : i ≠ j := fun e => by subst e; rw [hj] at hi; injection hi with hi; subst hi; cases hx
    obtain ⟨l1, e1⟩ := List.getElem?_eq_some_iff.1 hi
    obtain ⟨l2, e2⟩ := List.getElem?_eq_some_iff.1 hj
    have hp := List.pairwise_iff_getElem.1 H.apart
    rcases Nat.lt_or_gt_of_ne hij with h | h
    · have := hp i j l1 l2 h; rw [e1, e2] at this; exact this (.inl hx) k hF hk
    · have := hp j i l2 l1 h; rw [e1, e2] at this; exact this (.inr hx) k hk hF
  · have := (H.ok a ha).2.1 k hF; omega

theorem rowLt' {w : World} {base e sz n : Nat} {v : Value} {cs : List Value} (h : w.ownsRow base e sz v n cs) : ∀ k, v.ownBlock = some k → k < w.heap.size := by
  intro k hk
  rcases h.2 with ⟨rfl, h0⟩ | ⟨g, cap, cur, rfl, _, hh, hc, hm, hsz, ht⟩
  · cases hk
  · injection hk with hk; subst hk; exact own_lt hh
structure Shows (s : Sp) (cells : List Cl) (keys : List Key) : Prop where
  nodup : (cells.map (·.key)).Nodup
  mem : ∀ c ∈ cells, c.key ∈ keys
  within : ∀ c ∈ cells, withinB c.key s.lo s.hi = true
  six : ∀ c ∈ cells, ∀ v ∈ c.vers, v.keys.length ≤ 6
  len : cells.length ≤ keys.length
theorem Shows.key {s : Sp} {cells : List Cl} {keys : List Key} (h : Shows s cells keys) (k : Key) : Shows s cells (keys ++ [k]) :=
  ⟨h.nodup, fun c hc => List.mem_append.2 (.inl (h.mem c hc)), h.within, h.six, by rw [List.length_append]; have := h.len; omega⟩
theorem Shows.cell {s : Sp} {cells : List Cl} {keys : List Key} (h : Shows s cells keys) {c : Cl} (hk : c.key ∉ keys) (hw : withinB c.key s.lo s.hi = true) (h6 : ∀ v ∈ c.vers, v.keys.length ≤ 6) : Shows s (cells ++ [c]) (keys ++ [c.key]) := by
  have hs : ∀ x ∈ cells ++ [c], x ∈ cells ∨ x = c := fun x hx => by rcases List.mem_append.1 hx with hx | hx <;> simp_all
  refine ⟨?_, fun x hx => ?_, fun x hx => ?_, fun x hx => ?_, by rw [List.length_append, List.length_append]; have := h.len; simp; omega⟩
  · rw [List.map_append, List.nodup_append]
    refine ⟨h.nodup, by simp, fun a ha b hb hab => ?_⟩
    obtain ⟨x, hx, rfl⟩ := List.mem_map.1 ha
    simp only [List.map_cons, List.map_nil, List.mem_singleton] at hb
    exact hk (by rw [← hb, ← hab]; exact h.mem x hx)
  · rcases hs x hx with hx | rfl
    · exact List.mem_append.2 (.inl (h.mem x hx))
    · simp
  · rcases hs x hx with hx | rfl
    · exact h.within x hx
    · exact hw
  · rcases hs x hx with hx | rfl
    · exact h.six x hx
    · exact h6

set_option maxHeartbeats 16000000 in
theorem f14_calls {Z0 : Nat → Prop} {w : World} {a vb : Value} {ss : List Value} {xs : List Sn} {s : Sp} {bits : List Int} {i : Int} (hZ0 : ∀ k, Z0 k → k < w.heap.size) (hx : SlR tSn 64 Z0 w a xs) (hs : tSp.R Z0 w ss s) (hb : SlR (tInt .i64) 8 Z0 w vb bits) (hi0 : 0 ≤ i) (hi4 : i ≤ 4)
    (hl : xs.length ≤ 8) (hl6 : ∀ x ∈ xs, x.keys.length ≤ 6) :
    Calls Try.prog 14 [a, .agg ss.toArray, vb, .int .i64 i].toArray w fun e w' => ∃ (v : Value) (cells : List Cl) (keys : List Key), e = .returned v ∧ Shows s cells keys ∧ cells.length ≤ 48 ∧ SlR tCl 120 (fun k => Z0 k ∨ w.heap.size ≤ k) w' v cells ∧ Ext none' w w' := by
  have H := Holds.start w
  obtain ⟨a0, c0, rfl, hl0, hm0⟩ := hx.len
  obtain ⟨ab, cb, rfl, hlb, hmb⟩ := hb.len
  obtain ⟨wl, wh, rfl, hlo, hhi⟩ := sp_cells.1 hs
  refine calls_of_W' Try.func14 rfl Try.ntmps14 rfl ?_
  refine W_seq ?_
  refine W_region ?_
  refine OL_c (op_box (v := .agg #[wl, wh]) H rfl (by decide) fun b5 w0_0 H => ?_)
  refine OL_y (y_assign rfl) (by decide) ?_
  refine OL_nil ?_
  refine W_seq ?_
  refine W_region ?_
  refine OL_y (y_assign rfl) (by decide) ?_
  refine OL_nil ?_
  refine W_seq ?_
  refine W_region ?_
  refine OL_y (y_assign rfl) (by decide) ?_
  refine OL_nil ?_
  refine W_seq ?_
  refine W_seq ?_
  refine W_region ?_
  refine OL_y (y_move rfl) (by decide) ?_
  refine OL_y (y_len rfl ti35 rfl) (by decide) ?_
  refine OL_y (y_move rfl) (by decide) ?_
  refine OL_nil ?_
  have H := (H.share Z0 (fun k h => Nat.lt_of_lt_of_le (hZ0 k h) (H.keepsAll 1 rfl Z0).1) (fun a ha hx k h hF => by
    have := H.fresh 0 1 rfl rfl rfl k; simp only [List.mem_cons, List.not_mem_nil, or_false] at ha; have hz := hZ0 k h; rcases ha with rfl | rfl
    · have := this hF; omega
    · cases hx))
  have H := (H.rowNil 22 1).rowNil 34 7
  refine W_range (N := xs.length) (by omega) (fun k f ds w' => ∃ (v9 v10 : Value) (c9 c10 : List Value) (cells : List Cl) (keys : List Key) (Zp : Nat → Prop) (Wp : World), f 0 = .slice a0 xs.length c0 ∧ f 2 = .slice ab bits.length cb ∧ f 3 = .int .i64 i ∧ f 5 = .pointer (some ⟨b5, 0, none⟩) ∧ f 9 = v9 ∧ f 10 = v10 ∧ f 16 = .slice a0 xs.length c0 ∧ ds = [] ∧ Els tCl Zp Wp c9 cells ∧ Els tKey Z0 w c10 keys ∧ Shows s cells keys ∧ keys.length ≤ 6 * k ∧ (∀ k, Z0 k → Zp k) ∧ (∀ k, Zp k → Z0 k ∨ w.heap.size ≤ k) ∧
      Holds w' [row 34 7 v9 cells.length c9, row 22 1 v10 keys.length c10, shr Zp Wp, own b5 (.cells #[wl, wh] 24), shr (fun k => k < w.heap.size) w])
      ⟨_, _, [], [], [], [], Z0, _, rfl, rfl, rfl, rfl, rfl, rfl, rfl, rfl, Els.nil _ _ _, Els.nil _ _ _, ⟨by simp, by simp, by simp, by simp, by simp⟩, by simp, fun _ h => h, fun _ h => .inl h, H⟩
      rfl rfl (by decide) (by decide) (by decide) rfl rfl ?_ rfl rfl ?_
  · rintro k f ds w1 hk ⟨v9, v10, c9, c10, cells, keys, Zp, Wp, h0, h2, h3, h5, h9, h10, h16, rfl, hE9, hE10, hSh, hkl, hZp, hZn, H⟩ hti htn
    have hxk := List.getElem?_eq_getElem hk
    obtain ⟨b1, o1, cs1, e1, hz1, hc1, hr1⟩ := hx.at hxk
    have hc1' := hc1.ext ((H.keepsAll 4 rfl Z0).2 _ hz1 hc1.lt)
    have hsm := hl6 _ (List.getElem_mem hk)
    generalize xs[k] = t at *
    obtain ⟨wk, wt, rfl, hwk, hs1, hs2, hwt⟩ := sn_cells.1 hr1
    have hone := tSn.one hr1
    obtain ⟨al, cl, rfl, hll, hml⟩ := hwt.len
    have h16' := h16.trans (congrArg (Value.slice · _ _) e1)
    refine W_block ?_
    refine W_seq ?_
    refine W_region ?_
    refine OL_y (y_indexAddr ti35 ti39 h16' hti (by omega) (by omega)) (by decide) ?_
    refine OL_y (y_loadA ti39 rfl rfl hc1' rfl) (by decide) ?_
    refine OL_var (v := .agg #[wk, .int .u64 t.ts, .int .u64 t.txn, .slice al t.keys.length cl]) H ti39 rfl (by decide) (fun _ => rfl) rfl (hone) fun b12 w5_2 H => ?_
    refine OL_nil ?_
    refine W_seq ?_
    refine W_region ?_
    refine OL_y (y_fieldAddr ti39 rfl ti30 rfl rfl) (by decide) ?_
    refine OL_y (y_loadS (v := .slice al t.keys.length cl) ti30 rfl rfl (Cells.unit (H.getOwn 0 rfl) rfl)) (by decide) ?_
    refine OL_y (y_len rfl ti30 rfl) (by decide) ?_
    refine OL_y (y_move rfl) (by decide) ?_
    refine OL_nil ?_
    refine W_range (N := t.keys.length) (by omega) (fun j g ds w' => ∃ (v9 v10 : Value) (c9 c10 : List Value) (cells : List Cl) (keys : List Key) (Zp : Nat → Prop) (Wp : World), g 0 = .slice a0 xs.length c0 ∧ g 2 = .slice ab bits.length cb ∧ g 3 = .int .i64 i ∧ g 5 = .pointer (some ⟨b5, 0, none⟩) ∧ g 9 = v9 ∧ g 10 = v10 ∧ g 16 = .slice a0 xs.length c0 ∧ g 18 = f 18 ∧ g 17 = f 17 ∧ g 23 = .slice al t.keys.length cl ∧ ds = [] ∧ Els tCl Zp Wp c9 cells ∧ Els tKey Z0 w c10 keys ∧ Shows s cells keys ∧ keys.length ≤ 6 * k + j ∧ (∀ k, Z0 k → Zp k) ∧ (∀ k, Zp k → Z0 k ∨ w.heap.size ≤ k) ∧
        Holds w' [row 34 7 v9 cells.length c9, row 22 1 v10 keys.length c10, shr Zp Wp, own b5 (.cells #[wl, wh] 24), shr (fun k => k < w.heap.size) w])
        ⟨v9, v10, c9, c10, cells, keys, Zp, Wp, h0, h2, h3, h5, h9, h10, h16, rfl, rfl, rfl, rfl, hE9, hE10, hSh, hkl, hZp, hZn, H.tail⟩
        rfl rfl (by decide) (by decide) (by decide) rfl rfl ?_ rfl rfl ?_
    · rintro j g ds w2 hj ⟨v9, v10, c9, c10, cells, keys, Zp, Wp, h0, h2, h3, h5, h9, h10, h16, h18, h17, h23, rfl, hE9, hE10, hSh, hkl, hZp, hZn, H⟩ htj htm
      have hkj := List.getElem?_eq_getElem hj
      obtain ⟨b2, o2, cs2, e2, hz2, hc2, hr2⟩ := hwt.at hkj
      have hc2' := hc2.ext ((H.keepsAll 4 rfl Z0).2 _ hz2 hc2.lt)
      obtain ⟨vy, rfl, hvy⟩ := hr2
      generalize t.keys[j] = key at *
      obtain ⟨a10, c10', rfl, hl10, hm10⟩ := H.rowLen 1 rfl
      have kp := H.keepsAll 4 rfl Z0
      obtain ⟨Z1, hZ1⟩ : ∃ Z1 : Nat → Prop, Z1 = fun k => Z0 k ∨ w.heap.size ≤ k := ⟨_, rfl⟩
      have hY : SlR tKey 24 Z1 w2 (.slice a10 keys.length c10') keys := SlR.ofRow (H.getRow 1 rfl) (by decide) ((hE10.keeps kp).mono fun _ _ h => by rw [hZ1]; exact .inl h) (fun k hk => by rw [hZ1]; exact .inr (H.fresh 1 4 rfl rfl rfl k hk)) (by omega)
      have hvy1 : SlR (tInt .u8) 1 Z1 w2 vy key := (hvy.keeps kp).mono fun _ _ h => by rw [hZ1]; exact .inl h
      obtain ⟨ay, cy, rfl, hly, hmy⟩ := hvy.len
      have h23' := h23.trans (congrArg (Value.slice · _ _) e2)
      refine W_block ?_
      refine W_seq ?_
      refine W_region ?_
      refine OL_y (y_indexAddr ti30 ti22 h23' htj (by omega) (by omega)) (by decide) ?_
      refine OL_y (y_loadS (v := .slice ay key.length cy) ti22 rfl rfl hc2') (by decide) ?_
      refine OL_y (y_assign rfl) (by decide) ?_
      refine OL_nil ?_
      refine W_seq ?_
      refine W_seq ?_
      rcases hh : decide (key ∈ keys) with _ | _
      · refine W_region ?_
        refine OL_y (y_move h10) (by decide) ?_
        refine OL_y (y_move rfl) (by decide) ?_
        refine OL_c (op_call 22 en22 rfl [.slice a10 keys.length c10', .slice ay key.length cy] rfl (by decide) (((show Calls Try.prog 22 [_, _].toArray _ fun e w' => e = .returned (.bool false) ∧ Ext none' _ w' by have := f22_calls hY hvy1; rw [hh] at this; exact this)).mono ?_))
        rintro e w9_2 ⟨rfl, hE22⟩
        refine ⟨_, rfl, ?_⟩
        have H := H.ext0 hE22
        refine OL_y (y_move (v := .bool false) rfl) (by decide) ?_
        refine OL_yg rfl (by decide) rfl (y_move rfl) (by decide) ?_
        refine OL_yg rfl (by decide) rfl (y_fieldAddr ti24 rfl ti22 rfl h5) (by decide) ?_
        refine OL_yg rfl (by decide) rfl (y_loadS (v := wl) ti22 rfl rfl (Cells.unit (H.getOwn 3 rfl) rfl)) (by decide) ?_
        refine OL_yg rfl (by decide) rfl (y_fieldAddr ti24 rfl ti22 rfl h5) (by decide) ?_
        refine OL_yg rfl (by decide) rfl (y_loadS (v := wh) ti22 rfl rfl (Cells.unit (H.getOwn 3 rfl) rfl)) (by decide) ?_
        refine OL_g rfl (by decide) rfl (op_call 15 en15 rfl [.slice ay key.length cy, wl, wh] rfl (by decide) ((f15_calls (hvy.keeps (H.keepsAll 4 rfl Z0)) (hlo.keeps (H.keepsAll 4 rfl Z0)) (hhi.keeps (H.keepsAll 4 rfl Z0))).mono ?_))
        rintro e w9_9 ⟨rfl, hE15⟩
        refine ⟨_, rfl, ?_⟩
        have H := H.ext0 hE15
        refine OL_yg rfl (by decide) rfl (y_not rfl) (by decide) ?_
        refine OL_y (y_pick (b := false) rfl rfl) (by decide) ?_
        refine OL_nil ?_
        refine W_cond rfl (fun hc => ?_) (fun hc => ?_)
        · refine W_exit ?_
          exact ⟨htj, htm, _, _, c9, c10, cells, keys, Zp, Wp, h0, h2, h3, h5, h9, h10, h16, h18, h17, h23, rfl, hE9, hE10, hSh, by omega, hZp, hZn, H⟩
        · refine W_skip ?_
          refine W_seq ?_
          have hwi : withinB key s.lo s.hi = true := by simpa using hc
          have hnk := of_decide_eq_false hh
          refine W_region ?_
          refine OL_y (y_move h10) (by decide) ?_
          refine OL_y (y_move rfl) (by decide) ?_
          refine OL_c (op_buildSlice H [.slice ay key.length cy] ti30 ti22 rfl rfl rfl (by simp [Value.cells]) rfl rfl (by decide) fun b43 w10_2 H => ?_)
          refine OL_c (op_append H 2 rfl rfl ti30 ti22 rfl rfl rfl rfl (Src.row (H.getRow 0 rfl)) rfl (by simp [Value.cells, Value.oneCell']) (by omega) (by simp [maxLen]; omega) (by decide) fun v44 w10_3 H => ?_)
          refine OL_y (y_assign rfl) (by decide) ?_
          refine OL_nil ?_
          refine W_seq ?_
          have H : Holds _ [row 34 7 v9 cells.length c9, row 22 1 v44 (keys.length + 1) (c10 ++ [.slice ay key.length cy]), shr Zp Wp, own b5 (.cells #[wl, wh] 24), shr (fun k => k < w.heap.size) w] := H.tail
          have kp11 := H.keepsAll 4 rfl Z0
          have hE10' : Els tKey Z0 w (c10 ++ [.slice ay key.length cy]) (keys ++ [key]) := hE10.snoc ⟨_, rfl, hvy⟩
          refine W_region ?_
          refine OL_y (y_move h0) (by decide) ?_
          refine OL_y (y_move rfl) (by decide) ?_
          refine OL_y (y_move h2) (by decide) ?_
          refine OL_y (y_move h3) (by decide) ?_
          refine OL_c (op_call 23 en23 rfl [.slice a0 xs.length c0, .slice ay key.length cy, .slice ab bits.length cb, .int .i64 i] rfl (by decide) ((f23_calls (hx.keeps kp11) (hvy.keeps kp11) (hb.keeps kp11) hi0 hi4 hl hl6).mono ?_))
          rintro e w11_4 ⟨ccs, vers, rfl, hv6, hcr, hE23⟩
          refine ⟨_, rfl, ?_⟩
          have hkpp : Keeps Zp Wp w10_3 := H.keeps (i := 2) rfl
          have hszp : ∀ k, Zp k → k < w10_3.heap.size := (H.ok _ (List.mem_of_getElem? (l := _) (i := 2) rfl)).2.1
          have H := H.poolCall hE23 2 rfl
          obtain ⟨Zq, hZq⟩ : ∃ Zq : Nat → Prop, Zq = fun k => Zp k ∨ (w10_3.heap.size ≤ k ∧ k < w11_4.heap.size) := ⟨_, rfl⟩
          rw [← hZq] at H
          have hZqn : ∀ k, Zq k → Z0 k ∨ w.heap.size ≤ k := fun k h => by rw [hZq] at h; exact h.elim (hZn k) fun h => .inr (Nat.le_trans kp11.1 h.1)
          have hcq := tCl.mono (Z' := Zq) hcr fun k h1 h2 => by rw [hZq]; exact h2.elim (fun h => .inl (hZp k h)) (fun h => .inr ⟨h, h1⟩)
          have hE9' : Els tCl Zq w11_4 c9 cells := ((hE9.keeps hkpp).keeps ⟨hE23.size, fun k hz hk => hE23.blk k hk (fun h => h)⟩).mono fun k _ h => by rw [hZq]; exact .inl h
          have H : Holds w11_4 [row 34 7 v9 cells.length c9, row 22 1 v44 (keys.length + 1) (c10 ++ [.slice ay key.length cy]), shr Zq w11_4, own b5 (.cells #[wl, wh] 24), shr (fun k => k < w.heap.size) w] := (H.perm (List.Perm.trans (List.Perm.swap _ _ _) (List.Perm.cons _ (List.Perm.swap _ _ _)))).sub (.cons_cons _ (.cons_cons _ (.cons_cons _ (.cons _ (.refl _)))))
          obtain ⟨uk, uv, us, rfl, huk, huv, hui⟩ := cl_cells.1 hcq
          obtain ⟨iv, ik, rfl, -⟩ := ver_cells.1 hui
          obtain ⟨av, cv, rfl, hlv, hmv⟩ := huv.len
          have honeq := tCl.one hcq
          refine OL_var (v := .agg #[uk, .slice av vers.length cv, .int .u64 0, .int .u64 0, .bool false, iv, ik]) H ti34 rfl (by decide) (fun _ => rfl) rfl (honeq) fun b15 w11_5 H => ?_
          refine OL_nil ?_
          refine W_seq ?_
          refine W_region ?_
          refine OL_y (y_fieldAddr ti34 rfl ti28 rfl rfl) (by decide) ?_
          refine OL_y (y_loadS (v := .slice av vers.length cv) ti28 rfl rfl (Cells.unit (H.getOwn 0 rfl) rfl)) (by decide) ?_
          refine OL_y (y_len rfl ti28 rfl) (by decide) ?_
          refine OL_y (y_gtr rfl rfl) (by decide) ?_
          refine OL_nil ?_
          refine W_cond rfl (fun hc => ?_) (fun hc => ?_)
          · refine W_region ?_
            refine OL_y (y_move h9) (by decide) ?_
            refine OL_y (y_loadA (cs := [uk, .slice av vers.length cv, .int .u64 0, .int .u64 0, .bool false, iv, ik]) ti34 rfl rfl (Cells.of (H.getOwn 0 rfl) rfl) rfl) (by decide) ?_
            refine OL_c (op_buildSlice H [.agg #[uk, .slice av vers.length cv, .int .u64 0, .int .u64 0, .bool false, iv, ik]] ti25 ti34 rfl rfl rfl (by simp [Value.cells]) rfl rfl (by decide) fun b56 w13_2 H => ?_)
            refine OL_c (op_append H 2 rfl rfl ti25 ti34 rfl rfl rfl rfl (Src.row (H.getRow 0 rfl)) rfl (by simpa [Value.cells, noV] using honeq) (by have := hSh.len; omega) (by have := hSh.len; simp [maxLen]; omega) (by decide) fun v57 w13_3 H => ?_)
            refine OL_y (y_assign rfl) (by decide) ?_
            refine OL_nil ?_
            refine ⟨htj, htm, v57, v44, _, _, cells ++ [⟨key, vers, noV⟩], keys ++ [key], Zq, w11_4, h0, h2, h3, h5, rfl, rfl, h16, h18, h17, h23, rfl, hE9'.snoc hcq, hE10', hSh.cell hnk hwi hv6, by rw [List.length_append]; simp; omega, fun k h => by rw [hZq]; exact .inl (hZp k h), hZqn, ?_⟩
            rw [List.length_append, List.length_append]
            have H2 := H.tail
            exact (H2.perm (List.Perm.swap _ _ _)).sub (.cons_cons _ (.cons _ (.refl _)))
          · refine W_skip ?_
            refine ⟨htj, htm, _, v44, c9, _, cells, keys ++ [key], Zq, w11_4, h0, h2, h3, h5, h9, rfl, h16, h18, h17, h23, rfl, hE9', hE10', hSh.key key, by rw [List.length_append]; simp; omega, fun k h => by rw [hZq]; exact .inl (hZp k h), hZqn, ?_⟩
            rw [List.length_append]; exact H.tail
      · refine W_region ?_
        refine OL_y (y_move h10) (by decide) ?_
        refine OL_y (y_move rfl) (by decide) ?_
        refine OL_c (op_call 22 en22 rfl [.slice a10 keys.length c10', .slice ay key.length cy] rfl (by decide) (((show Calls Try.prog 22 [_, _].toArray _ fun e w' => e = .returned (.bool true) ∧ Ext none' _ w' by have := f22_calls hY hvy1; rw [hh] at this; exact this)).mono ?_))
        rintro e w9_2 ⟨rfl, hE22⟩
        refine ⟨_, rfl, ?_⟩
        have H := H.ext0 hE22
        refine OL_y (y_move (v := .bool true) rfl) (by decide) ?_
        refine OL_s rfl (by decide) rfl rfl (by simp) ?_
        refine OL_s rfl (by decide) rfl rfl (by simp) ?_
        refine OL_s rfl (by decide) rfl rfl (by simp) ?_
        refine OL_s rfl (by decide) rfl rfl (by simp) ?_
        refine OL_s rfl (by decide) rfl rfl (by simp) ?_
        refine OL_s rfl (by decide) rfl rfl (by simp) ?_
        refine OL_s rfl (by decide) rfl rfl (by simp) ?_
        refine OL_y (y_pick (b := true) (v := .bool true) rfl rfl) (by decide) ?_
        refine OL_nil ?_
        refine W_condt rfl ?_
        refine W_exit ?_
        exact ⟨htj, htm, _, _, c9, c10, cells, keys, Zp, Wp, h0, h2, h3, h5, h9, h10, h16, h18, h17, h23, rfl, hE9, hE10, hSh, by omega, hZp, hZn, H⟩
    · rintro g ds w2 ⟨v9, v10, c9, c10, cells, keys, Zp, Wp, h0, h2, h3, h5, h9, h10, h16, h18, h17, h23, rfl, hE9, hE10, hSh, hkl, hZp, hZn, H⟩ htj htm
      have h18' := h18.trans hti
      have h17' := h17.trans htn
      exact ⟨h18', h17', v9, v10, c9, c10, cells, keys, Zp, Wp, h0, h2, h3, h5, h9, h10, h16, rfl, hE9, hE10, hSh, by omega, hZp, hZn, H⟩
  · rintro f ds w1 ⟨v9, v10, c9, c10, cells, keys, Zp, Wp, h0, h2, h3, h5, h9, h10, h16, rfl, hE9, hE10, hSh, hkl, hZp, hZn, H⟩ hti htn
    refine W_seq ?_
    refine W_region ?_
    refine OL_y (y_move h9) (by decide) ?_
    refine OL_y (y_assign rfl) (by decide) ?_
    refine OL_nil ?_
    refine W_ret ?_
    show RetOK _ _ _ _ _ _
    have hcl := hSh.len
    refine ret1 (v := v9) Try.results14 rfl ⟨_, cells, keys, rfl, hSh, by omega, SlR.ofRow (H.getRow 0 rfl) (by decide) ((hE9.keeps (H.keeps (i := 2) rfl)).mono fun k _ h => hZn k h) (fun k hk => .inr (H.fresh 0 4 rfl rfl rfl k hk)) (by omega), H.ext_of 4 rfl⟩
end Go.Proofs.Ytngnplhdokboiaa
