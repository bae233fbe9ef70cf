/- The program's walk: an iterator over the edges by which nodes are come to. -/
import Derived.Test.YtplpedigkhgakaaWt
import Derived.Test.YtplpedigkhgakaaB
namespace Go.Proofs.Ytplpedigkhgakaa
open Go Go.Wk Pl
set_option linter.unusedVariables false

def encE (x : E) : Value := .agg #[.int .u64 x.1, .int .u64 x.2]
theorem ku (P : Program) (t : TypeId) (h : P.underlying t = some (.int .u64)) : KeyOK P t (Value.int .u64) := KeyOK.int h
def mOf (out : List E) : List (Int × Value) := out.map fun s => (s.1, .bool true)
theorem mOf_keys (out : List E) : (mOf out).map (·.1) = out.map (·.1) := by simp [mOf]
theorem mOf_get (out : List E) (x : Int) : (mget (mOf out) x).getD (.bool false) = .bool (decide (x ∈ out.map (·.1))) := by
  by_cases h : x ∈ out.map (·.1)
  · have : mget (mOf out) x = some (.bool true) := by
      unfold mget mOf
      rw [List.find?_map, Option.map_map]
      obtain ⟨s, hs, rfl⟩ := List.mem_map.1 h
      cases hf : out.find? ((fun x => decide (x.1 = s.1)) ∘ fun s => (s.1, Value.bool true)) with
      | none => have := List.find?_eq_none.1 hf s hs; simp at this
      | some y => simp
    rw [this]; simp only [decide_eq_true h]; rfl
  · have : mget (mOf out) x = none := by rw [mget_none, mOf_keys]; exact h
    rw [this]; simp only [decide_eq_false h]; rfl
theorem mOf_set (out : List E) (x y : Int) (h : x ∉ out.map (·.1)) : mset (mOf out) x (.bool true) = mOf (out ++ [(x, y)]) := by
  unfold mset; rw [if_neg (by rw [mOf_keys]; exact h)]; simp [mOf]

set_option maxHeartbeats 1000000 in
theorem f18_iter {Zx : Nat → Prop} {w : World} {a : Value} {xs : List E} {fr : Int} {bf bl : Nat} (hbf : w.heap[bf]? = some (.cells #[.int .u64 fr] 23)) (hbl : w.heap[bl]? = some (.cells #[a] 22)) (hx : SlR tE 16 Zx w a xs) (hfr : InK .u64 fr) (h40 : xs.length ≤ 40) :
    Iter Try.prog 18 [.pointer (some ⟨bf, 0, none⟩), .pointer (some ⟨bl, 0, none⟩)] encE (walkE xs fr) (fun k => k = bf ∨ k = bl ∨ (Zx k ∧ k < w.heap.size)) w := by
  intro l B0 J Jx hR hJ0 hZ
  obtain ⟨H, hIt⟩ := hR.start hJ0
  obtain ⟨a0, c0, rfl, hl0, hm0⟩ := hx.len
  have hbfl := own_lt hbf
  have hbll := own_lt hbl
  -- what is read stays
  have rdf : ∀ {W : World} {L : List Atom} (j : Nat), Holds W L → L[j]? = some (aZ B0 w) → W.heap[bf]? = some (.cells #[.int .u64 fr] 23) := fun j H hj => by
    obtain ⟨_, _, _, _, e⟩ := H.get hj; rw [e bf ⟨hbfl, hZ bf (.inl rfl)⟩]; exact hbf
  have rdl : ∀ {W : World} {L : List Atom} (j : Nat), Holds W L → L[j]? = some (aZ B0 w) → W.heap[bl]? = some (.cells #[.slice a0 xs.length c0] 22) := fun j H hj => by
    obtain ⟨_, _, _, _, e⟩ := H.get hj; rw [e bl ⟨hbll, hZ bl (.inr (.inl rfl))⟩]; exact hbl
  have rdx : ∀ {W : World} {L : List Atom} (j : Nat), Holds W L → L[j]? = some (aZ B0 w) → SlR tE 16 Zx W (.slice a0 xs.length c0) xs := fun j H hj => by
    obtain ⟨s1, _, _, _, e⟩ := H.get hj
    exact hx.keeps ⟨s1, fun k hz hk => e k ⟨hk, hZ k (.inr (.inr ⟨hz, hk⟩))⟩⟩
  refine calls_of_W' Try.func18 rfl Try.ntmps18 rfl ?_
  refine W_seq ?_
  refine W_region ?_   -- region 0
  refine OL_c (op_makeMap (Value.int .u64) H (by decide) fun bm w1 H => ?_)   -- 0: t8 := makeMap 47 none  <47>
  refine OL_y (y_assign rfl) (by decide) ?_   -- 1: t4 := assign t8  <47>
  refine OL_nil ?_
  refine W_seq ?_
  refine W_region ?_   -- region 1
  refine OL_y (y_loadS ti23 rfl rfl (Cells.unit (rdf 2 H rfl) rfl)) (by decide) ?_   -- 0: t9 := load 23 t1  <23>
  refine OL_c (op_buildSlice H [.int .u64 fr] ti26 ti23 rfl rfl rfl (by simp [Value.cells]) rfl rfl (by decide) fun b w2 H => ?_)   -- 1: t10 := buildSlice 26 1 [(0, t9)]  <26>
  refine OL_y (y_assign rfl) (by decide) ?_   -- 2: t5 := assign t10  <26>
  refine OL_nil ?_
  have H := H.rowG 0 rfl
  refine W_block (W_loopN (fun j f ds W => ∃ i s v5 cq B W0, f 0 = .func (.yield l) #[] #[] ∧ f 1 = .pointer (some ⟨bf, 0, none⟩) ∧ f 2 = .pointer (some ⟨bl, 0, none⟩) ∧ f 4 = .map (some bm) ∧ f 5 = v5 ∧ ds = [] ∧
    Holds W [grow 23 1 v5 (s.2.length - i) cq, mp (Value.int .u64) bm (mOf s.1), aB B B0 W0, aZ B0 w] ∧ Els (tInt .u64) none' w cq (s.2.drop i) ∧ Inv xs s ∧ J (ed s.1) B W0 ∧ ItInv w W0 B0 B ∧ bfs xs fr j i s = refWalk xs fr ∧ i ≤ s.2.length ∧ j + i = xs.length + 2) (xs.length + 2)
    ⟨0, ([], [fr]), _, _, B0, w, rfl, rfl, rfl, rfl, rfl, rfl, H, (Els.nil _ _ _).snoc ⟨rfl, hfr⟩, Inv.init _ _, hJ0, hIt, rfl, by simp, by simp⟩ ?_)
  rintro j f ds w' ⟨i, s, v5, cq, B, W0, h0, h1, h2, h4, h5, rfl, H, heq, hinv, hJ, hIt, hb, hi, hj⟩
  have hlen := hinv.len
  have hql := hinv.q
  obtain ⟨a5, c5, rfl, hc5, hm5⟩ := GRow.slice (H.get (i := 0) rfl)
  refine W_seq ?_
  refine W_seq ?_
  refine W_region ?_   -- region 2
  refine OL_y (y_move h5) (by decide) ?_   -- 0: t11 := move t5  <26>
  refine OL_y (y_len rfl ti26 rfl) (by decide) ?_   -- 1: t12 := CALL len [t11] :[26]  <3>
  refine OL_y (y_gtr rfl rfl) (by decide) ?_   -- 2: t13 := gtr t12 c(0:i64) :3  <4>
  refine OL_nil ?_
  refine W_cond rfl (fun hc => ?_) (fun hc => ?_)   -- t13
  rotate_left
  · refine W_exit ?_   -- exit 0
    have hdone : s.1 = refWalk xs fr := by
      rw [← hb]
      cases j with
      | zero => rfl
      | succ j => simp only [bfs]; rw [List.getElem?_eq_none (by simp at hc; omega)]
    show RetOK _ _ _ _ _ _
    refine ret0 Try.results18 ⟨⟨_, rfl⟩, ?_⟩
    have hJ' : J (walkE xs fr) B W0 := by unfold walkE; rw [← hdone]; exact hJ
    exact hR.done hJ' hIt H 2 3 rfl rfl
  · have hlt : i < s.2.length := by simp at hc; omega
    have hqi := List.getElem?_eq_getElem hlt
    obtain ⟨j, rfl⟩ : ∃ j', j = j' + 1 := ⟨j - 1, by omega⟩
    have hb' : bfs xs fr j (i + 1) (inner xs fr s.2[i] s) = refWalk xs fr := by rw [← hb]; simp only [bfs, hqi]
    have hpre1 : ∀ k, ed (inner (xs.take k) fr s.2[i] s).1 <+: walkE xs fr := fun k => by
      refine ed_prefix ((inner_take_prefix _ _ _ _ _).trans ?_)
      rw [← hb']; exact bfs_prefix _ _ _ _ _
    refine W_skip ?_
    refine W_seq ?_
    refine W_block ?_   -- block 1
    refine W_seq ?_
    refine W_region ?_   -- region 4
    refine OL_y (y_loadS ti22 rfl h2 (Cells.unit (rdl 3 H rfl) rfl)) (by decide) ?_   -- 0: t16 := load 22 t2  <22>
    refine OL_y (y_len rfl ti22 rfl) (by decide) ?_   -- 1: t17 := CALL len [t16] :[22]  <3>
    refine OL_y (y_move rfl) (by decide) ?_   -- 2: t18 := move c(0:i64)  <3>
    refine OL_nil ?_
    refine W_range (N := xs.length) (by simp [maxLen]; omega) (fun k f ds W => ∃ s' v5 cq B W0, f 0 = .func (.yield l) #[] #[] ∧ f 1 = .pointer (some ⟨bf, 0, none⟩) ∧ f 2 = .pointer (some ⟨bl, 0, none⟩) ∧ f 4 = .map (some bm) ∧ f 5 = v5 ∧ f 16 = .slice a0 xs.length c0 ∧ ds = [] ∧
      Holds W [grow 23 1 v5 (s'.2.length - i) cq, mp (Value.int .u64) bm (mOf s'.1), aB B B0 W0, aZ B0 w] ∧ Els (tInt .u64) none' w cq (s'.2.drop i) ∧ Inv xs s' ∧ J (ed s'.1) B W0 ∧ ItInv w W0 B0 B ∧ s' = inner (xs.take k) fr s.2[i] s ∧ s'.2[i]? = some s.2[i] ∧ i < s'.2.length)
      ⟨s, _, cq, B, W0, h0, h1, h2, h4, h5, rfl, rfl, H, heq, hinv, hJ, hIt, by simp [inner], hqi, hlt⟩ rfl rfl (by decide) (by decide) (by decide) rfl rfl ?_ rfl rfl ?_
    rotate_left
    · rintro f ds w' ⟨s', v5, cq, B, W0, h0, h1, h2, h4, h5, h16, rfl, H, heq, hinv, hJ, hIt, hs', _, hlt'⟩ hti htn
      rw [List.take_length] at hs'
      obtain ⟨a5, c5, rfl, hc5, hm5⟩ := GRow.slice (H.get (i := 0) rfl)
      refine W_region ?_
      refine OL_y (y_move h5) (by decide) ?_
      refine OL_y (y_sliceL (lo := 1) ti26 ti23 rfl rfl (by omega) (by omega)) (by decide) ?_
      refine OL_y (y_assign rfl) (by decide) ?_
      refine OL_nil ?_
      have H := H.cutG 0 rfl 1 (by omega)
      have hd := heq.drop 1 (by simp; omega)
      rw [List.drop_drop] at hd
      exact ⟨j, by omega, i + 1, s', _, _, B, W0, h0, h1, h2, h4, rfl, rfl, H, hd, hinv, hJ, hIt, by rw [hs']; exact hb', by omega, by omega⟩
    · rintro k f ds w' hk ⟨s', v5, cq, B, W0, h0, h1, h2, h4, h5, h16, rfl, H, heq, hinv, hJ, hIt, hs', hqi', hlt'⟩ hti htn
      have hlen' := hinv.len
      have hql' := hinv.q
      have hxk := List.getElem?_eq_getElem hk
      obtain ⟨b0, o0, cs0, e0, _, hc0, hr0⟩ := (rdx 3 H rfl).at hxk
      obtain ⟨rfl, hr1, hr2⟩ := pair_cells hr0
      subst e0
      generalize hxs : xs[k] = x at hxk hc0 hr0 hr1 hr2
      obtain ⟨x1, x2⟩ := x
      have hpk : ed s'.1 <+: walkE xs fr := by rw [hs']; exact hpre1 k
      have htake : xs.take (k + 1) = xs.take k ++ [(x1, x2)] := by rw [List.take_add_one, hxk]; rfl
      have hin : inner (xs.take (k + 1)) fr s.2[i] s = stepE fr s.2[i] s' (x1, x2) := by rw [htake, inner_snoc, hs']
      refine W_block ?_   -- block 3
      refine W_seq ?_
      refine W_region ?_   -- region 6
      refine OL_y (y_indexAddr ti22 ti35 h16 hti (by omega) (by omega)) (by decide) ?_
      refine OL_y (y_loadA ti35 rfl rfl hc0 rfl) (by decide) ?_
      refine OL_var H ti35 rfl (by decide) (fun _ => rfl) rfl (by simp [Value.cells, Value.oneCell']) fun be w1 H => ?_
      refine OL_nil ?_
      refine W_seq ?_
      refine W_seq ?_
      refine W_drawQ H mixed (by kernel_rfl) (by kernel_rfl) fun w2 H => ?_   -- region 7
      obtain ⟨b6, o6, c6, cs6, rfl, hc6, hr6⟩ := H.growAt (T := tInt .u64) (Z := none') 1 rfl heq (j := 0) (x := s.2[i]) (by rw [List.getElem?_drop]; simpa using hqi') rfl
      obtain ⟨rfl, _⟩ := hr6
      refine QL_y (y_fieldAddr ti35 rfl ti23 rfl rfl) (by decide) ?_   -- 0
      refine QL_y (y_loadS ti23 rfl rfl (Cells.unit (H.getOwn 0 rfl) rfl)) (by decide) ?_   -- 1
      refine QL_y (y_move h5) (by decide) ?_   -- 2: t24 := move t5
      refine QL_y (y_indexAddr ti26 ti23 rfl rfl (by omega) (by omega)) (by decide) ?_   -- 3
      refine QL_y (y_loadS ti23 rfl rfl hc6) (by decide) ?_   -- 4
      refine QL_y (y_neq rfl rfl) (by decide) ?_   -- 5
      refine QL_y (y_move rfl) (by decide) ?_   -- 6
      by_cases hq : x1 = s.2[i]
      rotate_left
      · have hqd : decide (x1 ≠ s.2[i]) = true := decide_eq_true hq
        refine QL_s rfl (by decide) (show _ = Value.bool true by simp only [hqd]; rfl) rfl (by simp) ?_
        refine QL_s rfl (by decide) (show _ = Value.bool true by simp only [hqd]; rfl) rfl (by simp) ?_
        refine QL_s rfl (by decide) (show _ = Value.bool true by simp only [hqd]; rfl) rfl (by simp) ?_
        refine QL_s rfl (by decide) (show _ = Value.bool true by simp only [hqd]; rfl) rfl (by simp) ?_
        refine QL_y (y_pick (b := true) (v := .bool true) (by simp only [hqd]; rfl) rfl) (by decide) ?_
        refine QL_nil ?_
        refine W_condt rfl ?_
        refine W_exit ?_   -- exit 3
        have hst : stepE fr s.2[i] s' (x1, x2) = s' := by unfold stepE; rw [if_neg]; rintro ⟨h, _⟩; exact hq h
        exact ⟨hti, htn, s', _, cq, B, W0, h0, h1, h2, h4, h5, h16, rfl, H.tail, heq, hinv, hJ, hIt, by rw [hin, hst], hqi', hlt'⟩
      have hqd : decide (x1 ≠ s.2[i]) = false := by simp [hq]
      refine QL_yg rfl (by decide) (show _ = Value.bool false by simp only [hqd]; rfl) (y_move h4) (by decide) ?_   -- 7
      refine QL_yg rfl (by decide) (show _ = Value.bool false by simp only [hqd]; rfl) (y_fieldAddr ti35 rfl ti23 rfl rfl) (by decide) ?_   -- 8
      refine QL_yg rfl (by decide) (show _ = Value.bool false by simp only [hqd]; rfl) (y_loadS ti23 rfl rfl (Cells.unit (H.getOwn 0 rfl) rfl)) (by decide) ?_   -- 9
      refine QL_yg rfl (by decide) (show _ = Value.bool false by simp only [hqd]; rfl) (y_lookup H 2 rfl ti47 ti4 (ku _ _ Try.underlying23) rfl rfl) (by decide) ?_   -- 10
      refine QL_y (y_pick (b := false) (v := .bool (decide (x2 ∈ s'.1.map (·.1)))) (by simp only [hqd]; rfl) (by show (mget (mOf s'.1) x2).getD (Value.bool false) = _; exact mOf_get s'.1 x2)) (by decide) ?_   -- 11
      refine QL_nil ?_
      refine W_cond rfl (fun hc => ?_) (fun hc => ?_)   -- t33
      · refine W_exit ?_   -- exit 3
        have hmem := of_decide_eq_true hc
        have hst : stepE fr s.2[i] s' (x1, x2) = s' := by unfold stepE; rw [if_neg]; rintro ⟨_, h⟩; exact h hmem
        exact ⟨hti, htn, s', _, cq, B, W0, h0, h1, h2, h4, h5, h16, rfl, H.tail, heq, hinv, hJ, hIt, by rw [hin, hst], hqi', hlt'⟩
      have hnin : x2 ∉ s'.1.map (·.1) := of_decide_eq_false hc
      have hinv2 : Inv xs (stepE fr s.2[i] s' (x1, x2)) := hinv.step (List.mem_of_getElem? hxk)
      have hst : stepE fr s.2[i] s' (x1, x2) = (s'.1 ++ [(x2, x1)], if x2 = fr then s'.2 else s'.2 ++ [x2]) := by unfold stepE; rw [if_pos ⟨hq, hnin⟩]
      have hlen2 := hinv2.len
      have hq2 := hinv2.q
      rw [hst] at hlen2 hq2 hinv2 hin
      simp only [List.length_append, List.length_cons, List.length_nil] at hlen2 hq2
      have hpk2 : ed s'.1 ++ [(x1, x2)] <+: walkE xs fr := by
        have := hpre1 (k + 1)
        rw [hin] at this; simpa [ed] using this
      refine W_skip ?_
      refine W_seq ?_
      refine W_region ?_   -- region 8
      refine OL_y (y_move h4) (by decide) ?_   -- 0: t34 := move t4  <47>
      refine OL_y (y_fieldAddr ti35 rfl ti23 rfl rfl) (by decide) ?_   -- 1: t35 := fieldAddr 35 t7 1  <0>
      refine OL_y (y_loadS ti23 rfl rfl (Cells.unit (H.getOwn 0 rfl) rfl)) (by decide) ?_   -- 2: t36 := load 23 t35  <23>
      refine OL_c (op_mapUpdate (k := x2) (v := .bool true) H 2 rfl ti47 (ku _ _ Try.underlying23) rfl rfl rfl fun w3 H => ?_)   -- 3
      refine OL_nil ?_
      have H := H
      simp only [List.set_cons_succ, List.set_cons_zero] at H
      rw [mOf_set _ _ x1 hnin] at H
      refine W_seq ?_
      refine W_seq ?_
      refine W_region ?_   -- region 9
      refine OL_y (y_move h0) (by decide) ?_   -- 0: t37 := move t0  <46>
      refine OL_y (y_loadA ti35 rfl rfl (Cells.of (cs := [.int .u64 x1, .int .u64 x2]) (H.getOwn 0 rfl) rfl) rfl) (by decide) ?_   -- 1: t38 := load 35 t7  <35>
      refine OL_yield (hR.yield hJ hIt H 3 4 rfl rfl hpk2) rfl rfl (by decide) ?_
      rintro e W' (⟨rfl, B', hJ', hIt', H'⟩ | ⟨rfl, B', hJ', hIt', H'⟩)
      rotate_left
      · refine ⟨_, rfl, ?_⟩
        refine OL_y (y_not rfl) (by decide) ?_
        refine OL_nil ?_
        refine W_condt rfl ?_
        refine W_ret ?_
        show RetOK _ _ _ _ _ _
        exact ret0 Try.results18 ⟨⟨_, rfl⟩, hR.left hJ' hpk2 hIt' H' 3 4 rfl rfl⟩
      refine ⟨_, rfl, ?_⟩
      refine OL_y (y_not rfl) (by decide) ?_   -- 3: t40 := unOp not 4 t39  <4>
      refine OL_nil ?_
      refine W_condf rfl ?_
      refine W_skip ?_
      refine W_seq ?_
      refine W_region ?_   -- region 10
      refine OL_y (y_fieldAddr ti35 rfl ti23 rfl rfl) (by decide) ?_   -- 0
      refine OL_y (y_loadS ti23 rfl rfl (Cells.unit (H'.getOwn 0 rfl) rfl)) (by decide) ?_   -- 1
      refine OL_y (y_loadS ti23 rfl h1 (Cells.unit (rdf 4 H' rfl) rfl)) (by decide) ?_   -- 2
      refine OL_y (y_neq rfl rfl) (by decide) ?_   -- 3
      refine OL_nil ?_
      have hed : ed s'.1 ++ [(x1, x2)] = ed (s'.1 ++ [(x2, x1)]) := by simp [ed]
      rw [hed] at hJ'
      refine W_cond rfl (fun hc2 => ?_) (fun hc2 => ?_)   -- t44
      · have hne : x2 ≠ fr := of_decide_eq_true hc2
        rw [if_neg hne] at hin hinv2 hq2
        simp only [List.length_append, List.length_cons, List.length_nil] at hq2
        refine W_region ?_   -- region 11
        refine OL_y (y_move h5) (by decide) ?_   -- 0
        refine OL_y (y_fieldAddr ti35 rfl ti23 rfl rfl) (by decide) ?_   -- 1
        refine OL_y (y_loadS ti23 rfl rfl (Cells.unit (H'.getOwn 0 rfl) rfl)) (by decide) ?_   -- 2
        refine OL_c (op_buildSlice H' [.int .u64 x2] ti26 ti23 rfl rfl rfl (by simp [Value.cells]) rfl rfl (by decide) fun b w3 H => ?_)   -- 3
        refine OL_c (op_appendG H 2 rfl rfl ti26 ti23 rfl rfl rfl rfl (Src.row (H.getRow 0 rfl)) rfl (by simp [Value.cells, Value.oneCell']) (by omega) (by simp [maxLen]; omega) (by decide) fun v6' w4 H => ?_)   -- 4
        refine OL_y (y_assign rfl) (by decide) ?_   -- 5
        refine OL_nil ?_
        have heq2 : Els (tInt .u64) none' w (cq ++ [Value.int .u64 x2].flatMap fun v => v.cells.toList) (s'.2.drop i ++ [x2]) := heq.snoc ⟨rfl, hr2⟩
        rw [← List.drop_append_of_le_length (by omega)] at heq2
        exact ⟨hti, htn, (s'.1 ++ [(x2, x1)], s'.2 ++ [x2]), v6', _, B', W', h0, h1, h2, h4, rfl, h16, rfl, by rw [List.length_append, show s'.2.length + [x2].length - i = s'.2.length - i + [x2].length from by simp; omega]; exact H.tail.tail, heq2, hinv2, hJ', hIt', hin.symm, by rw [List.getElem?_append_left hlt']; exact hqi', by simp; omega⟩
      · have heq' : x2 = fr := by simpa using hc2
        rw [if_pos heq'] at hin hinv2
        refine W_skip ?_
        exact ⟨hti, htn, (s'.1 ++ [(x2, x1)], s'.2), _, cq, B', W', h0, h1, h2, h4, h5, h16, rfl, H'.tail, heq, hinv2, hJ', hIt', hin.symm, hqi', hlt'⟩
end Go.Proofs.Ytplpedigkhgakaa
