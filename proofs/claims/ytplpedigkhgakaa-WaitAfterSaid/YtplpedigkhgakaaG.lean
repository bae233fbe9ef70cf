/- The program's Cycle. -/
import Derived.Test.YtplpedigkhgakaaD
import Derived.Test.YtplpedigkhgakaaQ
import Derived.Test.YtplpedigkhgakaaR
import Derived.Test.YtplpedigkhgakaaF
namespace Go.Proofs.Ytplpedigkhgakaa
open Go Go.Wk Pl
set_option linter.unusedVariables false

def mB (out : List E) : List (Int × Value) := out.map fun s => (s.1, .int .u64 s.2)
theorem mB_keys (out : List E) : (mB out).map (·.1) = out.map (·.1) := by simp [mB]
theorem mB_set (out : List E) (x y : Int) (h : x ∉ out.map (·.1)) : mset (mB out) x (.int .u64 y) = mB (out ++ [(x, y)]) := by
  unfold mset; rw [if_neg (by rw [mB_keys]; exact h)]; simp [mB]
theorem mB_get {out : List E} (hn : (out.map (·.1)).Nodup) {u T : Nat} {n n' : Int} (hu : u < T) (h : out[u]? = some (n, n')) : mget (mB (out.take T)) n = some (.int .u64 n') := by
  have hm : (n, n') ∈ out.take T := List.mem_of_getElem? (i := u) (by rw [List.getElem?_take_of_lt hu]; exact h)
  cases hf : mget (mB (out.take T)) n with
  | none => exact absurd (mget_none.1 hf) (by rw [mB_keys]; exact fun h => h (List.mem_map.2 ⟨_, hm, rfl⟩))
  | some v =>
    unfold mget mB at hf
    rw [Option.map_eq_some_iff] at hf
    obtain ⟨y, hy, rfl⟩ := hf
    have h1 := List.find?_some hy
    have h2 := List.mem_of_find?_eq_some hy
    simp only [decide_eq_true_eq] at h1
    obtain ⟨z, hz, rfl⟩ := List.mem_map.1 h2
    simp only at h1 ⊢
    obtain ⟨v, hv, rfl⟩ := List.getElem_of_mem (List.mem_of_mem_take hz)
    have hz' : out[v]? = some (n, out[v].2) := by rw [List.getElem?_eq_getElem hv, ← h1]
    obtain rfl := idx_unique hn h hz'
    rw [h] at hz'; injection hz' with hz'; injection hz' with _ hz'
    rw [← hz']

set_option maxHeartbeats 2000000 in
theorem f9_calls {Zx : Nat → Prop} {w : World} {a : Value} {xs : List E} {fr : Int} (hx : SlR tE 16 Zx w a xs) (hfr : InK .u64 fr) (h40 : xs.length ≤ 40) :
    Calls Try.prog 9 [a, .int .u64 fr].toArray w fun e w' => ∃ v, e = .returned v ∧ SlR (tInt .u64) 8 (fun k => w.heap.size ≤ k) w' v (refCycle xs fr) ∧ Ext none' w w' := by
  have H := Holds.start w
  have hlen := refWalk_len xs fr
  have hg := refWalk_good xs fr
  obtain ⟨a0, c0, rfl, hl0, hm0⟩ := hx.len
  have hk : ∀ e ∈ xs, InK .u64 e.1 ∧ InK .u64 e.2 := fun e he => by
    obtain ⟨i, hi, rfl⟩ := List.getElem_of_mem he
    obtain ⟨_, _, _, _, _, _, hr⟩ := hx.at (List.getElem?_eq_getElem hi)
    exact (pair_cells hr).2
  have hcl := cycle_len xs fr
  have hx := hx.mono (Z' := fun k => Zx k ∧ k < w.heap.size) fun k hk hz => ⟨hz, hk⟩
  refine calls_of_W' Try.func9 rfl Try.ntmps9 rfl ?_
  refine W_seq ?_
  refine W_region ?_   -- region 0
  refine OL_c (op_box (v := .int .u64 fr) H rfl (by decide) fun b3 w1 H => ?_)
  refine OL_c (op_alloc H ti26 (by decide) fun b4 w2 H => ?_)
  refine OL_nil ?_
  refine W_seq ?_
  refine W_region ?_   -- region 1
  refine OL_c (op_makeMap (Value.int .u64) H (by decide) fun bm w3 H => ?_)
  refine OL_var (v := .map (some bm)) H ti36 rfl (by decide) (fun _ => rfl) rfl (by simp [Value.cells, Value.oneCell']) fun b5 w4 H => ?_
  refine OL_nil ?_
  refine W_seq ?_
  refine W_seq ?_
  refine W_region ?_   -- region 2
  refine OL_y (y_move rfl) (by decide) ?_
  refine OL_y (y_loadS (v := .int .u64 fr) ti23 rfl rfl (Cells.unit (H.getOwn 3 rfl) rfl)) (by decide) ?_
  refine OL_c (op_call 14 en14 rfl [.slice a0 xs.length c0, .int .u64 fr] rfl (by decide) (f14_calls.mono ?_))
  rintro e w5 ⟨bf, bl, rfl, hE, hbf, hbl, hn1, hn2⟩
  refine ⟨_, rfl, ?_⟩
  refine OL_nil ?_
  have Hw2 := H
  have H := H.ext0 hE
  have hxw := hx.keeps (H.keepsAll 4 rfl _)
  refine W_block ?_
  refine W_rangeFunc encE (walkE xs fr) (fun k => k = bf ∨ k = bl ∨ ((Zx k ∧ k < w.heap.size) ∧ k < w5.heap.size))
    (fun pre Ls => Ls = [own b5 (.cells #[.map (some bm)] 36), mp (Value.int .u64) bm (mB ((refWalk xs fr).take pre.length)), own b4 (.cells #[.slice none 0 0] 26), own b3 (.cells #[.int .u64 fr] 23), shr (fun k => k < w.heap.size) w] ∧ fr ∉ ((refWalk xs fr).take pre.length).map (·.1))
    (fun e pre Ls => e = .ret ∧ ∃ v cs m, Ls = [row 23 1 v (refCycle xs fr).length cs, own b5 (.cells #[.map (some bm)] 36), mp (Value.int .u64) bm m, own b4 (.cells #[v] 26), own b3 (.cells #[.int .u64 fr] 23), shr (fun k => k < w.heap.size) w] ∧ Els (tInt .u64) none' w cs (refCycle xs fr))
    rfl en18 (by decide) H ⟨rfl, by simp⟩ ?_ ?_ ?_ ?_ ?_ ?_ ?_
  · rintro pre Ls ⟨rfl, _⟩ at_ ha hx k hk
    simp only [List.mem_cons, List.not_mem_nil, or_false] at ha
    rcases ha with rfl | rfl | rfl | rfl | rfl
    · cases hx
    · cases hx
    · cases hx
    · cases hx
    · have := (H.get (i := 4) rfl).1; simp only at hk; omega
  · rintro e pre Ls ⟨_, v, cs, m, rfl, _⟩ at_ ha hx k hk
    simp only [List.mem_cons, List.not_mem_nil, or_false] at ha
    rcases ha with rfl | rfl | rfl | rfl | rfl | rfl
    · cases hx
    · cases hx
    · cases hx
    · cases hx
    · cases hx
    · have := (H.get (i := 4) rfl).1; simp only at hk; omega
  · intro k hk
    rcases hk with rfl | rfl | ⟨hk, hlt⟩
    · exact ⟨own_lt hbf, fun a ha _ hF => by have := (Hw2.ok a ha).2.1 k hF; omega⟩
    · exact ⟨own_lt hbl, fun a ha _ hF => by have := (Hw2.ok a ha).2.1 k hF; omega⟩
    · refine ⟨hlt, fun a ha hx hF => ?_⟩
      simp only [List.mem_cons, List.not_mem_nil, or_false] at ha
      rcases ha with rfl | rfl | rfl | rfl | rfl
      · have := Hw2.fresh 0 4 rfl rfl rfl k hF; have := hk.2; omega
      · have := Hw2.fresh 1 4 rfl rfl rfl k hF; have := hk.2; omega
      · have := Hw2.fresh 2 4 rfl rfl rfl k hF; have := hk.2; omega
      · have := Hw2.fresh 3 4 rfl rfl rfl k hF; have := hk.2; omega
      · cases hx
  · intro w' hE'
    have := f18_iter (Zx := fun k => (Zx k ∧ k < w.heap.size) ∧ k < w5.heap.size) (blk_ext hbf hE') (blk_ext hbl hE') ((hxw.mono fun k hk hz => ⟨hz, hk⟩).keeps hE'.keeps0) hfr h40
    intro l B J Jx hR hJ hZ
    exact this l B J Jx hR hJ fun k hk => hZ k (hk.imp id (Or.imp id fun h => h.1))
  · rintro l' aL aL' aD aO pre x Ls Wd ⟨rfl, hni⟩ hpre HH
    refine W_region ?_   -- region 3
    refine OL_var HH ti35 rfl (by decide) (fun _ => rfl) rfl (by simp [Value.cells, Value.oneCell']) fun b6 w6 HH => ?_
    refine OL_nil ?_
    obtain ⟨x1, x2⟩ := x
    have HH := HH.perm (L' := [aL, own b6 (.cells #[.int .u64 x1, .int .u64 x2] 35), aD, aO, own b5 (.cells #[.map (some bm)] 36), mp (Value.int .u64) bm (mB ((refWalk xs fr).take pre.length)), own b4 (.cells #[.slice none 0 0] 26), own b3 (.cells #[.int .u64 fr] 23), shr (fun k => k < w.heap.size) w]) (List.Perm.swap _ _ _)
    have HH := HH.perm (L' := [aL, aD, own b6 (.cells #[.int .u64 x1, .int .u64 x2] 35), aO, own b5 (.cells #[.map (some bm)] 36), mp (Value.int .u64) bm (mB ((refWalk xs fr).take pre.length)), own b4 (.cells #[.slice none 0 0] 26), own b3 (.cells #[.int .u64 fr] 23), shr (fun k => k < w.heap.size) w]) (.cons _ (List.Perm.swap _ _ _))
    have HH := HH.perm (L' := [aL, aD, aO, own b6 (.cells #[.int .u64 x1, .int .u64 x2] 35), own b5 (.cells #[.map (some bm)] 36), mp (Value.int .u64) bm (mB ((refWalk xs fr).take pre.length)), own b4 (.cells #[.slice none 0 0] 26), own b3 (.cells #[.int .u64 fr] 23), shr (fun k => k < w.heap.size) w]) (.cons _ (.cons _ (List.Perm.swap _ _ _)))
    refine ⟨_, HH, fun W2 HH => ?_⟩
    -- where x stands in the walk
    have hT : (refWalk xs fr)[pre.length]? = some (x2, x1) := by
      obtain ⟨c, hc⟩ := hpre
      have : (walkE xs fr)[pre.length]? = some (x1, x2) := by rw [← hc]; simp
      unfold walkE ed at this
      rw [List.getElem?_map, Option.map_eq_some_iff] at this
      obtain ⟨y, hy, he⟩ := this
      rw [hy]; injection he with h1 h2; rw [← h1, ← h2]
    have hTl := (List.getElem?_eq_some_iff.1 hT).1
    have htk : (refWalk xs fr).take (pre.length + 1) = (refWalk xs fr).take pre.length ++ [(x2, x1)] := by rw [List.take_add_one, hT]; rfl
    refine W_block ?_
    refine W_seq ?_
    refine W_region ?_   -- region 4
    refine OL_y (y_loadS ti36 rfl rfl (Cells.unit (HH.getOwn 4 rfl) rfl)) (by decide) ?_
    refine OL_y (y_fieldAddr ti35 rfl ti23 rfl rfl) (by decide) ?_
    refine OL_y (y_loadS (v := .int .u64 x2) ti23 rfl rfl (Cells.unit (HH.getOwn 3 rfl) rfl)) (by decide) ?_
    refine OL_y (y_fieldAddr ti35 rfl ti23 rfl rfl) (by decide) ?_
    refine OL_y (y_loadS (v := .int .u64 x1) ti23 rfl rfl (Cells.unit (HH.getOwn 3 rfl) rfl)) (by decide) ?_
    refine OL_c (op_mapUpdate (k := x2) (v := .int .u64 x1) HH 5 rfl ti36 (ku _ _ Try.underlying23) rfl rfl rfl fun w7 HH => ?_)
    refine OL_nil ?_
    have HH := HH
    simp only [List.set_cons_succ, List.set_cons_zero] at HH
    rw [mB_set _ _ _ (not_mem_take hg.nd hT), ← htk] at HH
    refine W_seq ?_
    refine W_seq ?_
    refine W_region ?_   -- region 5
    refine OL_y (y_loadA ti35 rfl rfl (Cells.of (cs := [.int .u64 x1, .int .u64 x2]) (HH.getOwn 3 rfl) rfl) rfl) (by decide) ?_
    refine OL_y (y_fieldAddr ti35 rfl ti23 rfl rfl) (by decide) ?_
    refine OL_y (y_loadS (v := .int .u64 x1) ti23 rfl rfl (Cells.unit (HH.getOwn 3 rfl) rfl)) (by decide) ?_
    refine OL_y (y_loadS (v := .int .u64 fr) ti23 rfl rfl (Cells.unit (HH.getOwn 7 rfl) rfl)) (by decide) ?_
    refine OL_y (y_build (cells := #[.int .u64 x1, .int .u64 fr]) ti35 pl35 rfl) (by decide) ?_
    refine OL_y (y_neqE rfl rfl) (by decide) ?_
    refine OL_nil ?_
    refine W_cond rfl (fun hc => ?_) (fun hc => ?_)
    · have hne : x2 ≠ fr := fun h => (of_decide_eq_true hc) ⟨rfl, h⟩
      refine W_exit ?_
      refine ⟨_, ⟨rfl, ?_⟩, by rw [List.length_append]; exact HH.sub (.cons_cons _ (.cons_cons _ (.cons_cons _ (.cons _ (.refl _)))))⟩
      rw [List.length_append, List.length_cons, List.length_nil, htk, List.map_append, List.mem_append]
      rintro (h | h)
      · exact hni h
      · simp at h; exact hne h.symm
    have hx2 : x2 = fr := by
      have := of_decide_eq_false hc
      exact Classical.byContradiction fun h => this fun h' => h h'.2
    have hx2' : fr = x2 := hx2.symm
    subst hx2'
    have hfin : fr ∈ (refWalk xs fr).map (·.1) := List.mem_map.2 ⟨_, List.mem_of_getElem? hT, rfl⟩
    have hR : refCycle xs fr = (if x1 = fr then some [x1] else scan fr ((refWalk xs fr).take pre.length).reverse x1 [x1]).getD [] := by
      unfold refCycle
      rw [← List.take_length (l := refWalk xs fr), scan_at (fr := fr) hg.nd (t := (refWalk xs fr).length) hTl hT, List.take_length]
    refine W_skip ?_
    refine W_seq ?_
    refine W_region ?_   -- region 6
    refine OL_c (op_buildSlice HH [] ti26 ti23 rfl rfl rfl (by simp) rfl rfl (by decide) fun b7 w8 HH => ?_)
    refine OL_y (y_assign rfl) (by decide) ?_
    refine OL_nil ?_
    refine W_seq ?_
    refine W_seq ?_
    refine W_region ?_   -- region 7
    refine OL_y (y_fieldAddr ti35 rfl ti23 rfl rfl) (by decide) ?_
    refine OL_y (y_loadS (v := .int .u64 x1) ti23 rfl rfl (Cells.unit (HH.getOwn 4 rfl) rfl)) (by decide) ?_
    refine OL_y (y_assign rfl) (by decide) ?_
    refine OL_nil ?_
    refine W_block (W_loopN (fun t f ds W => ∃ n v7 cs way, f 3 = .pointer (some ⟨b3, 0, none⟩) ∧ f 4 = .pointer (some ⟨b4, 0, none⟩) ∧ f 5 = .pointer (some ⟨b5, 0, none⟩) ∧ f 7 = v7 ∧ f 8 = .int .u64 n ∧ InK .u64 n ∧ ds = [] ∧
      Holds W [row 23 1 v7 way.length cs, aL', aD, aO, own b6 (.cells #[.int .u64 x1, .int .u64 fr] 35), own b5 (.cells #[.map (some bm)] 36), mp (Value.int .u64) bm (mB ((refWalk xs fr).take (pre.length + 1))), own b4 (.cells #[.slice none 0 0] 26), own b3 (.cells #[.int .u64 fr] 23), shr (fun k => k < w.heap.size) w] ∧
      Els (tInt .u64) none' w cs way ∧ way.length + t ≤ pre.length ∧ ((n = fr ∧ refCycle xs fr = fr :: way.reverse) ∨ (n ≠ fr ∧ n ∈ ((refWalk xs fr).take t).map (·.1) ∧ refCycle xs fr = (scan fr ((refWalk xs fr).take t).reverse n (n :: way.reverse)).getD []))) pre.length
      ⟨x1, .slice (some ⟨b7, 0, none⟩) 0 0, [], [], rfl, rfl, rfl, rfl, rfl, ?_, rfl, HH, Els.nil _ _ _, by simp, ?_⟩ ?_)
    · exact (hk _ (hg.ed _ (List.mem_of_getElem? hT))).1
    · by_cases hf : x1 = fr
      · rw [if_pos hf] at hR
        exact .inl ⟨hf, by rw [hR, hf]; rfl⟩
      · rw [if_neg hf] at hR
        exact .inr ⟨hf, (hg.wf _ _ hT).resolve_left hf, hR⟩
    · rintro t f ds W ⟨n, v7, cs, way, h3, h4, h5, h7, h8, hkn, rfl, HH, he, hlt, hor⟩
      refine W_seq ?_
      refine W_seq ?_
      refine W_region ?_   -- region 8
      refine OL_y (y_move h8) (by decide) ?_
      refine OL_y (y_loadS (v := .int .u64 fr) ti23 rfl h3 (Cells.unit (HH.getOwn 8 rfl) rfl)) (by decide) ?_
      refine OL_y (y_neq rfl rfl) (by decide) ?_
      refine OL_nil ?_
      refine W_cond rfl (fun hc2 => ?_) (fun hc2 => ?_)
      · have hne : n ≠ fr := of_decide_eq_true hc2
        obtain ⟨_, hmem, hcy⟩ := hor.resolve_left fun h => hne h.1
        obtain ⟨u, n', hu, hun, hs⟩ := scan_find (fr := fr) hg.nd n (n :: way.reverse) t hmem
        rw [hs] at hcy
        have hget : mget (mB ((refWalk xs fr).take (pre.length + 1))) n = some (.int .u64 n') := mB_get hg.nd (by omega) hun
        refine W_skip ?_
        refine W_seq ?_
        refine W_block ?_
        refine W_region ?_   -- region 10
        refine OL_y (y_move h7) (by decide) ?_
        refine OL_y (y_move h8) (by decide) ?_
        refine OL_c (op_buildSlice HH [.int .u64 n] ti26 ti23 rfl rfl rfl (by simp [Value.cells]) rfl rfl (by decide) fun b w9 HH => ?_)
        refine OL_c (op_append HH 1 rfl rfl ti26 ti23 rfl rfl rfl rfl (Src.row (HH.getRow 0 rfl)) rfl (by simp [Value.cells, Value.oneCell']) (by omega) (by simp [maxLen]; omega) (by decide) fun v7' w10 HH => ?_)
        refine OL_y (y_assign rfl) (by decide) ?_
        refine OL_nil ?_
        have he2 : Els (tInt .u64) none' w (cs ++ [Value.int .u64 n].flatMap fun v => v.cells.toList) (way ++ [n]) := he.snoc ⟨rfl, hkn⟩
        have HH := HH.tail
        refine W_region ?_   -- region 9
        refine OL_y (y_loadS ti36 rfl h5 (Cells.unit (HH.getOwn 5 rfl) rfl)) (by decide) ?_
        refine OL_y (y_move h8) (by decide) ?_
        refine OL_y (y_lookup HH 6 rfl ti36 ti23 (ku _ _ Try.underlying23) rfl rfl) (by decide) ?_
        refine OL_y (y_assign (v := .int .u64 n') (by show (mget (mB ((refWalk xs fr).take (pre.length + 1))) n).getD _ = _; rw [hget]; rfl)) (by decide) ?_
        refine OL_nil ?_
        refine ⟨u, hu, n', v7', _, way ++ [n], h3, h4, h5, rfl, rfl, (hk _ (hg.ed _ (List.mem_of_getElem? hun))).1, rfl, by rw [List.length_append]; exact HH, he2, by simp; omega, ?_⟩
        by_cases hf : n' = fr
        · rw [if_pos hf] at hcy
          exact .inl ⟨hf, by rw [hcy, hf]; simp⟩
        · rw [if_neg hf] at hcy
          exact .inr ⟨hf, (hg.wf _ _ hun).resolve_left hf, by rw [hcy]; simp⟩
      · have hf : n = fr := by simpa using hc2
        obtain ⟨_, hcy⟩ := hor.resolve_right fun h => h.1 hf
        refine W_exit ?_
        refine W_seq ?_
        refine W_region ?_   -- region 11
        refine OL_y (y_move h7) (by decide) ?_
        refine OL_y (y_loadS (v := .int .u64 fr) ti23 rfl h3 (Cells.unit (HH.getOwn 8 rfl) rfl)) (by decide) ?_
        refine OL_c (op_buildSlice HH [.int .u64 fr] ti26 ti23 rfl rfl rfl (by simp [Value.cells]) rfl rfl (by decide) fun b w9 HH => ?_)
        refine OL_c (op_append HH 1 rfl rfl ti26 ti23 rfl rfl rfl rfl (Src.row (HH.getRow 0 rfl)) rfl (by simp [Value.cells, Value.oneCell']) (by omega) (by simp [maxLen]; omega) (by decide) fun v7' w10 HH => ?_)
        refine OL_y (y_assign rfl) (by decide) ?_
        refine OL_nil ?_
        have he2 : Els (tInt .u64) none' w (cs ++ [Value.int .u64 fr].flatMap fun v => v.cells.toList) (way ++ [fr]) := he.snoc ⟨rfl, hfr⟩
        have HH := HH.tail
        refine W_seq ?_
        refine W_region ?_   -- region 12
        refine OL_y (y_move rfl) (by decide) ?_
        have hrow : w10.ownsRow 0 23 1 v7' (way ++ [fr]).length (cs ++ [Value.int .u64 fr].flatMap fun v => v.cells.toList) := by rw [List.length_append]; exact HH.getRow 0 rfl
        refine OL_c (op_call 15 en15 rfl [v7'] rfl (by decide) ((f15_calls hrow (he2.flat (tInt_flat _))).mono ?_))
        rintro e w11 ⟨rfl, hE2, cs', hrow', he3⟩
        refine ⟨_, rfl, ?_⟩
        refine OL_nil ?_
        have HH := HH.step 0 rfl rfl hE2 (fun _ _ h => h) (row_ok hrow') (fun _ h => .inl h)
        have hrc : (way ++ [fr]).reverse = refCycle xs fr := by rw [hcy]; simp
        have hll : (way ++ [fr]).length = (refCycle xs fr).length := by rw [← hrc]; simp
        rw [hrc] at he3
        refine W_seq ?_
        refine W_region ?_   -- region 13
        refine OL_y (y_move rfl) (by decide) ?_
        have hsl : v7'.cells.size = 1 := by obtain ⟨a, c, rfl, _⟩ := ownsRow_slice hrow'; rfl
        have hs1 : ∀ u ∈ v7'.cells.toList, u.oneCell' = true := by obtain ⟨a, c, rfl, _⟩ := ownsRow_slice hrow'; simp [Value.cells, Value.oneCell']
        refine OL_c (op_store (v := v7') HH 7 rfl ti26 h4 rfl hsl (by decide) hs1 fun w12 HH => ?_)
        refine OL_nil ?_
        refine W_ret ?_
        have hst : laid #[.slice none 0 0] 0 v7'.cells.toList = #[v7'] := by obtain ⟨a, c, rfl, _⟩ := ownsRow_slice hrow'; rfl
        have HH : Holds w12 [row 23 1 v7' (refCycle xs fr).length cs', aL', aD, aO, own b6 (.cells #[.int .u64 x1, .int .u64 fr] 35), own b5 (.cells #[.map (some bm)] 36), mp (Value.int .u64) bm (mB ((refWalk xs fr).take (pre.length + 1))), own b4 (.cells #[v7'] 26), own b3 (.cells #[.int .u64 fr] 23), shr (fun k => k < w.heap.size) w] := by
          rw [← hst, ← hll]; exact HH
        refine ⟨_, ⟨rfl, v7', cs', mB ((refWalk xs fr).take (pre.length + 1)), rfl, he3.flat (tInt_flat _)⟩, ?_⟩
        have HH := HH.perm (List.Perm.swap _ _ _)
        have HH := HH.perm (.cons _ (List.Perm.swap _ _ _))
        have HH := HH.perm (.cons _ (.cons _ (List.Perm.swap _ _ _)))
        exact HH.sub (.cons_cons _ (.cons_cons _ (.cons_cons _ (.cons_cons _ (.cons _ (.refl _))))))
  · rintro D Ls W ⟨rfl, hni⟩ HH
    have hpl : (walkE xs fr).length = (refWalk xs fr).length := by simp [walkE, ed]
    rw [hpl, List.take_length] at hni
    refine W_seq ?_
    refine W_region ?_
    refine OL_c (op_store (v := .slice none 0 0) HH 3 rfl ti26 rfl rfl rfl (by decide) (by simp [Value.cells, Value.oneCell']) fun w6 HH => ?_)
    refine OL_nil ?_
    refine W_ret ?_
    refine RetOK.mark (HH.getOwn 0 rfl) ?_
    have HH := HH.put 0 rfl (.deferred none)
    refine ret1c (v := .slice none 0 0) Try.results9 rfl (run_loadVarS ti26 rfl (Cells.unit (HH.getOwn 3 rfl) rfl)) ⟨_, rfl, ?_, HH.ext_of 5 rfl⟩
    rw [cycle_nil hni]; exact SlR.nil _ _ _ _
  · rintro D pre Ls W e hpre ⟨rfl, v, cs, m, rfl, he⟩ HH
    refine RetOK.mark (HH.getOwn 0 rfl) ?_
    have HH := HH.put 0 rfl (.deferred none)
    refine ret1c (v := v) Try.results9 rfl (run_loadVarS ti26 rfl (Cells.unit (HH.getOwn 4 rfl) rfl)) ⟨_, rfl, ?_, HH.ext_of 6 rfl⟩
    refine SlR.ofRow (HH.getRow 1 rfl) (by decide) (he.flat (tInt_flat _)) (HH.fresh 1 6 rfl rfl) ?_
    omega
end Go.Proofs.Ytplpedigkhgakaa
