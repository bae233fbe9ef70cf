/- slices.Reverse, on a row of numbers. -/
import Derived.Test.YtplpedigkhgakaaWt
namespace Go.Proofs.Ytplpedigkhgakaa
open Go Go.Wk
set_option linter.unusedVariables false

/-- Behind i rounds of a reversal: what stands at p. -/
def rv (n i p : Nat) : Nat := if p < i ∨ n - 1 - i < p then n - 1 - p else p
set_option maxHeartbeats 1000000 in
theorem f15_calls {w : World} {v : Value} {xs : List Int} {cs : List Value} (h : w.ownsRow 0 23 1 v xs.length cs) (he : Els (tInt .u64) none' w cs xs) :
    Calls Try.prog 15 [v].toArray w fun e w' => e = .returned (.tuple #[]) ∧ Ext (fun k => v.ownBlock = some k) w w' ∧ ∃ cs', w'.ownsRow 0 23 1 v xs.length cs' ∧ Els (tInt .u64) none' w' cs' xs.reverse := by
  have hcs : cs = xs.map (Value.int .u64) := by
    apply List.ext_getElem?
    intro i
    by_cases hi : i < xs.length
    · have := (he.2 i _ (List.getElem?_eq_getElem hi)).1
      have h2 : ((cs.drop (i * (tInt .u64).sz)).take (tInt .u64).sz)[0]? = some (Value.int .u64 xs[i]) := by rw [this]; rfl
      rw [List.getElem?_take_of_lt (by show 0 < 1; omega), List.getElem?_drop] at h2
      have h3 : i * (tInt .u64).sz + 0 = i := by show i * 1 + 0 = i; omega
      rw [h3] at h2
      rw [h2]; simp [hi]
    · have hl := he.1
      have : cs.length = xs.length := by rw [hl]; show _ * 1 = _; omega
      rw [List.getElem?_eq_none (by omega), List.getElem?_eq_none (by simp; omega)]
  have hok : ∀ x ∈ xs, InK .u64 x := fun x hx => by
    obtain ⟨i, hi, rfl⟩ := List.getElem_of_mem hx
    exact (he.2 i _ (List.getElem?_eq_getElem hi)).2
  have toEls : ∀ (w : World) (ys : List Int), (∀ x ∈ ys, InK .u64 x) → Els (tInt .u64) none' w (ys.map (Value.int .u64)) ys := fun w ys hy => by
    refine ⟨by show _ = _ * 1; simp, fun i x hx => ⟨?_, hy x (List.mem_of_getElem? hx)⟩⟩
    have hi := (List.getElem?_eq_some_iff.1 hx).1
    show ((ys.map (Value.int .u64)).drop (i * 1)).take 1 = _
    apply List.ext_getElem?
    intro j
    cases j with
    | zero => simp [hx]
    | succ j => simp; omega
  obtain ⟨a, c, rfl, hc, _, hm⟩ := ownsRow_slice h
  have H := Holds.startRow h
  have hm' := hm
  simp only [maxLen] at hm'
  refine calls_of_W' Try.func15 rfl Try.ntmps15 rfl ?_
  refine W_seq ?_
  refine W_region ?_   -- region 0
  refine OL_y (y_move rfl) (by decide) ?_
  refine OL_y (y_len rfl ti26 rfl) (by decide) ?_
  refine OL_y (y_sub64 (a := xs.length) (b := 1) rfl rfl (by omega) (by omega)) (by decide) ?_
  refine OL_y (y_assign rfl) (by decide) ?_
  refine OL_y (y_assign rfl) (by decide) ?_
  refine OL_nil ?_
  by_cases h0 : xs.length = 0
  · have hx0 : xs = [] := List.eq_nil_of_length_eq_zero h0
    subst hx0
    refine W_block (W_loopN (fun j f ds w' => f 2 = .int .i64 0 ∧ f 3 = .int .i64 (-1) ∧ ds = [] ∧ w' = w) 0 ⟨rfl, rfl, rfl, rfl⟩ ?_)
    rintro j f ds w' ⟨h2, h3, rfl, rfl⟩
    refine W_seq ?_
    refine W_seq ?_
    refine W_region ?_
    refine OL_y (y_move h2) (by decide) ?_
    refine OL_y (y_move h3) (by decide) ?_
    refine OL_y (y_lss rfl rfl) (by decide) ?_
    refine OL_nil ?_
    refine W_condf rfl ?_
    refine W_exit ?_
    show RetOK _ _ _ _ _ _
    exact ret0 Try.results15 ⟨rfl, Ext.refl _ _, cs, h, by simpa using he⟩
  obtain ⟨b, c', hv, _, _⟩ := ownsRow_cells h (by omega)
  injection hv with ha _ hc'; subst ha hc'
  obtain ⟨g, cap, cur, hv, _, hg, hnc, _, hsz, htk⟩ := h.2.resolve_left (by rintro ⟨hv, _⟩; cases hv)
  injection hv with ha _ hcc; injection ha with ha; injection ha with hbg; subst hbg hcc
  have hcur : ∀ p, p < xs.length → cur[p]? = (xs[p]?).map (Value.int .u64) := fun p hp => by
    have : (cur.toList.take (xs.length * 1))[p]? = cs[p]? := by rw [htk]
    rw [List.getElem?_take_of_lt (by omega), hcs] at this
    simpa using this
  -- the row as a bare block
  have H0 : Holds w [own b (.cells cur 23), shr (fun k => k < w.heap.size ∧ (Value.slice (some ⟨b, 0, none⟩) xs.length c).ownBlock ≠ some k) w] :=
    H.step 0 rfl rfl (Ext.refl none' w) (fun _ _ h => h.elim) (own_ok hg) fun k hk => .inl (by simp only at hk; subst hk; rfl)
  clear H
  refine W_block (W_loopN (fun j f ds w' => ∃ i C, f 0 = .slice (some ⟨b, 0, none⟩) xs.length c ∧ f 2 = .int .i64 (i : Nat) ∧ f 3 = .int .i64 ((xs.length : Int) - 1 - i) ∧ ds = [] ∧ i ≤ xs.length ∧ j + i = xs.length + 1 ∧
    Holds w' [own b (.cells C 23), shr (fun k => k < w.heap.size ∧ (Value.slice (some ⟨b, 0, none⟩) xs.length c).ownBlock ≠ some k) w] ∧ C.size = cur.size ∧ (∀ p, p < xs.length → C[p]? = (xs[rv xs.length i p]?).map (Value.int .u64)) ∧ (i : Int) ≤ xs.length - 1 - i + 2) (xs.length + 1)
    ⟨0, cur, rfl, rfl, (by show Value.int .i64 ((xs.length : Int) - 1) = _; simp), rfl, by omega, by omega, H0, rfl, fun p hp => by rw [hcur p hp]; unfold rv; rw [if_neg (by omega)], by omega⟩ ?_)
  rintro j f ds w' ⟨i, C, h0', h2, h3, rfl, hi, hj, H, hCs, hC, hij⟩
  refine W_seq ?_
  refine W_seq ?_
  refine W_region ?_
  refine OL_y (y_move h2) (by decide) ?_
  refine OL_y (y_move h3) (by decide) ?_
  refine OL_y (y_lss rfl rfl) (by decide) ?_
  refine OL_nil ?_
  refine W_cond rfl (fun hc => ?_) (fun hc => ?_)
  rotate_left
  · have hc := of_decide_eq_false hc
    refine W_exit ?_
    show RetOK _ _ _ _ _ _
    have hrev : C.toList.take (xs.length * 1) = (xs.reverse).map (Value.int .u64) := by
      apply List.ext_getElem?
      intro p
      by_cases hp : p < xs.length
      · rw [List.getElem?_take_of_lt (by omega), Array.getElem?_toList, hC p hp, List.getElem?_map, List.getElem?_reverse hp]
        congr 2
        unfold rv; split
        · rfl
        · omega
      · rw [List.getElem?_eq_none (by simp; omega), List.getElem?_eq_none (by simp; omega)]
    refine ret0 Try.results15 ⟨rfl, H.ext_row 1 rfl, (xs.reverse).map (Value.int .u64), ⟨by simp, .inr ⟨b, c, C, rfl, Nat.zero_le _, H.getOwn 0 rfl, hnc, hm, by rw [hCs, hsz], hrev⟩⟩, toEls _ _ fun x hx => hok x (by simpa using hx)⟩
  have hc := of_decide_eq_true hc
  have hlt : i < xs.length := by omega
  have hjn : ((xs.length : Int) - 1 - i).toNat = xs.length - 1 - i := by omega
  obtain ⟨j, rfl⟩ : ∃ j', j = j' + 1 := ⟨j - 1, by omega⟩
  have hri : rv xs.length i i = i := by unfold rv; rw [if_neg (by omega)]
  have hrj : rv xs.length i (xs.length - 1 - i) = xs.length - 1 - i := by unfold rv; rw [if_neg (by omega)]
  have hxi := List.getElem?_eq_getElem hlt
  have hjl : xs.length - 1 - i < xs.length := by omega
  have hxj := List.getElem?_eq_getElem hjl
  have hCi : C[i]? = some (.int .u64 xs[i]) := by rw [hC i hlt, hri, hxi]; rfl
  have hCj : C[xs.length - 1 - i]? = some (.int .u64 xs[xs.length - 1 - i]) := by rw [hC _ hjl, hrj, hxj]; rfl
  have hsize : xs.length ≤ C.size := by rw [hCs, hsz]; omega
  refine W_skip ?_
  refine W_seq ?_
  refine W_block ?_
  refine W_drawD H mixed (by kernel_rfl) [13, 15] (fun w0 w' => w'.heap[b]? = some (.cells C 23)) fun w1 H hE => ?_
  have hS : Sx [13, 15] (fun w' => w'.heap[b]? = some (.cells C 23)) (List.replicate 16 false).toArray w1 := fun _ => H.getOwn 0 rfl
  refine DA_p 0 rfl (by kernel_rfl) rfl (fun _ => y_move h0') hS (by decide) fun hS => ?_
  refine DA_p 1 rfl (by kernel_rfl) rfl (fun _ => y_move h2) hS (by decide) fun hS => ?_
  refine DA_p 2 rfl (by kernel_rfl) rfl (fun _ => y_move h0') hS (by decide) fun hS => ?_
  refine DA_p 3 rfl (by kernel_rfl) rfl (fun _ => y_move h3) hS (by decide) fun hS => ?_
  refine DA_p 4 rfl (by kernel_rfl) rfl (fun _ => y_move h0') hS (by decide) fun hS => ?_
  refine DA_p 5 rfl (by kernel_rfl) rfl (fun _ => y_move h3) hS (by decide) fun hS => ?_
  refine DA_p 6 rfl (by kernel_rfl) rfl (fun _ => y_indexAddr ti26 ti23 rfl rfl (by omega) (by omega)) hS (by decide) fun hS => ?_
  refine DA_y (v := .int .u64 xs[xs.length - 1 - i]) 7 rfl (by kernel_rfl) rfl (by kernel_rfl) (fun w' h => y_loadS ti23 rfl rfl (by rw [hjn]; exact Cells.unit h (by simpa using hCj))) hS (by decide) fun hS => ?_
  refine DA_p 8 rfl (by kernel_rfl) rfl (fun _ => y_move h0') hS (by decide) fun hS => ?_
  refine DA_p 9 rfl (by kernel_rfl) rfl (fun _ => y_move h2) hS (by decide) fun hS => ?_
  refine DA_p 10 rfl (by kernel_rfl) rfl (fun _ => y_indexAddr ti26 ti23 rfl rfl (by omega) (by omega)) hS (by decide) fun hS => ?_
  refine DA_y (v := .int .u64 xs[i]) 11 rfl (by kernel_rfl) rfl (by kernel_rfl) (fun w' h => y_loadS ti23 rfl rfl (Cells.unit h (by simpa using hCi))) hS (by decide) fun hS => ?_
  refine DA_p 12 rfl (by kernel_rfl) rfl (fun _ => y_indexAddr ti26 ti23 rfl rfl (by omega) (by omega)) hS (by decide) fun hS => ?_
  refine DA_one 13 (by kernel_rfl) rfl (op_store (v := .int .u64 xs[xs.length - 1 - i]) H 0 rfl ti23 rfl rfl rfl (by simp; omega) (by simp [Value.cells, Value.oneCell']) fun w2 H => ⟨fun h => ?_, ?_⟩)
  · exact absurd (h 13 (by simp)) (by decide)
  have hS : ∀ w, Sx [13, 15] (fun w' => w'.heap[b]? = some (.cells C 23)) [true, true, true, true, true, true, true, true, true, true, true, true, true, true, false, false].toArray w := fun w h => absurd (h 13 (by simp)) (by decide)
  refine DA_p 14 rfl (by kernel_rfl) rfl (fun _ => y_indexAddr ti26 ti23 rfl rfl (by omega) (by omega)) (hS _) (by decide) fun hS => ?_
  refine DA_one 15 (by kernel_rfl) rfl (op_store (v := .int .u64 xs[i]) H 0 rfl ti23 rfl rfl rfl (by rw [laid_size]; simp; omega) (by simp [Value.cells, Value.oneCell']) fun w3 H => ⟨fun h => ?_, ?_⟩)
  · exact absurd (h 13 (by simp)) (by decide)
  refine DA_done (by kernel_rfl) ?_
  refine W_region ?_
  refine OL_y (y_move h2) (by decide) ?_
  refine OL_y (y_add64 (a := i) (b := 1) rfl rfl (by omega) (by omega)) (by decide) ?_
  refine OL_y (y_move h3) (by decide) ?_
  refine OL_y (y_sub64 (a := (xs.length : Int) - 1 - i) (b := 1) rfl rfl (by omega) (by omega)) (by decide) ?_
  refine OL_y (y_assign rfl) (by decide) ?_
  refine OL_y (y_assign rfl) (by decide) ?_
  refine OL_nil ?_
  refine ⟨j, by omega, i + 1, _, h0', rfl, (by show Value.int .i64 ((xs.length : Int) - 1 - i - 1) = _; congr 1; omega), rfl, by omega, by omega, H, by rw [laid_size, laid_size]; exact hCs, ?_, by omega⟩
  intro p hp
  show ((C.setIfInBounds (0 + (i : Int).toNat * 1) (.int .u64 xs[xs.length - 1 - i])).setIfInBounds (0 + ((xs.length : Int) - 1 - i).toNat * 1) (.int .u64 xs[i]))[p]? = _
  rw [hjn]
  simp only [Int.toNat_natCast, Nat.mul_one, Nat.zero_add]
  rw [Array.getElem?_setIfInBounds]
  by_cases hpj : xs.length - 1 - i = p
  · subst hpj
    rw [if_pos rfl, if_pos (by simp; omega)]
    have : rv xs.length (i + 1) (xs.length - 1 - i) = i := by unfold rv; rw [if_pos (by omega)]; omega
    rw [this, hxi]; rfl
  · rw [if_neg hpj, Array.getElem?_setIfInBounds]
    by_cases hpi : i = p
    · subst hpi
      rw [if_pos rfl, if_pos (by omega)]
      have : rv xs.length (i + 1) i = xs.length - 1 - i := by unfold rv; rw [if_pos (by omega)]
      rw [this, hxj]; rfl
    · rw [if_neg hpi, hC p hp]
      have : rv xs.length (i + 1) p = rv xs.length i p := by
        unfold rv
        by_cases h1 : p < i ∨ xs.length - 1 - i < p
        · rw [if_pos h1, if_pos (by omega)]
        · rw [if_neg h1, if_neg (by omega)]
      rw [this]
end Go.Proofs.Ytplpedigkhgakaa
