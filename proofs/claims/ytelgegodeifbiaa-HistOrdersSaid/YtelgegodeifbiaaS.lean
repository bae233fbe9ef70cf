/- The law HistOrders: who wrote a key stands by the times of their commits. -/
import Derived.Test.YtelgegodeifbiaaR
import Derived.Test.YtelgegodeifbiaaO8
namespace Go.Proofs.Ytelgegodeifbiaa
open Go Go.Wk Pl
set_option linter.unusedVariables false

theorem runs_nodup (h : List Ev) : ((runs h).map (·.txn)).Nodup := by
  have h1 : ∀ (l : List Ev) (s : List Rn), (s.map (·.txn)).Nodup → ((l.foldl pass1 s).map (·.txn)).Nodup := by
    intro l
    induction l with
    | nil => intro s hs; exact hs
    | cons e l ih => intro s hs; exact ih _ (pass1_nodup hs e)
  have h2 : ∀ (l : List Ev) (s : List Rn), (l.foldl pass2 s).map (·.txn) = s.map (·.txn) := by
    intro l
    induction l with
    | nil => intro s; rfl
    | cons e l ih => intro s; rw [List.foldl_cons, ih, pass2_txn]
  unfold runs
  rw [h2]
  exact h1 h [] (by simp)
theorem find_mem {l : List Rn} (hn : (l.map (·.txn)).Nodup) {r : Rn} (hr : r ∈ l) : findR l r.txn = some r := by
  unfold findR
  induction l with
  | nil => cases hr
  | cons x l ih =>
    rw [List.map_cons, List.nodup_cons] at hn
    rw [List.find?_cons]
    rcases List.mem_cons.1 hr with rfl | hr
    · simp
    · have : x.txn ≠ r.txn := fun h => hn.1 (List.mem_map.2 ⟨r, hr, h.symm⟩)
      simp only [this, decide_false]
      exact ih hn.2 hr
theorem runs_len (h : List Ev) : (runs h).length ≤ h.length := by
  have h1 : ∀ (l : List Ev) (s : List Rn), (l.foldl pass1 s).length ≤ s.length + l.length := by
    intro l
    induction l with
    | nil => intro s; simp
    | cons e l ih =>
      intro s
      have := ih (pass1 s e)
      have h2 : (pass1 s e).length ≤ s.length + 1 := by unfold pass1; split <;> simp
      rw [List.foldl_cons, List.length_cons]; omega
  have h2 : ∀ (l : List Ev) (s : List Rn), (l.foldl pass2 s).length = s.length := by
    intro l
    induction l with
    | nil => intro s; rfl
    | cons e l ih => intro s; rw [List.foldl_cons, ih]; unfold pass2; rw [List.length_map]
  unfold runs
  rw [h2]
  simpa using h1 h []

set_option maxHeartbeats 4000000 in
theorem f5_calls {Z : Nat → Prop} {w : World} {a ky : Value} {xs : List Ev} {key : Key} (hx : SlR tEv 128 Z w a xs) (hk : SlR (tInt .u8) 1 Z w ky key) :
    Calls Try.prog 5 [a, ky].toArray w fun e w' => e = .returned (.bool true) ∧ Ext none' w w' := by
  have H := Holds.start w
  obtain ⟨a0, c0, rfl, hl0, hm0⟩ := hx.len
  obtain ⟨a1, c1, rfl, hl1, hm1⟩ := hk.len
  refine calls_of_W' Try.func5 rfl Try.ntmps5 rfl ?_
  refine W_seq ?_
  refine W_region ?_
  refine OL_y (v := .bool false) (y_assign rfl) (by decide) ?_
  refine OL_nil ?_
  refine W_seq ?_
  refine W_seq ?_
  refine W_region ?_
  refine OL_c (op_call 7 en7 rfl [] rfl (by decide) ((f7_calls).mono ?_))
  rintro e w1_0 ⟨rfl, hE⟩
  refine ⟨_, rfl, ?_⟩
  have H := H.ext0 hE
  refine OL_y (v := .bool false) (y_not (b := true) rfl) (by decide) ?_
  refine OL_nil ?_
  refine W_condf rfl ?_
  refine W_skip ?_
  refine W_seq ?_
  refine W_seq ?_
  cases hsm : small xs with
  | false =>
    refine W_region ?_
    refine OL_y (y_move rfl) (by decide) ?_
    refine OL_c (op_call 8 en8 rfl [.slice a0 xs.length c0] rfl (by decide) ((hsm ▸ f8_calls (hx.keeps (H.keepsAll 0 rfl _))).mono ?_))
    rintro e w3_1 ⟨rfl, hE⟩
    refine ⟨_, rfl, ?_⟩
    have H := H.ext0 hE
    refine OL_y (v := .bool true) (y_not (b := false) rfl) (by decide) ?_
    refine OL_y (v := .bool true) (y_move rfl) (by decide) ?_
    refine OL_s rfl (by decide) rfl rfl (by simp) ?_
    refine OL_s rfl (by decide) rfl rfl (by simp) ?_
    refine OL_s rfl (by decide) rfl rfl (by simp) ?_
    refine OL_y (y_pick (b := true) (v := .bool true) rfl rfl) (by decide) ?_
    refine OL_nil ?_
    refine W_condt rfl ?_
    refine W_seq ?_
    refine W_region ?_
    refine OL_y (v := .bool true) (y_assign rfl) (by decide) ?_
    refine OL_nil ?_
    refine W_ret ?_
    show RetOK _ _ _ _ _ _
    exact ret1 (v := .bool true) Try.results5 rfl ⟨rfl, H.ext_of 0 rfl⟩
  | true =>
    refine W_region ?_
    refine OL_y (y_move rfl) (by decide) ?_
    refine OL_c (op_call 8 en8 rfl [.slice a0 xs.length c0] rfl (by decide) ((hsm ▸ f8_calls (hx.keeps (H.keepsAll 0 rfl _))).mono ?_))
    rintro e w3_1 ⟨rfl, hE⟩
    refine ⟨_, rfl, ?_⟩
    have H := H.ext0 hE
    refine OL_y (v := .bool false) (y_not (b := true) rfl) (by decide) ?_
    refine OL_y (v := .bool false) (y_move rfl) (by decide) ?_
    refine OL_yg rfl (by decide) rfl (y_move rfl) (by decide) ?_
    refine OL_yg rfl (by decide) rfl (y_len rfl ti38 rfl) (by decide) ?_
    refine OL_yg rfl (by decide) rfl (y_gtr rfl rfl) (by decide) ?_
    refine OL_y (y_pick (b := false) rfl rfl) (by decide) ?_
    refine OL_nil ?_
    refine W_cond rfl (fun hc => ?_) (fun hc => ?_)
    · refine W_seq ?_
      refine W_region ?_
      refine OL_y (v := .bool true) (y_assign rfl) (by decide) ?_
      refine OL_nil ?_
      refine W_ret ?_
      show RetOK _ _ _ _ _ _
      exact ret1 (v := .bool true) Try.results5 rfl ⟨rfl, H.ext_of 0 rfl⟩
    · refine W_skip ?_
      refine W_seq ?_
      refine W_region ?_
      refine OL_y (y_move rfl) (by decide) ?_
      refine OL_c (op_call 11 en11 rfl [.slice a0 xs.length c0] rfl (by decide) ((f11_calls (hx.keeps (H.keepsAll 0 rfl _)) (small_spec hsm).1 (small_spec hsm).2).mono ?_))
      rintro e w5_1 ⟨v5, rfl, hv5, hE⟩
      refine ⟨_, rfl, ?_⟩
      have H := H.ext0 hE
      have hv5 := hv5.mono (Z' := fun _ => True) fun _ _ _ => trivial
      have hk := hk.mono (Z' := fun _ => True) fun _ _ _ => trivial
      refine OL_y (y_assign rfl) (by decide) ?_
      refine OL_nil ?_
      refine W_seq ?_
      refine W_region ?_
      refine OL_y (y_assign rfl) (by decide) ?_
      refine OL_nil ?_
      refine W_seq ?_
      refine W_seq ?_
      refine W_region ?_
      refine OL_y (y_move rfl) (by decide) ?_
      refine OL_y (y_move rfl) (by decide) ?_
      refine OL_c (op_call 16 en16 rfl [v5, .slice a1 key.length c1] rfl (by decide) ((f16_calls hv5 (hk.keeps (H.keepsAll 0 rfl _)) (Nat.le_trans (runs_len xs) (small_spec hsm).1)).mono ?_))
      rintro e w7_2 ⟨v25, S, rfl, hp, hs, hv25, hE2⟩
      refine ⟨_, rfl, ?_⟩
      have H := H.ext0 hE2
      have hv25 := hv25.mono (Z' := fun _ => True) fun _ _ _ => trivial
      have hv5 := hv5.keeps hE2.keeps0
      obtain ⟨a2, c2, rfl, hl2, hm2⟩ := hv25.len
      have hS : ∀ r ∈ S, findR (runs xs) r.txn = some r ∧ r.state = 1 := fun r hr => by
        have h := List.mem_filter.1 (hp.mem_iff.1 hr)
        refine ⟨find_mem (runs_nodup xs) h.1, ?_⟩
        have := h.2
        unfold picks at this
        rw [Bool.and_eq_true, decide_eq_true_iff] at this
        exact this.1
      have hW := H.ext_of 0 rfl
      have H := Holds.start w7_2
      refine OL_y (y_len rfl ti39 rfl) (by decide) ?_
      refine OL_y (y_move rfl) (by decide) ?_
      refine OL_nil ?_
      refine W_range (N := (S.map (·.txn)).length) (by omega) (fun k f ds w' => ∃ last : Int, f 5 = v5 ∧ f 6 = .int .u64 last ∧ f 25 = .slice a2 (S.map (·.txn)).length c2 ∧ ds = [] ∧ (k = 0 ∨ ∃ y, S[k - 1]? = some y ∧ last = y.ts) ∧ Holds w' [shr (fun k => k < w7_2.heap.size) w7_2])
          ⟨0, rfl, rfl, rfl, rfl, .inl rfl, H⟩
          rfl rfl (by decide) (by decide) (by decide) rfl rfl ?_ rfl rfl ?_
      · rintro k f ds w2 hk' ⟨last, h5, h6, h25, rfl, hlast, H⟩ hti htn
        rw [List.length_map] at hk'
        have hxk : S[k]? = some S[k] := List.getElem?_eq_getElem hk'
        have hxt : (S.map (·.txn))[k]? = some S[k].txn := by rw [List.getElem?_map, hxk]; rfl
        obtain ⟨b1, o1, cs1, e1, hz1, hc1, hr1⟩ := (hv25.keeps (H.keepsAll 0 rfl _)).at hxt
        obtain ⟨rfl, hin⟩ := hr1
        obtain ⟨hfind, hst⟩ := hS S[k] (List.getElem_mem hk')
        have hts : 0 < k → last ≤ S[k].ts := fun h0 => by
          rcases hlast with h | ⟨y, hy, rfl⟩
          · omega
          · obtain ⟨hl, ey⟩ := List.getElem?_eq_some_iff.1 hy
            have := List.pairwise_iff_getElem.1 hs (k - 1) k hl hk' (by omega)
            rw [ey, cmpR_neg] at this
            omega
        generalize S[k] = r at *
        have h25' := h25.trans (congrArg (Value.slice · _ _) e1)
        refine W_block ?_
        refine W_seq ?_
        refine W_region ?_
        refine OL_y (y_move hti) (by decide) ?_
        refine OL_y (y_indexAddr ti39 ti26 h25' hti (by omega) (by rw [List.length_map]; omega)) (by decide) ?_
        refine OL_y (y_loadS (v := .int .u64 r.txn) ti26 rfl rfl hc1) (by decide) ?_
        refine OL_y (y_assign rfl) (by decide) ?_
        refine OL_y (y_assign rfl) (by decide) ?_
        refine OL_nil ?_
        refine W_seq ?_
        refine W_region ?_
        refine OL_y (y_move h5) (by decide) ?_
        refine OL_y (y_move rfl) (by decide) ?_
        refine OL_c (op_call 13 en13 rfl [v5, .int .u64 r.txn] rfl (by decide) ((f13_calls (txn := r.txn) (hv5.keeps (H.keepsAll 0 rfl _))).mono ?_))
        rintro e w10_2 ⟨cs, rfl, hcs, hE3⟩
        refine ⟨_, rfl, ?_⟩
        have H := H.ext0 hE3
        rw [hfind] at hcs
        obtain ⟨vk, vs, vp, rfl, -⟩ := rn_cells.1 hcs
        have hone := tRn.one hcs
        refine OL_y (y_move rfl) (by decide) ?_
        refine OL_y (y_extract rfl rfl) (by decide) ?_
        refine OL_y (y_extract rfl rfl) (by decide) ?_
        refine OL_var (v := .agg #[.int .u64 r.txn, .int .i64 r.level, .int .i64 r.state, .int .u64 r.start, .int .u64 r.ts, vk, vs, vp]) H ti33 rfl (by decide) (fun _ => rfl) rfl (hone) fun b9 w10_6 H => ?_
        refine OL_y (y_assign rfl) (by decide) ?_
        refine OL_nil ?_
        refine W_seq ?_
        refine W_seq ?_
        by_cases hk0 : 0 < k
        · refine W_region ?_
          refine OL_y (y_move (v := .bool true) (by show Value.bool (findR (runs xs) r.txn).isSome = _; rw [hfind]; rfl)) (by decide) ?_
          refine OL_y (v := .bool false) (y_not (b := true) rfl) (by decide) ?_
          refine OL_y (v := .bool false) (y_move rfl) (by decide) ?_
          refine OL_yg rfl (by decide) rfl (y_fieldAddr ti33 rfl ti3 rfl rfl) (by decide) ?_
          refine OL_yg rfl (by decide) rfl (y_loadS (v := .int .i64 r.state) ti3 rfl rfl (Cells.unit (H.getOwn 0 rfl) rfl)) (by decide) ?_
          refine OL_yg (v := .bool false) rfl (by decide) rfl (y_neqF hst rfl rfl) (by decide) ?_
          refine OL_y (y_pick (b := false) (v := .bool false) rfl rfl) (by decide) ?_
          refine OL_y (v := .bool false) (y_move rfl) (by decide) ?_
          refine OL_yg rfl (by decide) rfl (y_move rfl) (by decide) ?_
          refine OL_yg (v := .bool true) rfl (by decide) rfl (y_gtrT (by omega) rfl rfl) (by decide) ?_
          refine OL_yg (v := .bool true) rfl (by decide) rfl (y_move rfl) (by decide) ?_
          refine OL_yg rfl (by decide) rfl (y_fieldAddr ti33 rfl ti26 rfl rfl) (by decide) ?_
          refine OL_yg rfl (by decide) rfl (y_loadS (v := .int .u64 r.ts) ti26 rfl rfl (Cells.unit (H.getOwn 0 rfl) rfl)) (by decide) ?_
          refine OL_yg rfl (by decide) rfl (y_move h6) (by decide) ?_
          refine OL_yg (v := .bool false) rfl (by decide) rfl (y_lssF (by have := hts hk0; omega) rfl rfl) (by decide) ?_
          refine OL_yg rfl (by decide) rfl (y_pick (b := true) (v := .bool false) rfl rfl) (by decide) ?_
          refine OL_y (y_pick (b := false) (v := .bool false) rfl rfl) (by decide) ?_
          refine OL_nil ?_
          refine W_condf rfl ?_
          refine W_skip ?_
          refine W_region ?_
          refine OL_y (y_fieldAddr ti33 rfl ti26 rfl rfl) (by decide) ?_
          refine OL_y (y_loadS (v := .int .u64 r.ts) ti26 rfl rfl (Cells.unit (H.getOwn 0 rfl) rfl)) (by decide) ?_
          refine OL_y (y_assign rfl) (by decide) ?_
          refine OL_nil ?_
          exact ⟨hti, htn, r.ts, h5, rfl, h25, rfl, .inr ⟨r, by simpa using hxk, rfl⟩, H.tail⟩
        · refine W_region ?_
          refine OL_y (y_move (v := .bool true) (by show Value.bool (findR (runs xs) r.txn).isSome = _; rw [hfind]; rfl)) (by decide) ?_
          refine OL_y (v := .bool false) (y_not (b := true) rfl) (by decide) ?_
          refine OL_y (v := .bool false) (y_move rfl) (by decide) ?_
          refine OL_yg rfl (by decide) rfl (y_fieldAddr ti33 rfl ti3 rfl rfl) (by decide) ?_
          refine OL_yg rfl (by decide) rfl (y_loadS (v := .int .i64 r.state) ti3 rfl rfl (Cells.unit (H.getOwn 0 rfl) rfl)) (by decide) ?_
          refine OL_yg (v := .bool false) rfl (by decide) rfl (y_neqF hst rfl rfl) (by decide) ?_
          refine OL_y (y_pick (b := false) (v := .bool false) rfl rfl) (by decide) ?_
          refine OL_y (v := .bool false) (y_move rfl) (by decide) ?_
          refine OL_yg rfl (by decide) rfl (y_move rfl) (by decide) ?_
          refine OL_yg (v := .bool false) rfl (by decide) rfl (y_gtrF (by omega) rfl rfl) (by decide) ?_
          refine OL_yg (v := .bool false) rfl (by decide) rfl (y_move rfl) (by decide) ?_
          refine OL_s rfl (by decide) rfl rfl (by simp) ?_
          refine OL_s rfl (by decide) rfl rfl (by simp) ?_
          refine OL_s rfl (by decide) rfl rfl (by simp) ?_
          refine OL_s rfl (by decide) rfl rfl (by simp) ?_
          refine OL_yg rfl (by decide) rfl (y_pick (b := false) (v := .bool false) rfl rfl) (by decide) ?_
          refine OL_y (y_pick (b := false) (v := .bool false) rfl rfl) (by decide) ?_
          refine OL_nil ?_
          refine W_condf rfl ?_
          refine W_skip ?_
          refine W_region ?_
          refine OL_y (y_fieldAddr ti33 rfl ti26 rfl rfl) (by decide) ?_
          refine OL_y (y_loadS (v := .int .u64 r.ts) ti26 rfl rfl (Cells.unit (H.getOwn 0 rfl) rfl)) (by decide) ?_
          refine OL_y (y_assign rfl) (by decide) ?_
          refine OL_nil ?_
          exact ⟨hti, htn, r.ts, h5, rfl, h25, rfl, .inr ⟨r, by simpa using hxk, rfl⟩, H.tail⟩
      · rintro f ds w2 ⟨last, h5, h6, h25, rfl, hlast, H⟩ hti htn
        refine W_seq ?_
        refine W_region ?_
        refine OL_y (v := .bool true) (y_assign rfl) (by decide) ?_
        refine OL_nil ?_
        refine W_ret ?_
        show RetOK _ _ _ _ _ _
        exact ret1 (v := .bool true) Try.results5 rfl ⟨rfl, hW.trans (H.ext_of 0 rfl)⟩
end Go.Proofs.Ytelgegodeifbiaa
