/- What is read of a key is at least its first version. -/
import Derived.Test.YtngnplhdokboiaaAW
import Derived.Test.YtngnplhdokboiaaE
import Derived.Test.YtngnplhdokboiaaRP
namespace Go.Proofs.Ytngnplhdokboiaa
open Go Go.Wk
set_option linter.unusedVariables false
set_option linter.unusedSimpArgs false

theorem small_of {xs : List Sn} {cs : List Cl} (h : fewB xs cs = true) : cs.length ≤ 12 ∧ (∀ c ∈ cs, c.vers.length ≤ 8 ∧ ∀ v ∈ c.vers, v.keys.length ≤ 10) ∧ xs.length ≤ 12 ∧ ∀ x ∈ xs, x.keys.length ≤ 8 := by
  unfold fewB at h
  simp only [Bool.and_eq_true, List.all_eq_true, decide_eq_true_eq, smallB] at h
  exact ⟨h.2.2, fun c hc => ⟨(h.1.2 c hc).1, fun v hv => ((h.1.2 c hc).2 v hv).2⟩, h.2.1, h.1.1⟩
theorem _root_.Go.Wk.Holds.rowAt0 {α : Type} {T : Ty α} {w w0 : World} {L : List Atom} {Z : Nat → Prop} (h : Holds w L) (i : Nat) {e n : Nat} {v : Value} {cs : List Value} {xs : List α} (hi : L[i]? = some (row e T.sz v n cs)) (he : Els T Z w0 cs xs) {j : Nat} {x : α} (hx : xs[j]? = some x) (hp : Nat.ble 1 T.sz = true) :
    ∃ b c cs', v = .slice (some ⟨b, 0, none⟩) n c ∧ Cells w b (0 + j * T.sz) cs' ∧ T.R Z w0 cs' x := by
  have ho := h.get hi
  have hp' := Nat.le_of_ble_eq_true hp
  have hl := ownsRow_slice ho
  have hj := (List.getElem?_eq_some_iff.1 hx).1
  have hn : n = xs.length := by
    obtain ⟨_, _, _, _, h1, _⟩ := hl; rw [he.1] at h1; exact (Nat.eq_of_mul_eq_mul_right hp' h1).symm
  obtain ⟨b, c, hv, hc, hC⟩ := ownsRow_cells ho (by omega)
  refine ⟨b, c, (cs.drop (j * T.sz)).take T.sz, hv, ?_, he.2 j x hx⟩
  refine hC.take (j * T.sz) ?_
  rw [List.length_take, List.length_drop]
  have hb : j * T.sz + T.sz ≤ cs.length := by rw [he.1]; have := Nat.mul_le_mul_right T.sz (show j + 1 ≤ xs.length from hj); rw [Nat.add_mul] at this; omega
  rw [Nat.min_eq_left (by omega)]
def lastTs (l : List Sn) : Int := match l.getLast? with
  | some x => x.ts
  | none => 0
theorem nodup_take {cs : List Cl} {i : Nat} (hi : i < cs.length) (h : ((cs.take i).map (·.key)).Nodup) (hn : ∀ d ∈ cs.take i, cs[i].key ≠ d.key) : ((cs.take (i + 1)).map (·.key)).Nodup := by
  rw [List.take_add_one, List.getElem?_eq_getElem hi, Option.toList_some, List.map_append, List.nodup_append]
  refine ⟨h, by simp, fun a ha b hb => ?_⟩
  obtain ⟨d, hd, rfl⟩ := List.mem_map.1 ha
  simp only [List.map_cons, List.map_nil, List.mem_singleton] at hb
  subst hb
  exact fun e => hn d hd e.symm

set_option maxHeartbeats 16000000 in
theorem f3_calls {Z : Nat → Prop} {w : World} {b : Value} {ss : List Value} {s : Sp} {cs : List Cl} (hs : tSp.R Z w ss s) (hc : SlR tCl 120 Z w b cs) :
    Calls Try.prog 3 [.agg ss.toArray, b].toArray w fun e w' => e = .returned (.bool true) ∧ Ext none' w w' := by
  have H := Holds.start w
  have hs := tSp.mono (Z' := fun k => k < w.heap.size) hs fun k h _ => h
  have hc := hc.mono (Z' := fun k => k < w.heap.size) fun k h _ => h
  obtain ⟨Z, hZd⟩ : ∃ Z : Nat → Prop, Z = fun k => k < w.heap.size := ⟨_, rfl⟩
  rw [← hZd] at hs hc
  obtain ⟨wl, wh, rfl, hlo, hhi⟩ := sp_cells.1 hs
  have hM := hc.len1 (by decide)
  obtain ⟨a1, c1, rfl, hl1, hm1⟩ := hc.len
  refine calls_of_W' Try.func3 rfl Try.ntmps3 rfl ?_
  refine W_seq ?_
  refine W_region ?_
  refine OL_c (op_box (v := .agg #[wl, wh]) H rfl (by decide) fun b2 w0_0 H => ?_)
  refine OL_y (v := .bool false) (y_assign rfl) (by decide) ?_
  refine OL_nil ?_
  refine W_seq ?_
  refine W_seq ?_
  refine W_region ?_
  refine OL_c (op_call 6 en6 rfl [] rfl (by decide) ((f6_calls).mono ?_))
  rintro e w1_0 ⟨rfl, hE6⟩
  refine ⟨_, rfl, ?_⟩
  have H := H.ext0 hE6
  refine OL_y (y_not (b := true) rfl) (by decide) ?_
  refine OL_nil ?_
  have kp := H.keepsAll 1 rfl Z
  refine W_condf rfl ?_
  refine W_skip ?_
  refine W_seq ?_
  refine W_seq ?_
  rcases hfew : fewB [] cs with _ | _
  · refine W_region ?_
    refine OL_y (y_move rfl) (by decide) ?_
    refine OL_c (op_call 7 en7 rfl [.slice none 0 0, .slice a1 cs.length c1] rfl (by decide) (((show Calls Try.prog 7 [_, _].toArray _ fun e w' => e = .returned (.bool false) ∧ Ext none' _ w' by have := f7_calls (SlR.nil tSn 64 Z _) (hc.keeps kp); rw [hfew] at this; exact this)).mono ?_))
    rintro e w3_1 ⟨rfl, hE7⟩
    refine ⟨_, rfl, ?_⟩
    have H := H.ext0 hE7
    refine OL_y (y_not (b := false) rfl) (by decide) ?_
    refine OL_nil ?_
    refine W_condt rfl ?_
    refine W_seq ?_
    refine W_region ?_
    refine OL_y (v := .bool true) (y_assign rfl) (by decide) ?_
    refine OL_nil ?_
    refine W_ret ?_
    show RetOK _ _ _ _ _ _
    exact ret1 (v := .bool true) Try.results3 rfl ⟨rfl, H.ext_of 1 rfl⟩
  · refine W_region ?_
    refine OL_y (y_move rfl) (by decide) ?_
    refine OL_c (op_call 7 en7 rfl [.slice none 0 0, .slice a1 cs.length c1] rfl (by decide) (((show Calls Try.prog 7 [_, _].toArray _ fun e w' => e = .returned (.bool true) ∧ Ext none' _ w' by have := f7_calls (SlR.nil tSn 64 Z _) (hc.keeps kp); rw [hfew] at this; exact this)).mono ?_))
    rintro e w3_1 ⟨rfl, hE7⟩
    refine ⟨_, rfl, ?_⟩
    have H := H.ext0 hE7
    refine OL_y (y_not (b := true) rfl) (by decide) ?_
    refine OL_nil ?_
    refine W_condf rfl ?_
    refine W_skip ?_
    refine W_seq ?_
    refine W_seq ?_
    obtain ⟨hle, hver, -, -⟩ := small_of hfew
    refine W_region ?_
    refine OL_y (y_move rfl) (by decide) ?_
    refine OL_y (y_len rfl ti25 rfl) (by decide) ?_
    refine OL_y (y_move rfl) (by decide) ?_
    refine OL_nil ?_
    refine W_range (N := cs.length) (by omega) (fun i f ds w' => f 1 = .slice a1 cs.length c1 ∧ f 2 = .pointer (some ⟨b2, 0, none⟩) ∧ f 22 = .slice a1 cs.length c1 ∧ ds = [] ∧ ((cs.take i).map (·.key)).Nodup ∧ Holds w' [own b2 (.cells #[wl, wh] 24), shr (fun k => k < w.heap.size) w])
        ⟨rfl, rfl, rfl, rfl, by simp, H⟩
        rfl rfl (by decide) (by decide) (by decide) rfl rfl ?_ rfl rfl ?_
    · rintro i f ds w1 hi ⟨h1, h2, h22, rfl, hnd, H⟩ hti htn
      have hxi := List.getElem?_eq_getElem hi
      obtain ⟨b3, o3, cs3, e3, hz3, hc3, hr3⟩ := hc.at hxi
      have hc3' := hc3.ext ((H.keepsAll 1 rfl Z).2 _ hz3 hc3.lt)
      have hnt := nodup_take hi hnd
      generalize cs[i] = c at *
      obtain ⟨vk, vv, is, rfl, hck, hcv, hci⟩ := cl_cells.1 hr3
      obtain ⟨iv, ik, rfl, -⟩ := ver_cells.1 hci
      have hone := tCl.one hr3
      have h22' := h22.trans (congrArg (Value.slice · _ _) e3)
      refine W_block ?_
      refine W_seq ?_
      refine W_region ?_
      refine OL_y (y_move hti) (by decide) ?_
      refine OL_y (y_indexAddr ti25 ti34 h22' hti (by omega) (by omega)) (by decide) ?_
      refine OL_y (y_loadA ti34 rfl rfl hc3' rfl) (by decide) ?_
      refine OL_c (op_alloc H ti34 (by decide) fun b6 w7_3 H => ?_)
      refine OL_y (y_assign rfl) (by decide) ?_
      refine OL_c (op_store (v := .agg #[vk, vv, .int .u64 c.intent.ts, .int .u64 c.intent.txn, .bool c.intent.dead, iv, ik]) H 0 rfl ti34 rfl rfl rfl (by decide) hone fun w7_5 H => ?_)
      refine OL_nil ?_
      refine W_seq ?_
      refine W_region ?_
      refine OL_y (y_move h1) (by decide) ?_
      refine OL_y (y_move rfl) (by decide) ?_
      refine OL_y (y_sliceH ti25 ti34 rfl rfl (by omega) (by omega)) (by decide) ?_
      refine OL_y (y_len rfl ti25 rfl) (by decide) ?_
      refine OL_y (y_move rfl) (by decide) ?_
      refine OL_nil ?_
      obtain ⟨pre, hpre⟩ : ∃ pre, pre = cs.take i := ⟨_, rfl⟩
      have hct : SlR tCl 120 Z w (.slice (cutA a1 c1 0 7) i c1) pre := by rw [hpre]; exact hc.take i (by omega) c1 7
      have hpl : pre.length = i := by rw [hpre, List.length_take]; omega
      rw [← hpre] at hnt
      refine W_range (N := i) (by omega) (fun j g ds w' => g 1 = .slice a1 cs.length c1 ∧ g 2 = .pointer (some ⟨b2, 0, none⟩) ∧ g 22 = .slice a1 cs.length c1 ∧ g 24 = f 24 ∧ g 23 = f 23 ∧ g 6 = .pointer (some ⟨b6, 0, none⟩) ∧ g 31 = .slice (cutA a1 c1 0 7) i c1 ∧ ds = [] ∧ (∀ d ∈ pre.take j, c.key ≠ d.key) ∧ Holds w' [own b6 (.cells #[vk, vv, .int .u64 c.intent.ts, .int .u64 c.intent.txn, .bool c.intent.dead, iv, ik] 34), own b2 (.cells #[wl, wh] 24), shr (fun k => k < w.heap.size) w])
          ⟨h1, h2, h22, rfl, rfl, rfl, rfl, rfl, by simp, H⟩
          rfl rfl (by decide) (by decide) (by decide) rfl rfl ?_ rfl rfl ?_
      · rintro j g ds w2 hj ⟨h1, h2, h22, h24, h23, h6, h31, rfl, hne, H⟩ htj htm
        have hxj : pre[j]? = some (pre[j]'(by omega)) := List.getElem?_eq_getElem (by omega)
        obtain ⟨b4, o4, cs4, e4, hz4, hc4, hr4⟩ := hct.at hxj
        have hc4' := hc4.ext ((H.keepsAll 2 rfl Z).2 _ hz4 hc4.lt)
        have htk : ∀ d ∈ pre.take (j + 1), d ∈ pre.take j ∨ d = pre[j]'(by omega) := by intro d hd; rw [List.take_add_one, hxj] at hd; rcases List.mem_append.1 hd with h | h <;> simp_all
        generalize pre[j]'(by omega) = d at *
        obtain ⟨uk, uv, us, rfl, hdk, hdv, hdi⟩ := cl_cells.1 hr4
        obtain ⟨jv, jk, rfl, -⟩ := ver_cells.1 hdi
        have hone4 := tCl.one hr4
        have h31' := h31.trans (congrArg (Value.slice · _ _) e4)
        refine W_block ?_
        refine W_seq ?_
        refine W_region ?_
        refine OL_y (y_indexAddr ti25 ti34 h31' htj (by omega) (by omega)) (by decide) ?_
        refine OL_y (y_loadA ti34 rfl rfl hc4' rfl) (by decide) ?_
        refine OL_var (v := .agg #[uk, uv, .int .u64 d.intent.ts, .int .u64 d.intent.txn, .bool d.intent.dead, jv, jk]) H ti34 rfl (by decide) (fun _ => rfl) rfl (hone4) fun b8 w10_2 H => ?_
        refine OL_nil ?_
        refine W_seq ?_
        refine W_region ?_
        refine OL_y (y_fieldAddr ti34 rfl ti22 rfl h6) (by decide) ?_
        refine OL_y (y_loadS (v := vk) ti22 rfl rfl (Cells.unit (H.getOwn 1 rfl) rfl)) (by decide) ?_
        refine OL_y (y_toStr Try.underlying22 Try.underlying5 Try.underlying9 rfl (hck.keeps (H.keepsAll 3 rfl _))) (by decide) ?_
        refine OL_y (y_fieldAddr ti34 rfl ti22 rfl rfl) (by decide) ?_
        refine OL_y (y_loadS (v := uk) ti22 rfl rfl (Cells.unit (H.getOwn 0 rfl) rfl)) (by decide) ?_
        refine OL_y (y_toStr Try.underlying22 Try.underlying5 Try.underlying9 rfl (hdk.keeps (H.keepsAll 3 rfl _))) (by decide) ?_
        refine OL_y (y_eqlS rfl rfl) (by decide) ?_
        refine OL_nil ?_
        refine W_cond rfl (fun hc => ?_) (fun hc => ?_)
        · refine W_seq ?_
          refine W_region ?_
          refine OL_y (v := .bool true) (y_assign rfl) (by decide) ?_
          refine OL_nil ?_
          refine W_ret ?_
          show RetOK _ _ _ _ _ _
          exact ret1 (v := .bool true) Try.results3 rfl ⟨rfl, H.ext_of 3 rfl⟩
        · refine W_skip ?_
          have hc := of_decide_eq_false hc
          refine ⟨htj, htm, h1, h2, h22, h24, h23, h6, h31, rfl, fun e he => ?_, H.tail⟩
          rcases htk e he with he | rfl
          · exact hne e he
          · exact fun h => hc (by rw [h])
      · rintro g ds w2 ⟨h1, h2, h22, h24, h23, h6, h31, rfl, hne, H⟩ htj htm
        rw [List.take_of_length_le (by omega)] at hne
        have h24' := h24.trans hti
        have h23' := h23.trans htn
        exact ⟨h24', h23', h1, h2, h22, rfl, hnt hne, H.tail⟩
    · rintro f ds w1 ⟨h1, h2, h22, rfl, hnd, H⟩ hti htn
      rw [List.take_length] at hnd
      refine W_seq ?_
      have kp := H.keepsAll 1 rfl Z
      refine W_region ?_
      refine OL_y (y_loadA (cs := [wl, wh]) ti24 rfl h2 (Cells.of (H.getOwn 0 rfl) rfl) rfl) (by decide) ?_
      refine OL_y (y_move h1) (by decide) ?_
      refine OL_c (op_call 8 en8 rfl [.slice none 0 0, .agg #[wl, wh], .slice a1 cs.length c1] rfl (by decide) ((f8_calls (seen := []) (cells := cs) (fun k h => by rw [hZd] at h; exact Nat.lt_of_lt_of_le h kp.1) (SlR.nil _ _ _ _) (tSp.keeps hs kp) (hc.keeps kp) (by omega) (by simp) (fun c hc v hv => (hver c hc).2 v hv) (by simp)).mono ?_))
      rintro e w15_2 ⟨v9, v10, need, rfl, hp, hg, hn, hE⟩
      refine ⟨_, rfl, ?_⟩
      obtain ⟨got, hgd⟩ : ∃ got, got = gotZ [] s cs := ⟨_, rfl⟩
      rw [← hgd] at hg
      have H := H.ext0 hE
      obtain ⟨a9, c9, rfl, hl9, hm9⟩ := hg.len
      obtain ⟨a10, c10, rfl, hl10, hm10⟩ := hn.len
      refine OL_y (y_move rfl) (by decide) ?_
      refine OL_y (y_extract (v := .slice a9 got.length c9) rfl rfl) (by decide) ?_
      refine OL_y (y_extract (v := .slice a10 need.length c10) rfl rfl) (by decide) ?_
      refine OL_y (y_assign rfl) (by decide) ?_
      refine OL_y (y_assign rfl) (by decide) ?_
      refine OL_nil ?_
      have hE0 := H.ext_of 1 rfl
      have hc := hc.keeps (H.keepsAll 1 rfl Z)
      have H := Holds.start w15_2
      obtain ⟨Z2, hZ2⟩ : ∃ Z2 : Nat → Prop, Z2 = fun k => k < w15_2.heap.size := ⟨_, rfl⟩
      have hg := hg.mono (Z' := Z2) fun k h _ => by rw [hZ2]; exact h
      have hn := hn.mono (Z' := Z2) fun k h _ => by rw [hZ2]; exact h
      obtain ⟨gc, hgs, hge⟩ := hg.src
      obtain ⟨nc, hns, hne⟩ := hn.src
      have hgn := hge.append hne
      have hgL : got.length ≤ 12 := by rw [hgd]; exact Nat.le_trans (List.length_filter_le _ _) (by rw [List.length_map]; exact hle)
      have hnL : need.length ≤ 140737488351232 / 64 := by have := hn.reach; omega
      refine W_seq ?_
      refine W_seq ?_
      refine W_region ?_
      refine OL_y (y_move h1) (by decide) ?_
      refine OL_y (y_len rfl ti25 rfl) (by decide) ?_
      refine OL_y (y_move rfl) (by decide) ?_
      refine OL_nil ?_
      refine W_range (N := cs.length) (by omega) (fun i f ds w' => f 1 = .slice a1 cs.length c1 ∧ f 9 = .slice a9 got.length c9 ∧ f 10 = .slice a10 need.length c10 ∧ f 52 = .slice a1 cs.length c1 ∧ ds = [] ∧ Holds w' [shr (fun k => k < w15_2.heap.size) w15_2])
          ⟨h1, rfl, rfl, rfl, rfl, H⟩
          rfl rfl (by decide) (by decide) (by decide) rfl rfl ?_ rfl rfl ?_
      · rintro i f ds w3 hi ⟨h1, h9, h10, h52, rfl, H⟩ hti htn
        have hxi := List.getElem?_eq_getElem hi
        obtain ⟨b3, o3, cs3, e3, hz3, hc3, hr3⟩ := hc.at hxi
        have hc3' := hc3.ext ((H.keepsAll 0 rfl Z).2 _ hz3 hc3.lt)
        have hcm := List.getElem_mem hi
        generalize cs[i] = c at *
        obtain ⟨z, hzf, hzt⟩ := latest_law hnd hp hcm
        rw [← hgd] at hzf
        obtain ⟨vk, vv, is, rfl, hck, hcv, hci⟩ := cl_cells.1 hr3
        obtain ⟨iv, ik, rfl, -⟩ := ver_cells.1 hci
        obtain ⟨av, cv, rfl, hlv, hmv⟩ := hcv.len
        have hone := tCl.one hr3
        have h52' := h52.trans (congrArg (Value.slice · _ _) e3)
        refine W_block ?_
        refine W_seq ?_
        refine W_region ?_
        refine OL_y (y_indexAddr ti25 ti34 h52' hti (by omega) (by omega)) (by decide) ?_
        refine OL_y (y_loadA ti34 rfl rfl hc3' rfl) (by decide) ?_
        refine OL_var (v := .agg #[vk, .slice av c.vers.length cv, .int .u64 c.intent.ts, .int .u64 c.intent.txn, .bool c.intent.dead, iv, ik]) H ti34 rfl (by decide) (fun _ => rfl) rfl (hone) fun b12 w18_2 H => ?_
        refine OL_nil ?_
        refine W_seq ?_
        refine W_region ?_
        refine OL_y (y_assign rfl) (by decide) ?_
        refine OL_y (y_assign rfl) (by decide) ?_
        refine OL_nil ?_
        refine W_seq ?_
        refine W_seq ?_
        have kp3 := H.keepsAll 1 rfl Z2
        have H := H.rowNil 39 4
        refine W_region ?_
        refine OL_y (y_move h9) (by decide) ?_
        refine OL_c (op_append (news := gc) H 0 rfl rfl ti35 ti39 rfl rfl rfl rfl (hgs _ (H.keepsAll 2 rfl Z2)) hge.1 (fun u hu => hge.one (by decide) u hu) (by omega) (by simp [maxLen]; omega) (by decide) fun v59 w20_1 H => ?_)
        refine OL_y (y_move h10) (by decide) ?_
        refine OL_c (op_append (news := nc) H 0 rfl rfl ti35 ti39 rfl rfl rfl rfl (hns _ (H.keepsAll 2 rfl Z2)) hne.1 (fun u hu => hne.one (by decide) u hu) (by omega) (by simp [maxLen]; omega) (by decide) fun v61 w20_3 H => ?_)
        obtain ⟨a61, c61, rfl, hl61, hm61⟩ := H.rowLen 0 rfl
        have H := H
        refine OL_y (y_len rfl ti35 rfl) (by decide) ?_
        refine OL_y (y_move rfl) (by decide) ?_
        refine OL_nil ?_
        have hN61 : 0 + got.length + need.length = (got ++ need).length := by rw [List.length_append]; omega
        refine W_range (N := 0 + got.length + need.length) (by omega) (fun j g ds w' => ∃ (n : Int) (ts : Int), g 1 = .slice a1 cs.length c1 ∧ g 9 = .slice a9 got.length c9 ∧ g 10 = .slice a10 need.length c10 ∧ g 52 = .slice a1 cs.length c1 ∧ g 54 = f 54 ∧ g 53 = f 53 ∧ g 12 = .pointer (some ⟨b12, 0, none⟩) ∧ g 61 = .slice a61 (0 + got.length + need.length) c61 ∧ g 14 = .int .i64 n ∧ g 13 = .int .u64 ts ∧ ds = [] ∧ n = ((((got ++ need).take j).filter fun x => decide (x.key = c.key)).length : Int) ∧ ts = lastTs (((got ++ need).take j).filter fun x => decide (x.key = c.key)) ∧ Holds w' [row 39 4 (.slice a61 (0 + got.length + need.length) c61) (0 + got.length + need.length) ([] ++ gc ++ nc), own b12 (.cells #[vk, .slice av c.vers.length cv, .int .u64 c.intent.ts, .int .u64 c.intent.txn, .bool c.intent.dead, iv, ik] 34), shr (fun k => k < w15_2.heap.size) w15_2])
            ⟨0, 0, h1, h9, h10, h52, rfl, rfl, rfl, rfl, rfl, rfl, rfl, rfl, rfl, H⟩
            rfl rfl (by decide) (by decide) (by decide) rfl rfl ?_ rfl rfl ?_
        · rintro j g ds w4 hj ⟨n, ts, h1, h9, h10, h52, h54, h53, h12, h61, h14, h13, rfl, hn', hts', H⟩ htj htm
          have hxj : (got ++ need)[j]? = some ((got ++ need)[j]'(by omega)) := List.getElem?_eq_getElem (by omega)
          have htk : ((got ++ need).take (j + 1)).filter (fun x => decide (x.key = c.key)) = ((got ++ need).take j).filter (fun x => decide (x.key = c.key)) ++ [(got ++ need)[j]'(by omega)].filter (fun x => decide (x.key = c.key)) := by rw [List.take_add_one, hxj, Option.toList_some, List.filter_append]
          generalize (got ++ need)[j]'(by omega) = x at *
          obtain ⟨b7, c7, cs7, e7, hc7, hr7⟩ := H.rowAt0 (T := tSn) (Z := Z2) 0 rfl hgn hxj rfl
          obtain ⟨xk, xl, rfl, hxk, hx1, hx2, hxl⟩ := sn_cells.1 hr7
          have hone7 := tSn.one hr7
          have h61' := h61.trans e7
          have hnb : n ≤ 1 := by rw [hn']; have h1 : (((got ++ need).take j).filter fun x => decide (x.key = c.key)).length ≤ ((got ++ need).filter fun x => decide (x.key = c.key)).length := ((List.take_sublist j _).filter _).length_le; rw [hzf] at h1; simp at h1; omega
          have hnb0 : 0 ≤ n := by rw [hn']; exact Int.natCast_nonneg _
          refine W_block ?_
          refine W_seq ?_
          refine W_region ?_
          refine OL_y (y_indexAddr ti35 ti39 h61' htj (by omega) (by omega)) (by decide) ?_
          refine OL_y (y_loadA ti39 rfl rfl hc7 rfl) (by decide) ?_
          refine OL_var (v := .agg #[xk, .int .u64 x.ts, .int .u64 x.txn, xl]) H ti39 rfl (by decide) (fun _ => rfl) rfl (hone7) fun b16 w22_2 H => ?_
          refine OL_nil ?_
          refine W_seq ?_
          refine W_region ?_
          refine OL_y (y_fieldAddr ti39 rfl ti22 rfl rfl) (by decide) ?_
          refine OL_y (y_loadS (v := xk) ti22 rfl rfl (Cells.unit (H.getOwn 0 rfl) rfl)) (by decide) ?_
          refine OL_y (y_toStr Try.underlying22 Try.underlying5 Try.underlying9 rfl (hxk.keeps (H.keepsAll 3 rfl _))) (by decide) ?_
          refine OL_y (y_fieldAddr ti34 rfl ti22 rfl h12) (by decide) ?_
          refine OL_y (y_loadS (v := vk) ti22 rfl rfl (Cells.unit (H.getOwn 2 rfl) rfl)) (by decide) ?_
          refine OL_y (y_toStr Try.underlying22 Try.underlying5 Try.underlying9 rfl (hck.keeps (H.keepsAll 3 rfl _))) (by decide) ?_
          refine OL_y (y_eqlS rfl rfl) (by decide) ?_
          refine OL_nil ?_
          refine W_cond rfl (fun hc => ?_) (fun hc => ?_)
          · refine W_seq ?_
            refine W_region ?_
            refine OL_y (y_fieldAddr ti39 rfl ti29 rfl rfl) (by decide) ?_
            refine OL_y (y_loadS (v := .int .u64 x.ts) ti29 rfl rfl (Cells.unit (H.getOwn 0 rfl) rfl)) (by decide) ?_
            refine OL_y (y_assign rfl) (by decide) ?_
            refine OL_nil ?_
            refine W_region ?_
            refine OL_y (y_move h14) (by decide) ?_
            refine OL_y (y_add64' (n + 1) rfl rfl rfl (by omega) (by omega)) (by decide) ?_
            refine OL_y (y_assign rfl) (by decide) ?_
            refine OL_nil ?_
            have hk : x.key = c.key := (kb_eq hxk.allIn hck.allIn).1 (of_decide_eq_true hc)
            refine ⟨htj, htm, n + 1, x.ts, h1, h9, h10, h52, h54, h53, h12, h61, rfl, rfl, rfl, ?_, ?_, H.tail⟩
            · rw [htk, List.filter_cons_of_pos (by simp [hk]), List.length_append, hn']; simp
            · rw [htk, List.filter_cons_of_pos (by simp [hk])]; simp [lastTs]
          · refine W_skip ?_
            have hk : x.key ≠ c.key := fun h => of_decide_eq_false hc (by rw [h])
            refine ⟨htj, htm, n, ts, h1, h9, h10, h52, h54, h53, h12, h61, h14, h13, rfl, ?_, ?_, H.tail⟩
            · rw [htk, List.filter_cons_of_neg (by simp [hk]), List.filter_nil, List.append_nil, hn']
            · rw [htk, List.filter_cons_of_neg (by simp [hk]), List.filter_nil, List.append_nil, hts']
        · rintro g ds w4 ⟨n, ts, h1, h9, h10, h52, h54, h53, h12, h61, h14, h13, rfl, hn', hts', H⟩ htj htm
          rw [List.take_of_length_le (by omega), hzf] at hn' hts'
          have hn1 : n = 1 := hn'
          have hts : ts = z.ts := hts'
          subst hn1 hts
          have h54' := h54.trans hti
          have h53' := h53.trans htn
          have kp5 := H.keepsAll 2 rfl Z
          refine W_seq ?_
          rcases hcvs : c.vers with _ | ⟨v0, vr⟩
          · refine W_region ?_
            refine OL_y (y_move h14) (by decide) ?_
            refine OL_y (v := .bool false) (y_neqF (by omega) rfl rfl) (by decide) ?_
            refine OL_y (v := .bool false) (y_move rfl) (by decide) ?_
            refine OL_yg rfl (by decide) rfl (y_fieldAddr ti34 rfl ti28 rfl h12) (by decide) ?_
            refine OL_yg rfl (by decide) rfl (y_loadS (v := .slice av c.vers.length cv) ti28 rfl rfl (Cells.unit (H.getOwn 1 rfl) rfl)) (by decide) ?_
            refine OL_yg rfl (by decide) rfl (y_len rfl ti28 rfl) (by decide) ?_
            refine OL_yg (v := .bool false) rfl (by decide) rfl (y_gtrF (by rw [hcvs]; simp) rfl rfl) (by decide) ?_
            refine OL_yg (v := .bool false) rfl (by decide) rfl (y_move rfl) (by decide) ?_
            refine OL_s rfl (by decide) rfl rfl (by simp) ?_
            refine OL_s rfl (by decide) rfl rfl (by simp) ?_
            refine OL_s rfl (by decide) rfl rfl (by simp) ?_
            refine OL_s rfl (by decide) rfl rfl (by simp) ?_
            refine OL_s rfl (by decide) rfl rfl (by simp) ?_
            refine OL_s rfl (by decide) rfl rfl (by simp) ?_
            refine OL_s rfl (by decide) rfl rfl (by simp) ?_
            refine OL_yg rfl (by decide) rfl (y_pick (b := false) (v := .bool false) rfl rfl) (by decide) ?_
            refine OL_y (y_pick (b := false) (v := .bool false) rfl rfl) (by decide) ?_
            refine OL_nil ?_
            refine W_condf rfl ?_
            refine W_skip ?_
            exact ⟨h54', h53', h1, h9, h10, h52, rfl, H.tail.tail⟩
          · obtain ⟨b8, o8, cs8, e8, hz8, hc8, hr8⟩ := hcv.at (i := 0) (x := v0) (by rw [hcvs]; rfl)
            have hc8' := hc8.ext (kp5.2 _ hz8 hc8.lt)
            obtain ⟨yv, yk, rfl, hy1, -⟩ := ver_cells.1 hr8
            have hge : ¬ z.ts < v0.ts := by have := hzt v0 (by rw [hcvs]; rfl); omega
            have hpos : 0 < c.vers.length := by rw [hcvs]; simp
            refine W_region ?_
            refine OL_y (y_move h14) (by decide) ?_
            refine OL_y (v := .bool false) (y_neqF (by omega) rfl rfl) (by decide) ?_
            refine OL_y (v := .bool false) (y_move rfl) (by decide) ?_
            refine OL_yg rfl (by decide) rfl (y_fieldAddr ti34 rfl ti28 rfl h12) (by decide) ?_
            refine OL_yg rfl (by decide) rfl (y_loadS (v := .slice av c.vers.length cv) ti28 rfl rfl (Cells.unit (H.getOwn 1 rfl) rfl)) (by decide) ?_
            refine OL_yg rfl (by decide) rfl (y_len rfl ti28 rfl) (by decide) ?_
            refine OL_yg (v := .bool true) rfl (by decide) rfl (y_gtrT (by omega) rfl rfl) (by decide) ?_
            refine OL_yg (v := .bool true) rfl (by decide) rfl (y_move rfl) (by decide) ?_
            refine OL_yg rfl (by decide) rfl (y_move h13) (by decide) ?_
            refine OL_yg rfl (by decide) rfl (y_fieldAddr ti34 rfl ti28 rfl h12) (by decide) ?_
            refine OL_yg rfl (by decide) rfl (y_loadS (v := .slice av c.vers.length cv) ti28 rfl rfl (Cells.unit (H.getOwn 1 rfl) rfl)) (by decide) ?_
            refine OL_yg rfl (by decide) rfl (y_indexAddr (i := 0) ti28 ti32 (congrArg (Value.slice · _ _) e8) rfl (by decide) (by omega)) (by decide) ?_
            refine OL_yg rfl (by decide) rfl (y_fieldAddr ti32 rfl ti29 rfl rfl) (by decide) ?_
            refine OL_yg rfl (by decide) rfl (y_loadS (v := .int .u64 v0.ts) ti29 rfl rfl (hc8'.take 0 rfl)) (by decide) ?_
            refine OL_yg (v := .bool false) rfl (by decide) rfl (y_lssF hge rfl rfl) (by decide) ?_
            refine OL_yg rfl (by decide) rfl (y_pick (b := true) (v := .bool false) rfl rfl) (by decide) ?_
            refine OL_y (y_pick (b := false) (v := .bool false) rfl rfl) (by decide) ?_
            refine OL_nil ?_
            refine W_condf rfl ?_
            refine W_skip ?_
            exact ⟨h54', h53', h1, h9, h10, h52, rfl, H.tail.tail⟩
      · rintro f ds w3 ⟨h1, h9, h10, h52, rfl, H⟩ hti htn
        refine W_seq ?_
        refine W_region ?_
        refine OL_y (v := .bool true) (y_assign rfl) (by decide) ?_
        refine OL_nil ?_
        refine W_ret ?_
        show RetOK _ _ _ _ _ _
        exact ret1 (v := .bool true) Try.results3 rfl ⟨rfl, hE0.trans (H.ext_of 0 rfl)⟩
end Go.Proofs.Ytngnplhdokboiaa
