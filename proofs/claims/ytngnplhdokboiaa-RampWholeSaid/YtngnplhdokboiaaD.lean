/- Choose: what is read of a span, and what is needed besides. -/
import Derived.Test.YtngnplhdokboiaaC
import Derived.Test.YtngnplhdokboiaaMM
namespace Go.Proofs.Ytngnplhdokboiaa
open Go Go.Wk
set_option linter.unusedVariables false
set_option linter.unusedSimpArgs false

def inB (left : List (ByteArray × Value)) (b : ByteArray) : Bool := left.any fun x => decide (x.1 = b)
theorem inB_iff {left : List (ByteArray × Value)} {b : ByteArray} : inB left b = true ↔ b ∈ left.map (·.1) := by
  unfold inB; rw [List.any_eq_true, List.mem_map]
  constructor
  · rintro ⟨x, hx, h⟩; exact ⟨x, hx, of_decide_eq_true h⟩
  · rintro ⟨x, hx, h⟩; exact ⟨x, hx, decide_eq_true h⟩
def keepB (all : List Sn) (left : List (ByteArray × Value)) (e : EZ) : Bool := inB left (kb e.z.key) || !delB all e.z
theorem nodup_enc {E : List EZ} (hE : ∀ e ∈ E, ∀ x ∈ e.z.key, InK .u8 x) (h : (E.map (·.z.key)).Nodup) : ((E.map encE).map (·.1)).Nodup := by
  have e : (E.map encE).map (·.1) = (E.map (·.z.key)).map kb := by rw [List.map_map, List.map_map]; rfl
  rw [e]
  rw [List.nodup_iff_pairwise_ne] at h ⊢
  rw [List.pairwise_map] at h ⊢
  rw [List.pairwise_map]
  refine List.Pairwise.imp_of_mem ?_ h
  intro a b ha hb hne heq
  exact hne ((kb_eq (hE a ha) (hE b hb)).1 heq)
theorem key_unique {E : List EZ} (h : (E.map (·.z.key)).Nodup) {a b : EZ} (ha : a ∈ E) (hb : b ∈ E) (hk : a.z.key = b.z.key) : a = b := by
  obtain ⟨i, hi⟩ := List.getElem?_of_mem ha
  obtain ⟨j, hj⟩ := List.getElem?_of_mem hb
  have h1 : (E.map (·.z.key))[i]? = some a.z.key := by rw [List.getElem?_map, hi]; rfl
  have h2 : (E.map (·.z.key))[j]? = some a.z.key := by rw [List.getElem?_map, hj, hk]; rfl
  obtain ⟨l1, e1⟩ := List.getElem?_eq_some_iff.1 h1
  obtain ⟨l2, e2⟩ := List.getElem?_eq_some_iff.1 h2
  have : i = j := (List.getElem_inj h).1 (e1.trans e2.symm)
  subst this; rw [hi] at hj; exact Option.some.inj hj
theorem mapObj_key {K : ByteArray → Value} (hK : ∀ a b, K a = K b → a = b) {m : List (ByteArray × Value)} {es : Array MapEntry} {c : Nat} (hm : MapObj K m (.map es c)) {x y : MapEntry} (hx : x ∈ es.toList) (hy : y ∈ es.toList) (h : x.key = y.key) : x = y := by
  obtain ⟨es', c', e0, he, hnd, -, -⟩ := hm
  cases e0
  obtain ⟨i, hi⟩ := List.getElem?_of_mem hx
  obtain ⟨j, hj⟩ := List.getElem?_of_mem hy
  have g : ∀ {i : Nat} {x : MapEntry}, es.toList[i]? = some x → ∃ u, m[i]? = some u ∧ x.key = K u.1 := fun {i x} hi => by
    have := congrArg (·[i]?) he
    simp only [List.getElem?_map, hi, Option.map_some] at this
    cases hm : m[i]? with
    | none => rw [hm] at this; cases this
    | some u => rw [hm] at this; injection this with this; exact ⟨u, rfl, (Prod.mk.inj this).1⟩
  obtain ⟨u, hu, hu2⟩ := g hi
  obtain ⟨v, hv, hv2⟩ := g hj
  have huv : u.1 = v.1 := hK _ _ (by rw [← hu2, ← hv2, h])
  have h1 : (m.map (·.1))[i]? = some u.1 := by rw [List.getElem?_map, hu]; rfl
  have h2 : (m.map (·.1))[j]? = some u.1 := by rw [List.getElem?_map, hv, huv]; rfl
  obtain ⟨l1, e1⟩ := List.getElem?_eq_some_iff.1 h1
  obtain ⟨l2, e2⟩ := List.getElem?_eq_some_iff.1 h2
  have : i = j := (List.getElem_inj hnd).1 (e1.trans e2.symm)
  subst this; rw [hi] at hj; exact Option.some.inj hj
theorem least_len (s : Sp) (n : Nat) : ∀ (V : List Sn), (∀ v ∈ V, v.keys.length ≤ n) → (least s V).length ≤ n * V.length := by
  intro V
  have : ∀ (V zs : List Sn), (∀ v ∈ V, v.keys.length ≤ n) → (V.foldl (askV s) zs).length ≤ zs.length + n * V.length := by
    intro V
    induction V with
    | nil => intro zs _; simp
    | cons v V ih =>
      intro zs h
      have h1 := ih (askV s zs v) fun u hu => h u (by simp [hu])
      have h2 := askV_len s zs v
      have h3 := h v (by simp)
      rw [List.foldl_cons, List.length_cons, Nat.mul_add]; omega
  intro h
  simpa [least] using this V [] h
theorem rowEls {Z : Nat → Prop} {w : World} {E : List EZ} (hE : ∀ e ∈ E, Good Z w e) : Els tSn Z w (E.flatMap EZ.cells) (E.map (·.z)) := by
  refine ⟨by rw [flat_len EZ.len, List.length_map]; rfl, fun i z hi => ?_⟩
  rw [List.getElem?_map, Option.map_eq_some_iff] at hi
  obtain ⟨e, hei, rfl⟩ := hi
  have := flat_at EZ.len hei
  rw [EZ.len] at this
  show tSn.R Z w (((E.flatMap EZ.cells).drop (i * 4)).take 4) e.z
  rw [this]; exact hE e (List.mem_of_getElem? hei)

/-- Of T, with what lies below in a part of its own. -/
def tFix {α : Type} (Zi : Nat → Prop) (T : Ty α) : Ty α where
  sz := T.sz
  R Z w cs x := (∀ k, Zi k → Z k ∧ k < w.heap.size) ∧ T.R Zi w cs x
  len := fun h => T.len h.2
  one := fun h => T.one h.2
  keeps := fun h k => ⟨fun i hi => ⟨(h.1 i hi).1, Nat.lt_of_lt_of_le (h.1 i hi).2 k.1⟩, T.keeps h.2 ⟨k.1, fun i hz hk => k.2 i (h.1 i hz).1 hk⟩⟩
  mono := fun h k => ⟨fun i hi => ⟨k i (h.1 i hi).2 (h.1 i hi).1, (h.1 i hi).2⟩, h.2⟩
theorem SlR.unfix {α : Type} {T : Ty α} {bytes : Nat} {Zi Z : Nat → Prop} {w : World} {v : Value} {xs : List α} (h : SlR (tFix Zi T) bytes Z w v xs) : SlR T bytes Z w v xs := by
  obtain ⟨a, c, h1, h2, h3, h4, h5, h6⟩ := h
  refine ⟨a, c, h1, h2, h3, h4, h5, fun i x hx => ?_⟩
  obtain ⟨b, o, cs, g1, g2, g3, g4⟩ := h6 i x hx
  exact ⟨b, o, cs, g1, g2, g3, T.mono g4.2 fun k _ hk => (g4.1 k hk).1⟩
theorem SlR.fix {α : Type} {T : Ty α} {bytes : Nat} {Z : Nat → Prop} {w : World} {v : Value} {xs : List α} (hZ : ∀ k, Z k → k < w.heap.size) (h : SlR T bytes Z w v xs) : SlR (tFix Z T) bytes Z w v xs := by
  obtain ⟨a, c, h1, h2, h3, h4, h5, h6⟩ := h
  refine ⟨a, c, h1, h2, h3, h4, h5, fun i x hx => ?_⟩
  obtain ⟨b, o, cs, g1, g2, g3, g4⟩ := h6 i x hx
  exact ⟨b, o, cs, g1, g2, g3, fun k hk => ⟨hk, hZ k hk⟩, g4⟩

set_option maxHeartbeats 16000000 in
theorem f8_callsX {Zx Z : Nat → Prop} {w : World} {vs vc : Value} {ss : List Value} {seen : List Sn} {s : Sp} {cells : List Cl} (hZ : ∀ k, Z k → k < w.heap.size) (hxX : SlR (tFix Z tSn) 64 Zx w vs seen) (hs : tSp.R Z w ss s) (hc : SlR tCl 120 Z w vc cells) (hl1 : cells.length ≤ 60) (hl2 : seen.length ≤ 20000)
    (hl3 : ∀ c ∈ cells, ∀ v ∈ c.vers, v.keys.length ≤ 10) (hl4 : ∀ x ∈ seen, x.keys.length ≤ 10) :
    Calls Try.prog 8 [vs, .agg ss.toArray, vc].toArray w fun e w' => ∃ (v6 v7 : Value) (need : List Sn), e = .returned (.tuple #[v6, v7]) ∧ need.Perm (needZ seen s cells) ∧ SlR tSn 64 (fun k => Z k ∨ w.heap.size ≤ k) w' v6 (gotZ seen s cells) ∧ SlR tSn 64 (fun k => Z k ∨ w.heap.size ≤ k) w' v7 need ∧ Ext none' w w' := by
  have H := Holds.start w
  obtain ⟨wl, wh, rfl, hlo, hhi⟩ := sp_cells.1 hs
  obtain ⟨a0, c0, rfl, hla, hma⟩ := hxX.len
  obtain ⟨a2, c2, rfl, hlb, hmb⟩ := hc.len
  refine calls_of_W' Try.func8 rfl Try.ntmps8 rfl ?_
  refine W_seq ?_
  refine W_region ?_
  refine OL_c (op_box (v := .agg #[wl, wh]) H rfl (by decide) fun b4 w0_0 H => ?_)
  refine OL_y (y_assign rfl) (by decide) ?_
  refine OL_y (y_assign rfl) (by decide) ?_
  refine OL_nil ?_
  refine W_scope ?_
  refine W_seq ?_
  refine W_region ?_
  refine OL_c (op_makeMap Value.string H (by decide) fun bm1 w1_0 H => ?_)
  have hbm1 := H.fresh 0 2 rfl rfl rfl bm1 rfl
  have hZ1 : ¬ Z bm1 := fun h => by have := hZ _ h; omega
  refine OL_y (y_assign rfl) (by decide) ?_
  refine OL_nil ?_
  refine W_seq ?_
  refine W_region ?_
  refine OL_c (op_makeMap Value.string H (by decide) fun bm2 w2_0 H => ?_)
  refine OL_y (y_assign rfl) (by decide) ?_
  refine OL_nil ?_
  refine W_seq ?_
  refine W_region ?_
  refine OL_y (y_assign rfl) (by decide) ?_
  refine OL_nil ?_
  refine W_seq ?_
  refine W_seq ?_
  refine W_region ?_
  refine OL_y (y_move rfl) (by decide) ?_
  refine OL_y (y_len rfl ti25 rfl) (by decide) ?_
  refine OL_y (y_move rfl) (by decide) ?_
  refine OL_nil ?_
  have H := H.rowNil 39 4
  refine W_range (N := cells.length) (by simp [maxLen]; omega) (fun k f ds w' => ∃ (A : List EZ) (v10 : Value) (m2 : List (ByteArray × Value)), f 0 = .slice a0 seen.length c0 ∧ f 4 = .pointer (some ⟨b4, 0, none⟩) ∧ f 6 = .slice none 0 0 ∧ f 7 = .slice none 0 0 ∧ f 8 = .map (some bm1) ∧ f 9 = .map (some bm2) ∧ f 10 = v10 ∧ f 30 = .slice a2 cells.length c2 ∧ ds = [] ∧
      A.map (·.z) = (cells.take k).map (firstS seen) ∧ A.length = k ∧ (∀ e ∈ A, Good Z w e) ∧ (∀ key, (∀ x ∈ key, InK .u8 x) → mget m2 (kb key) = (chosenOf (A.map (·.z)) key).map (Value.int .u64)) ∧
      Holds w' [row 39 4 v10 k (A.flatMap EZ.cells), mp Value.string bm2 m2, mp Value.string bm1 [], own b4 (.cells #[wl, wh] 24), shr (fun k => k < w.heap.size) w])
      ⟨[], .slice none 0 0, [], rfl, rfl, rfl, rfl, rfl, rfl, rfl, rfl, rfl, rfl, rfl, by simp, fun key _ => rfl, H⟩
      rfl rfl (by decide) (by decide) (by decide) rfl rfl ?_ rfl rfl ?_
  · rintro k f ds w1 hk ⟨A, v10, m2, h0, h4, h6, h7, h8, h9, h10, h30, rfl, hA, hAl, hG, hm2, H⟩ hti htn
    have hxk := List.getElem?_eq_getElem hk
    obtain ⟨b1, o1, cs1, e1, hz1, hc1, hr1⟩ := hc.at hxk
    have hc1' := hc1.ext ((H.keepsAll 4 rfl Z).2 _ hz1 hc1.lt)
    have htk : (cells.take (k + 1)).map (firstS seen) = (cells.take k).map (firstS seen) ++ [firstS seen cells[k]] := by rw [List.take_add_one, hxk, Option.toList_some, List.map_append]; rfl
    have hcm := List.getElem_mem hk
    generalize cells[k] = c at *
    obtain ⟨vk, vv, is, rfl, hck, hcv, hci⟩ := cl_cells.1 hr1
    obtain ⟨iv, ik, rfl, -⟩ := ver_cells.1 hci
    have hone := tCl.one hr1
    have h30' := h30.trans (congrArg (Value.slice · _ _) e1)
    refine W_block ?_
    refine W_seq ?_
    refine W_region ?_
    refine OL_y (y_indexAddr ti25 ti34 h30' hti (by omega) (by omega)) (by decide) ?_
    refine OL_y (y_loadA ti34 rfl rfl hc1' rfl) (by decide) ?_
    refine OL_var (v := .agg #[vk, vv, .int .u64 c.intent.ts, .int .u64 c.intent.txn, .bool c.intent.dead, iv, ik]) H ti34 rfl (by decide) (fun _ => rfl) rfl (hone) fun b12 w6_2 H => ?_
    refine OL_nil ?_
    refine W_seq ?_
    refine W_region ?_
    refine OL_y (y_move h0) (by decide) ?_
    refine OL_y (y_loadA (cs := [vk, vv, .int .u64 c.intent.ts, .int .u64 c.intent.txn, .bool c.intent.dead, iv, ik]) ti34 rfl rfl (Cells.of (H.getOwn 0 rfl) rfl) rfl) (by decide) ?_
    refine OL_c (op_call 16 en16 rfl [.slice a0 seen.length c0, .agg #[vk, vv, .int .u64 c.intent.ts, .int .u64 c.intent.txn, .bool c.intent.dead, iv, ik]] rfl (by decide) ((f16_calls (H.keepsAll 5 rfl Z) (H.keepsAll 5 rfl Zx) (SlR.unfix hxX) hr1).mono ?_))
    rintro e w7_2 ⟨cs16, rfl, hr16, hE16⟩
    refine ⟨_, rfl, ?_⟩
    have H := H.ext0 hE16
    obtain ⟨e16, he16, hec, hg16⟩ := Good.of hr16
    subst hec
    have hone16 := tSn.one hr16
    refine OL_var (v := .agg e16.cells.toArray) H ti39 rfl (by decide) (fun _ => rfl) rfl (hone16) fun b13 w7_3 H => ?_
    refine OL_nil ?_
    refine W_seq ?_
    refine W_region ?_
    refine OL_y (y_move h10) (by decide) ?_
    refine OL_y (y_loadA (cs := [e16.vk, .int .u64 e16.z.ts, .int .u64 e16.z.txn, e16.vl]) ti39 rfl rfl (Cells.of (H.getOwn 0 rfl) rfl) rfl) (by decide) ?_
    refine OL_c (op_buildSlice H [.agg e16.cells.toArray] ti35 ti39 rfl rfl rfl (by simp [Value.cells]) rfl rfl (by decide) fun b41 w8_2 H => ?_)
    refine OL_c (op_append H 3 rfl rfl ti35 ti39 rfl rfl rfl rfl (Src.row (H.getRow 0 rfl)) rfl (by simpa [Value.cells] using hone16) (by omega) (by simp [maxLen]; omega) (by decide) fun v10' w8_3 H => ?_)
    refine OL_y (y_assign rfl) (by decide) ?_
    refine OL_nil ?_
    refine W_region ?_
    refine OL_y (y_move h9) (by decide) ?_
    refine OL_y (y_fieldAddr ti34 rfl ti22 rfl rfl) (by decide) ?_
    refine OL_y (y_loadS (v := vk) ti22 rfl rfl (Cells.unit (H.getOwn 2 rfl) rfl)) (by decide) ?_
    refine OL_y (y_toStr Try.underlying22 Try.underlying5 Try.underlying9 rfl (hck.keeps (H.keepsAll 7 rfl _))) (by decide) ?_
    refine OL_y (y_fieldAddr ti39 rfl ti29 rfl rfl) (by decide) ?_
    refine OL_y (y_loadS (v := .int .u64 e16.z.ts) ti29 rfl rfl (Cells.unit (H.getOwn 1 rfl) rfl)) (by decide) ?_
    refine OL_c (op_mapUpdate (k := kb c.key) (v := .int .u64 e16.z.ts) H 4 rfl ti52 (KeyOK.str Try.underlying9) rfl rfl rfl fun w9_6 H => ?_)
    refine OL_nil ?_
    refine ⟨hti, htn, A ++ [e16], v10', mset m2 (kb c.key) (.int .u64 e16.z.ts), h0, h4, h6, h7, h8, h9, rfl, h30, rfl, by rw [htk, List.map_append, hA, ← he16]; rfl, by rw [List.length_append, hAl]; rfl, ?_, ?_, ?_⟩
    · intro e he
      rcases List.mem_append.1 he with he | he
      · exact hG e he
      · rw [List.mem_singleton.1 he]; exact hg16
    · intro key hkey
      have hk16 : e16.z.key = c.key := by rw [he16]; exact firstS_key seen c
      rw [List.map_append, List.map_cons, List.map_nil, chosenOf_snoc]
      by_cases hkk : e16.z.key = key
      · rw [if_pos hkk, ← hkk, hk16, mget_mset_same]; rfl
      · rw [if_neg hkk, mget_mset_ne _ _ (fun h => hkk (by rw [hk16]; exact ((kb_eq hkey hck.allIn).1 h).symm))]; exact hm2 key hkey
    · have H2 := H.tail.tail.tail
      rw [List.flatMap_append]
      simpa [Value.cells] using H2
  · rintro f ds w1 ⟨A, v10, m2, h0, h4, h6, h7, h8, h9, h10, h30, rfl, hA, hAl, hG, hm2, H⟩ hti htn
    rw [List.take_length] at hA
    have hAk : ∀ e ∈ A, e.z.keys.length ≤ 10 := fun e he => by
      have : e.z ∈ cells.map (firstS seen) := by rw [← hA]; exact List.mem_map.2 ⟨e, he, rfl⟩
      obtain ⟨c, hcm, hce⟩ := List.mem_map.1 this
      rw [← hce]
      unfold firstS
      split
      · rename_i v hv; exact hl3 c hcm v (List.mem_of_find?_eq_some hv)
      · simp
    obtain ⟨a10, c10, hv10, hlc, hmc⟩ := H.rowLen 0 rfl
    have h10' := h10.trans hv10
    refine W_seq ?_
    refine W_seq ?_
    refine W_region ?_
    refine OL_y (y_move h10') (by decide) ?_
    refine OL_y (y_len rfl ti35 (show _ = Value.slice a10 A.length c10 by rw [hAl]; rfl)) (by decide) ?_
    refine OL_y (y_move rfl) (by decide) ?_
    refine OL_nil ?_
    refine W_range (N := A.length) (by simp [maxLen]; omega) (fun k f ds w' => ∃ (E : List EZ), f 0 = .slice a0 seen.length c0 ∧ f 4 = .pointer (some ⟨b4, 0, none⟩) ∧ f 6 = .slice none 0 0 ∧ f 7 = .slice none 0 0 ∧ f 8 = .map (some bm1) ∧ f 9 = .map (some bm2) ∧ f 10 = .slice a10 cells.length c10 ∧ f 50 = .slice a10 cells.length c10 ∧ ds = [] ∧
        (∀ e ∈ E, Good Z w e) ∧ E.map (·.z) = least s ((A.take k).map (·.z)) ∧
        Holds w' [row 39 4 v10 cells.length (A.flatMap EZ.cells), mp Value.string bm2 m2, mp Value.string bm1 (E.map encE), own b4 (.cells #[wl, wh] 24), shr (fun k => k < w.heap.size) w])
        ⟨[], h0, h4, h6, h7, h8, h9, h10', rfl, rfl, by simp, by simp [least], H⟩
        rfl rfl (by decide) (by decide) (by decide) rfl rfl ?_ rfl rfl ?_
    · rintro k f ds w2 hk ⟨E, h0, h4, h6, h7, h8, h9, h10', h50, rfl, hE, hEz, H⟩ hti htn
      have hxk := List.getElem?_eq_getElem hk
      have htk : (A.take (k + 1)).map (·.z) = (A.take k).map (·.z) ++ [A[k].z] := by rw [List.take_add_one, hxk, Option.toList_some, List.map_append]; rfl
      have hem := List.getElem_mem hk
      generalize A[k] = e at *
      have hge := hG e hem
      have hone := tSn.one hge
      obtain ⟨bv, cv, hvv, hcl⟩ := ownsRow_cells (H.getRow 0 rfl) (by omega)
      have h50' := h50.trans (hv10.symm.trans hvv)
      refine W_block ?_
      refine W_seq ?_
      refine W_region ?_
      refine OL_y (y_indexAddr ti35 ti39 h50' hti (by omega) (by omega)) (by decide) ?_
      refine OL_y (y_loadA (cs := e.cells) ti39 rfl rfl (rowElAt EZ.len (H.getRow 0 rfl) (by rw [hvv]; rfl) hxk) rfl) (by decide) ?_
      refine OL_var (v := .agg e.cells.toArray) H ti39 rfl (by decide) (fun _ => rfl) rfl (hone) fun b15 w13_2 H => ?_
      refine OL_nil ?_
      refine W_region ?_
      refine OL_y (y_move h8) (by decide) ?_
      refine OL_y (y_loadA (cs := [e.vk, .int .u64 e.z.ts, .int .u64 e.z.txn, e.vl]) ti39 rfl rfl (Cells.of (H.getOwn 0 rfl) rfl) rfl) (by decide) ?_
      refine OL_y (y_loadA (cs := [wl, wh]) ti24 rfl h4 (Cells.of (H.getOwn 4 rfl) rfl) rfl) (by decide) ?_
      obtain ⟨o17, ho17, hmo17⟩ := H.get (i := 3) rfl
      refine OL_c (op_call 17 en17 rfl [.map (some bm1), .agg e.cells.toArray, .agg #[wl, wh]] rfl (by decide) ((f17_calls (cs := [wl, wh]) ho17 hmo17 (H.keepsAll 5 rfl Z) hE hge hs hZ1 (by have := hAk e hem; omega)).mono ?_))
      rintro e14 w14_3 ⟨⟨y, rfl⟩, hE17, E', o', ho', hmo', hgE', hzE'⟩
      refine ⟨_, rfl, ?_⟩
      have H := H.step 3 rfl rfl hE17 (fun _ _ h => h) (mp_ok ho' hmo') fun _ h => .inl h
      refine OL_nil ?_
      exact ⟨hti, htn, E', h0, h4, h6, h7, h8, h9, h10', h50, rfl, hgE', by rw [hzE', hEz, htk, least_snoc], H.tail⟩
    · rintro f ds w2 ⟨E, h0, h4, h6, h7, h8, h9, h10', h50, rfl, hE, hEz, H⟩ hti htn
      rw [List.take_length] at hEz
      refine W_seq ?_
      refine W_seq ?_
      refine W_region ?_
      refine OL_y (y_move h0) (by decide) ?_
      refine OL_y (y_len rfl ti35 rfl) (by decide) ?_
      refine OL_y (y_move rfl) (by decide) ?_
      refine OL_nil ?_
      refine W_range (N := seen.length) (by simp [maxLen]; omega) (fun k f ds w' => ∃ (E : List EZ), f 4 = .pointer (some ⟨b4, 0, none⟩) ∧ f 6 = .slice none 0 0 ∧ f 7 = .slice none 0 0 ∧ f 8 = .map (some bm1) ∧ f 9 = .map (some bm2) ∧ f 10 = .slice a10 cells.length c10 ∧ f 61 = .slice a0 seen.length c0 ∧ ds = [] ∧
          (∀ e ∈ E, Good Z w e) ∧ E.map (·.z) = least s (A.map (·.z) ++ seen.take k) ∧
          Holds w' [row 39 4 v10 cells.length (A.flatMap EZ.cells), mp Value.string bm2 m2, mp Value.string bm1 (E.map encE), own b4 (.cells #[wl, wh] 24), shr (fun k => k < w.heap.size) w])
          ⟨E, h4, h6, h7, h8, h9, h10', rfl, rfl, hE, by simpa using hEz, H⟩
          rfl rfl (by decide) (by decide) (by decide) rfl rfl ?_ rfl rfl ?_
      · rintro k f ds w3 hk ⟨E, h4, h6, h7, h8, h9, h10', h61, rfl, hE, hEz, H⟩ hti htn
        have hxk := List.getElem?_eq_getElem hk
        obtain ⟨b1, o1, cs1, e1, hz1, hc1, -, hr1⟩ := hxX.at hxk
        have hc1' := hc1.ext ((H.keepsAll 4 rfl Zx).2 _ hz1 hc1.lt)
        have htk : seen.take (k + 1) = seen.take k ++ [seen[k]] := by rw [List.take_add_one, hxk]; rfl
        have hem := List.getElem_mem hk
        generalize seen[k] = u at *
        have hone := tSn.one hr1
        obtain ⟨uk, ul, rfl, -⟩ := sn_cells.1 hr1
        have h61' := h61.trans (congrArg (Value.slice · _ _) e1)
        refine W_block ?_
        refine W_seq ?_
        refine W_region ?_
        refine OL_y (y_indexAddr ti35 ti39 h61' hti (by omega) (by omega)) (by decide) ?_
        refine OL_y (y_loadA ti39 rfl rfl hc1' rfl) (by decide) ?_
        refine OL_var (v := .agg #[uk, .int .u64 u.ts, .int .u64 u.txn, ul]) H ti39 rfl (by decide) (fun _ => rfl) rfl (hone) fun b17 w18_2 H => ?_
        refine OL_nil ?_
        refine W_region ?_
        refine OL_y (y_move h8) (by decide) ?_
        refine OL_y (y_loadA (cs := [uk, .int .u64 u.ts, .int .u64 u.txn, ul]) ti39 rfl rfl (Cells.of (H.getOwn 0 rfl) rfl) rfl) (by decide) ?_
        refine OL_y (y_loadA (cs := [wl, wh]) ti24 rfl h4 (Cells.of (H.getOwn 4 rfl) rfl) rfl) (by decide) ?_
        obtain ⟨o17, ho17, hmo17⟩ := H.get (i := 3) rfl
        refine OL_c (op_call 17 en17 rfl [.map (some bm1), .agg #[uk, .int .u64 u.ts, .int .u64 u.txn, ul], .agg #[wl, wh]] rfl (by decide) ((f17_calls (cs := [wl, wh]) ho17 hmo17 (H.keepsAll 5 rfl Z) hE hr1 hs hZ1 (by have := hl4 u hem; omega)).mono ?_))
        rintro e19 w19_3 ⟨⟨y, rfl⟩, hE17, E', o', ho', hmo', hgE', hzE'⟩
        refine ⟨_, rfl, ?_⟩
        have H := H.step 3 rfl rfl hE17 (fun _ _ h => h) (mp_ok ho' hmo') fun _ h => .inl h
        refine OL_nil ?_
        exact ⟨hti, htn, E', h4, h6, h7, h8, h9, h10', h61, rfl, hgE', by rw [hzE', hEz, htk, ← List.append_assoc, least_snoc], H.tail⟩
      · rintro f ds w3 ⟨E, h4, h6, h7, h8, h9, h10', h61, rfl, hE, hEz, H⟩ hti htn
        rw [List.take_length, hA] at hEz
        obtain ⟨all, hall⟩ : ∃ all, all = cells.map (firstS seen) := ⟨_, rfl⟩
        rw [← hall] at hEz hA
        rw [hA] at hm2
        have hLI := least_inv s (all ++ seen) ⟨[], 0, 0, []⟩
        rw [← hEz] at hLI
        have hEnd : (E.map (·.z.key)).Nodup := by have := hLI.nodup; rwa [List.map_map] at this
        have hEin : ∀ e ∈ E, ∀ x ∈ e.z.key, InK .u8 x := fun e he => (hE e he).key
        have hEl : E.length ≤ 300000 := by
          have h1 := congrArg List.length hEz
          rw [List.length_map] at h1
          have h2 := least_len s 10 (all ++ seen) (fun v hv => by
            rcases List.mem_append.1 hv with hv | hv
            · rw [← hA] at hv; obtain ⟨e, he, rfl⟩ := List.mem_map.1 hv; exact hAk e he
            · exact hl4 v hv)
          have h3 : all.length = cells.length := by rw [hall, List.length_map]
          rw [List.length_append] at h2
          omega
        obtain ⟨es0, clock, hmo, H⟩ := H.mpOpen 2 rfl
        refine W_seq ?_
        refine W_seq ?_
        refine W_region ?_
        refine OL_y (y_move h8) (by decide) ?_
        refine OL_c (op_range (K := Value.string) H (H.getOwn 2 rfl) hmo ti51 rfl (by decide) fun r w21_1 hER H hr => ?_)
        have hmoK : MapObj Value.string ((E.filter (keepB all (E.map encE))).map encE) (.map es0 clock) := by
          have : E.filter (keepB all (E.map encE)) = E := List.filter_eq_self.2 fun e he => by
            unfold keepB
            rw [Bool.or_eq_true]
            exact .inl (inB_iff.2 (List.mem_map.2 ⟨encE e, List.mem_map.2 ⟨e, he, rfl⟩, rfl⟩))
          rw [this]; exact hmo
        refine OL_nil ?_
        refine W_block (W_loopN (fun g f ds w' => ∃ (es : Array MapEntry) (seenB : Array Nat) (c0 : Nat) (left : List (ByteArray × Value)), g = left.length ∧ f 6 = .slice none 0 0 ∧ f 7 = .slice none 0 0 ∧ f 8 = .map (some bm1) ∧ f 9 = .map (some bm2) ∧ f 10 = .slice a10 cells.length c10 ∧ f 73 = .pointer (some ⟨r, 0, none⟩) ∧ ds = [] ∧ clock ≤ c0 ∧
            Rng Value.string es clock seenB left ∧ MapObj Value.string ((E.filter (keepB all left)).map encE) (.map es clock) ∧ (∀ u ∈ left, u ∈ E.map encE) ∧ (left.map (·.1)).Nodup ∧
            Holds w' [own r (.mapIter (some bm1) clock seenB c0), row 39 4 v10 cells.length (A.flatMap EZ.cells), mp Value.string bm2 m2, own bm1 (.map es clock), own b4 (.cells #[wl, wh] 24), shr (fun k => k < w.heap.size) w])
            E.length ⟨es0, #[], clock, E.map encE, by rw [List.length_map], h6, h7, h8, h9, h10', rfl, rfl, Nat.le_refl _, hr, hmoK, fun u hu => hu, nodup_enc hEin hEnd, H⟩
            ?_)
        rintro g f ds w4 ⟨es, seenB, c0', left, rfl, h6, h7, h8, h9, h10', h73, rfl, hcc, hr, hmo, hlE, hln, H⟩
        refine W_seq ?_
        refine W_region ?_
        refine OL_c (op_next H 0 rfl (H.getOwn 3 rfl) hr hcc h73 (by decide) ?_ ?_)
        · rintro rfl
          refine OL_y (y_extract (v := .bool false) rfl rfl) (by decide) ?_
          refine OL_nil ?_
          refine W_seq ?_
          refine W_condf rfl ?_
          refine W_exit ?_
          refine W_seq ?_
          refine W_label ?_
          refine W_seq ?_
          refine W_seq ?_
          obtain ⟨E', hE'⟩ : ∃ E', E' = E.filter (fun e => !delB all e.z) := ⟨_, rfl⟩
          have hE'f : E.filter (keepB all []) = E' := by rw [hE']; apply List.filter_congr; intro x _; simp [keepB, inB]
          rw [hE'f] at hmo
          have H := (H.tail).mpShut 2 rfl hmo
          have hgE' : ∀ e ∈ E', Good Z w e := fun e he => hE e (by rw [hE'] at he; exact (List.mem_filter.1 he).1)
          have hE'in : ∀ e ∈ E', ∀ x ∈ e.z.key, InK .u8 x := fun e he => (hgE' e he).key
          have hE'nd : (E'.map (·.z.key)).Nodup := by rw [hE']; exact hEnd.sublist (List.Sublist.map _ List.filter_sublist)
          have hE'z : E'.map (·.z) = needZ seen s cells := by
            rw [hE']
            show (E.filter ((fun z => !delB all z) ∘ (fun e : EZ => e.z))).map (fun e : EZ => e.z) = _
            rw [← List.filter_map, hEz]
            unfold needZ
            rw [hall]
          have hE'l : E'.length ≤ 300000 := by rw [hE']; have := List.length_filter_le (fun e : EZ => !delB all e.z) E; omega
          refine W_region ?_
          refine OL_y (y_move h10') (by decide) ?_
          refine OL_y (y_len rfl ti35 (show _ = Value.slice a10 A.length c10 by rw [hAl]; rfl)) (by decide) ?_
          refine OL_y (y_move rfl) (by decide) ?_
          refine OL_nil ?_
          have H := H.rowNil 39 4
          refine W_range (N := A.length) (by simp [maxLen]; omega) (fun k f ds w' => ∃ (G : List EZ) (v6 : Value), f 6 = v6 ∧ f 7 = .slice none 0 0 ∧ f 8 = .map (some bm1) ∧ f 94 = .slice a10 cells.length c10 ∧ ds = [] ∧ (∀ e ∈ G, Good Z w e) ∧ G.length ≤ k ∧ G.map (·.z) = ((A.take k).map (·.z)).filter (fun x => decide (x.key ∉ (E'.map (·.z)).map (·.key))) ∧
              Holds w' [row 39 4 v6 G.length (G.flatMap EZ.cells), row 39 4 v10 cells.length (A.flatMap EZ.cells), mp Value.string bm2 m2, mp Value.string bm1 (E'.map encE), own b4 (.cells #[wl, wh] 24), shr (fun k => k < w.heap.size) w])
              ⟨[], .slice none 0 0, h6, h7, h8, rfl, rfl, by simp, by simp, by simp, H⟩
              rfl rfl (by decide) (by decide) (by decide) rfl rfl ?_ rfl rfl ?_
          · rintro k f ds w5 hk ⟨G, v6, h6, h7, h8, h94, rfl, hGG, hGl, hGz, H⟩ hti htn
            have hxk := List.getElem?_eq_getElem hk
            have htk : (A.take (k + 1)).map (·.z) = (A.take k).map (·.z) ++ [A[k].z] := by rw [List.take_add_one, hxk, Option.toList_some, List.map_append]; rfl
            have hem := List.getElem_mem hk
            generalize A[k] = e at *
            have hge := hG e hem
            have hone := tSn.one hge
            obtain ⟨bv, cv, hvv, hcl⟩ := ownsRow_cells (H.getRow 1 rfl) (by omega)
            have h94' := h94.trans (hv10.symm.trans hvv)
            obtain ⟨hkx, -⟩ : SlR (tInt .u8) 1 Z w e.vk e.z.key ∧ True := by
              obtain ⟨vk, vl, he, hh, -⟩ := sn_cells.1 hge
              injection he with he _; subst he; exact ⟨hh, trivial⟩
            have hiff : (e.z.key ∈ (E'.map (·.z)).map (·.key)) ↔ (E'.find? (fun x => decide (x.z.key = e.z.key))).isSome = true := by
              rw [List.find?_isSome, List.map_map]
              constructor
              · intro h; obtain ⟨x, hx, he⟩ := List.mem_map.1 h; exact ⟨x, hx, by simpa using he⟩
              · rintro ⟨x, hx, he⟩; exact List.mem_map.2 ⟨x, hx, by simpa using he⟩
            refine W_block ?_
            refine W_seq ?_
            refine W_region ?_
            refine OL_y (y_indexAddr ti35 ti39 h94' hti (by omega) (by omega)) (by decide) ?_
            refine OL_y (y_loadA (cs := e.cells) ti39 rfl rfl (rowElAt EZ.len (H.getRow 1 rfl) (by rw [hvv]; rfl) hxk) rfl) (by decide) ?_
            refine OL_var (v := .agg e.cells.toArray) H ti39 rfl (by decide) (fun _ => rfl) rfl (hone) fun b23 w29_2 H => ?_
            refine OL_nil ?_
            refine W_seq ?_
            refine W_seq ?_
            rcases hq : E'.find? (fun x => decide (x.z.key = e.z.key)) with _ | e0
            · refine W_region ?_
              refine OL_y (y_move h8) (by decide) ?_
              refine OL_y (y_fieldAddr ti39 rfl ti22 rfl rfl) (by decide) ?_
              refine OL_y (y_loadS (v := e.vk) ti22 rfl rfl (Cells.unit (H.getOwn 0 rfl) rfl)) (by decide) ?_
              refine OL_y (y_toStr Try.underlying22 Try.underlying5 Try.underlying9 rfl (hkx.keeps (H.keepsAll 6 rfl _))) (by decide) ?_
              refine OL_y (y_lookupOkN (by rw [mget_enc hE'in hge.key, hq]; rfl) H 4 rfl ti51 ti39 (KeyOK.str Try.underlying9) rfl rfl) (by decide) ?_
              refine OL_y (y_move rfl) (by decide) ?_
              refine OL_y (y_extract rfl rfl) (by decide) ?_
              refine OL_y (y_extract (v := .bool false) rfl rfl) (by decide) ?_
              refine OL_var (v := .agg #[.slice none 0 0, .int .u64 0, .int .u64 0, .slice none 0 0]) H ti39 rfl (by decide) (fun _ => rfl) rfl (by simp [Value.cells, Value.oneCell']) fun b24 w30_8 H => ?_
              refine OL_y (v := .bool false) (y_assign rfl) (by decide) ?_
              refine OL_nil ?_
              refine W_seq ?_
              refine W_region ?_
              refine OL_y (v := .bool false) (y_move rfl) (by decide) ?_
              refine OL_nil ?_
              refine W_condf rfl ?_
              refine W_skip ?_
              refine W_region ?_
              refine OL_y (y_move h6) (by decide) ?_
              refine OL_y (y_loadA (cs := [e.vk, .int .u64 e.z.ts, .int .u64 e.z.txn, e.vl]) ti39 rfl rfl (Cells.of (H.getOwn 1 rfl) rfl) rfl) (by decide) ?_
              refine OL_c (op_buildSlice H [.agg e.cells.toArray] ti35 ti39 rfl rfl rfl (by simp [Value.cells]) rfl rfl (by decide) fun b111 w32_2 H => ?_)
              refine OL_c (op_append H 3 rfl rfl ti35 ti39 rfl rfl rfl rfl (Src.row (H.getRow 0 rfl)) rfl (by simpa [Value.cells] using hone) (by omega) (by simp [maxLen]; omega) (by decide) fun v6' w32_3 H => ?_)
              refine OL_y (y_assign rfl) (by decide) ?_
              refine OL_nil ?_
              have hin : e.z.key ∉ (E'.map (·.z)).map (·.key) := fun h => by have := hiff.1 h; rw [hq] at this; cases this
              refine ⟨hti, htn, G ++ [e], v6', rfl, h7, h8, h94, rfl, ?_, by rw [List.length_append]; simp; omega, by rw [htk, List.filter_append, List.map_append, ← hGz, List.filter_cons, decide_eq_true hin]; rfl, ?_⟩
              · intro y hy
                rcases List.mem_append.1 hy with hy | hy
                · exact hGG y hy
                · rw [List.mem_singleton.1 hy]; exact hge
              · have H2 := H.tail.tail.tail
                rw [List.length_append, List.flatMap_append]
                simpa [Value.cells] using H2
            · refine W_region ?_
              refine OL_y (y_move h8) (by decide) ?_
              refine OL_y (y_fieldAddr ti39 rfl ti22 rfl rfl) (by decide) ?_
              refine OL_y (y_loadS (v := e.vk) ti22 rfl rfl (Cells.unit (H.getOwn 0 rfl) rfl)) (by decide) ?_
              refine OL_y (y_toStr Try.underlying22 Try.underlying5 Try.underlying9 rfl (hkx.keeps (H.keepsAll 6 rfl _))) (by decide) ?_
              refine OL_y (y_lookupOkS (v := .agg e0.cells.toArray) (by rw [mget_enc hE'in hge.key, hq]; rfl) H 4 rfl ti51 ti39 (KeyOK.str Try.underlying9) rfl rfl) (by decide) ?_
              refine OL_y (y_move rfl) (by decide) ?_
              refine OL_y (y_extract rfl rfl) (by decide) ?_
              refine OL_y (y_extract (v := .bool true) rfl rfl) (by decide) ?_
              refine OL_var (v := .agg e0.cells.toArray) H ti39 rfl (by decide) (fun _ => rfl) rfl ((tSn.one (hgE' e0 (List.mem_of_find?_eq_some hq)))) fun b24 w30_8 H => ?_
              refine OL_y (v := .bool true) (y_assign rfl) (by decide) ?_
              refine OL_nil ?_
              refine W_seq ?_
              refine W_region ?_
              refine OL_y (v := .bool true) (y_move rfl) (by decide) ?_
              refine OL_nil ?_
              refine W_condt rfl ?_
              refine W_exit ?_
              have hin : e.z.key ∈ (E'.map (·.z)).map (·.key) := hiff.2 (by rw [hq]; rfl)
              exact ⟨hti, htn, G, v6, h6, h7, h8, h94, rfl, hGG, by omega, by rw [htk, List.filter_append, ← hGz, List.filter_cons, decide_eq_false (not_not_intro hin)]; simp, H.tail.tail⟩
          · rintro f ds w5 ⟨G, v6, h6, h7, h8, h94, rfl, hGG, hGl, hGz, H⟩ hti htn
            rw [List.take_length, hA, hE'z] at hGz
            have hGz : G.map (·.z) = gotZ seen s cells := by rw [hGz]; unfold gotZ; rw [hall]
            refine W_seq ?_
            refine W_seq ?_
            refine W_region ?_
            refine OL_y (y_move h8) (by decide) ?_
            refine OL_c (op_call 19 en19 rfl [.map (some bm1)] rfl (by decide) ((f19_calls).mono ?_))
            rintro e w34_1 ⟨bx, rfl, hE19, hbx, hbxn⟩
            refine ⟨_, rfl, ?_⟩
            have H := H.ext0 hE19
            obtain ⟨es2, clock2, hmo2, H⟩ := H.mpOpen 3 rfl
            have hbl := H.getOwn 3 rfl
            have hit : ∀ w', Ext none' w34_1 w' → IterQ Try.prog 27 [.pointer (some ⟨bx, 0, none⟩)] Value.string (fun pre => ∃ rest, (pre ++ rest).Perm ((E'.map encE).map (·.1))) (fun xs => xs.Perm ((E'.map encE).map (·.1))) (fun k => k = bx ∨ k = bm1) w' := fun w' hE =>
              f27_iter ((hE.blk bx (own_lt hbx) (fun h => h)).trans hbx) ((hE.blk bm1 (own_lt hbl) (fun h => h)).trans hbl) hmo2
            refine OL_c (op_call 18 en18 rfl [.func (.func 27) #[] #[.pointer (some ⟨bx, 0, none⟩)]] rfl (by decide) ((f18_calls (M := 300000) en27 hit (fun k hk => hk.elim (fun h => h ▸ own_lt hbx) (fun h => h ▸ own_lt hbl)) (fun pre ⟨rest, hp⟩ => by have := hp.length_eq; rw [List.length_append, List.length_map, List.length_map] at this; omega) (by decide)).mono ?_))
            rintro e w34_2 ⟨vv, zs, ys, rfl, hzs, hyz, hys, hE18, hvf, hrow⟩
            refine ⟨_, rfl, ?_⟩
            have H := H.new hE18 (row_ok hrow) hvf
            obtain ⟨av, cv, hvv, _, _⟩ := H.rowLen 0 rfl
            have hyp := hyz.trans hzs
            have hyl : ys.length ≤ 300000 := by rw [hyp.length_eq, List.length_map, List.length_map]; exact hE'l
            have H := H.mpShut 4 rfl hmo2
            refine OL_y (y_len rfl ti57 (show _ = Value.slice av ys.length cv from hvv)) (by decide) ?_
            refine OL_y (y_move rfl) (by decide) ?_
            refine OL_nil ?_
            have H := H.rowNil 39 4
            refine W_range (N := ys.length) (by simp [maxLen]; omega) (fun k f ds w' => ∃ (N : List EZ) (v7 : Value), f 6 = v6 ∧ f 7 = v7 ∧ f 8 = .map (some bm1) ∧ f 116 = .slice av ys.length cv ∧ ds = [] ∧ (∀ e ∈ N, e ∈ E') ∧ N.map (fun e => kb e.z.key) = ys.take k ∧ N.length = k ∧
                Holds w' [row 39 4 v7 k (N.flatMap EZ.cells), row 9 1 vv ys.length (ys.map Value.string), row 39 4 v6 G.length (G.flatMap EZ.cells), row 39 4 v10 cells.length (A.flatMap EZ.cells), mp Value.string bm2 m2, mp Value.string bm1 (E'.map encE), own b4 (.cells #[wl, wh] 24), shr (fun k => k < w.heap.size) w])
                ⟨[], .slice none 0 0, h6, h7, h8, hvv, rfl, by simp, by simp, rfl, H⟩
                rfl rfl (by decide) (by decide) (by decide) rfl rfl ?_ rfl rfl ?_
            · rintro k f ds w6 hk ⟨N, v7, h6, h7, h8, h116, rfl, hNE, hNy, hNl, H⟩ hti htn
              have hyk := List.getElem?_eq_getElem hk
              have htk : ys.take (k + 1) = ys.take k ++ [ys[k]] := by rw [List.take_add_one, hyk]; rfl
              obtain ⟨e, heE, hey⟩ : ∃ e ∈ E', kb e.z.key = ys[k] := by
                have : ys[k] ∈ (E'.map encE).map (·.1) := hyp.mem_iff.1 (List.getElem_mem hk)
                rw [List.map_map] at this
                obtain ⟨e, he, h⟩ := List.mem_map.1 this
                exact ⟨e, he, h⟩
              obtain ⟨bv, cv2, hv2, hC⟩ : ∃ b c, vv = .slice (some ⟨b, 0, none⟩) ys.length c ∧ Cells w6 b (0 + k * 1) [.string ys[k]] := by
                obtain ⟨b, c, h, _, _⟩ := ownsRow_cells (H.getRow 1 rfl) (by omega)
                refine ⟨b, c, h, ?_⟩
                have := rowCell (o := k) (u := .string ys[k]) (H.getRow 1 rfl) (b := b) (by rw [h]; rfl) (by rw [List.getElem?_map, hyk]; rfl)
                simpa using this
              have h116' := h116.trans (hvv.symm.trans hv2)
              generalize ys[k] = y at *
              subst hey
              have hge := hgE' e heE
              have hone := tSn.one hge
              have hfe : E'.find? (fun x => decide (x.z.key = e.z.key)) = some e := by
                cases hf : E'.find? (fun x => decide (x.z.key = e.z.key)) with
                | none => have := List.find?_eq_none.1 hf e heE; simp at this
                | some x =>
                  have h1 := List.mem_of_find?_eq_some hf
                  have h2 : x.z.key = e.z.key := by simpa using List.find?_some hf
                  rw [key_unique hE'nd h1 heE h2]
              refine W_block ?_
              refine W_seq ?_
              refine W_region ?_
              refine OL_y (y_indexAddr ti57 ti9 h116' hti (by omega) (by omega)) (by decide) ?_
              refine OL_y (y_loadS (v := .string (kb e.z.key)) ti9 rfl rfl hC) (by decide) ?_
              refine OL_y (y_assign rfl) (by decide) ?_
              refine OL_nil ?_
              refine W_region ?_
              refine OL_y (y_move h7) (by decide) ?_
              refine OL_y (y_move h8) (by decide) ?_
              refine OL_y (y_move rfl) (by decide) ?_
              refine OL_y (y_lookupS (v := .agg e.cells.toArray) (by rw [mget_enc hE'in hge.key, hfe]; rfl) H 5 rfl ti51 ti39 (KeyOK.str Try.underlying9) rfl rfl) (by decide) ?_
              refine OL_c (op_buildSlice H [.agg e.cells.toArray] ti35 ti39 rfl rfl rfl (by simp [Value.cells]) rfl rfl (by decide) fun b126 w37_4 H => ?_)
              refine OL_c (op_append H 1 rfl rfl ti35 ti39 rfl rfl rfl rfl (Src.row (H.getRow 0 rfl)) rfl (by simpa [Value.cells] using hone) (by omega) (by simp [maxLen]; omega) (by decide) fun v7' w37_5 H => ?_)
              refine OL_y (y_assign rfl) (by decide) ?_
              refine OL_nil ?_
              refine ⟨hti, htn, N ++ [e], v7', h6, rfl, h8, h116, rfl, ?_, by rw [htk, List.map_append, hNy]; rfl, by rw [List.length_append, hNl]; rfl, ?_⟩
              · intro y hy
                rcases List.mem_append.1 hy with hy | hy
                · exact hNE y hy
                · rw [List.mem_singleton.1 hy]; exact heE
              · have H2 := H.tail
                rw [List.flatMap_append]
                simpa [Value.cells] using H2
            · rintro f ds w6 ⟨N, v7, h6, h7, h8, h116, rfl, hNE, hNy, hNl, H⟩ hti htn
              rw [List.take_length] at hNy
              have hynd : ys.Nodup := hyp.nodup_iff.2 (nodup_enc hE'in hE'nd)
              have hNp : N.Perm E' := by
                have h1 : N.Nodup := by
                  have := hNy ▸ hynd
                  rw [List.nodup_iff_pairwise_ne, List.pairwise_map] at this
                  rw [List.nodup_iff_pairwise_ne]
                  exact this.imp fun {a b} h e => h (by rw [e])
                have h2 : E'.Nodup := by
                  have := hE'nd
                  rw [List.nodup_iff_pairwise_ne, List.pairwise_map] at this
                  rw [List.nodup_iff_pairwise_ne]
                  exact this.imp fun {a b} h e => h (by rw [e])
                refine (List.perm_ext_iff_of_nodup h1 h2).2 fun a => ⟨hNE a, fun ha => ?_⟩
                have h3 : kb a.z.key ∈ ys := hyp.mem_iff.2 (List.mem_map.2 ⟨encE a, List.mem_map.2 ⟨a, ha, rfl⟩, rfl⟩)
                rw [← hNy] at h3
                obtain ⟨n, hn, hk⟩ := List.mem_map.1 h3
                have := key_unique hE'nd (hNE n hn) ha ((kb_eq (hE'in n (hNE n hn)) (hE'in a ha)).1 hk)
                rw [← this]; exact hn
              refine W_seq ?_
              refine W_region ?_
              refine OL_y (y_move h6) (by decide) ?_
              refine OL_y (y_move h7) (by decide) ?_
              refine OL_y (y_assign rfl) (by decide) ?_
              refine OL_y (y_assign rfl) (by decide) ?_
              refine OL_nil ?_
              refine W_ret ?_
              show RetOK _ _ _ _ _ _
              have kw := H.keepsAll 7 rfl Z
              refine ret2 (v := v6) (x := v7) Try.results8 rfl rfl ⟨v6, v7, N.map (·.z), rfl, by rw [← hE'z]; exact hNp.map _, ?_, ?_, H.ext_of 7 rfl⟩
              · rw [← hGz]
                exact SlR.ofRow (H.getRow 2 rfl) (by decide) (((rowEls hGG).keeps kw).mono fun _ _ h => .inl h) (fun k hk => .inr (H.fresh 2 7 rfl rfl rfl k hk)) (by rw [List.length_map]; omega)
              · exact SlR.ofRow (H.getRow 0 rfl) (by decide) (((rowEls fun e he => hgE' e (hNE e he)).keeps kw).mono fun _ _ h => .inl h) (fun k hk => .inr (H.fresh 0 7 rfl rfl rfl k hk)) (by rw [List.length_map]; omega)
        · rintro en pa u pb w22_0 rfl hmem hek hev hEn H2 hr2
          obtain ⟨e, heE, rfl⟩ := List.mem_map.1 (hlE u (by simp))
          have H := H2
          have hr := hr2
          have hge := hE e heE
          have hone := tSn.one hge
          have hkeyin := hge.key
          refine OL_y (y_extract (v := .bool true) rfl rfl) (by decide) ?_
          refine OL_nil ?_
          refine W_seq ?_
          refine W_condt rfl ?_
          refine W_skip ?_
          refine W_block ?_
          refine W_seq ?_
          refine W_region ?_
          refine OL_y (y_entry (H.getOwn 0 rfl) (H.getOwn 3 rfl) hmem hr.born hek hev h73) (by decide) ?_
          refine OL_y (y_extract rfl rfl) (by decide) ?_
          refine OL_y (y_extract rfl rfl) (by decide) ?_
          refine OL_c (op_alloc H ti39 (by decide) fun b19 w23_3 H => ?_)
          refine OL_y (y_assign rfl) (by decide) ?_
          refine OL_c (op_store (v := .agg e.cells.toArray) H 0 rfl ti39 rfl rfl rfl (by decide) hone fun w23_5 H => ?_)
          have H : Holds w23_5 [own b19 (.cells e.cells.toArray 39), own r (.mapIter (some bm1) clock (seenB.push en.born) clock), row 39 4 v10 cells.length (A.flatMap EZ.cells), mp Value.string bm2 m2, own bm1 (.map es clock), own b4 (.cells #[wl, wh] 24), shr (fun k => k < w.heap.size) w] := H
          refine OL_nil ?_
          refine W_seq ?_
          rcases hch : chosenOf all e.z.key with _ | t
          · refine W_region ?_
            refine OL_y (y_move h9) (by decide) ?_
            refine OL_y (y_move rfl) (by decide) ?_
            refine OL_y (y_lookupOkN (by rw [hm2 _ hkeyin, hch]; rfl) H 3 rfl ti52 ti29 (KeyOK.str Try.underlying9) rfl rfl) (by decide) ?_
            refine OL_y (y_move rfl) (by decide) ?_
            refine OL_y (y_extract rfl rfl) (by decide) ?_
            refine OL_y (y_extract (v := .bool false) rfl rfl) (by decide) ?_
            refine OL_y (y_assign rfl) (by decide) ?_
            refine OL_y (v := .bool false) (y_assign rfl) (by decide) ?_
            refine OL_nil ?_
            refine W_seq ?_
            refine W_region ?_
            refine OL_y (v := .bool false) (y_move rfl) (by decide) ?_
            refine OL_y (v := .bool false) (y_move rfl) (by decide) ?_
            refine OL_s rfl (by decide) rfl rfl (by simp) ?_
            refine OL_s rfl (by decide) rfl rfl (by simp) ?_
            refine OL_s rfl (by decide) rfl rfl (by simp) ?_
            refine OL_s rfl (by decide) rfl rfl (by simp) ?_
            refine OL_y (y_pick (b := false) (v := .bool false) rfl rfl) (by decide) ?_
            refine OL_nil ?_
            refine W_condf rfl ?_
            refine W_skip ?_
            have hdel : delB all e.z = false := by unfold delB; rw [hch]; try exact decide_eq_false hge2
            refine ⟨(pa ++ pb).length, by simp, es, seenB.push en.born, clock, pa ++ pb, rfl, h6, h7, h8, h9, h10', h73, rfl, Nat.le_refl _, hr, ?_, fun u hu => hlE u ?_, ?_, H.tail⟩
            · have hf : E.filter (keepB all (pa ++ encE e :: pb)) = E.filter (keepB all (pa ++ pb)) := by
                apply List.filter_congr
                intro x hx
                unfold keepB
                by_cases hxe : x.z.key = e.z.key
                · have : x = e := key_unique hEnd hx heE hxe
                  subst this
                  simp only [hdel, Bool.not_false, Bool.or_true]
                · have hkx : kb x.z.key ≠ kb e.z.key := fun h => hxe ((kb_eq (hEin x hx) hkeyin).1 h)
                  have h3 : inB (pa ++ encE e :: pb) (kb x.z.key) = inB (pa ++ pb) (kb x.z.key) := by
                    rw [Bool.eq_iff_iff, inB_iff, inB_iff]
                    simp only [List.map_append, List.map_cons, List.mem_append, List.mem_cons, encE]
                    constructor
                    · rintro (h | h | h)
                      · exact .inl h
                      · exact (hkx h).elim
                      · exact .inr h
                    · rintro (h | h)
                      · exact .inl h
                      · exact .inr (.inr h)
                  simp only [h3]
              rw [← hf]; exact hmo
            · rcases List.mem_append.1 hu with h | h <;> simp [h]
            · exact hln.sublist (by rw [List.map_append, List.map_append]; exact List.Sublist.append_left (List.sublist_cons_self _ _) _)
          · refine W_region ?_
            refine OL_y (y_move h9) (by decide) ?_
            refine OL_y (y_move rfl) (by decide) ?_
            refine OL_y (y_lookupOkS (v := .int .u64 t) (by rw [hm2 _ hkeyin, hch]; rfl) H 3 rfl ti52 ti29 (KeyOK.str Try.underlying9) rfl rfl) (by decide) ?_
            refine OL_y (y_move rfl) (by decide) ?_
            refine OL_y (y_extract rfl rfl) (by decide) ?_
            refine OL_y (y_extract (v := .bool true) rfl rfl) (by decide) ?_
            refine OL_y (y_assign rfl) (by decide) ?_
            refine OL_y (v := .bool true) (y_assign rfl) (by decide) ?_
            refine OL_nil ?_
            refine W_seq ?_
            by_cases hge2 : e.z.ts ≤ t
            · refine W_region ?_
              refine OL_y (v := .bool true) (y_move rfl) (by decide) ?_
              refine OL_y (v := .bool true) (y_move rfl) (by decide) ?_
              refine OL_yg rfl (by decide) rfl (y_move rfl) (by decide) ?_
              refine OL_yg rfl (by decide) rfl (y_fieldAddr ti39 rfl ti29 rfl rfl) (by decide) ?_
              refine OL_yg rfl (by decide) rfl (y_loadS (v := .int .u64 e.z.ts) ti29 rfl rfl (Cells.unit (H.getOwn 0 rfl) rfl)) (by decide) ?_
              refine OL_yg (v := .bool true) rfl (by decide) rfl (y_geqT hge2 rfl rfl) (by decide) ?_
              refine OL_y (y_pick (b := true) (v := .bool true) rfl rfl) (by decide) ?_
              refine OL_nil ?_
              refine W_condt rfl ?_
              refine W_region ?_
              refine OL_y (y_move h8) (by decide) ?_
              refine OL_y (y_move rfl) (by decide) ?_
              refine OL_c (op_deleteO H 4 rfl hmo rfl ti51 (KeyOK.str Try.underlying9) (fun d h => by cases h <;> decide) rfl rfl fun es' w26_2 H hmo' hrg => ?_)
              refine OL_nil ?_
              have hdel : delB all e.z = true := by unfold delB; simp only [hch]; exact decide_eq_true hge2
              have hno : kb e.z.key ∉ (pa ++ pb).map (·.1) := by
                rw [List.map_append]
                rw [List.map_append, List.map_cons] at hln
                have := (List.perm_middle (a := kb e.z.key) (l₁ := pa.map (·.1)) (l₂ := pb.map (·.1))).nodup_iff.1 hln
                exact (List.nodup_cons.1 this).1
              refine ⟨(pa ++ pb).length, by simp, es', seenB.push en.born, clock, pa ++ pb, rfl, h6, h7, h8, h9, h10', h73, rfl, Nat.le_refl _, hrg _ _ _ (fun x hx hxk => ?_) hr, ?_, fun u hu => hlE u ?_, ?_, H.tail⟩
              · have : x = en := mapObj_key (fun a b h => by injection h) hmo hx hmem (hxk.trans hek.symm)
                rw [this]; simp
              · rw [mdel_enc (fun e he => hEin e ((List.mem_filter.1 he).1)) hkeyin] at hmo'
                have hf : (E.filter (keepB all (pa ++ encE e :: pb))).filter (fun x => decide (x.z.key ≠ e.z.key)) = E.filter (keepB all (pa ++ pb)) := by
                  rw [List.filter_filter]
                  apply List.filter_congr
                  intro x hx
                  unfold keepB
                  by_cases hxe : x.z.key = e.z.key
                  · have : x = e := key_unique hEnd hx heE hxe
                    subst this
                    simp only [ne_eq, not_true_eq_false, decide_false, Bool.false_and, hdel, Bool.not_true, Bool.or_false]
                    rw [show inB (pa ++ pb) (kb x.z.key) = false by rw [← Bool.not_eq_true, inB_iff]; exact hno]
                  · have hkx : kb x.z.key ≠ kb e.z.key := fun h => hxe ((kb_eq (hEin x hx) hkeyin).1 h)
                    have h3 : inB (pa ++ encE e :: pb) (kb x.z.key) = inB (pa ++ pb) (kb x.z.key) := by
                      rw [Bool.eq_iff_iff, inB_iff, inB_iff]
                      simp only [List.map_append, List.map_cons, List.mem_append, List.mem_cons, encE]
                      constructor
                      · rintro (h | h | h)
                        · exact .inl h
                        · exact (hkx h).elim
                        · exact .inr h
                      · rintro (h | h)
                        · exact .inl h
                        · exact .inr (.inr h)
                    simp only [ne_eq, hxe, not_false_eq_true, decide_true, Bool.true_and, h3]
                rw [hf] at hmo'; exact hmo'
              · rcases List.mem_append.1 hu with h | h <;> simp [h]
              · exact hln.sublist (by rw [List.map_append, List.map_append]; exact List.Sublist.append_left (List.sublist_cons_self _ _) _)
            · refine W_region ?_
              refine OL_y (v := .bool true) (y_move rfl) (by decide) ?_
              refine OL_y (v := .bool true) (y_move rfl) (by decide) ?_
              refine OL_yg rfl (by decide) rfl (y_move rfl) (by decide) ?_
              refine OL_yg rfl (by decide) rfl (y_fieldAddr ti39 rfl ti29 rfl rfl) (by decide) ?_
              refine OL_yg rfl (by decide) rfl (y_loadS (v := .int .u64 e.z.ts) ti29 rfl rfl (Cells.unit (H.getOwn 0 rfl) rfl)) (by decide) ?_
              refine OL_yg (v := .bool false) rfl (by decide) rfl (y_geqF hge2 rfl rfl) (by decide) ?_
              refine OL_y (y_pick (b := true) (v := .bool false) rfl rfl) (by decide) ?_
              refine OL_nil ?_
              refine W_condf rfl ?_
              refine W_skip ?_
              have hdel : delB all e.z = false := by unfold delB; rw [hch]; try exact decide_eq_false hge2
              refine ⟨(pa ++ pb).length, by simp, es, seenB.push en.born, clock, pa ++ pb, rfl, h6, h7, h8, h9, h10', h73, rfl, Nat.le_refl _, hr, ?_, fun u hu => hlE u ?_, ?_, H.tail⟩
              · have hf : E.filter (keepB all (pa ++ encE e :: pb)) = E.filter (keepB all (pa ++ pb)) := by
                  apply List.filter_congr
                  intro x hx
                  unfold keepB
                  by_cases hxe : x.z.key = e.z.key
                  · have : x = e := key_unique hEnd hx heE hxe
                    subst this
                    simp only [hdel, Bool.not_false, Bool.or_true]
                  · have hkx : kb x.z.key ≠ kb e.z.key := fun h => hxe ((kb_eq (hEin x hx) hkeyin).1 h)
                    have h3 : inB (pa ++ encE e :: pb) (kb x.z.key) = inB (pa ++ pb) (kb x.z.key) := by
                      rw [Bool.eq_iff_iff, inB_iff, inB_iff]
                      simp only [List.map_append, List.map_cons, List.mem_append, List.mem_cons, encE]
                      constructor
                      · rintro (h | h | h)
                        · exact .inl h
                        · exact (hkx h).elim
                        · exact .inr h
                      · rintro (h | h)
                        · exact .inl h
                        · exact .inr (.inr h)
                    simp only [h3]
                rw [← hf]; exact hmo
              · rcases List.mem_append.1 hu with h | h <;> simp [h]
              · exact hln.sublist (by rw [List.map_append, List.map_append]; exact List.Sublist.append_left (List.sublist_cons_self _ _) _)
theorem f8_calls {Z : Nat → Prop} {w : World} {vs vc : Value} {ss : List Value} {seen : List Sn} {s : Sp} {cells : List Cl} (hZ : ∀ k, Z k → k < w.heap.size) (hx : SlR tSn 64 Z w vs seen) (hs : tSp.R Z w ss s) (hc : SlR tCl 120 Z w vc cells) (hl1 : cells.length ≤ 60) (hl2 : seen.length ≤ 20000)
    (hl3 : ∀ c ∈ cells, ∀ v ∈ c.vers, v.keys.length ≤ 10) (hl4 : ∀ x ∈ seen, x.keys.length ≤ 10) :
    Calls Try.prog 8 [vs, .agg ss.toArray, vc].toArray w fun e w' => ∃ (v6 v7 : Value) (need : List Sn), e = .returned (.tuple #[v6, v7]) ∧ need.Perm (needZ seen s cells) ∧ SlR tSn 64 (fun k => Z k ∨ w.heap.size ≤ k) w' v6 (gotZ seen s cells) ∧ SlR tSn 64 (fun k => Z k ∨ w.heap.size ≤ k) w' v7 need ∧ Ext none' w w' :=
  f8_callsX hZ (SlR.fix hZ hx) hs hc hl1 hl2 hl3 hl4
end Go.Proofs.Ytngnplhdokboiaa
