/- first; ask: what a version asks of keys, kept in a map. -/
import Derived.Test.YtngnplhdokboiaaB
namespace Go.Proofs.Ytngnplhdokboiaa
open Go Go.Wk
set_option linter.unusedVariables false
set_option linter.unusedSimpArgs false

/-- An entry of the map: what it is, and its cells. -/
structure EZ where
  z : Sn
  vk : Value
  vl : Value
abbrev EZ.cells (e : EZ) : List Value := [e.vk, .int .u64 e.z.ts, .int .u64 e.z.txn, e.vl]
abbrev encE (e : EZ) : ByteArray × Value := (kb e.z.key, .agg e.cells.toArray)
def Good (Z : Nat → Prop) (w : World) (e : EZ) : Prop := tSn.R Z w e.cells e.z
theorem EZ.len (e : EZ) : e.cells.length = 4 := rfl
theorem Good.key {Z : Nat → Prop} {w : World} {e : EZ} (h : Good Z w e) : ∀ x ∈ e.z.key, InK .u8 x := by
  obtain ⟨vk, vl, h1, h2, _⟩ := sn_cells.1 h
  exact h2.allIn
theorem Good.of {Z : Nat → Prop} {w : World} {cs : List Value} {s : Sn} (h : tSn.R Z w cs s) : ∃ e : EZ, e.z = s ∧ e.cells = cs ∧ Good Z w e := by
  obtain ⟨vk, vl, rfl, h2, h3⟩ := sn_cells.1 h
  exact ⟨⟨s, vk, vl⟩, rfl, rfl, h⟩
def setE (E : List EZ) (e : EZ) : List EZ := if e.z.key ∈ E.map (·.z.key) then E.map (fun x => if x.z.key = e.z.key then e else x) else E ++ [e]
theorem setE_z (E : List EZ) (e : EZ) : (setE E e).map (·.z) = setZ (E.map (·.z)) e.z := by
  unfold setE setZ
  rw [List.map_map]
  show (if e.z.key ∈ E.map (·.z.key) then _ else _ : List EZ).map _ = if e.z.key ∈ E.map (·.z.key) then _ else _
  split
  · rw [List.map_map, List.map_map]; apply List.map_congr_left; intro x _; simp only [Function.comp]; split <;> rfl
  · rw [List.map_append]; rfl
theorem kb_eq {a b : Key} (ha : ∀ x ∈ a, InK .u8 x) (hb : ∀ x ∈ b, InK .u8 x) : kb a = kb b ↔ a = b := ⟨kb_inj ha hb, fun h => by rw [h]⟩
theorem mem_enc {E : List EZ} (hE : ∀ e ∈ E, ∀ x ∈ e.z.key, InK .u8 x) {k : Key} (hk : ∀ x ∈ k, InK .u8 x) : kb k ∈ (E.map encE).map (·.1) ↔ k ∈ E.map (·.z.key) := by
  rw [List.map_map, List.mem_map, List.mem_map]
  constructor
  · rintro ⟨e, he, h⟩; exact ⟨e, he, (kb_eq (hE e he) hk).1 h⟩
  · rintro ⟨e, he, rfl⟩; exact ⟨e, he, rfl⟩
theorem mset_enc {E : List EZ} {e : EZ} (hE : ∀ e ∈ E, ∀ x ∈ e.z.key, InK .u8 x) (hk : ∀ x ∈ e.z.key, InK .u8 x) : mset (E.map encE) (kb e.z.key) (.agg e.cells.toArray) = (setE E e).map encE := by
  unfold mset setE
  by_cases h : e.z.key ∈ E.map (·.z.key)
  · rw [if_pos ((mem_enc hE hk).2 h), if_pos h, List.map_map, List.map_map]
    apply List.map_congr_left
    intro x hx
    simp only [Function.comp]
    by_cases hxk : x.z.key = e.z.key
    · simp [hxk, encE]
    · have : ¬ kb x.z.key = kb e.z.key := fun h => hxk ((kb_eq (hE x hx) hk).1 h)
      simp [hxk, this, encE]
  · rw [if_neg (fun hh => h ((mem_enc hE hk).1 hh)), if_neg h, List.map_append]; rfl
theorem mget_enc {E : List EZ} (hE : ∀ e ∈ E, ∀ x ∈ e.z.key, InK .u8 x) {k : Key} (hk : ∀ x ∈ k, InK .u8 x) : mget (E.map encE) (kb k) = (E.find? (fun e => decide (e.z.key = k))).map fun e => .agg e.cells.toArray := by
  unfold mget
  induction E with
  | nil => rfl
  | cons x E ih =>
    rw [List.map_cons, List.find?_cons, List.find?_cons]
    have ih := ih fun e he => hE e (by simp [he])
    by_cases h : x.z.key = k
    · simp [h, encE]
    · have : ¬ kb x.z.key = kb k := fun hh => h ((kb_eq (hE x (by simp)) hk).1 hh)
      simp only [encE, this, h, decide_false]
      exact ih
theorem mdel_enc {E : List EZ} (hE : ∀ e ∈ E, ∀ x ∈ e.z.key, InK .u8 x) {k : Key} (hk : ∀ x ∈ k, InK .u8 x) : mdel (E.map encE) (kb k) = (E.filter fun e => decide (e.z.key ≠ k)).map encE := by
  unfold mdel
  rw [List.filter_map]
  congr 1
  apply List.filter_congr
  intro x hx
  simp only [Function.comp, encE]
  rw [decide_eq_decide, ne_eq, ne_eq, kb_eq (hE x hx) hk]
theorem find_z (E : List EZ) (k : Key) : (E.map (·.z)).find? (fun x => decide (x.key = k)) = (E.find? (fun e => decide (e.z.key = k))).map (·.z) := by
  rw [List.find?_map]; rfl

set_option maxHeartbeats 4000000 in
theorem f16_calls {Zx Z : Nat → Prop} {w0 w : World} {a : Value} {xs : List Sn} {ccs : List Value} {c : Cl} (kp0 : Keeps Z w0 w) (kpx : Keeps Zx w0 w) (hx : SlR tSn 64 Zx w0 a xs) (hc : tCl.R Z w0 ccs c) :
    Calls Try.prog 16 [a, .agg ccs.toArray].toArray w fun e w' => ∃ cs, e = .returned (.agg cs.toArray) ∧ tSn.R Z w0 cs (firstS xs c) ∧ Ext none' w w' := by
  have H := Holds.start w
  have kpW : ∀ {W : World} {L : List Atom} (i : Nat), Holds W L → L[i]? = some (shr (fun k => k < w.heap.size) w) → Keeps Z w0 W := fun i H hi => kp0.trans (H.keepsAll i hi Z)
  obtain ⟨vk, vs, is, rfl, hk, hvs, hi⟩ := cl_cells.1 hc
  obtain ⟨iv, ik, rfl, -⟩ := ver_cells.1 hi
  have hN := hvs.len1 (by decide)
  obtain ⟨a1, c1, rfl, hl1, hm1⟩ := hvs.len
  obtain ⟨ak, ck, rfl, -⟩ := hk.len
  refine calls_of_W' Try.func16 rfl Try.ntmps16 rfl ?_
  refine W_seq ?_
  refine W_region ?_
  refine OL_c (op_box (v := .agg #[.slice ak c.key.length ck, .slice a1 c.vers.length c1, .int .u64 c.intent.ts, .int .u64 c.intent.txn, .bool c.intent.dead, iv, ik]) H rfl (by decide) fun b3 w0_0 H => ?_)
  refine OL_c (op_alloc H ti39 (by decide) fun b4 w0_1 H => ?_)
  refine OL_nil ?_
  refine W_seq ?_
  refine W_seq ?_
  refine W_region ?_
  refine OL_y (y_fieldAddr ti34 rfl ti28 rfl rfl) (by decide) ?_
  refine OL_y (y_loadS (v := .slice a1 c.vers.length c1) ti28 rfl rfl (Cells.unit (H.getOwn 1 rfl) rfl)) (by decide) ?_
  refine OL_y (y_len rfl ti28 rfl) (by decide) ?_
  refine OL_y (y_move rfl) (by decide) ?_
  refine OL_nil ?_
  have H : Holds w0_1 [own b4 (.cells #[.slice none 0 0, .int .u64 0, .int .u64 0, .slice none 0 0] 39), own b3 (.cells #[.slice ak c.key.length ck, .slice a1 c.vers.length c1, .int .u64 c.intent.ts, .int .u64 c.intent.txn, .bool c.intent.dead, iv, ik] 34), shr (fun k => k < w.heap.size) w] := H
  refine W_range (N := c.vers.length) (by omega) (fun k f ds w' => f 0 = a ∧ f 3 = .pointer (some ⟨b3, 0, none⟩) ∧ f 4 = .pointer (some ⟨b4, 0, none⟩) ∧ f 8 = .slice a1 c.vers.length c1 ∧ ds = [] ∧ (c.vers.take k).find? (fun v => !barredB xs v.ts v.keys) = none ∧
      Holds w' [own b4 (.cells #[.slice none 0 0, .int .u64 0, .int .u64 0, .slice none 0 0] 39), own b3 (.cells #[.slice ak c.key.length ck, .slice a1 c.vers.length c1, .int .u64 c.intent.ts, .int .u64 c.intent.txn, .bool c.intent.dead, iv, ik] 34), shr (fun k => k < w.heap.size) w])
      ⟨rfl, rfl, rfl, rfl, rfl, rfl, H⟩
      rfl rfl (by decide) (by decide) (by decide) rfl rfl ?_ rfl rfl ?_
  · rintro k f ds w1 hk' ⟨h0, h3, h4, h8, rfl, hf, H⟩ hti htn
    have hxk := List.getElem?_eq_getElem hk'
    obtain ⟨b1, o1, cs1, e1, hz1, hc1, hr1⟩ := hvs.at hxk
    have hc1' := hc1.ext ((kpW 2 H rfl).2 _ hz1 hc1.lt)
    have htk : c.vers.take (k + 1) = c.vers.take k ++ [c.vers[k]] := by rw [List.take_add_one, hxk]; rfl
    have hdr : c.vers = c.vers.take k ++ c.vers[k] :: c.vers.drop (k + 1) := by rw [← List.drop_eq_getElem_cons hk', List.take_append_drop]
    generalize c.vers[k] = v at *
    obtain ⟨vv, vl, rfl, hi1, hi2, hvv, hvl⟩ := ver_cells.1 hr1
    have hone := tVer.one hr1
    obtain ⟨al, cl, rfl, _⟩ := hvl.len
    have h8' := h8.trans (congrArg (Value.slice · _ _) e1)
    refine W_block ?_
    refine W_seq ?_
    refine W_region ?_
    refine OL_y (y_indexAddr ti28 ti32 h8' hti (by omega) (by omega)) (by decide) ?_
    refine OL_y (y_loadA ti32 rfl rfl hc1' rfl) (by decide) ?_
    refine OL_var (v := .agg #[.int .u64 v.ts, .int .u64 v.txn, .bool v.dead, vv, .slice al v.keys.length cl]) H ti32 rfl (by decide) (fun _ => rfl) rfl (hone) fun b6 w3_2 H => ?_
    refine OL_nil ?_
    refine W_seq ?_
    have hkW := kpW 3 H rfl
    have hkX : Keeps Zx w0 _ := kpx.trans (H.keepsAll 3 rfl Zx)
    refine W_region ?_
    refine OL_y (y_move h0) (by decide) ?_
    refine OL_y (y_loadA (cs := [.int .u64 v.ts, .int .u64 v.txn, .bool v.dead, vv, .slice al v.keys.length cl]) ti32 rfl rfl (Cells.of (H.getOwn 0 rfl) rfl) rfl) (by decide) ?_
    refine OL_c (op_call 10 en10 rfl [a, .agg #[.int .u64 v.ts, .int .u64 v.txn, .bool v.dead, vv, .slice al v.keys.length cl]] rfl (by decide) ((f10_calls (Z := fun k => Zx k ∨ Z k) ((hx.keeps hkX).mono fun _ _ h => .inl h) (tVer.mono (tVer.keeps hr1 hkW) fun _ _ h => .inr h)).mono ?_))
    rintro e w4_2 ⟨rfl, hE⟩
    refine ⟨_, rfl, ?_⟩
    have H := H.ext0 hE
    refine OL_y (y_not rfl) (by decide) ?_
    refine OL_nil ?_
    refine W_cond rfl (fun hc => ?_) (fun hc => ?_)
    · have hnb : barredB xs v.ts v.keys = false := by simpa using hc
      refine W_seq ?_
      refine W_region ?_
      refine OL_y (y_fieldAddr ti34 rfl ti22 rfl h3) (by decide) ?_
      refine OL_y (y_loadS (v := .slice ak c.key.length ck) ti22 rfl rfl (Cells.unit (H.getOwn 2 rfl) rfl)) (by decide) ?_
      refine OL_y (y_fieldAddr ti32 rfl ti29 rfl rfl) (by decide) ?_
      refine OL_y (y_loadS (v := .int .u64 v.ts) ti29 rfl rfl (Cells.unit (H.getOwn 0 rfl) rfl)) (by decide) ?_
      refine OL_y (y_fieldAddr ti32 rfl ti29 rfl rfl) (by decide) ?_
      refine OL_y (y_loadS (v := .int .u64 v.txn) ti29 rfl rfl (Cells.unit (H.getOwn 0 rfl) rfl)) (by decide) ?_
      refine OL_y (y_fieldAddr ti32 rfl ti30 rfl rfl) (by decide) ?_
      refine OL_y (y_loadS (v := .slice al v.keys.length cl) ti30 rfl rfl (Cells.unit (H.getOwn 0 rfl) rfl)) (by decide) ?_
      refine OL_y (y_build ti39 pl39 rfl) (by decide) ?_
      refine OL_c (op_store (v := .agg #[.slice ak c.key.length ck, .int .u64 v.ts, .int .u64 v.txn, .slice al v.keys.length cl]) H 1 rfl ti39 h4 rfl rfl (by decide) (by simp [Value.cells, Value.oneCell']) fun w5_9 H => ?_)
      refine OL_nil ?_
      refine W_ret ?_
      show RetOK _ _ _ _ _ _
      refine ret1c Try.results16 h4 (run_loadVarA (cs := [.slice ak c.key.length ck, .int .u64 v.ts, .int .u64 v.txn, .slice al v.keys.length cl]) ti39 rfl (Cells.of (H.getOwn 1 rfl) rfl) rfl) ⟨_, rfl, ?_, H.ext_of 3 rfl⟩
      have hfs : firstS xs c = ⟨c.key, v.ts, v.txn, v.keys⟩ := by
        unfold firstS
        have : c.vers.find? (fun v => !barredB xs v.ts v.keys) = some v := by
          rw [hdr, List.find?_append, hf, List.find?_cons]; simp [hnb]
        rw [this]
      rw [hfs]
      exact sn_cells.2 ⟨_, _, rfl, hk, hi1, hi2, hvl⟩
    · have hnb : barredB xs v.ts v.keys = true := by simpa using hc
      refine W_skip ?_
      exact ⟨hti, htn, h0, h3, h4, h8, rfl, by rw [htk, List.find?_append, hf]; simp [hnb], H.tail⟩
  · rintro f ds w1 ⟨h0, h3, h4, h8, rfl, hf, H⟩ hti htn
    rw [List.take_length] at hf
    refine W_seq ?_
    refine W_region ?_
    refine OL_y (y_fieldAddr ti34 rfl ti22 rfl h3) (by decide) ?_
    refine OL_y (y_loadS (v := .slice ak c.key.length ck) ti22 rfl rfl (Cells.unit (H.getOwn 1 rfl) rfl)) (by decide) ?_
    refine OL_y (y_build ti39 pl39 rfl) (by decide) ?_
    refine OL_c (op_store (v := .agg #[.slice ak c.key.length ck, .int .u64 0, .int .u64 0, .slice none 0 0]) H 0 rfl ti39 h4 rfl rfl (by decide) (by simp [Value.cells, Value.oneCell']) fun w7_3 H => ?_)
    refine OL_nil ?_
    refine W_ret ?_
    show RetOK _ _ _ _ _ _
    refine ret1c Try.results16 h4 (run_loadVarA (cs := [.slice ak c.key.length ck, .int .u64 0, .int .u64 0, .slice none 0 0]) ti39 rfl (Cells.of (H.getOwn 0 rfl) rfl) rfl) ⟨_, rfl, ?_, H.ext_of 2 rfl⟩
    have hfs : firstS xs c = ⟨c.key, 0, 0, []⟩ := by unfold firstS; rw [hf]
    rw [hfs]
    exact sn_cells.2 ⟨_, _, rfl, hk, rfl, rfl, SlR.nil _ _ _ _⟩
theorem Holds.startMap {κ : Type} [DecidableEq κ] {K : κ → Value} {w : World} {b : Nat} {m : List (κ × Value)} {o : Obj} (h : w.heap[b]? = some o) (hm : MapObj K m o) : Holds w [mp K b m, shr (fun k => k < w.heap.size ∧ k ≠ b) w] :=
  ((Holds.nil w).cons (a := shr (fun k => k < w.heap.size ∧ k ≠ b) w) ⟨⟨Nat.le_refl _, rfl, rfl, rfl, fun _ _ => rfl⟩, fun _ h => h.1, shr_stable fun _ h => h.1⟩ (by simp)).cons (mp_ok h hm) fun c hc _ k hk hF => by
    simp only [List.mem_singleton] at hc; subst hc; exact hF.2 hk

set_option maxHeartbeats 4000000 in
theorem f17_calls {Z : Nat → Prop} {w0 w : World} {bm : Nat} {o : Obj} {E0 : List EZ} {cv cs : List Value} {v : Sn} {s : Sp} (hb : w.heap[bm]? = some o) (hm : MapObj Value.string (E0.map encE) o) (kp0 : Keeps Z w0 w) (hE : ∀ e ∈ E0, Good Z w0 e) (hv : tSn.R Z w0 cv v) (hs : tSp.R Z w0 cs s) (hZ : ¬ Z bm) (hl8 : v.keys.length ≤ 1000) :
    Calls Try.prog 17 [.map (some bm), .agg cv.toArray, .agg cs.toArray].toArray w fun e w' => (∃ y, e = .returned y) ∧ Ext (fun k => k = bm) w w' ∧ ∃ (E' : List EZ) (o' : Obj), w'.heap[bm]? = some o' ∧ MapObj Value.string (E'.map encE) o' ∧ (∀ e ∈ E', Good Z w0 e) ∧ E'.map (·.z) = askV s (E0.map (·.z)) v := by
  have H := Holds.startMap hb hm
  obtain ⟨vk, vl, rfl, hk, hi1, hi2, hvl⟩ := sn_cells.1 hv
  obtain ⟨wl, wh, rfl, hlo, hhi⟩ := sp_cells.1 hs
  obtain ⟨al, cl, rfl, hll, hml⟩ := hvl.len
  have kp : ∀ {W : World} {L : List Atom} (i : Nat), Holds W L → L[i]? = some (shr (fun k => k < w.heap.size ∧ k ≠ bm) w) → Keeps Z w0 W := fun i H hi => kp0.trans (by
    obtain ⟨a, _, _, _, e⟩ := H.get hi
    exact ⟨a, fun k hz hk => e k ⟨hk, fun h => hZ (h ▸ hz)⟩⟩)
  refine calls_of_W' Try.func17 rfl Try.ntmps17 rfl ?_
  refine W_seq ?_
  refine W_region ?_
  refine OL_c (op_box (v := .agg #[vk, .int .u64 v.ts, .int .u64 v.txn, .slice al v.keys.length cl]) H rfl (by decide) fun b4 w0_0 H => ?_)
  refine OL_c (op_box (v := .agg #[wl, wh]) H rfl (by decide) fun b5 w0_1 H => ?_)
  refine OL_nil ?_
  refine W_scope ?_
  refine W_seq ?_
  refine W_label ?_
  refine W_seq ?_
  refine W_region ?_
  refine OL_y (y_fieldAddr ti39 rfl ti30 rfl rfl) (by decide) ?_
  refine OL_y (y_loadS (v := .slice al v.keys.length cl) ti30 rfl rfl (Cells.unit (H.getOwn 1 rfl) rfl)) (by decide) ?_
  refine OL_y (y_len rfl ti30 rfl) (by decide) ?_
  refine OL_y (y_move rfl) (by decide) ?_
  refine OL_nil ?_
  refine W_range (N := v.keys.length) (by simp [maxLen]; omega) (fun k f ds w' => ∃ E : List EZ, f 0 = .map (some bm) ∧ f 4 = .pointer (some ⟨b4, 0, none⟩) ∧ f 5 = .pointer (some ⟨b5, 0, none⟩) ∧ f 11 = .slice al v.keys.length cl ∧ ds = [] ∧ (∀ e ∈ E, Good Z w0 e) ∧ E.map (·.z) = (v.keys.take k).foldl (askK s v) (E0.map (·.z)) ∧
      Holds w' [own b5 (.cells #[wl, wh] 24), own b4 (.cells #[vk, .int .u64 v.ts, .int .u64 v.txn, .slice al v.keys.length cl] 39), mp Value.string bm (E.map encE), shr (fun k => k < w.heap.size ∧ k ≠ bm) w])
      ⟨E0, rfl, rfl, rfl, rfl, rfl, hE, rfl, H⟩
      rfl rfl (by decide) (by decide) (by decide) rfl rfl ?_ rfl rfl ?_
  · rintro k f ds w1 hk' ⟨E, h0, h4, h5, h11, rfl, hE, hEz, H⟩ hti htn
    have hxk := List.getElem?_eq_getElem hk'
    obtain ⟨b1, o1, cs1, e1, hz1, hc1, hr1⟩ := hvl.at hxk
    have hc1' := hc1.ext ((kp 3 H rfl).2 _ hz1 hc1.lt)
    obtain ⟨vy, rfl, hvy⟩ := hr1
    have htk : (v.keys.take (k + 1)).foldl (askK s v) (E0.map (·.z)) = askK s v ((v.keys.take k).foldl (askK s v) (E0.map (·.z))) v.keys[k] := by rw [List.take_add_one, hxk, Option.toList_some, List.foldl_append]; rfl
    generalize v.keys[k] = y at *
    have hyin := hvy.allIn
    obtain ⟨ay, cy, rfl, _⟩ := hvy.len
    have hEin : ∀ e ∈ E, ∀ x ∈ e.z.key, InK .u8 x := fun e he => (hE e he).key
    have h11' := h11.trans (congrArg (Value.slice · _ _) e1)
    obtain ⟨ey, hey⟩ : ∃ e : EZ, e = ⟨⟨y, v.ts, v.txn, v.keys⟩, (.slice ay y.length cy), .slice al v.keys.length cl⟩ := ⟨_, rfl⟩
    have hgy : Good Z w0 ey := by subst hey; exact sn_cells.2 ⟨_, _, rfl, hvy, hi1, hi2, hvl⟩
    have hset : ∀ e ∈ setE E ey, Good Z w0 e := by
      intro e he
      unfold setE at he
      split at he
      · obtain ⟨x, hx, rfl⟩ := List.mem_map.1 he
        split
        · exact hgy
        · exact hE x hx
      · rcases List.mem_append.1 he with he | he
        · exact hE e he
        · rw [List.mem_singleton.1 he]; exact hgy
    have hms : mset (E.map encE) (kb y) (.agg #[(.slice ay y.length cy), .int .u64 v.ts, .int .u64 v.txn, .slice al v.keys.length cl]) = (setE E ey).map encE := by
      have := mset_enc (e := ey) hEin hgy.key
      subst hey; exact this
    have hsz : (setE E ey).map (·.z) = setZ (E.map (·.z)) (asZ v y) := by rw [setE_z]; subst hey; rfl
    refine W_block ?_
    refine W_seq ?_
    refine W_region ?_
    refine OL_y (y_indexAddr ti30 ti22 h11' hti (by omega) (by omega)) (by decide) ?_
    refine OL_y (y_loadS (v := (.slice ay y.length cy)) ti22 rfl rfl hc1') (by decide) ?_
    refine OL_y (y_assign rfl) (by decide) ?_
    refine OL_nil ?_
    refine W_seq ?_
    refine W_seq ?_
    refine W_region ?_
    refine OL_y (y_move rfl) (by decide) ?_
    refine OL_y (y_fieldAddr ti24 rfl ti22 rfl h5) (by decide) ?_
    refine OL_y (y_loadS (v := wl) ti22 rfl rfl (Cells.unit (H.getOwn 0 rfl) rfl)) (by decide) ?_
    refine OL_y (y_fieldAddr ti24 rfl ti22 rfl h5) (by decide) ?_
    refine OL_y (y_loadS (v := wh) ti22 rfl rfl (Cells.unit (H.getOwn 0 rfl) rfl)) (by decide) ?_
    refine OL_c (op_call 24 en24 rfl [.slice ay y.length cy, wl, wh] rfl (by decide) ((f24_calls (hvy.keeps (kp 3 H rfl)) (hlo.keeps (kp 3 H rfl)) (hhi.keeps (kp 3 H rfl))).mono ?_))
    rintro e w4_5 ⟨rfl, hE24⟩
    refine ⟨_, rfl, ?_⟩
    have H := H.ext0 hE24
    refine OL_y (y_not rfl) (by decide) ?_
    refine OL_nil ?_
    refine W_cond rfl (fun hc => ?_) (fun hc => ?_)
    · have hnw : withinB y s.lo s.hi = false := by simpa using hc
      refine W_exit ?_
      exact ⟨hti, htn, E, h0, h4, h5, h11, rfl, hE, by rw [htk, ← hEz]; unfold askK; rw [if_pos hnw], H⟩
    · have hnw : withinB y s.lo s.hi = true := by simpa using hc
      refine W_skip ?_
      refine W_seq ?_
      refine W_seq ?_
      rcases hq : E.find? (fun e => decide (e.z.key = y)) with _ | e0
      · refine W_region ?_
        refine OL_y (y_move h0) (by decide) ?_
        refine OL_y (y_move rfl) (by decide) ?_
        refine OL_y (y_toStr Try.underlying22 Try.underlying5 Try.underlying9 rfl (hvy.keeps (kp 3 H rfl))) (by decide) ?_
        refine OL_y (y_lookupOkN (by rw [mget_enc hEin hyin, hq]; rfl) H 2 rfl ti51 ti39 (KeyOK.str Try.underlying9) rfl rfl) (by decide) ?_
        refine OL_y (y_move rfl) (by decide) ?_
        refine OL_y (y_extract rfl rfl) (by decide) ?_
        refine OL_y (y_extract (v := .bool false) rfl rfl) (by decide) ?_
        refine OL_var (v := .agg #[.slice none 0 0, .int .u64 0, .int .u64 0, .slice none 0 0]) H ti39 rfl (by decide) (fun _ => rfl) rfl (by simp [Value.cells, Value.oneCell']) fun b8 w5_7 H => ?_
        refine OL_y (v := .bool false) (y_assign rfl) (by decide) ?_
        refine OL_nil ?_
        refine W_seq ?_
        refine W_region ?_
        refine OL_y (v := .bool false) (y_move rfl) (by decide) ?_
        refine OL_y (v := .bool false) (y_move rfl) (by decide) ?_
        refine OL_s rfl (by decide) rfl rfl (by simp) ?_
        refine OL_s rfl (by decide) rfl rfl (by simp) ?_
        refine OL_s rfl (by decide) rfl rfl (by simp) ?_
        refine OL_s rfl (by decide) rfl rfl (by simp) ?_
        refine OL_s rfl (by decide) rfl rfl (by simp) ?_
        refine OL_y (y_pick (b := false) (v := .bool false) rfl rfl) (by decide) ?_
        refine OL_nil ?_
        refine W_condf rfl ?_
        refine W_skip ?_
        refine W_region ?_
        refine OL_y (y_move h0) (by decide) ?_
        refine OL_y (y_move rfl) (by decide) ?_
        refine OL_y (y_toStr Try.underlying22 Try.underlying5 Try.underlying9 rfl (hvy.keeps (kp 4 H rfl))) (by decide) ?_
        refine OL_y (y_move rfl) (by decide) ?_
        refine OL_y (y_fieldAddr ti39 rfl ti29 rfl h4) (by decide) ?_
        refine OL_y (y_loadS (v := .int .u64 v.ts) ti29 rfl rfl (Cells.unit (H.getOwn 2 rfl) rfl)) (by decide) ?_
        refine OL_y (y_fieldAddr ti39 rfl ti29 rfl h4) (by decide) ?_
        refine OL_y (y_loadS (v := .int .u64 v.txn) ti29 rfl rfl (Cells.unit (H.getOwn 2 rfl) rfl)) (by decide) ?_
        refine OL_y (y_fieldAddr ti39 rfl ti30 rfl h4) (by decide) ?_
        refine OL_y (y_loadS (v := .slice al v.keys.length cl) ti30 rfl rfl (Cells.unit (H.getOwn 2 rfl) rfl)) (by decide) ?_
        refine OL_y (y_build ti39 pl39 rfl) (by decide) ?_
        refine OL_c (op_mapUpdate (k := kb y) (v := .agg #[(.slice ay y.length cy), .int .u64 v.ts, .int .u64 v.txn, .slice al v.keys.length cl]) H 3 rfl ti51 (KeyOK.str Try.underlying9) rfl rfl rfl fun w7_11 H => ?_)
        rw [hms] at H
        refine OL_nil ?_
        exact ⟨hti, htn, setE E ey, h0, h4, h5, h11, rfl, hset, by rw [htk, ← hEz, hsz]; unfold askK; rw [if_neg (by rw [hnw]; decide), find_z, hq]; rfl, H.tail⟩
      · refine W_region ?_
        refine OL_y (y_move h0) (by decide) ?_
        refine OL_y (y_move rfl) (by decide) ?_
        refine OL_y (y_toStr Try.underlying22 Try.underlying5 Try.underlying9 rfl (hvy.keeps (kp 3 H rfl))) (by decide) ?_
        refine OL_y (y_lookupOkS (v := .agg e0.cells.toArray) (by rw [mget_enc hEin hyin, hq]; rfl) H 2 rfl ti51 ti39 (KeyOK.str Try.underlying9) rfl rfl) (by decide) ?_
        refine OL_y (y_move rfl) (by decide) ?_
        refine OL_y (y_extract rfl rfl) (by decide) ?_
        refine OL_y (y_extract (v := .bool true) rfl rfl) (by decide) ?_
        refine OL_var (v := .agg e0.cells.toArray) H ti39 rfl (by decide) (fun _ => rfl) rfl ((tSn.one (hE e0 (List.mem_of_find?_eq_some hq)))) fun b8 w5_7 H => ?_
        refine OL_y (v := .bool true) (y_assign rfl) (by decide) ?_
        refine OL_nil ?_
        refine W_seq ?_
        by_cases hle : v.ts ≤ e0.z.ts
        · refine W_region ?_
          refine OL_y (v := .bool true) (y_move rfl) (by decide) ?_
          refine OL_y (v := .bool true) (y_move rfl) (by decide) ?_
          refine OL_yg rfl (by decide) rfl (y_fieldAddr ti39 rfl ti29 rfl rfl) (by decide) ?_
          refine OL_yg rfl (by decide) rfl (y_loadS (v := .int .u64 e0.z.ts) ti29 rfl rfl (Cells.unit (H.getOwn 0 rfl) rfl)) (by decide) ?_
          refine OL_yg rfl (by decide) rfl (y_fieldAddr ti39 rfl ti29 rfl h4) (by decide) ?_
          refine OL_yg rfl (by decide) rfl (y_loadS (v := .int .u64 v.ts) ti29 rfl rfl (Cells.unit (H.getOwn 2 rfl) rfl)) (by decide) ?_
          refine OL_yg (v := .bool true) rfl (by decide) rfl (y_geqT hle rfl rfl) (by decide) ?_
          refine OL_y (y_pick (b := true) (v := .bool true) rfl rfl) (by decide) ?_
          refine OL_nil ?_
          refine W_condt rfl ?_
          refine W_exit ?_
          exact ⟨hti, htn, E, h0, h4, h5, h11, rfl, hE, by rw [htk, ← hEz]; unfold askK; rw [if_neg (by rw [hnw]; decide), find_z, hq]; simp only [Option.map_some]; rw [if_pos hle], H.tail⟩
        · refine W_region ?_
          refine OL_y (v := .bool true) (y_move rfl) (by decide) ?_
          refine OL_y (v := .bool true) (y_move rfl) (by decide) ?_
          refine OL_yg rfl (by decide) rfl (y_fieldAddr ti39 rfl ti29 rfl rfl) (by decide) ?_
          refine OL_yg rfl (by decide) rfl (y_loadS (v := .int .u64 e0.z.ts) ti29 rfl rfl (Cells.unit (H.getOwn 0 rfl) rfl)) (by decide) ?_
          refine OL_yg rfl (by decide) rfl (y_fieldAddr ti39 rfl ti29 rfl h4) (by decide) ?_
          refine OL_yg rfl (by decide) rfl (y_loadS (v := .int .u64 v.ts) ti29 rfl rfl (Cells.unit (H.getOwn 2 rfl) rfl)) (by decide) ?_
          refine OL_yg (v := .bool false) rfl (by decide) rfl (y_geqF hle rfl rfl) (by decide) ?_
          refine OL_y (y_pick (b := true) (v := .bool false) rfl rfl) (by decide) ?_
          refine OL_nil ?_
          refine W_condf rfl ?_
          refine W_skip ?_
          refine W_region ?_
          refine OL_y (y_move h0) (by decide) ?_
          refine OL_y (y_move rfl) (by decide) ?_
          refine OL_y (y_toStr Try.underlying22 Try.underlying5 Try.underlying9 rfl (hvy.keeps (kp 4 H rfl))) (by decide) ?_
          refine OL_y (y_move rfl) (by decide) ?_
          refine OL_y (y_fieldAddr ti39 rfl ti29 rfl h4) (by decide) ?_
          refine OL_y (y_loadS (v := .int .u64 v.ts) ti29 rfl rfl (Cells.unit (H.getOwn 2 rfl) rfl)) (by decide) ?_
          refine OL_y (y_fieldAddr ti39 rfl ti29 rfl h4) (by decide) ?_
          refine OL_y (y_loadS (v := .int .u64 v.txn) ti29 rfl rfl (Cells.unit (H.getOwn 2 rfl) rfl)) (by decide) ?_
          refine OL_y (y_fieldAddr ti39 rfl ti30 rfl h4) (by decide) ?_
          refine OL_y (y_loadS (v := .slice al v.keys.length cl) ti30 rfl rfl (Cells.unit (H.getOwn 2 rfl) rfl)) (by decide) ?_
          refine OL_y (y_build ti39 pl39 rfl) (by decide) ?_
          refine OL_c (op_mapUpdate (k := kb y) (v := .agg #[(.slice ay y.length cy), .int .u64 v.ts, .int .u64 v.txn, .slice al v.keys.length cl]) H 3 rfl ti51 (KeyOK.str Try.underlying9) rfl rfl rfl fun w7_11 H => ?_)
          rw [hms] at H
          refine OL_nil ?_
          exact ⟨hti, htn, setE E ey, h0, h4, h5, h11, rfl, hset, by rw [htk, ← hEz, hsz]; unfold askK; rw [if_neg (by rw [hnw]; decide), find_z, hq]; simp only [Option.map_some]; rw [if_neg hle], H.tail⟩
  · rintro f ds w1 ⟨E, h0, h4, h5, h11, rfl, hE, hEz, H⟩ hti htn
    rw [List.take_length] at hEz
    show RetOK _ _ _ _ _ _
    obtain ⟨o', ho', hmo'⟩ := H.get (i := 2) rfl
    obtain ⟨a, b, c, d, e⟩ := H.get (i := 3) rfl
    exact ret0 Try.results17 ⟨⟨_, rfl⟩, ⟨b, c, d, a, fun k hk hM => e k ⟨hk, hM⟩⟩, E, o', ho', hmo', hE, hEz⟩
end Go.Proofs.Ytngnplhdokboiaa
