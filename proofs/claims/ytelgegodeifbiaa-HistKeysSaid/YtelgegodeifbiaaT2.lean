/- Keys: all that was written, rising. -/
import Derived.Test.YtelgegodeifbiaaT1
import Derived.Test.YtelgegodeifbiaaMM
namespace Go.Proofs.Ytelgegodeifbiaa
open Go Go.Wk Pl
set_option linter.unusedVariables false

theorem mset_mem {m : List (ByteArray × Value)} {k : ByteArray} {v : Value} (b : ByteArray) : b ∈ (mset m k v).map (·.1) ↔ (b ∈ m.map (·.1) ∨ b = k) := by
  rw [mset_keys]
  split
  · rename_i h
    exact ⟨.inl, fun h' => h'.elim id fun e => e ▸ h⟩
  · rw [List.mem_append, List.mem_singleton]
theorem mset_len (m : List (ByteArray × Value)) (k : ByteArray) (v : Value) : (mset m k v).length ≤ m.length + 1 := by
  have := congrArg List.length (mset_keys m k v)
  rw [List.length_map] at this
  rw [this]; split <;> simp

set_option maxHeartbeats 4000000 in
theorem f18_calls {Z : Nat → Prop} {w : World} {a : Value} {xs : List Rn} (hx : SlR tRn 112 Z w a xs) (h30 : xs.length ≤ 30) (h8 : ∀ r ∈ xs, r.keys.length ≤ 8) :
    Calls Try.prog 18 [a].toArray w fun e w' => ∃ (v : Value) (ys : List Key), e = .returned v ∧ ys.Pairwise kLt ∧ (∀ k, (∀ x ∈ k, InK .u8 x) → (k ∈ ys ↔ k ∈ keysOf xs)) ∧ SlR tKey 24 (fun k => w.heap.size ≤ k) w' v ys ∧ Ext none' w w' := by
  have H := Holds.start w
  obtain ⟨a0, c0, rfl, hl0, hm0⟩ := hx.len
  refine calls_of_W' Try.func18 rfl Try.ntmps18 rfl ?_
  refine W_seq ?_
  refine W_region ?_
  refine OL_y (y_assign rfl) (by decide) ?_
  refine OL_nil ?_
  refine W_seq ?_
  refine W_region ?_
  refine OL_c (op_makeMap Value.string H (by decide) fun bm w1_0 H => ?_)
  refine OL_y (y_assign rfl) (by decide) ?_
  refine OL_nil ?_
  refine W_seq ?_
  refine W_seq ?_
  refine W_region ?_
  refine OL_y (y_move rfl) (by decide) ?_
  refine OL_y (y_len rfl ti27 rfl) (by decide) ?_
  refine OL_y (y_move rfl) (by decide) ?_
  refine OL_nil ?_
  refine W_range (N := xs.length) (by omega) (fun k f ds w' => ∃ (m : List (ByteArray × Value)), f 12 = .slice a0 xs.length c0 ∧ f 3 = .map (some bm) ∧ ds = [] ∧ m.length ≤ 8 * k ∧ (∀ b, b ∈ m.map (·.1) → b.size ≤ 140737488351232) ∧ (∀ b, b ∈ m.map (·.1) ↔ ∃ y ∈ keysOf (xs.take k), kb y = b) ∧
      Holds w' [mp Value.string bm m, shr (fun k => k < w.heap.size) w])
      ⟨[], rfl, rfl, rfl, by simp, by simp, by simp [keysOf], H⟩
      rfl rfl (by decide) (by decide) (by decide) rfl rfl ?_ rfl rfl ?_
  · rintro k f ds w1 hk ⟨m, h12, h3, rfl, hml, hmz, hmm, H⟩ hti htn
    have hxk := List.getElem?_eq_getElem hk
    obtain ⟨b1, o1, cs1, e1, hz1, hc1, hr1⟩ := hx.at hxk
    have hc1' := hc1.ext ((H.keepsAll 1 rfl Z).2 _ hz1 hc1.lt)
    have hkey8 := h8 xs[k] (List.getElem_mem hk)
    have htk : keysOf (xs.take (k + 1)) = keysOf (xs.take k) ++ wroteOf xs[k] := by rw [List.take_add_one, hxk, keysOf, keysOf, Option.toList_some, List.flatMap_append]; simp only [List.flatMap_cons, List.flatMap_nil, List.append_nil]
    generalize xs[k] = r at *
    obtain ⟨vk, vs, vp, rfl, -, -, -, -, -, hkeys, -⟩ := rn_cells.1 hr1
    have hone := tRn.one hr1
    obtain ⟨ak, ck, rfl, hlk, hmk⟩ := hkeys.len
    have h12' := h12.trans (congrArg (Value.slice · _ _) e1)
    refine W_block ?_
    refine W_seq ?_
    refine W_region ?_
    refine OL_y (y_indexAddr ti27 ti33 h12' hti (by omega) (by omega)) (by decide) ?_
    refine OL_y (y_loadA ti33 rfl rfl hc1' rfl) (by decide) ?_
    refine OL_var (v := .agg #[.int .u64 r.txn, .int .i64 r.level, .int .i64 r.state, .int .u64 r.start, .int .u64 r.ts, .slice ak r.keys.length ck, vs, vp]) H ti33 rfl (by decide) (fun _ => rfl) rfl (hone) fun b5 w4_2 H => ?_
    refine OL_nil ?_
    refine W_seq ?_
    refine W_seq ?_
    by_cases hst : r.state = 1
    · refine W_region ?_
      refine OL_y (y_fieldAddr ti33 rfl ti3 rfl rfl) (by decide) ?_
      refine OL_y (y_loadS (v := .int .i64 r.state) ti3 rfl rfl (Cells.unit (H.getOwn 0 rfl) rfl)) (by decide) ?_
      refine OL_y (v := .bool false) (y_neqF hst rfl rfl) (by decide) ?_
      refine OL_nil ?_
      refine W_condf rfl ?_
      refine W_skip ?_
      refine W_seq ?_
      refine W_region ?_
      refine OL_y (y_fieldAddr ti33 rfl ti29 rfl rfl) (by decide) ?_
      refine OL_y (y_loadS (v := .slice ak r.keys.length ck) ti29 rfl rfl (Cells.unit (H.getOwn 0 rfl) rfl)) (by decide) ?_
      refine OL_y (y_len rfl ti29 rfl) (by decide) ?_
      refine OL_y (y_move rfl) (by decide) ?_
      refine OL_nil ?_
      refine W_range (N := r.keys.length) (by simp [maxLen]; omega) (fun j f ds w' => ∃ (m : List (ByteArray × Value)), f 12 = .slice a0 xs.length c0 ∧ f 3 = .map (some bm) ∧ f 22 = .slice ak r.keys.length ck ∧ f 14 = .int .i64 k ∧ f 13 = .int .i64 xs.length ∧ ds = [] ∧ m.length ≤ 8 * k + j ∧ (∀ b, b ∈ m.map (·.1) → b.size ≤ 140737488351232) ∧ (∀ b, b ∈ m.map (·.1) ↔ ∃ y ∈ keysOf (xs.take k) ++ r.keys.take j, kb y = b) ∧
          Holds w' [mp Value.string bm m, shr (fun k => k < w.heap.size) w])
          ⟨m, h12, h3, rfl, hti, htn, rfl, by omega, hmz, by simpa using hmm, H.tail⟩
          rfl rfl (by decide) (by decide) (by decide) rfl rfl ?_ rfl rfl ?_
      · rintro j f ds w2 hj ⟨m, h12, h3, h22, h14, h13, rfl, hml, hmz, hmm, H⟩ htj htm
        have hkj := List.getElem?_eq_getElem hj
        obtain ⟨b2, o2, cs2, e2, hz2, hc2, hr2⟩ := hkeys.at hkj
        have hc2' := hc2.ext ((H.keepsAll 1 rfl Z).2 _ hz2 hc2.lt)
        obtain ⟨vy, rfl, hvy⟩ := hr2
        have htj' : r.keys.take (j + 1) = r.keys.take j ++ [r.keys[j]] := by rw [List.take_add_one, hkj]; rfl
        generalize r.keys[j] = key at *
        have h22' := h22.trans (congrArg (Value.slice · _ _) e2)
        refine W_block ?_
        refine W_seq ?_
        refine W_region ?_
        refine OL_y (y_indexAddr ti29 ti38 h22' htj (by omega) (by omega)) (by decide) ?_
        refine OL_y (y_loadS (v := vy) ti38 rfl rfl hc2') (by decide) ?_
        refine OL_y (y_assign rfl) (by decide) ?_
        refine OL_nil ?_
        refine W_region ?_
        refine OL_y (y_move h3) (by decide) ?_
        refine OL_y (y_move rfl) (by decide) ?_
        refine OL_y (y_toStr Try.underlying38 Try.underlying5 Try.underlying9 rfl (hvy.keeps (H.keepsAll 1 rfl _))) (by decide) ?_
        refine OL_c (op_mapUpdate (k := kb key) (v := .bool true) H 0 rfl ti70 (KeyOK.str Try.underlying9) rfl rfl rfl fun w9_3 H => ?_)
        refine OL_nil ?_
        refine ⟨htj, htm, mset m (kb key) (.bool true), h12, h3, h22, h14, h13, rfl, by have := mset_len m (kb key) (.bool true); omega, ?_, ?_, H⟩
        · intro b hb
          rcases (mset_mem b).1 hb with h | rfl
          · exact hmz b h
          · rw [kb_size]; have := hvy.reach; omega
        · intro b
          rw [mset_mem, hmm, htj', ← List.append_assoc]
          constructor
          · rintro (⟨y, hy, rfl⟩ | rfl)
            · exact ⟨y, List.mem_append.2 (.inl hy), rfl⟩
            · exact ⟨key, List.mem_append.2 (.inr (by simp)), rfl⟩
          · rintro ⟨y, hy, rfl⟩
            rcases List.mem_append.1 hy with hy | hy
            · exact .inl ⟨y, hy, rfl⟩
            · exact .inr (by rw [List.mem_singleton.1 hy])
      · rintro f ds w2 ⟨m, h12, h3, h22, h14, h13, rfl, hml, hmz, hmm, H⟩ htj htm
        rw [List.take_length] at hmm
        exact ⟨h14, h13, m, h12, h3, rfl, by omega, hmz, by rw [htk]; simpa [wroteOf, hst] using hmm, H⟩
    · refine W_region ?_
      refine OL_y (y_fieldAddr ti33 rfl ti3 rfl rfl) (by decide) ?_
      refine OL_y (y_loadS (v := .int .i64 r.state) ti3 rfl rfl (Cells.unit (H.getOwn 0 rfl) rfl)) (by decide) ?_
      refine OL_y (v := .bool true) (y_neqT hst rfl rfl) (by decide) ?_
      refine OL_nil ?_
      refine W_condt rfl ?_
      refine W_exit ?_
      exact ⟨hti, htn, m, h12, h3, rfl, by omega, hmz, by rw [htk]; simpa [wroteOf, hst] using hmm, H.tail⟩
  · rintro f ds w1 ⟨m, h12, h3, rfl, hml, hmz, hmm, H⟩ hti htn
    rw [List.take_length] at hmm
    refine W_seq ?_
    refine W_region ?_
    refine OL_y (y_assign rfl) (by decide) ?_
    refine OL_nil ?_
    refine W_seq ?_
    refine W_seq ?_
    refine W_region ?_
    refine OL_y (y_move h3) (by decide) ?_
    refine OL_c (op_call 34 en34 rfl [.map (some bm)] rfl (by decide) ((f34_calls).mono ?_))
    rintro e w13_1 ⟨bx, rfl, hE34, hbx, hbxn⟩
    refine ⟨_, rfl, ?_⟩
    have H := H.ext0 hE34
    obtain ⟨es, clock, hmo, H⟩ := H.mpOpen 0 rfl
    have hbl := H.getOwn 0 rfl
    have hmnd : (m.map (·.1)).Nodup := by obtain ⟨_, _, _, _, h, _⟩ := hmo; exact h
    have hit : ∀ w', Ext none' w13_1 w' → IterQ Try.prog 42 [.pointer (some ⟨bx, 0, none⟩)] Value.string (fun pre => ∃ rest, (pre ++ rest).Perm (m.map (·.1))) (fun xs => xs.Perm (m.map (·.1))) (fun k => k = bx ∨ k = bm) w' := fun w' hE =>
      f42_iter ((hE.blk bx (own_lt hbx) (fun h => h)).trans hbx) ((hE.blk bm (own_lt hbl) (fun h => h)).trans hbl) hmo
    refine OL_c (op_call 33 en33 rfl [.func (.func 42) #[] #[.pointer (some ⟨bx, 0, none⟩)]] rfl (by decide) ((f33_calls (M := 240) en42 hit (fun k hk => hk.elim (fun h => h ▸ own_lt hbx) (fun h => h ▸ own_lt hbl)) (fun pre ⟨rest, hp⟩ => by have := hp.length_eq; rw [List.length_append, List.length_map] at this; omega) (by decide)).mono ?_))
    rintro e w13_2 ⟨vv, zs, ys, rfl, hzs, hyz, hys, hE33, hvf, hrow⟩
    refine ⟨_, rfl, ?_⟩
    have H := H.new hE33 (row_ok hrow) hvf
    obtain ⟨av, cv, hvv, _, _⟩ := H.rowLen 0 rfl
    have hyp := hyz.trans hzs
    have hynd : ys.Nodup := hyp.nodup_iff.2 hmnd
    have hyr : ys.Pairwise bLt := rise_of_le hys hynd
    have hyl : ys.length ≤ 240 := by rw [hyp.length_eq, List.length_map]; omega
    have hym : ∀ b, b ∈ ys ↔ ∃ y ∈ keysOf xs, kb y = b := fun b => by rw [hyp.mem_iff, hmm]
    have hysz : ∀ b ∈ ys, b.size ≤ 140737488351232 := fun b hb => hmz b (hyp.mem_iff.1 hb)
    have H : Holds w13_2 [row 9 1 vv ys.length (ys.map Value.string), shr (fun k => k < w.heap.size) w] := H.sub (.cons_cons _ (.cons _ (.refl _)))
    refine OL_y (y_len rfl ti71 (show _ = Value.slice av ys.length cv from hvv)) (by decide) ?_
    refine OL_y (y_move rfl) (by decide) ?_
    refine OL_nil ?_
    have H := (H.emptyPool).rowNil 38 1
    refine W_range (N := ys.length) (by simp [maxLen]; omega) (fun k f ds w' => ∃ (v8 : Value) (cs : List Value) (Zp : Nat → Prop) (Wp : World), f 35 = .slice av ys.length cv ∧ f 8 = v8 ∧ ds = [] ∧ Els tKey Zp Wp cs ((ys.take k).map unkb) ∧ (∀ k, Zp k → w.heap.size ≤ k) ∧
        Holds w' [row 38 1 v8 k cs, shr Zp Wp, row 9 1 vv ys.length (ys.map Value.string), shr (fun k => k < w.heap.size) w])
        ⟨.slice none 0 0, [], none', w13_2, hvv, rfl, rfl, Els.nil _ _ _, fun _ h => h.elim, H⟩
        rfl rfl (by decide) (by decide) (by decide) rfl rfl ?_ rfl rfl ?_
    · rintro k f ds w3 hk ⟨v8, cs, Zp, Wp, h35, h8, rfl, hE, hZp, H⟩ hti htn
      have hyk := List.getElem?_eq_getElem hk
      have htk : ys.take (k + 1) = ys.take k ++ [ys[k]] := by rw [List.take_add_one, hyk]; rfl
      have hsz := hysz ys[k] (List.getElem_mem hk)
      obtain ⟨bv, cv2, hv2, hC, hcv⟩ : ∃ b c, vv = .slice (some ⟨b, 0, none⟩) ys.length c ∧ Cells w3 b (0 + k * 1) [.string ys[k]] ∧ True := by
        obtain ⟨b, c, h, _, _⟩ := ownsRow_cells (H.getRow 2 rfl) (by omega)
        refine ⟨b, c, h, ?_, trivial⟩
        have := rowCell (o := k) (u := .string ys[k]) (H.getRow 2 rfl) (b := b) (by rw [h]; rfl) (by rw [List.getElem?_map, hyk]; rfl)
        simpa using this
      have h35' := h35.trans (hvv.symm.trans hv2)
      generalize ys[k] = s at *
      refine W_block ?_
      refine W_seq ?_
      refine W_region ?_
      refine OL_y (y_indexAddr ti71 ti9 h35' hti (by omega) (by omega)) (by decide) ?_
      refine OL_y (y_loadS (v := .string s) ti9 rfl rfl hC) (by decide) ?_
      refine OL_y (y_assign rfl) (by decide) ?_
      refine OL_nil ?_
      refine W_region ?_
      refine OL_y (y_move h8) (by decide) ?_
      refine OL_y (y_move rfl) (by decide) ?_
      refine OL_c (op_toBytes H Try.underlying9 Try.underlying38 Try.underlying5 rfl hsz (by decide) fun b43 cap w16_2 hc1 hc2 H => ?_)
      refine OL_c (op_buildSlice H [.slice (some ⟨b43, 0, none⟩) s.size cap] ti29 ti38 rfl rfl rfl (by simp [Value.cells]) rfl rfl (by decide) fun b44 w16_3 H => ?_)
      refine OL_c (op_append H 2 rfl rfl ti29 ti38 rfl rfl rfl rfl (Src.row (H.getRow 0 rfl)) rfl (by simp [Value.cells, Value.oneCell']) (by omega) (by simp [maxLen]; omega) (by decide) fun v45 w16_4 H => ?_)
      refine OL_y (y_assign rfl) (by decide) ?_
      refine OL_nil ?_
      have hb43 := H.getOwn 1 rfl
      have hfr := H.fresh 1 5 rfl rfl rfl b43 rfl
      have hkp : Keeps Zp Wp w16_4 := H.keeps (i := 3) rfl
      have hS := SlR_bytes (Z := fun k => Zp k ∨ k = b43) hb43 (.inr rfl) hc1 hc2 hsz
      have H := (H.tail).pool rfl 1 rfl
      refine ⟨hti, htn, v45, _, fun k => Zp k ∨ k = b43, w16_4, h35, rfl, rfl, ?_, fun k hk => hk.elim (hZp k) (fun h => by rw [h]; exact hfr), H⟩
      rw [htk, List.map_append]
      exact ((hE.keeps hkp).mono fun _ _ h => .inl h).snoc ⟨_, rfl, hS⟩
    · rintro f ds w3 ⟨v8, cs, Zp, Wp, h35, h8, rfl, hE, hZp, H⟩ hti htn
      rw [List.take_length] at hE
      refine W_seq ?_
      refine W_region ?_
      refine OL_y (y_move h8) (by decide) ?_
      refine OL_y (y_assign rfl) (by decide) ?_
      refine OL_nil ?_
      refine W_ret ?_
      show RetOK _ _ _ _ _ _
      refine ret1 (v := v8) Try.results18 rfl ⟨_, ys.map unkb, rfl, ?_, ?_, ?_, H.ext_of 3 rfl⟩
      · rw [List.pairwise_map]
        exact hyr.imp fun {a b} h => by show bLt _ _; rw [kb_unkb, kb_unkb]; exact h
      · intro k hk
        rw [List.mem_map]
        constructor
        · rintro ⟨b, hb, rfl⟩
          obtain ⟨y, hy, hyb⟩ := (hym b).1 hb
          have hyin : ∀ x ∈ y, InK .u8 x := by
            unfold keysOf at hy
            obtain ⟨r, hr, hyr⟩ := List.mem_flatMap.1 hy
            unfold wroteOf at hyr
            split at hyr
            · obtain ⟨i, hi⟩ := List.getElem?_of_mem hr
              obtain ⟨_, _, _, _, _, _, hrr⟩ := hx.at hi
              obtain ⟨vk, vs, vp, rfl, -, -, -, -, -, hkeys, -⟩ := rn_cells.1 hrr
              obtain ⟨j, hj⟩ := List.getElem?_of_mem hyr
              obtain ⟨_, _, rfl, _, _⟩ := hkeys.len
              obtain ⟨_, _, _, _, _, _, vy, _, hvy⟩ := hkeys.at hj
              exact hvy.allIn
            · cases hyr
          rw [← hyb, unkb_kb hyin]; exact hy
        · intro h
          exact ⟨kb k, (hym _).2 ⟨k, h, rfl⟩, unkb_kb hk⟩
      · exact SlR.ofRow (H.getRow 0 rfl) (by decide) ((hE.keeps (H.keeps (i := 1) rfl)).mono fun k _ h => hZp k h) (fun k hk => H.fresh 0 3 rfl rfl rfl k hk) (by rw [List.length_map]; omega)
end Go.Proofs.Ytelgegodeifbiaa
