/- Part 3 of the texts that a law of the seat leans on: the ground of the walks, the facts of the program, its functions one by one. -/
import Derived.Test.YtpandioolpnihaaDoe2
namespace Go.Proofs.Ytpandioolpnihaa
open Go Go.Wk
set_option linter.unusedVariables false
set_option linter.unusedSimpArgs false

def Abs.clear (a : Abs) (ks : List ByteArray) : Abs := ⟨a.v, fun k => if ks.any (fun x => decide (x = k)) then noV else a.i k⟩
theorem mdelI {I : List Itn} (k : ByteArray) : mdel (I.map Itn.kv) k = (I.filter fun i => decide (i.key ≠ k)).map Itn.kv := by
  unfold mdel
  rw [List.filter_map]; rfl
theorem CRep.delI {w0 Wp : World} {F : Nat → Prop} {E : List Ent} {I : List Itn} {a : Abs} (h : CRep w0 F Wp E I a) (k : ByteArray) : CRep w0 F Wp E (I.filter fun i => decide (i.key ≠ k)) (a.setI k noV) := by
  refine ⟨h.base, h.ev, h.en, h.nd, h.va, h.vn, fun i hi => h.iv i (List.mem_filter.1 hi).1, h.ind.sublist (List.Sublist.map _ List.filter_sublist), fun i hi => ?_, fun k' hk' => ?_, h.ek, fun i hi => h.ik i (List.mem_filter.1 hi).1⟩
  · have h1 := List.mem_filter.1 hi
    exact (if_neg (by simpa using h1.2)).trans (h.ia i h1.1)
  · show (if k' = k then noV else a.i k') = noV
    split
    · rfl
    · rename_i hne
      refine h.inn k' fun hin => hk' ?_
      obtain ⟨x, hx, he⟩ := List.mem_map.1 hin
      exact List.mem_map.2 ⟨x, List.mem_filter.2 ⟨hx, by rw [he]; simpa using hne⟩, he⟩
theorem clear_snoc (a : Abs) (ks : List ByteArray) (k : ByteArray) : (a.clear ks).setI k noV = a.clear (ks ++ [k]) := by
  unfold Abs.clear Abs.setI
  congr 1
  funext x
  simp only [List.any_append, List.any_cons, List.any_nil, Bool.or_false]
  by_cases h1 : x = k
  · subst h1; simp
  · have h2 : decide (k = x) = false := decide_eq_false fun h => h1 h.symm
    rw [if_neg h1, h2, Bool.or_false]

set_option maxHeartbeats 16000000 in
theorem f40_calls {w0 w Wp : World} {F : Nat → Prop} {b b1 b2 : Nat} {E : List Ent} {I : List Itn} {a : Abs} {L : List Atom} {txn : Int} (H : Holds w (cAt b b1 b2 E I F Wp w0 L)) (hr : CRep w0 F Wp E I a) (hIl : I.length ≤ 40000) :
    Calls Try.prog 40 [.pointer (some ⟨b, 0, none⟩), .int .u64 txn].toArray w fun e w' => ∃ ks : List ByteArray, e = .returned (.int .i64 ks.length) ∧ IntentsOf a txn ks ∧ ∃ (I' : List Itn) (F' : Nat → Prop) (Wp' : World), Holds w' (cAt b b1 b2 E I' F' Wp' w0 L) ∧ CRep w0 F' Wp' E I' (a.clear ks) ∧ Grow w0 F Wp F' Wp' ∧ I'.length ≤ I.length := by
  refine calls_of_W' Try.func40 rfl Try.ntmps40 rfl ?_
  refine W_seq ?_
  refine W_region ?_
  refine OL_y (y_assign rfl) (by decide) ?_
  refine OL_nil ?_
  refine W_seq ?_
  refine W_region ?_
  refine OL_y (y_move rfl) (by decide) ?_
  refine OL_y (y_move rfl) (by decide) ?_
  refine OL_c (op_call 17 en17 rfl [.pointer (some ⟨b, 0, none⟩), .int .u64 txn] rfl (by decide) ((f17_calls H hr hIl).mono ?_))
  rintro e w1_2 ⟨v5, ks, rfl, hks, hSk, hE17⟩
  refine ⟨_, rfl, ?_⟩
  obtain ⟨H, g1⟩ := H.poolC hE17 3 4 rfl rfl hr.base
  obtain ⟨F', hF'⟩ : ∃ F' : Nat → Prop, F' = fun k => F k ∨ (w.heap.size ≤ k ∧ k < w1_2.heap.size) := ⟨_, rfl⟩
  rw [← hF'] at H g1
  have hSk' : SlR tKey 24 (Dz w0 F') w1_2 v5 (ks.map unkb) := hSk.mono fun k h1 h2 => .inr (by rw [hF']; exact .inr ⟨h2, h1⟩)
  have hkl := hSk'.len1 (by decide)
  rw [List.length_map] at hkl
  obtain ⟨a5, c5, hv5, hl5, hm5⟩ := hSk'.len
  rw [List.length_map] at hv5 hl5
  subst hv5
  refine OL_y (y_assign rfl) (by decide) ?_
  refine OL_nil ?_
  refine W_seq ?_
  refine W_seq ?_
  refine W_region ?_
  refine OL_y (y_move rfl) (by decide) ?_
  refine OL_y (y_len rfl ti30 rfl) (by decide) ?_
  refine OL_y (y_move rfl) (by decide) ?_
  refine OL_nil ?_
  refine W_range (N := ks.length) (by omega) (fun j f ds w' => ∃ (I' : List Itn), f 0 = .pointer (some ⟨b, 0, none⟩) ∧ f 5 = .slice a5 ks.length c5 ∧ f 11 = .slice a5 ks.length c5 ∧ ds = [] ∧ CRep w0 F' w1_2 E I' (a.clear (ks.take j)) ∧ I'.length ≤ I.length ∧ Holds w' (cAt b b1 b2 E I' F' w1_2 w0 L))
      ⟨I, rfl, rfl, rfl, rfl, hr.grow g1, Nat.le_refl _, H⟩
      rfl rfl (by decide) (by decide) (by decide) rfl rfl ?_ rfl rfl ?_
  · rintro j f ds w2 hj ⟨I', h0, h5, h11, rfl, hrj, hIj, H⟩ htj htm
    have hkj := List.getElem?_eq_getElem hj
    have hxj : (ks.map unkb)[j]? = some (unkb ks[j]) := by rw [List.getElem?_map, hkj]; rfl
    obtain ⟨b3, o3, cs3, e3, hz3, hc3, hr3⟩ := hSk'.at hxj
    have hc3' := hc3.ext ((H.dz 3 4 rfl rfl hrj.base).2 _ hz3 hc3.lt)
    obtain ⟨vy, rfl, hvy⟩ := hr3
    have htk : ks.take (j + 1) = ks.take j ++ [ks[j]] := by rw [List.take_add_one, hkj]; rfl
    generalize ks[j] = s at *
    have hks2 : kb (unkb s) = s := kb_unkb s
    have h11' := h11.trans (congrArg (Value.slice · _ _) e3)
    refine W_block ?_
    refine W_seq ?_
    refine W_region ?_
    refine OL_y (y_indexAddr ti30 ti23 h11' htj (by omega) (by omega)) (by decide) ?_
    refine OL_y (y_loadS (v := vy) ti23 rfl rfl hc3') (by decide) ?_
    refine OL_y (y_assign rfl) (by decide) ?_
    refine OL_nil ?_
    refine W_drawD H mixed (by kernel_rfl) [6] (fun wq w' => Holds w' (cAt b b1 b2 E I' F' w1_2 w0 L)) fun wd5 H hEd => ?_
    have hS : ∀ {ls : Array Bool}, Sx [6] (fun w' => Holds w' (cAt b b1 b2 E I' F' w1_2 w0 L)) ls wd5 := fun {_} _ => H
    refine DA_p 0 rfl (by kernel_rfl) rfl (fun _ => y_move h0) hS (by decide) fun hS => ?_
    refine DA_p 1 rfl (by kernel_rfl) rfl (fun _ => y_nilCheck rfl ⟨_, rfl⟩) hS (by decide) fun hS => ?_
    refine DA_p 2 rfl (by kernel_rfl) rfl (fun _ => y_fieldAddr ti98 rfl ti96 rfl rfl) hS (by decide) fun hS => ?_
    refine DA_y 3 rfl (by kernel_rfl) rfl (by kernel_rfl) (fun w' h => y_loadS (v := .map (some b2)) ti96 rfl rfl (Cells.unit (h.getOwn 0 rfl) rfl)) hS (by decide) fun hS => ?_
    refine DA_p 4 rfl (by kernel_rfl) rfl (fun _ => y_move rfl) hS (by decide) fun hS => ?_
    refine DA_y 5 rfl (by kernel_rfl) rfl (by kernel_rfl) (fun w' h => y_toStr (w := w') Try.underlying23 Try.underlying5 Try.underlying9 rfl (hvy.keeps (h.dz 3 4 rfl rfl hrj.base))) hS (by decide) fun hS => ?_
    refine DA_one 6 (by kernel_rfl) rfl (op_delete (k := kb (unkb s)) H 2 rfl rfl ti96 (KeyOK.str Try.underlying9) (by intro d hd; cases hd) rfl rfl fun w5_6 H => ⟨fun h => absurd (h 6 (by simp)) (by decide), ?_⟩)
    refine DA_done (by kernel_rfl) ?_
    have H : Holds w5_6 (own b (.cells #[.map (some b1), .map (some b2)] 98) :: mp Value.string b1 (E.map Ent.kv) :: mp Value.string b2 (mdel (I'.map Itn.kv) (kb (unkb s))) :: exc F' w1_2 :: shr (fun k => k < w0.heap.size) w0 :: (E.map Ent.atom ++ L)) := H
    rw [hks2, mdelI] at H
    refine ⟨htj, htm, _, h0, h5, h11, rfl, ?_, Nat.le_trans (List.length_filter_le _ _) hIj, H⟩
    rw [htk, ← clear_snoc]; exact hrj.delI s
  · rintro f ds w2 ⟨I', h0, h5, h11, rfl, hrj, hIj, H⟩ htj htm
    rw [List.take_length] at hrj
    refine W_seq ?_
    refine W_region ?_
    refine OL_y (y_move h5) (by decide) ?_
    refine OL_y (y_len rfl ti30 rfl) (by decide) ?_
    refine OL_y (y_assign rfl) (by decide) ?_
    refine OL_nil ?_
    refine W_ret ?_
    show RetOK _ _ _ _ _ _
    exact ret1 (v := .int .i64 ks.length) Try.results40 rfl ⟨ks, rfl, hks, I', F', w1_2, H, hrj, g1, hIj⟩
end Go.Proofs.Ytpandioolpnihaa

namespace Go.Proofs.Ytpandioolpnihaa
open Go Go.Wk
set_option linter.unusedVariables false
set_option linter.unusedSimpArgs false

def Ver.atTs (v : Ver) (ts : Int) : Ver := ⟨ts, v.txn, v.dead, v.val, v.keys⟩
def Abs.turn1 (ts : Int) (a : Abs) (k : ByteArray) : Abs := (a.put k ((a.i k).atTs ts)).setI k noV
theorem turn1_ok {a : Abs} {m : Nat} (h : a.Ok m) (ts : Int) (k : ByteArray) : (a.turn1 ts k).Ok (m + 1) := h.put k _

set_option maxHeartbeats 16000000 in
theorem f27_calls {w0 w Wp : World} {F : Nat → Prop} {b b1 b2 m : Nat} {E : List Ent} {I : List Itn} {a : Abs} {L : List Atom} {txn ts : Int} (H : Holds w (cAt b b1 b2 E I F Wp w0 L)) (hr : CRep w0 F Wp E I a) (hIl : I.length ≤ 10000) (ha : a.Ok m) (hm : m ≤ 10000) (hts : InK .u64 ts) :
    Calls Try.prog 27 [.pointer (some ⟨b, 0, none⟩), .int .u64 txn, .int .u64 ts].toArray w fun e w' => ∃ ks : List ByteArray, e = .returned (.int .i64 ks.length) ∧ IntentsOf a txn ks ∧ ∃ (E' : List Ent) (I' : List Itn) (F' : Nat → Prop) (Wp' : World), Holds w' (cAt b b1 b2 E' I' F' Wp' w0 L) ∧ CRep w0 F' Wp' E' I' (ks.foldl (Abs.turn1 ts) a) ∧ (ks.foldl (Abs.turn1 ts) a).Ok (m + ks.length) ∧ Grow w0 F Wp F' Wp' ∧ I'.length ≤ I.length ∧ E'.length ≤ E.length + ks.length ∧ ks.length ≤ I.length := by
  refine calls_of_W' Try.func27 rfl Try.ntmps27 rfl ?_
  refine W_seq ?_
  refine W_region ?_
  refine OL_y (y_assign rfl) (by decide) ?_
  refine OL_nil ?_
  refine W_seq ?_
  refine W_region ?_
  refine OL_y (y_move rfl) (by decide) ?_
  refine OL_y (y_move rfl) (by decide) ?_
  refine OL_c (op_call 17 en17 rfl [.pointer (some ⟨b, 0, none⟩), .int .u64 txn] rfl (by decide) ((f17_calls H hr (by omega)).mono ?_))
  rintro e w1_2 ⟨v5, ks, rfl, hks, hSk, hE17⟩
  refine ⟨_, rfl, ?_⟩
  obtain ⟨H, g1⟩ := H.poolC hE17 3 4 rfl rfl hr.base
  obtain ⟨F', hF'⟩ : ∃ F' : Nat → Prop, F' = fun k => F k ∨ (w.heap.size ≤ k ∧ k < w1_2.heap.size) := ⟨_, rfl⟩
  rw [← hF'] at H g1
  have hSk' : SlR tKey 24 (Dz w0 F') w1_2 v5 (ks.map unkb) := hSk.mono fun k h1 h2 => .inr (by rw [hF']; exact .inr ⟨h2, h1⟩)
  have hkl := hSk'.len1 (by decide)
  rw [List.length_map] at hkl
  have hkI : ks.length ≤ I.length := by
    have hnd : ks.Nodup := rise_nodup bLt_irrefl hks.rise
    have hsub : ∀ k ∈ ks, k ∈ I.map (·.key) := fun k hk => Classical.byContradiction fun hn => by
      have h1 := (hks.mem k).1 hk
      have h2 := hr.inn k hn
      rw [h2] at h1; exact h1.1 h1.2.symm
    have := List.Nodup.length_le_of_subset hnd hsub
    rwa [List.length_map] at this
  obtain ⟨a5, c5, hv5, hl5, hm5⟩ := hSk'.len
  rw [List.length_map] at hv5 hl5
  subst hv5
  refine OL_y (y_assign rfl) (by decide) ?_
  refine OL_nil ?_
  refine W_seq ?_
  refine W_seq ?_
  refine W_region ?_
  refine OL_y (y_move rfl) (by decide) ?_
  refine OL_y (y_len rfl ti30 rfl) (by decide) ?_
  refine OL_y (y_move rfl) (by decide) ?_
  refine OL_nil ?_
  refine W_range (N := ks.length) (by omega) (fun j f ds w' => ∃ (E' : List Ent) (I' : List Itn) (Fj : Nat → Prop) (Wj : World), f 0 = .pointer (some ⟨b, 0, none⟩) ∧ f 2 = .int .u64 ts ∧ f 7 = .slice a5 ks.length c5 ∧ f 14 = .slice a5 ks.length c5 ∧ ds = [] ∧ CRep w0 Fj Wj E' I' ((ks.take j).foldl (Abs.turn1 ts) a) ∧ ((ks.take j).foldl (Abs.turn1 ts) a).Ok (m + j) ∧ Grow w0 F Wp Fj Wj ∧ SlR tKey 24 (Dz w0 Fj) Wj (.slice a5 ks.length c5) (ks.map unkb) ∧ I'.length ≤ I.length ∧ E'.length ≤ E.length + j ∧ Holds w' (cAt b b1 b2 E' I' Fj Wj w0 L))
      ⟨E, I, F', w1_2, rfl, rfl, rfl, rfl, rfl, hr.grow g1, ha, g1, hSk', Nat.le_refl _, Nat.le_refl _, H⟩
      rfl rfl (by decide) (by decide) (by decide) rfl rfl ?_ rfl rfl ?_
  · rintro j f ds w2 hj ⟨E', I', Fj, Wj, h0, h2, h7, h14, rfl, hrj, haj, gj, hSj, hIj, hEj, H⟩ htj htm
    have hkj := List.getElem?_eq_getElem hj
    have hxj : (ks.map unkb)[j]? = some (unkb ks[j]) := by rw [List.getElem?_map, hkj]; rfl
    obtain ⟨b3, o3, cs3, e3, hz3, hc3, hr3⟩ := hSj.at hxj
    have hc3' := hc3.ext ((H.dz 3 4 rfl rfl hrj.base).2 _ hz3 hc3.lt)
    obtain ⟨vy, rfl, hvy⟩ := hr3
    have htk : (ks.take (j + 1)).foldl (Abs.turn1 ts) a = Abs.turn1 ts ((ks.take j).foldl (Abs.turn1 ts) a) ks[j] := by rw [List.take_add_one, hkj, Option.toList_some, List.foldl_append]; rfl
    generalize ks[j] = s at *
    generalize (ks.take j).foldl (Abs.turn1 ts) a = aj at *
    have hks2 : kb (unkb s) = s := kb_unkb s
    have h14' := h14.trans (congrArg (Value.slice · _ _) e3)
    obtain ⟨csI, hlk, hRI⟩ := hrj.look (kb (unkb s))
    rw [hks2] at hRI
    obtain ⟨jv, jk, rfl, hj1, hj2, hj3, hj4⟩ := ver_cells.1 hRI
    have hu : tVer.R (Dz w0 Fj) Wj [.int .u64 ts, .int .u64 (aj.i s).txn, .bool (aj.i s).dead, jv, jk] ((aj.i s).atTs ts) := ver_cells.2 ⟨_, _, rfl, hts, hj2, hj3, hj4⟩
    refine W_block ?_
    refine W_seq ?_
    refine W_region ?_
    refine OL_y (y_indexAddr ti30 ti23 h14' htj (by omega) (by omega)) (by decide) ?_
    refine OL_y (y_loadS (v := vy) ti23 rfl rfl hc3') (by decide) ?_
    refine OL_y (y_assign rfl) (by decide) ?_
    refine OL_nil ?_
    refine W_seq ?_
    refine W_drawD H mixed (by kernel_rfl) [] (fun wq w' => Holds w' (cAt b b1 b2 E' I' Fj Wj w0 L)) fun wd5 H hEd => ?_
    have hS : ∀ {ls : Array Bool}, Sx [] (fun w' => Holds w' (cAt b b1 b2 E' I' Fj Wj w0 L)) ls wd5 := fun {_} _ => H
    refine DA_p 0 rfl (by kernel_rfl) rfl (fun _ => y_move h0) hS (by decide) fun hS => ?_
    refine DA_p 1 rfl (by kernel_rfl) rfl (fun _ => y_nilCheck rfl ⟨_, rfl⟩) hS (by decide) fun hS => ?_
    refine DA_p 2 rfl (by kernel_rfl) rfl (fun _ => y_fieldAddr ti98 rfl ti96 rfl rfl) hS (by decide) fun hS => ?_
    refine DA_y 3 rfl (by kernel_rfl) rfl (by kernel_rfl) (fun w' h => y_loadS (v := .map (some b2)) ti96 rfl rfl (Cells.unit (h.getOwn 0 rfl) rfl)) hS (by decide) fun hS => ?_
    refine DA_p 4 rfl (by kernel_rfl) rfl (fun _ => y_move rfl) hS (by decide) fun hS => ?_
    refine DA_y 5 rfl (by kernel_rfl) rfl (by kernel_rfl) (fun w' h => y_toStr (w := w') Try.underlying23 Try.underlying5 Try.underlying9 rfl (hvy.keeps (h.dz 3 4 rfl rfl hrj.base))) hS (by decide) fun hS => ?_
    refine DA_y 6 rfl (by kernel_rfl) rfl (by kernel_rfl) (fun w' h => y_lookupG (w := w') hlk h 2 rfl ti96 ti32 (KeyOK.str Try.underlying9) rfl rfl) hS (by decide) fun hS => ?_
    refine DA_one 7 (by kernel_rfl) rfl (op_alloc H ti32 (by decide) fun b10 w5_7 H => ⟨fun _ => H.tail, ?_⟩)
    refine DA_one 8 (by kernel_rfl) rfl (op_store (v := .agg #[.int .u64 (aj.i s).ts, .int .u64 (aj.i s).txn, .bool (aj.i s).dead, jv, jk]) H 0 rfl ti32 rfl rfl rfl (by decide) (tVer.one hRI) fun w5_8 H => ⟨fun _ => H.tail, ?_⟩)
    refine DA_done (by kernel_rfl) ?_
    refine W_seq ?_
    refine W_region ?_
    refine OL_y (y_move h2) (by decide) ?_
    refine OL_y (y_fieldAddr ti32 rfl ti24 rfl rfl) (by decide) ?_
    refine OL_c (op_store (v := .int .u64 ts) H 0 rfl ti24 rfl rfl rfl (Nat.le_of_ble_eq_true rfl) (by simp [Value.cells, Value.oneCell']) fun w6_2 H => ?_)
    have H : Holds w6_2 (own b10 (.cells #[.int .u64 ts, .int .u64 (aj.i s).txn, .bool (aj.i s).dead, jv, jk] 32) :: cAt b b1 b2 E' I' Fj Wj w0 L) := H
    refine OL_nil ?_
    refine W_seq ?_
    refine W_region ?_
    refine OL_y (y_move h0) (by decide) ?_
    refine OL_y (y_move rfl) (by decide) ?_
    refine OL_y (y_loadA (cs := [.int .u64 ts, .int .u64 (aj.i s).txn, .bool (aj.i s).dead, jv, jk]) ti32 rfl rfl (Cells.of (H.getOwn 0 rfl) rfl) rfl) (by decide) ?_
    refine OL_c (op_call 23 en23 rfl [.pointer (some ⟨b, 0, none⟩), vy, .agg #[.int .u64 ts, .int .u64 (aj.i s).txn, .bool (aj.i s).dead, jv, jk]] rfl (by decide) ((f23_calls H.tail hrj hvy hu haj (by omega)).mono ?_))
    rintro e w7_3 ⟨rfl, E2, F2, W2, H, hr2, g2, hE2⟩
    refine ⟨_, rfl, ?_⟩
    rw [hks2] at hr2
    refine OL_nil ?_
    refine W_drawD H mixed (by kernel_rfl) [6] (fun wq w' => Holds w' (cAt b b1 b2 E2 I' F2 W2 w0 L)) fun wd8 H hEd => ?_
    have hS : ∀ {ls : Array Bool}, Sx [6] (fun w' => Holds w' (cAt b b1 b2 E2 I' F2 W2 w0 L)) ls wd8 := fun {_} _ => H
    refine DA_p 0 rfl (by kernel_rfl) rfl (fun _ => y_move h0) hS (by decide) fun hS => ?_
    refine DA_p 1 rfl (by kernel_rfl) rfl (fun _ => y_nilCheck rfl ⟨_, rfl⟩) hS (by decide) fun hS => ?_
    refine DA_p 2 rfl (by kernel_rfl) rfl (fun _ => y_fieldAddr ti98 rfl ti96 rfl rfl) hS (by decide) fun hS => ?_
    refine DA_y 3 rfl (by kernel_rfl) rfl (by kernel_rfl) (fun w' h => y_loadS (v := .map (some b2)) ti96 rfl rfl (Cells.unit (h.getOwn 0 rfl) rfl)) hS (by decide) fun hS => ?_
    refine DA_p 4 rfl (by kernel_rfl) rfl (fun _ => y_move rfl) hS (by decide) fun hS => ?_
    refine DA_y 5 rfl (by kernel_rfl) rfl (by kernel_rfl) (fun w' h => y_toStr (w := w') Try.underlying23 Try.underlying5 Try.underlying9 rfl ((show SlR (tInt .u8) 1 (Dz w0 F2) W2 vy (unkb s) from g2.slr hvy).keeps (h.dz 3 4 rfl rfl hr2.base))) hS (by decide) fun hS => ?_
    refine DA_one 6 (by kernel_rfl) rfl (op_delete (k := kb (unkb s)) H 2 rfl rfl ti96 (KeyOK.str Try.underlying9) (by intro d hd; cases hd) rfl rfl fun w8_6 H => ⟨fun h => absurd (h 6 (by simp)) (by decide), ?_⟩)
    refine DA_done (by kernel_rfl) ?_
    have H : Holds w8_6 (own b (.cells #[.map (some b1), .map (some b2)] 98) :: mp Value.string b1 (E2.map Ent.kv) :: mp Value.string b2 (mdel (I'.map Itn.kv) (kb (unkb s))) :: exc F2 W2 :: shr (fun k => k < w0.heap.size) w0 :: (E2.map Ent.atom ++ L)) := H
    rw [hks2, mdelI] at H
    refine ⟨htj, htm, E2, _, F2, W2, h0, h2, h7, h14, rfl, ?_, ?_, gj.trans g2, g2.slr hSj, Nat.le_trans (List.length_filter_le _ _) hIj, by omega, H⟩
    · rw [htk]; exact hr2.delI s
    · rw [htk]; exact turn1_ok haj ts s
  · rintro f ds w2 ⟨E', I', Fj, Wj, h0, h2, h7, h14, rfl, hrj, haj, gj, hSj, hIj, hEj, H⟩ htj htm
    rw [List.take_length] at hrj haj
    refine W_seq ?_
    refine W_region ?_
    refine OL_y (y_move h7) (by decide) ?_
    refine OL_y (y_len rfl ti30 rfl) (by decide) ?_
    refine OL_y (y_assign rfl) (by decide) ?_
    refine OL_nil ?_
    refine W_ret ?_
    show RetOK _ _ _ _ _ _
    exact ret1 (v := .int .i64 ks.length) Try.results27 rfl ⟨ks, rfl, hks, E', I', Fj, Wj, H, hrj, haj, gj, hIj, hEj, hkI⟩
end Go.Proofs.Ytpandioolpnihaa

namespace Go.Proofs.Ytpandioolpnihaa
open Go Go.Wk
set_option linter.unusedVariables false
set_option linter.unusedSimpArgs false

theorem noV_cells {Z : Nat → Prop} {w : World} : tVer.R Z w [.int .u64 noV.ts, .int .u64 noV.txn, .bool noV.dead, .slice none 0 0, .slice none 0 0] noV := ver_cells.2 ⟨_, _, rfl, rfl, rfl, SlR.nil _ _ _ _, SlR.nil _ _ _ _⟩
end Go.Proofs.Ytpandioolpnihaa

namespace Go.Proofs.Ytpandioolpnihaa
open Go Go.Wk
set_option linter.unusedVariables false
set_option linter.unusedSimpArgs false

def isKey (a : Abs) (k : ByteArray) : Prop := a.v k ≠ [] ∨ (a.i k).txn ≠ 0
structure KeysOf (a : Abs) (ks : List ByteArray) : Prop where
  rise : ks.Pairwise bLt
  mem : ∀ k, k ∈ ks ↔ isKey a k

end Go.Proofs.Ytpandioolpnihaa

namespace Go.Proofs.Ytpandioolpnihaa
open Go Go.Wk
set_option linter.unusedVariables false
set_option linter.unusedSimpArgs false

/-- How many of a key's versions are kept. -/
def gcPos (vs : List Ver) (ts : Int) : Nat := posV vs ts + (match vs[posV vs ts]? with
  | some x => if x.dead then 0 else 1
  | none => 0)
def gcV (vs : List Ver) (ts : Int) : List Ver := vs.take (gcPos vs ts)
def Abs.gcK (a : Abs) (ts : Int) (ks : List ByteArray) : Abs := ⟨fun k => if ks.any (fun x => decide (x = k)) then gcV (a.v k) ts else a.v k, a.i⟩
def Abs.gc (a : Abs) (ts : Int) : Abs := ⟨fun k => gcV (a.v k) ts, a.i⟩
def gcN (a : Abs) (ts : Int) (ks : List ByteArray) : Nat := (ks.map fun k => (a.v k).length - gcPos (a.v k) ts).sum
theorem gcPos_le (vs : List Ver) (ts : Int) : gcPos vs ts ≤ vs.length := by
  unfold gcPos
  have h := pos_le vs ts
  cases hg : vs[posV vs ts]? with
  | none => simpa using h
  | some x =>
    have hl := (List.getElem?_eq_some_iff.1 hg).1
    simp only
    split <;> omega
theorem gcV_nil (ts : Int) : gcV [] ts = [] := by unfold gcV; simp
theorem gcK_snoc (a : Abs) (ts : Int) (ks : List ByteArray) (k : ByteArray) : (a.gcK ts ks).setV k (gcV (a.v k) ts) = a.gcK ts (ks ++ [k]) := by
  unfold Abs.gcK Abs.setV
  congr 1
  funext x
  simp only [List.any_append, List.any_cons, List.any_nil, Bool.or_false]
  by_cases h1 : x = k
  · subst h1; simp
  · have h2 : decide (k = x) = false := decide_eq_false fun h => h1 h.symm
    rw [if_neg h1, h2, Bool.or_false]
theorem gcK_out (a : Abs) (ts : Int) {ks : List ByteArray} {k : ByteArray} (h : k ∉ ks) : (a.gcK ts ks).v k = a.v k := by
  refine if_neg ?_
  rw [List.any_eq_true]
  rintro ⟨x, hx, he⟩
  rw [of_decide_eq_true he] at hx
  exact h hx
theorem gcK_all {a : Abs} {ts : Int} {ks : List ByteArray} (h : ∀ k, a.v k ≠ [] → k ∈ ks) : a.gcK ts ks = a.gc ts := by
  unfold Abs.gcK Abs.gc
  congr 1
  funext k
  split
  · rfl
  · rename_i hn
    by_cases hv : a.v k = []
    · rw [hv, gcV_nil]
    · exact absurd (List.any_eq_true.2 ⟨k, h k hv, decide_eq_true rfl⟩) hn
theorem gc_ok {a : Abs} {m : Nat} (h : a.Ok m) (ts : Int) : (a.gc ts).Ok m := fun k => ⟨(h k).1.sublist (List.take_sublist _ _), by show (List.take _ _).length ≤ m; rw [List.length_take]; have := (h k).2; omega⟩
theorem gcN_snoc (a : Abs) (ts : Int) (ks : List ByteArray) (k : ByteArray) : gcN a ts (ks ++ [k]) = gcN a ts ks + ((a.v k).length - gcPos (a.v k) ts) := by
  unfold gcN; rw [List.map_append, List.sum_append]; simp
theorem gcN_le {a : Abs} {m : Nat} (h : a.Ok m) (ts : Int) : ∀ ks : List ByteArray, gcN a ts ks ≤ ks.length * m
  | [] => Nat.zero_le _
  | k :: ks => by
    have h1 := gcN_le h ts ks
    have h2 := (h k).2
    have : gcN a ts (k :: ks) = ((a.v k).length - gcPos (a.v k) ts) + gcN a ts ks := rfl
    rw [this, List.length_cons, Nat.add_mul]; omega
theorem gcN_filter (a : Abs) (ts : Int) (q : ByteArray → Bool) : ∀ ks : List ByteArray, (∀ k ∈ ks, q k = false → a.v k = []) → gcN a ts (ks.filter q) = gcN a ts ks
  | [], _ => rfl
  | k :: ks, h => by
    have ih := gcN_filter a ts q ks fun x hx => h x (by simp [hx])
    have e : gcN a ts (k :: ks) = ((a.v k).length - gcPos (a.v k) ts) + gcN a ts ks := rfl
    rw [e]
    cases hq : q k with
    | true =>
      rw [List.filter_cons_of_pos hq]
      have e2 : gcN a ts (k :: ks.filter q) = ((a.v k).length - gcPos (a.v k) ts) + gcN a ts (ks.filter q) := rfl
      rw [e2, ih]
    | false =>
      rw [List.filter_cons_of_neg (by simp [hq]), ih, h k (by simp) hq]; simp

/-- A step of the reference's inner loop. -/
def keepS (ts : Int) (s : List Ver × Nat × Bool) (v : Ver) : List Ver × Nat × Bool :=
  if decide (ts < v.ts) || (!s.2.2 && !v.dead) then (s.1 ++ [v], s.2.1, s.2.2 || decide (v.ts ≤ ts)) else (s.1, s.2.1 + 1, s.2.2 || decide (v.ts ≤ ts))
abbrev keepL (ts : Int) (vs : List Ver) : List Ver × Nat × Bool := vs.foldl (keepS ts) ([], 0, false)
theorem keepL_snoc (ts : Int) (vs : List Ver) (v : Ver) : keepL ts (vs ++ [v]) = keepS ts (keepL ts vs) v := by
  unfold keepL; rw [List.foldl_append]; rfl
theorem keepL_len (ts : Int) (vs : List Ver) (s : List Ver × Nat × Bool) : (vs.foldl (keepS ts) s).1.length + (vs.foldl (keepS ts) s).2.1 = s.1.length + s.2.1 + vs.length := by
  induction vs generalizing s with
  | nil => simp
  | cons v vs ih =>
    rw [List.foldl_cons, ih]
    unfold keepS
    split <;> simp <;> omega
theorem keep_high (ts : Int) : ∀ (vs : List Ver) (l : List Ver) (n : Nat), (∀ v ∈ vs, ts < v.ts) → vs.foldl (keepS ts) (l, n, false) = (l ++ vs, n, false)
  | [], l, n, _ => by simp
  | v :: vs, l, n, h => by
    have h1 := h v (by simp)
    rw [List.foldl_cons]
    have : keepS ts (l, n, false) v = (l ++ [v], n, false) := by
      unfold keepS
      simp only [h1, decide_true, Bool.true_or, if_true, Bool.false_or]
      rw [decide_eq_false (by omega)]
    rw [this, keep_high ts vs _ n fun x hx => h x (by simp [hx])]
    simp
theorem keep_low (ts : Int) : ∀ (vs : List Ver) (l : List Ver) (n : Nat), (∀ v ∈ vs, v.ts ≤ ts) → vs.foldl (keepS ts) (l, n, true) = (l, n + vs.length, true)
  | [], l, n, _ => by simp
  | v :: vs, l, n, h => by
    have h1 := h v (by simp)
    rw [List.foldl_cons]
    have : keepS ts (l, n, true) v = (l, n + 1, true) := by
      unfold keepS
      rw [decide_eq_false (show ¬ ts < v.ts by omega)]
      simp
    rw [this, keep_low ts vs _ (n + 1) fun x hx => h x (by simp [hx])]
    simp only [List.length_cons]
    congr 2; omega
theorem keepL_gc {vs : List Ver} (hs : Sd vs) (ts : Int) : (keepL ts vs).1 = gcV vs ts ∧ (keepL ts vs).2.1 = vs.length - gcPos vs ts := by
  have hsplit : vs = vs.take (posV vs ts) ++ vs.drop (posV vs ts) := (List.take_append_drop _ _).symm
  have hT : ∀ v ∈ vs.take (posV vs ts), ts < v.ts := fun v hv => pos_lo hv
  have hp := pos_le vs ts
  have e0 : keepL ts vs = (vs.drop (posV vs ts)).foldl (keepS ts) (vs.take (posV vs ts), 0, false) := by
    conv => lhs; rw [hsplit]
    unfold keepL
    rw [List.foldl_append, keep_high ts _ [] 0 hT, List.nil_append]
  rw [e0]
  unfold gcV gcPos
  cases hg : vs[posV vs ts]? with
  | none =>
    rw [List.drop_of_length_le (List.getElem?_eq_none_iff.1 hg)]
    have := List.getElem?_eq_none_iff.1 hg
    simp only [List.foldl_nil, Nat.add_zero]
    exact ⟨trivial, by omega⟩
  | some x =>
    obtain ⟨hlt, he⟩ := List.getElem?_eq_some_iff.1 hg
    have hd : vs.drop (posV vs ts) = x :: vs.drop (posV vs ts + 1) := by rw [List.drop_eq_getElem_cons hlt, he]
    have hx := pos_at hg
    have hD : ∀ v ∈ vs.drop (posV vs ts + 1), v.ts ≤ ts := fun v hv => pos_hi hs (by rw [hd]; exact List.mem_cons_of_mem _ hv)
    have hn : decide (ts < x.ts) = false := decide_eq_false (by omega)
    have hy : decide (x.ts ≤ ts) = true := decide_eq_true hx
    rw [hd, List.foldl_cons]
    cases hdd : x.dead with
    | true =>
      have : keepS ts (vs.take (posV vs ts), 0, false) x = (vs.take (posV vs ts), 1, true) := by unfold keepS; simp [hn, hy, hdd]
      rw [this, keep_low ts _ _ _ hD]
      simp only [List.length_drop, hdd, if_true, Nat.add_zero, true_and]
      omega
    | false =>
      have : keepS ts (vs.take (posV vs ts), 0, false) x = (vs.take (posV vs ts) ++ [x], 0, true) := by unfold keepS; simp [hn, hy, hdd]
      rw [this, keep_low ts _ _ _ hD]
      simp only [List.length_drop, hdd, Bool.false_eq_true, if_false]
      refine ⟨?_, by omega⟩
      rw [List.take_add_one, hg]; rfl
end Go.Proofs.Ytpandioolpnihaa

namespace Go.Proofs.Ytpandioolpnihaa
open Go Go.Wk
set_option linter.unusedVariables false
set_option linter.unusedSimpArgs false

theorem RRep.setV {w0 Wp : World} {F : Nat → Prop} {R : List RE} {a : Abs} (h : RRep w0 F Wp R a) {i : Nat} {e : RE} (hi : R[i]? = some e) {v : Value} {vs : List Ver} (hu : SlR tVer 72 (Dz w0 F) Wp v vs) :
    RRep w0 F Wp (R.set i ⟨e.vk, v, e.iv, e.ik, ⟨e.c.key, vs, e.c.intent⟩⟩) (a.setV e.k vs) := by
  have hem := List.mem_of_getElem? hi
  have hg2 := h.good e hem
  obtain ⟨_, _, _, eq0, hq1, -, hq2⟩ := cl_cells.1 hg2
  injection eq0 with eq1 eq0; injection eq0 with _ eq2
  subst eq1 eq2
  exact h.rep hi ⟨e.vk, v, e.iv, e.ik, ⟨e.c.key, vs, e.c.intent⟩⟩ rfl (cl_cells.2 ⟨_, _, _, rfl, hq1, hu, hq2⟩) (a.setV e.k vs) (if_pos rfl) (h.va e hem).2 fun k hk => ⟨if_neg hk, rfl⟩

end Go.Proofs.Ytpandioolpnihaa

namespace Go.Proofs.Ytpandioolpnihaa
open Go Go.Wk
set_option linter.unusedVariables false
set_option linter.unusedSimpArgs false

def upTo (vs : List Ver) (ts : Int) : List Ver := vs.filter fun v => decide (v.ts ≤ ts)
def cellOf (a : Abs) (ts : Int) (k : ByteArray) : Cl := ⟨unkb k, upTo (a.v k) ts, a.i k⟩
def shown (a : Abs) (lo hi : Key) (ts : Int) (k : ByteArray) : Prop := withinB (unkb k) lo hi = true ∧ (upTo (a.v k) ts ≠ [] ∨ (a.i k).txn ≠ 0)
structure ScanOf (a : Abs) (lo hi : Key) (ts : Int) (ks : List ByteArray) : Prop where
  rise : ks.Pairwise bLt
  mem : ∀ k, k ∈ ks ↔ shown a lo hi ts k
theorem upTo_snoc (vs : List Ver) (v : Ver) (ts : Int) : upTo (vs ++ [v]) ts = upTo vs ts ++ (if v.ts ≤ ts then [v] else []) := by
  unfold upTo
  rw [List.filter_append]
  by_cases h : v.ts ≤ ts <;> simp [h]
abbrev reCl (ts : Int) (e : RE) : Cl := ⟨e.c.key, upTo e.c.vers ts, e.c.intent⟩
end Go.Proofs.Ytpandioolpnihaa

namespace Go.Proofs.Ytpandioolpnihaa
open Go Go.Wk
set_option linter.unusedVariables false
set_option linter.unusedSimpArgs false

abbrev sAt (b : Nat) (q v : Value) (R : List RE) (F : Nat → Prop) (Wp w0 : World) (L : List Atom) : List Atom :=
  own b (.cells #[q, v] 68) :: row 55 7 v R.length (R.flatMap RE.cs) :: exc F Wp :: shr (fun k => k < w0.heap.size) w0 :: L
theorem RRep.dz0s {w0 w Wp : World} {F : Nat → Prop} {b : Nat} {q v : Value} {R : List RE} {L : List Atom} (H : Holds w (sAt b q v R F Wp w0 L)) : ∀ k, Dz w0 F k → k < w.heap.size := fun k hk => hk.elim
  ((H.ok (shr (fun k => k < w0.heap.size) w0) (by simp)).2.1 k) ((H.ok (exc F Wp) (by simp)).2.1 k)

set_option maxHeartbeats 16000000 in
theorem f47s_calls {q : Value} {w0 w Wp : World} {F : Nat → Prop} {b : Nat} {v : Value} {R : List RE} {a : Abs} {L : List Atom} {vk : Value} {key : Key} (H : Holds w (sAt b q v R F Wp w0 L)) (hr : RRep w0 F Wp R a) (hk : SlR (tInt .u8) 1 (Dz w0 F) Wp vk key) (hl : R.length ≤ 40000) :
    Calls Try.prog 47 [.pointer (some ⟨b, 1, none⟩), vk].toArray w fun e w' => e = .returned (.tuple #[.int .i64 (posR R (kb key)), .bool (hasR R (kb key))]) ∧ Ext none' w w' := by
  have H0 := H
  have hk := hk.keeps (H0.dz 2 3 rfl rfl hr.base)
  obtain ⟨av, cv, rfl, hlv, hmv⟩ := H0.rowLen 1 rfl
  have H := Holds.start w
  refine calls_of_W' Try.func47 rfl Try.ntmps47 rfl ?_
  refine W_seq ?_
  refine W_region ?_
  refine OL_y (y_assign rfl) (by decide) ?_
  refine OL_y (v := .bool false) (y_assign rfl) (by decide) ?_
  refine OL_nil ?_
  refine W_seq ?_
  refine W_region ?_
  refine OL_y (y_assign rfl) (by decide) ?_
  refine OL_nil ?_
  refine W_seq ?_
  refine W_block (W_loopN (fun g f ds w' => ∃ i : Nat, g + i = R.length ∧ (∀ e ∈ R.take i, bLt e.k (kb key)) ∧ f 0 = .pointer (some ⟨b, 1, none⟩) ∧ f 1 = vk ∧ f 6 = .int .i64 (i : Int) ∧ ds = [] ∧ Holds w' [shr (fun k => k < w.heap.size) w])
      R.length ⟨0, rfl, by simp, rfl, rfl, rfl, rfl, H⟩
      ?_)
  rintro g f ds w1 ⟨i, hg, hlo, h0, h1, h6, rfl, H⟩
  refine W_seq ?_
  refine W_seq ?_
  by_cases hi : i < R.length
  · refine W_drawQ H mixed (by kernel_rfl) (by kernel_rfl) fun wd2 H => ?_
    have HS := H0.ext0 (H.ext_of 0 rfl)
    have hxi := List.getElem?_eq_getElem hi
    have hem := List.getElem_mem hi
    obtain ⟨br, cr, hvr, -, -⟩ := ownsRow_cells (HS.getRow 1 rfl) (by omega)
    have hC : Cells wd2 br (0 + i * 7) (RE.cs R[i]) := rowElAt RE.len (HS.getRow 1 rfl) (by rw [hvr]; rfl) hxi
    have hke := (hr.key hem).keeps (HS.dz 2 3 rfl rfl hr.base)
    generalize R[i] = e at *
    refine QL_y (y_move h6) (by decide) ?_
    refine QL_y (y_move h0) (by decide) ?_
    refine QL_y (y_nilCheck rfl ⟨_, rfl⟩) (by decide) ?_
    refine QL_y (y_fieldAddr ti66 rfl ti49 rfl rfl) (by decide) ?_
    refine QL_y (y_loadS (v := .slice av R.length cv) ti49 rfl rfl (Cells.unit ((H0.ext0 (H.ext_of 0 rfl)).getOwn 0 rfl) rfl)) (by decide) ?_
    refine QL_y (y_len rfl ti49 rfl) (by decide) ?_
    refine QL_y (v := .bool true) (y_lssT (by omega) rfl rfl) (by decide) ?_
    refine QL_y (v := .bool true) (y_move rfl) (by decide) ?_
    refine QL_yg rfl (by decide) rfl (y_move h0) (by decide) ?_
    refine QL_yg rfl (by decide) rfl (y_nilCheck rfl ⟨_, rfl⟩) (by decide) ?_
    refine QL_yg rfl (by decide) rfl (y_fieldAddr ti66 rfl ti49 rfl rfl) (by decide) ?_
    refine QL_yg rfl (by decide) rfl (y_loadS (v := .slice av R.length cv) ti49 rfl rfl (Cells.unit ((H0.ext0 (H.ext_of 0 rfl)).getOwn 0 rfl) rfl)) (by decide) ?_
    refine QL_yg rfl (by decide) rfl (y_move h6) (by decide) ?_
    refine QL_yg rfl (by decide) rfl (y_indexAddr ti49 ti55 hvr rfl (by omega) (by omega)) (by decide) ?_
    refine QL_yg rfl (by decide) rfl (y_fieldAddr ti55 rfl ti23 rfl rfl) (by decide) ?_
    refine QL_yg rfl (by decide) rfl (y_loadS (v := e.vk) ti23 rfl rfl (hC.take 0 rfl)) (by decide) ?_
    refine QL_yg rfl (by decide) rfl (y_toStr Try.underlying23 Try.underlying5 Try.underlying9 rfl hke) (by decide) ?_
    refine QL_yg rfl (by decide) rfl (y_move h1) (by decide) ?_
    refine QL_yg rfl (by decide) rfl (y_toStr Try.underlying23 Try.underlying5 Try.underlying9 rfl (hk.keeps (H.keepsAll 0 rfl _))) (by decide) ?_
    refine QL_yg rfl (by decide) rfl (y_lssS rfl rfl) (by decide) ?_
    refine QL_y (y_pick (b := true) rfl rfl) (by decide) ?_
    refine QL_nil ?_
    refine W_cond rfl (fun hc => ?_) (fun hc => ?_)
    · refine W_skip ?_
      refine W_block ?_
      refine W_region ?_
      refine OL_y (y_move h6) (by decide) ?_
      refine OL_y (y_add64' ((i + 1 : Nat) : Int) rfl rfl (by omega) (by omega) (by omega)) (by decide) ?_
      refine OL_y (y_assign rfl) (by decide) ?_
      refine OL_nil ?_
      have hlt : bLt e.k (kb key) := of_decide_eq_true hc
      have hti : R.take (i + 1) = R.take i ++ [e] := by rw [List.take_add_one, hxi]; rfl
      exact ⟨g - 1, by omega, i + 1, by omega, by rw [hti]; intro x hx; exact (List.mem_append.1 hx).elim (hlo x) (fun h => by rw [List.mem_singleton.1 h]; exact hlt), h0, h1, rfl, rfl, H⟩
    · refine W_exit ?_
      refine W_seq ?_
      refine W_drawQ H mixed (by kernel_rfl) (by kernel_rfl) fun wd4 H => ?_
      have hnl : ¬ bLt e.k (kb key) := of_decide_eq_false hc
      have hpos : posR R (kb key) = i := posR_of (by omega) hlo fun x hx => by rw [hxi] at hx; injection hx with hx; rw [← hx]; exact hnl
      have HS4 := H0.ext0 (H.ext_of 0 rfl)
      have hC4 : Cells wd4 br (0 + i * 7) (RE.cs e) := rowElAt RE.len (HS4.getRow 1 rfl) (by rw [hvr]; rfl) hxi
      have hke4 := (hr.key hem).keeps (HS4.dz 2 3 rfl rfl hr.base)
      refine QL_y (y_move h6) (by decide) ?_
      refine QL_y (y_move h6) (by decide) ?_
      refine QL_y (y_move h0) (by decide) ?_
      refine QL_y (y_nilCheck rfl ⟨_, rfl⟩) (by decide) ?_
      refine QL_y (y_fieldAddr ti66 rfl ti49 rfl rfl) (by decide) ?_
      refine QL_y (y_loadS (v := .slice av R.length cv) ti49 rfl rfl (Cells.unit ((H0.ext0 (H.ext_of 0 rfl)).getOwn 0 rfl) rfl)) (by decide) ?_
      refine QL_y (y_len rfl ti49 rfl) (by decide) ?_
      refine QL_y (v := .bool true) (y_lssT (by omega) rfl rfl) (by decide) ?_
      refine QL_y (v := .bool true) (y_move rfl) (by decide) ?_
      refine QL_yg rfl (by decide) rfl (y_move h0) (by decide) ?_
      refine QL_yg rfl (by decide) rfl (y_nilCheck rfl ⟨_, rfl⟩) (by decide) ?_
      refine QL_yg rfl (by decide) rfl (y_fieldAddr ti66 rfl ti49 rfl rfl) (by decide) ?_
      refine QL_yg rfl (by decide) rfl (y_loadS (v := .slice av R.length cv) ti49 rfl rfl (Cells.unit ((H0.ext0 (H.ext_of 0 rfl)).getOwn 0 rfl) rfl)) (by decide) ?_
      refine QL_yg rfl (by decide) rfl (y_move h6) (by decide) ?_
      refine QL_yg rfl (by decide) rfl (y_indexAddr ti49 ti55 hvr rfl (by omega) (by omega)) (by decide) ?_
      refine QL_yg rfl (by decide) rfl (y_fieldAddr ti55 rfl ti23 rfl rfl) (by decide) ?_
      refine QL_yg rfl (by decide) rfl (y_loadS (v := e.vk) ti23 rfl rfl (hC4.take 0 rfl)) (by decide) ?_
      refine QL_yg rfl (by decide) rfl (y_toStr Try.underlying23 Try.underlying5 Try.underlying9 rfl hke4) (by decide) ?_
      refine QL_yg rfl (by decide) rfl (y_move h1) (by decide) ?_
      refine QL_yg rfl (by decide) rfl (y_toStr Try.underlying23 Try.underlying5 Try.underlying9 rfl (hk.keeps (H.keepsAll 0 rfl _))) (by decide) ?_
      refine QL_yg rfl (by decide) rfl (y_eqlS rfl rfl) (by decide) ?_
      refine QL_y (y_pick (b := true) rfl rfl) (by decide) ?_
      refine QL_y (y_assign rfl) (by decide) ?_
      refine QL_y (y_assign rfl) (by decide) ?_
      refine QL_nil ?_
      refine W_ret ?_
      show RetOK _ _ _ _ _ _
      refine ret2 (v := .int .i64 (i : Int)) (x := .bool (decide (kb e.c.key = kb key))) Try.results47 rfl rfl ⟨?_, H.ext_of 0 rfl⟩
      rw [hasR, hpos, hxi, Option.any_some]
  · refine W_drawQ H mixed (by kernel_rfl) (by kernel_rfl) fun wd2 H => ?_
    refine QL_y (y_move h6) (by decide) ?_
    refine QL_y (y_move h0) (by decide) ?_
    refine QL_y (y_nilCheck rfl ⟨_, rfl⟩) (by decide) ?_
    refine QL_y (y_fieldAddr ti66 rfl ti49 rfl rfl) (by decide) ?_
    refine QL_y (y_loadS (v := .slice av R.length cv) ti49 rfl rfl (Cells.unit ((H0.ext0 (H.ext_of 0 rfl)).getOwn 0 rfl) rfl)) (by decide) ?_
    refine QL_y (y_len rfl ti49 rfl) (by decide) ?_
    refine QL_y (v := .bool false) (y_lssF (by omega) rfl rfl) (by decide) ?_
    refine QL_y (v := .bool false) (y_move rfl) (by decide) ?_
    refine QL_s rfl (by decide) rfl rfl (by simp) ?_
    refine QL_s rfl (by decide) rfl rfl (by simp) ?_
    refine QL_s rfl (by decide) rfl rfl (by simp) ?_
    refine QL_s rfl (by decide) rfl rfl (by simp) ?_
    refine QL_s rfl (by decide) rfl rfl (by simp) ?_
    refine QL_s rfl (by decide) rfl rfl (by simp) ?_
    refine QL_s rfl (by decide) rfl rfl (by simp) ?_
    refine QL_s rfl (by decide) rfl rfl (by simp) ?_
    refine QL_s rfl (by decide) rfl rfl (by simp) ?_
    refine QL_s rfl (by decide) rfl rfl (by simp) ?_
    refine QL_s rfl (by decide) rfl rfl (by simp) ?_
    refine QL_s rfl (by decide) rfl rfl (by simp) ?_
    refine QL_y (y_pick (b := false) (v := .bool false) rfl rfl) (by decide) ?_
    refine QL_nil ?_
    refine W_condf rfl ?_
    refine W_exit ?_
    refine W_seq ?_
    refine W_drawQ H mixed (by kernel_rfl) (by kernel_rfl) fun wd4 H => ?_
    have hpos : posR R (kb key) = R.length := posR_of (Nat.le_refl _) (by rw [show i = R.length by omega] at hlo; exact hlo) fun x hx => by rw [List.getElem?_eq_none (Nat.le_refl _)] at hx; cases hx
    refine QL_y (y_move h6) (by decide) ?_
    refine QL_y (y_move h6) (by decide) ?_
    refine QL_y (y_move h0) (by decide) ?_
    refine QL_y (y_nilCheck rfl ⟨_, rfl⟩) (by decide) ?_
    refine QL_y (y_fieldAddr ti66 rfl ti49 rfl rfl) (by decide) ?_
    refine QL_y (y_loadS (v := .slice av R.length cv) ti49 rfl rfl (Cells.unit ((H0.ext0 (H.ext_of 0 rfl)).getOwn 0 rfl) rfl)) (by decide) ?_
    refine QL_y (y_len rfl ti49 rfl) (by decide) ?_
    refine QL_y (v := .bool false) (y_lssF (by omega) rfl rfl) (by decide) ?_
    refine QL_y (v := .bool false) (y_move rfl) (by decide) ?_
    refine QL_s rfl (by decide) rfl rfl (by simp) ?_
    refine QL_s rfl (by decide) rfl rfl (by simp) ?_
    refine QL_s rfl (by decide) rfl rfl (by simp) ?_
    refine QL_s rfl (by decide) rfl rfl (by simp) ?_
    refine QL_s rfl (by decide) rfl rfl (by simp) ?_
    refine QL_s rfl (by decide) rfl rfl (by simp) ?_
    refine QL_s rfl (by decide) rfl rfl (by simp) ?_
    refine QL_s rfl (by decide) rfl rfl (by simp) ?_
    refine QL_s rfl (by decide) rfl rfl (by simp) ?_
    refine QL_s rfl (by decide) rfl rfl (by simp) ?_
    refine QL_s rfl (by decide) rfl rfl (by simp) ?_
    refine QL_s rfl (by decide) rfl rfl (by simp) ?_
    refine QL_y (y_pick (b := false) (v := .bool false) rfl rfl) (by decide) ?_
    refine QL_y (y_assign rfl) (by decide) ?_
    refine QL_y (y_assign rfl) (by decide) ?_
    refine QL_nil ?_
    refine W_ret ?_
    show RetOK _ _ _ _ _ _
    have hiL : i = R.length := by omega
    refine ret2 (v := .int .i64 (i : Int)) (x := .bool false) Try.results47 rfl rfl ⟨?_, H.ext_of 0 rfl⟩
    rw [hasR, hpos, List.getElem?_eq_none (Nat.le_refl _), Option.any_none, hiL]
set_option maxHeartbeats 16000000 in
theorem f64s_calls {q : Value} {w0 w Wp : World} {F : Nat → Prop} {b : Nat} {v : Value} {R : List RE} {a : Abs} {L : List Atom} {vk : Value} {key : Key} (H : Holds w (sAt b q v R F Wp w0 L)) (hr : RRep w0 F Wp R a) (hk : SlR (tInt .u8) 1 (Dz w0 F) Wp vk key) (hl : R.length ≤ 39000) :
    Calls Try.prog 64 [.pointer (some ⟨b, 1, none⟩), vk].toArray w fun e w' => ∃ (i : Nat) (v' : Value) (R' : List RE) (F' : Nat → Prop) (Wp' : World), e = .returned (.int .i64 i) ∧ Holds w' (sAt b q v' R' F' Wp' w0 L) ∧ RRep w0 F' Wp' R' a ∧ Grow w0 F Wp F' Wp' ∧ (∃ e, R'[i]? = some e ∧ e.k = kb key) ∧ R'.length ≤ R.length + 1 := by
  refine calls_of_W' Try.func64 rfl Try.ntmps64 rfl ?_
  refine W_seq ?_
  refine W_region ?_
  refine OL_y (y_assign rfl) (by decide) ?_
  refine OL_nil ?_
  refine W_seq ?_
  refine W_region ?_
  refine OL_y (y_move rfl) (by decide) ?_
  refine OL_y (y_move rfl) (by decide) ?_
  refine OL_c (op_call 47 en47 rfl [.pointer (some ⟨b, 1, none⟩), vk] rfl (by decide) ((f47s_calls H hr hk (by omega)).mono ?_))
  rintro e w1_2 ⟨rfl, hE47⟩
  refine ⟨_, rfl, ?_⟩
  have H := H.ext0 hE47
  refine OL_y (y_move rfl) (by decide) ?_
  refine OL_y (y_extract (v := .int .i64 (posR R (kb key))) rfl rfl) (by decide) ?_
  refine OL_y (y_extract (v := .bool (hasR R (kb key))) rfl rfl) (by decide) ?_
  refine OL_y (y_assign rfl) (by decide) ?_
  refine OL_y (y_assign rfl) (by decide) ?_
  refine OL_nil ?_
  obtain ⟨av, cv, hv, hlv, hmv⟩ := H.rowLen 1 rfl
  subst hv
  refine W_seq ?_
  refine W_seq ?_
  rcases hh : hasR R (kb key) with _ | _
  · refine W_region ?_
    refine OL_y (y_move rfl) (by decide) ?_
    refine OL_y (y_not (b := false) rfl) (by decide) ?_
    refine OL_nil ?_
    refine W_condt rfl ?_
    refine W_drawD H mixed (by kernel_rfl) [22] (fun wq w' => Holds w' (sAt b q (.slice av R.length cv) R F Wp w0 L)) fun wd3 H hEd => ?_
    have hS : ∀ {ls : Array Bool}, Sx [22] (fun w' => Holds w' (sAt b q (.slice av R.length cv) R F Wp w0 L)) ls wd3 := fun {_} _ => H
    have hple := posR_le R (kb key)
    have hkd := H.dz 2 3 rfl rfl hr.base
    have hkr := hk.reach
    obtain ⟨kc, hks, hke⟩ := (hk.keeps hkd).src
    have hRl : (R.flatMap RE.cs).length = R.length * 7 := flat_len RE.len R
    have hone : ∀ u ∈ R.flatMap RE.cs, u.oneCell' = true := fun u hu => by
      obtain ⟨e, he, hu⟩ := List.mem_flatMap.1 hu
      exact tCl.one (hr.good e he) u hu
    have H0 := H
    have H := H.rowNil 5 1
    refine DA_p 0 rfl (by kernel_rfl) rfl (fun _ => y_move rfl) hS (by decide) fun hS => ?_
    refine DA_p 1 rfl (by kernel_rfl) rfl (fun _ => y_move rfl) hS (by decide) fun hS => ?_
    refine DA_p 2 rfl (by kernel_rfl) rfl (fun _ => y_nilCheck rfl ⟨_, rfl⟩) hS (by decide) fun hS => ?_
    refine DA_p 3 rfl (by kernel_rfl) rfl (fun _ => y_fieldAddr ti66 rfl ti49 rfl rfl) hS (by decide) fun hS => ?_
    refine DA_y 4 rfl (by kernel_rfl) rfl (by kernel_rfl) (fun w' h => y_loadS (v := .slice av R.length cv) ti49 rfl rfl (Cells.unit (h.getOwn 0 rfl) rfl)) hS (by decide) fun hS => ?_
    refine DA_p 5 rfl (by kernel_rfl) rfl (fun _ => y_move rfl) hS (by decide) fun hS => ?_
    refine DA_p 6 rfl (by kernel_rfl) rfl (fun _ => y_move rfl) hS (by decide) fun hS => ?_
    refine DA_p 7 rfl (by kernel_rfl) rfl (fun _ => y_sliceHM ti49 ti55 rfl rfl rfl (by omega) (by omega) (by omega)) hS (by decide) fun hS => ?_
    refine DA_p 8 rfl (by kernel_rfl) rfl (fun _ => y_move rfl) hS (by decide) fun hS => ?_
    refine DA_p 12 rfl (by kernel_rfl) rfl (fun _ => y_move rfl) hS (by decide) fun hS => ?_
    refine DA_p 13 rfl (by kernel_rfl) rfl (fun _ => y_nilCheck rfl ⟨_, rfl⟩) hS (by decide) fun hS => ?_
    refine DA_p 14 rfl (by kernel_rfl) rfl (fun _ => y_fieldAddr ti66 rfl ti49 rfl rfl) hS (by decide) fun hS => ?_
    refine DA_y 15 rfl (by kernel_rfl) rfl (by kernel_rfl) (fun w' h => y_loadS (v := .slice av R.length cv) ti49 rfl rfl (Cells.unit (h.getOwn 0 rfl) rfl)) hS (by decide) fun hS => ?_
    refine DA_p 16 rfl (by kernel_rfl) rfl (fun _ => y_move rfl) hS (by decide) fun hS => ?_
    refine DA_p 17 rfl (by kernel_rfl) rfl (fun _ => y_sliceL ti49 ti55 rfl rfl (by omega) (by omega)) hS (by decide) fun hS => ?_
    refine DA_one 9 (by kernel_rfl) rfl (op_append (news := kc) H 0 rfl rfl ti23 ti5 rfl rfl rfl rfl (hks _ ⟨Nat.le_refl _, fun _ _ _ => rfl⟩) hke.1 (fun u hu => hke.one (by decide) u hu) (by omega) (by simp only [maxLen]; omega) (by decide) fun v24 w3_9 H => ⟨fun _ => H.tail, ?_⟩)
    obtain ⟨a24, c24, rfl, hl24, hm24⟩ := H.rowLen 0 rfl
    refine DA_p (v := .agg #[.slice a24 (0 + key.length) c24, .slice none 0 0, .int .u64 0, .int .u64 0, .bool false, .slice none 0 0, .slice none 0 0]) 10 rfl (by kernel_rfl) rfl (fun _ => y_build ti55 pl55 rfl) (fun _ => H.tail) (by decide) fun _ => ?_
    have hdl : ((R.flatMap RE.cs).drop (posR R (kb key) * 7)).length = (R.length - posR R (kb key)) * 7 := by rw [List.length_drop, hRl]; omega
    have htl : ((R.flatMap RE.cs).take (posR R (kb key) * 7)).length = posR R (kb key) * 7 := by rw [List.length_take, hRl]; omega
    refine DA_one 11 (by kernel_rfl) rfl (op_buildSlice H [.agg #[.slice a24 (0 + key.length) c24, .slice none 0 0, .int .u64 0, .int .u64 0, .bool false, .slice none 0 0, .slice none 0 0]] ti49 ti55 rfl rfl rfl (by simp [Value.cells]) rfl rfl (by decide) fun b26 w3_11 H => ⟨fun _ => H.tail.tail, ?_⟩)
    refine DA_one 18 (by kernel_rfl) rfl (op_append (news := (R.flatMap RE.cs).drop (posR R (kb key) * 7)) H 0 rfl rfl ti49 ti55 rfl rfl rfl rfl (Src.dropRow (H.getRow 3 rfl) (posR R (kb key)) hple) hdl (fun u hu => hone u (List.mem_of_mem_drop hu)) (by omega) (by simp [maxLen]; omega) (by decide) fun v33 w3_18 H => ⟨fun _ => H.tail.tail, ?_⟩)
    have hnew1 : ∀ u ∈ [.slice a24 (0 + key.length) c24, .slice none 0 0, .int .u64 0, .int .u64 0, .bool false, .slice none 0 0, .slice none 0 0] ++ (R.flatMap RE.cs).drop (posR R (kb key) * 7), u.oneCell' = true := by
      intro u hu
      rcases List.mem_append.1 hu with hu | hu
      · simp only [List.mem_cons, List.not_mem_nil, or_false] at hu; rcases hu with rfl | rfl | rfl | rfl | rfl | rfl | rfl <;> rfl
      · exact hone u (List.mem_of_mem_drop hu)
    refine DA_one 19 (by kernel_rfl) rfl (op_appendNew H rfl rfl ti49 ti55 rfl rfl rfl rfl ⟨_, rfl⟩ (Src.takeRow (H.getRow 3 rfl) (posR R (kb key)) hple) htl (Src.row (H.getRow 0 rfl)) (by rw [List.length_append, hdl]; show 7 + _ = _; omega) hnew1 (by omega) (by omega) (by simp [maxLen]; omega) (by decide) fun v34 w3_19 H => ⟨fun _ => H.tail.tail.tail, ?_⟩)
    obtain ⟨a34, c34, rfl, hl34, hm34⟩ := H.rowLen 0 rfl
    refine DA_p 20 rfl (by kernel_rfl) rfl (fun _ => y_nilCheck rfl ⟨_, rfl⟩) (fun _ => H.tail.tail.tail) (by decide) fun _ => ?_
    refine DA_p 21 rfl (by kernel_rfl) rfl (fun _ => y_fieldAddr ti66 rfl ti49 rfl rfl) (fun _ => H.tail.tail.tail) (by decide) fun _ => ?_
    refine DA_one 22 (by kernel_rfl) rfl (op_store (v := .slice a34 (posR R (kb key) + (1 + (R.length - posR R (kb key)))) c34) H 3 rfl ti49 rfl rfl rfl (Nat.le_of_ble_eq_true rfl) (by simp [Value.cells, Value.oneCell']) fun w3_22 H => ⟨fun h => absurd (h 22 (by simp)) (by decide), ?_⟩)
    refine DA_done (by kernel_rfl) ?_
    refine W_seq ?_
    refine W_region ?_
    refine OL_y (y_move rfl) (by decide) ?_
    refine OL_y (y_assign rfl) (by decide) ?_
    refine OL_nil ?_
    refine W_ret ?_
    show RetOK _ _ _ _ _ _
    have hN : posR R (kb key) + (1 + (R.length - posR R (kb key))) = R.length + 1 := by omega
    have H : Holds w3_22 (row 55 7 (.slice a34 (posR R (kb key) + (1 + (R.length - posR R (kb key)))) c34) (posR R (kb key) + (1 + (R.length - posR R (kb key)))) ((R.flatMap RE.cs).take (posR R (kb key) * 7) ++ ([.slice a24 (0 + key.length) c24, .slice none 0 0, .int .u64 0, .int .u64 0, .bool false, .slice none 0 0, .slice none 0 0] ++ (R.flatMap RE.cs).drop (posR R (kb key) * 7))) :: _ :: row 5 1 (.slice a24 (0 + key.length) c24) (0 + key.length) ([] ++ kc) :: own b (.cells #[q, .slice a34 (posR R (kb key) + (1 + (R.length - posR R (kb key)))) c34] 68) :: row 55 7 (.slice av R.length cv) R.length (R.flatMap RE.cs) :: exc F Wp :: shr (fun k => k < w0.heap.size) w0 :: L) := H
    have H := H.sub (.cons_cons _ (.cons _ (.cons_cons _ (.cons_cons _ (.cons _ (.refl _))))))
    have H := H.perm (List.Perm.trans (List.Perm.swap _ _ _) (List.Perm.cons _ (List.Perm.swap _ _ _)))
    have hkS : SlR (tInt .u8) 1 (Dz w0 fun k => F k ∨ (Value.slice a24 (0 + key.length) c24).ownBlock = some k) w3_22 (.slice a24 (0 + key.length) c24) key := SlR.ofRow (H.getRow 0 rfl) (by decide) (hke.flat (tInt_flat .u8)) (fun k hk => .inr (.inr hk)) hkr
    obtain ⟨H, g1⟩ := H.poolX rfl 2 3 rfl rfl hr.base
    obtain ⟨e0, he0⟩ : ∃ e0 : RE, e0 = ⟨.slice a24 (0 + key.length) c24, .slice none 0 0, .slice none 0 0, .slice none 0 0, ⟨key, [], noV⟩⟩ := ⟨_, rfl⟩
    have hg0 : tCl.R (Dz w0 fun k => F k ∨ (Value.slice a24 (0 + key.length) c24).ownBlock = some k) w3_22 e0.cs e0.c := by rw [he0]; exact cl_cells.2 ⟨_, _, _, rfl, hkS, SlR.nil _ _ _ _, ver_cells.2 ⟨_, _, rfl, rfl, rfl, SlR.nil _ _ _ _, SlR.nil _ _ _ _⟩⟩
    have hr1 := (hr.grow g1).ins hh e0 hg0 (by rw [he0]) (by rw [he0]) (by rw [he0])
    have hfl : (R.flatMap RE.cs).take (posR R (kb key) * 7) ++ ([.slice a24 (0 + key.length) c24, .slice none 0 0, .int .u64 0, .int .u64 0, .bool false, .slice none 0 0, .slice none 0 0] ++ (R.flatMap RE.cs).drop (posR R (kb key) * 7)) = (R.take (posR R (kb key)) ++ ([e0] ++ R.drop (posR R (kb key)))).flatMap RE.cs := by
      rw [flat_take RE.len, flat_drop RE.len, List.flatMap_append, List.flatMap_append, he0]; rfl
    have hlen : (R.take (posR R (kb key)) ++ ([e0] ++ R.drop (posR R (kb key)))).length = posR R (kb key) + (1 + (R.length - posR R (kb key))) := by simp only [List.length_append, List.length_take, List.length_drop, List.length_cons, List.length_nil]; omega
    refine ret1 (v := .int .i64 (posR R (kb key))) Try.results64 rfl ⟨posR R (kb key), .slice a34 (posR R (kb key) + (1 + (R.length - posR R (kb key)))) c34, R.take (posR R (kb key)) ++ ([e0] ++ R.drop (posR R (kb key))), _, w3_22, rfl, ?_, hr1, g1, ⟨e0, ?_, by rw [he0]⟩, by rw [hlen]; omega⟩
    · show Holds w3_22 (own b _ :: row 55 7 _ (R.take (posR R (kb key)) ++ ([e0] ++ R.drop (posR R (kb key)))).length ((R.take (posR R (kb key)) ++ ([e0] ++ R.drop (posR R (kb key)))).flatMap RE.cs) :: _)
      rw [hlen, ← hfl]; exact H
    · rw [List.getElem?_append_right (by rw [List.length_take]; omega), List.length_take, Nat.min_eq_left hple, Nat.sub_self]; rfl
  · refine W_region ?_
    refine OL_y (y_move rfl) (by decide) ?_
    refine OL_y (y_not (b := true) rfl) (by decide) ?_
    refine OL_nil ?_
    refine W_condf rfl ?_
    refine W_skip ?_
    refine W_seq ?_
    refine W_region ?_
    refine OL_y (y_move rfl) (by decide) ?_
    refine OL_y (y_assign rfl) (by decide) ?_
    refine OL_nil ?_
    refine W_ret ?_
    show RetOK _ _ _ _ _ _
    refine ret1 (v := .int .i64 (posR R (kb key))) Try.results64 rfl ⟨posR R (kb key), _, R, F, Wp, rfl, H, hr, Grow.refl hr.base, ?_, by omega⟩
    unfold hasR at hh
    cases hg : R[posR R (kb key)]? with
    | none => rw [hg] at hh; cases hh
    | some e => rw [hg] at hh; exact ⟨e, rfl, by simpa using hh⟩
set_option maxHeartbeats 16000000 in
theorem f36s_calls {q : Value} {w0 w Wp : World} {F : Nat → Prop} {b m : Nat} {v : Value} {R : List RE} {a : Abs} {L : List Atom} {vk : Value} {key : Key} {cs : List Value} {u : Ver} (H : Holds w (sAt b q v R F Wp w0 L)) (hr : RRep w0 F Wp R a) (hk : SlR (tInt .u8) 1 (Dz w0 F) Wp vk key) (hu : tVer.R (Dz w0 F) Wp cs u) (ha : a.Ok m) (hm : m ≤ 40000) (hl : R.length ≤ 39000) :
    Calls Try.prog 36 [.pointer (some ⟨b, 1, none⟩), vk, .agg cs.toArray].toArray w fun e w' => e = .returned (.tuple #[]) ∧ ∃ (v' : Value) (R' : List RE) (F' : Nat → Prop) (Wp' : World), Holds w' (sAt b q v' R' F' Wp' w0 L) ∧ RRep w0 F' Wp' R' (a.put (kb key) u) ∧ Grow w0 F Wp F' Wp' ∧ R'.length ≤ R.length + 1 := by
  obtain ⟨vv, vt, rfl, hi1, hi2, hv3, hv4⟩ := ver_cells.1 hu
  refine calls_of_W' Try.func36 rfl Try.ntmps36 rfl ?_
  refine W_seq ?_
  refine W_region ?_
  refine OL_c (op_box (v := .agg #[.int .u64 u.ts, .int .u64 u.txn, .bool u.dead, vv, vt]) H rfl (by decide) fun b5 w0_0 H => ?_)
  have H : Holds w0_0 (sAt b q v R F Wp w0 (own b5 (.cells #[.int .u64 u.ts, .int .u64 u.txn, .bool u.dead, vv, vt] 32) :: L)) := H.perm ((List.perm_middle (l₁ := [_, _, _, _])).symm)
  refine OL_nil ?_
  refine W_seq ?_
  refine W_region ?_
  refine OL_y (y_move rfl) (by decide) ?_
  refine OL_y (y_move rfl) (by decide) ?_
  refine OL_c (op_call 64 en64 rfl [.pointer (some ⟨b, 1, none⟩), vk] rfl (by decide) ((f64s_calls H hr hk hl).mono ?_))
  rintro e w1_2 ⟨i, v1, R1, F1, W1, rfl, H, hr1, g1, ⟨e, hie, hek⟩, hl1⟩
  refine ⟨_, rfl, ?_⟩
  refine OL_y (y_assign rfl) (by decide) ?_
  refine OL_nil ?_
  refine W_seq ?_
  refine W_region ?_
  refine OL_y (y_assign rfl) (by decide) ?_
  refine OL_nil ?_
  refine W_seq ?_
  refine W_region ?_
  refine OL_y (v := .bool false) (y_assign rfl) (by decide) ?_
  refine OL_nil ?_
  refine W_seq ?_
  refine W_seq ?_
  obtain ⟨hilt, hie'⟩ := List.getElem?_eq_some_iff.1 hie
  have hem := List.mem_of_getElem? hie
  obtain ⟨av, cv, rfl, hlv, hmv⟩ := H.rowLen 1 rfl
  obtain ⟨br, cr, hvr, -, -⟩ := ownsRow_cells (H.getRow 1 rfl) (by omega)
  have hC := rowElAt RE.len (H.getRow 1 rfl) (b := br) (by rw [hvr]; rfl) hie
  have hSv := hr1.vers hem
  have hvv := (hr1.va e hem).1
  rw [hek] at hvv
  obtain ⟨hsd, hvm⟩ := ha (kb key)
  rw [hvv] at hsd hvm
  obtain ⟨sa, cs1, hvs, hls, hms⟩ := hSv.len
  rw [hvs] at hSv
  have hu1 := g1.R hu
  refine W_region ?_
  refine OL_y (y_move rfl) (by decide) ?_
  refine OL_y (y_nilCheck rfl ⟨_, rfl⟩) (by decide) ?_
  refine OL_y (y_fieldAddr ti66 rfl ti49 rfl rfl) (by decide) ?_
  refine OL_y (y_loadS (v := .slice av R1.length cv) ti49 rfl rfl (Cells.unit (H.getOwn 0 rfl) rfl)) (by decide) ?_
  refine OL_y (y_move rfl) (by decide) ?_
  refine OL_y (y_indexAddr ti49 ti55 hvr rfl (by omega) (by omega)) (by decide) ?_
  refine OL_y (y_fieldAddr ti55 rfl ti53 rfl rfl) (by decide) ?_
  refine OL_y (y_loadS (v := .slice sa e.c.vers.length cs1) ti53 rfl rfl (hvs ▸ hC.take 1 rfl)) (by decide) ?_
  refine OL_y (y_len rfl ti53 rfl) (by decide) ?_
  refine OL_y (y_move rfl) (by decide) ?_
  refine OL_nil ?_
  have H := H.rowNil 32 5
  refine W_range (N := e.c.vers.length) (by simp [maxLen]; omega) (fun k f ds w' => ∃ (v7 : Value) (cs7 : List Value), f 0 = .pointer (some ⟨b, 1, none⟩) ∧ f 5 = .pointer (some ⟨b5, 0, none⟩) ∧ f 6 = .int .i64 (i : Nat) ∧ f 7 = v7 ∧ f 8 = .bool (putL u false (e.c.vers.take k)).2 ∧ f 21 = .slice sa e.c.vers.length cs1 ∧ ds = [] ∧ Els tVer (Dz w0 F1) W1 cs7 (putL u false (e.c.vers.take k)).1 ∧
      Holds w' (row 32 5 v7 (putL u false (e.c.vers.take k)).1.length cs7 :: sAt b q (.slice av R1.length cv) R1 F1 W1 w0 (own b5 (.cells #[.int .u64 u.ts, .int .u64 u.txn, .bool u.dead, vv, vt] 32) :: L)))
      ⟨.slice none 0 0, [], rfl, rfl, rfl, rfl, rfl, rfl, rfl, Els.nil _ _ _, H⟩
      rfl rfl (by decide) (by decide) (by decide) rfl rfl ?_ rfl rfl ?_
  · rintro k f ds w3 hk3 ⟨v7, cs7, h0, h5, h6, h7, h8, h21, rfl, hE, H⟩ hti htn
    have hxk := List.getElem?_eq_getElem hk3
    obtain ⟨b3, o3, cs3, e3, hz3, hc3, hr3⟩ := hSv.at hxk
    have hc3' := hc3.ext ((H.dz 3 4 rfl rfl hr1.base).2 _ hz3 hc3.lt)
    have htk : putL u false (e.c.vers.take (k + 1)) = putL u false (e.c.vers.take k ++ [e.c.vers[k]]) := by rw [List.take_add_one, hxk]; rfl
    rw [putL_snoc] at htk
    have hpl := putL_len u false (e.c.vers.take k)
    rw [List.length_take] at hpl
    generalize e.c.vers[k] = x at *
    generalize putL u false (e.c.vers.take k) = p at *
    obtain ⟨pl, pd⟩ := p
    simp only at h8 hE H htk hpl
    obtain ⟨xv, xk, rfl, hx1, hx2, hx3, hx4⟩ := ver_cells.1 hr3
    have h21' := h21.trans (congrArg (Value.slice · _ _) e3)
    refine W_block ?_
    refine W_seq ?_
    refine W_region ?_
    refine OL_y (y_indexAddr ti53 ti32 h21' hti (by omega) (by omega)) (by decide) ?_
    refine OL_y (y_loadA (cs := [.int .u64 x.ts, .int .u64 x.txn, .bool x.dead, xv, xk]) ti32 rfl rfl hc3' rfl) (by decide) ?_
    refine OL_var (v := .agg #[.int .u64 x.ts, .int .u64 x.txn, .bool x.dead, xv, xk]) H ti32 rfl (by decide) (fun _ => rfl) rfl (tVer.one hr3) fun b10 w6_2 H => ?_
    refine OL_nil ?_
    refine W_seq ?_
    refine W_seq ?_
    rcases pd with _ | _
    · refine W_region ?_
      refine OL_y (v := .bool false) (y_move h8) (by decide) ?_
      refine OL_y (v := .bool true) (y_not (b := false) rfl) (by decide) ?_
      refine OL_y (v := .bool true) (y_move rfl) (by decide) ?_
      refine OL_yg rfl (by decide) rfl (y_fieldAddr ti32 rfl ti24 rfl rfl) (by decide) ?_
      refine OL_yg rfl (by decide) rfl (y_loadS (v := .int .u64 x.ts) ti24 rfl rfl (Cells.unit (H.getOwn 0 rfl) rfl)) (by decide) ?_
      refine OL_yg rfl (by decide) rfl (y_fieldAddr ti32 rfl ti24 rfl h5) (by decide) ?_
      refine OL_yg rfl (by decide) rfl (y_loadS (v := .int .u64 u.ts) ti24 rfl rfl (Cells.unit (H.getOwn 6 rfl) rfl)) (by decide) ?_
      refine OL_yg rfl (by decide) rfl (y_leq rfl rfl) (by decide) ?_
      refine OL_y (y_pick (b := true) rfl rfl) (by decide) ?_
      refine OL_nil ?_
      refine W_cond rfl (fun hc => ?_) (fun hc => ?_)
      · have hle := of_decide_eq_true hc
        refine W_seq ?_
        refine W_region ?_
        refine OL_y (y_move h7) (by decide) ?_
        refine OL_y (y_loadA (cs := [.int .u64 u.ts, .int .u64 u.txn, .bool u.dead, vv, vt]) ti32 rfl h5 (Cells.of (H.getOwn 6 rfl) rfl) rfl) (by decide) ?_
        refine OL_c (op_buildSlice H [.agg #[.int .u64 u.ts, .int .u64 u.txn, .bool u.dead, vv, vt]] ti53 ti32 rfl rfl rfl (by simp [Value.cells]) rfl rfl (by decide) fun b38 w8_2 H => ?_)
        refine OL_c (op_append H 2 rfl rfl ti53 ti32 rfl rfl rfl rfl (Src.row (H.getRow 0 rfl)) rfl (by intro c hc; exact tVer.one hu1 c (by simpa [Value.cells] using hc)) (by omega) (by simp [maxLen]; omega) (by decide) fun v39 w8_3 H => ?_)
        have H := H.tail
        refine OL_y (y_assign rfl) (by decide) ?_
        refine OL_nil ?_
        refine W_region ?_
        refine OL_y (v := .bool true) (y_assign rfl) (by decide) ?_
        refine OL_nil ?_
        refine W_seq ?_
        refine W_region ?_
        refine OL_y (y_fieldAddr ti32 rfl ti24 rfl rfl) (by decide) ?_
        refine OL_y (y_loadS (v := .int .u64 x.ts) ti24 rfl rfl (Cells.unit (H.getOwn 0 rfl) rfl)) (by decide) ?_
        refine OL_y (y_fieldAddr ti32 rfl ti24 rfl h5) (by decide) ?_
        refine OL_y (y_loadS (v := .int .u64 u.ts) ti24 rfl rfl (Cells.unit (H.getOwn 6 rfl) rfl)) (by decide) ?_
        refine OL_y (y_neq rfl rfl) (by decide) ?_
        refine OL_nil ?_
        refine W_cond rfl (fun hc => ?_) (fun hc => ?_)
        · refine W_region ?_
          refine OL_y (y_move rfl) (by decide) ?_
          refine OL_y (y_loadA (cs := [.int .u64 x.ts, .int .u64 x.txn, .bool x.dead, xv, xk]) ti32 rfl rfl (Cells.of (H.getOwn 0 rfl) rfl) rfl) (by decide) ?_
          refine OL_c (op_buildSlice H [.agg #[.int .u64 x.ts, .int .u64 x.txn, .bool x.dead, xv, xk]] ti53 ti32 rfl rfl rfl (by simp [Value.cells]) rfl rfl (by decide) fun b47 w11_2 H => ?_)
          refine OL_c (op_append H 2 rfl rfl ti53 ti32 rfl rfl rfl rfl (Src.row (H.getRow 0 rfl)) rfl (by intro c hc; exact tVer.one hr3 c (by simpa [Value.cells] using hc)) (by omega) (by simp [maxLen]; omega) (by decide) fun v48 w11_3 H => ?_)
          refine OL_y (y_assign rfl) (by decide) ?_
          refine OL_nil ?_
          have hne := of_decide_eq_true hc
          refine ⟨hti, htn, ?_⟩
          have e2 : putL u false (e.c.vers.take (k + 1)) = (pl ++ [u] ++ [x], true) := by rw [htk]; simp [hle, hne]
          refine ⟨v48, _, h0, h5, h6, rfl, by rw [e2]; rfl, h21, rfl, by rw [e2]; exact (hE.snoc hu1).snoc hr3, ?_⟩
          rw [e2, List.length_append, List.length_append]; exact H.tail.tail
        · refine W_skip ?_
          have hne := of_decide_eq_false hc
          have e2 : putL u false (e.c.vers.take (k + 1)) = (pl ++ [u], true) := by rw [htk]; simp [hle, hne]
          refine ⟨hti, htn, v39, _, h0, h5, h6, rfl, by rw [e2]; rfl, h21, rfl, by rw [e2]; exact hE.snoc hu1, ?_⟩
          rw [e2, List.length_append]; exact H.tail
      · have hle := of_decide_eq_false hc
        refine W_skip ?_
        refine W_seq ?_
        refine W_region ?_
        refine OL_y (y_fieldAddr ti32 rfl ti24 rfl rfl) (by decide) ?_
        refine OL_y (y_loadS (v := .int .u64 x.ts) ti24 rfl rfl (Cells.unit (H.getOwn 0 rfl) rfl)) (by decide) ?_
        refine OL_y (y_fieldAddr ti32 rfl ti24 rfl h5) (by decide) ?_
        refine OL_y (y_loadS (v := .int .u64 u.ts) ti24 rfl rfl (Cells.unit (H.getOwn 6 rfl) rfl)) (by decide) ?_
        refine OL_y (y_neq rfl rfl) (by decide) ?_
        refine OL_nil ?_
        refine W_cond rfl (fun hc => ?_) (fun hc => ?_)
        · refine W_region ?_
          refine OL_y (y_move h7) (by decide) ?_
          refine OL_y (y_loadA (cs := [.int .u64 x.ts, .int .u64 x.txn, .bool x.dead, xv, xk]) ti32 rfl rfl (Cells.of (H.getOwn 0 rfl) rfl) rfl) (by decide) ?_
          refine OL_c (op_buildSlice H [.agg #[.int .u64 x.ts, .int .u64 x.txn, .bool x.dead, xv, xk]] ti53 ti32 rfl rfl rfl (by simp [Value.cells]) rfl rfl (by decide) fun b47 w11_2 H => ?_)
          refine OL_c (op_append H 2 rfl rfl ti53 ti32 rfl rfl rfl rfl (Src.row (H.getRow 0 rfl)) rfl (by intro c hc; exact tVer.one hr3 c (by simpa [Value.cells] using hc)) (by omega) (by simp [maxLen]; omega) (by decide) fun v48 w11_3 H => ?_)
          refine OL_y (y_assign rfl) (by decide) ?_
          refine OL_nil ?_
          have hne := of_decide_eq_true hc
          have e2 : putL u false (e.c.vers.take (k + 1)) = (pl ++ [x], false) := by rw [htk]; simp [hle, hne]
          refine ⟨hti, htn, v48, _, h0, h5, h6, rfl, by rw [e2]; exact h8, h21, rfl, by rw [e2]; exact hE.snoc hr3, ?_⟩
          rw [e2, List.length_append]; exact H.tail.tail
        · refine W_skip ?_
          have hne := of_decide_eq_false hc
          have e2 : putL u false (e.c.vers.take (k + 1)) = (pl, false) := by rw [htk]; simp [hle, hne]
          refine ⟨hti, htn, v7, _, h0, h5, h6, h7, by rw [e2]; exact h8, h21, rfl, by rw [e2]; exact hE, ?_⟩
          rw [e2]; exact H.tail
    · refine W_region ?_
      refine OL_y (v := .bool true) (y_move h8) (by decide) ?_
      refine OL_y (v := .bool false) (y_not (b := true) rfl) (by decide) ?_
      refine OL_y (v := .bool false) (y_move rfl) (by decide) ?_
      refine OL_s rfl (by decide) rfl rfl (by simp) ?_
      refine OL_s rfl (by decide) rfl rfl (by simp) ?_
      refine OL_s rfl (by decide) rfl rfl (by simp) ?_
      refine OL_s rfl (by decide) rfl rfl (by simp) ?_
      refine OL_s rfl (by decide) rfl rfl (by simp) ?_
      refine OL_y (y_pick (b := false) (v := .bool false) rfl rfl) (by decide) ?_
      refine OL_nil ?_
      refine W_condf rfl ?_
      refine W_skip ?_
      refine W_seq ?_
      refine W_region ?_
      refine OL_y (y_fieldAddr ti32 rfl ti24 rfl rfl) (by decide) ?_
      refine OL_y (y_loadS (v := .int .u64 x.ts) ti24 rfl rfl (Cells.unit (H.getOwn 0 rfl) rfl)) (by decide) ?_
      refine OL_y (y_fieldAddr ti32 rfl ti24 rfl h5) (by decide) ?_
      refine OL_y (y_loadS (v := .int .u64 u.ts) ti24 rfl rfl (Cells.unit (H.getOwn 6 rfl) rfl)) (by decide) ?_
      refine OL_y (y_neq rfl rfl) (by decide) ?_
      refine OL_nil ?_
      refine W_cond rfl (fun hc => ?_) (fun hc => ?_)
      · refine W_region ?_
        refine OL_y (y_move h7) (by decide) ?_
        refine OL_y (y_loadA (cs := [.int .u64 x.ts, .int .u64 x.txn, .bool x.dead, xv, xk]) ti32 rfl rfl (Cells.of (H.getOwn 0 rfl) rfl) rfl) (by decide) ?_
        refine OL_c (op_buildSlice H [.agg #[.int .u64 x.ts, .int .u64 x.txn, .bool x.dead, xv, xk]] ti53 ti32 rfl rfl rfl (by simp [Value.cells]) rfl rfl (by decide) fun b47 w11_2 H => ?_)
        refine OL_c (op_append H 2 rfl rfl ti53 ti32 rfl rfl rfl rfl (Src.row (H.getRow 0 rfl)) rfl (by intro c hc; exact tVer.one hr3 c (by simpa [Value.cells] using hc)) (by omega) (by simp [maxLen]; omega) (by decide) fun v48 w11_3 H => ?_)
        refine OL_y (y_assign rfl) (by decide) ?_
        refine OL_nil ?_
        have hne := of_decide_eq_true hc
        have e2 : putL u false (e.c.vers.take (k + 1)) = (pl ++ [x], true) := by rw [htk]; simp [hne]
        refine ⟨hti, htn, v48, _, h0, h5, h6, rfl, by rw [e2]; exact h8, h21, rfl, by rw [e2]; exact hE.snoc hr3, ?_⟩
        rw [e2, List.length_append]; exact H.tail.tail
      · refine W_skip ?_
        have hne := of_decide_eq_false hc
        have e2 : putL u false (e.c.vers.take (k + 1)) = (pl, true) := by rw [htk]; simp [hne]
        refine ⟨hti, htn, v7, _, h0, h5, h6, h7, by rw [e2]; exact h8, h21, rfl, by rw [e2]; exact hE, ?_⟩
        rw [e2]; exact H.tail
  · rintro f ds w3 ⟨v7, cs7, h0, h5, h6, h7, h8, h21, rfl, hE, H⟩ hti htn
    rw [List.take_length] at hE H h8
    have hpl := putL_len u false e.c.vers
    have hput := putL_putV u e.c.vers hsd
    refine W_seq ?_
    refine W_seq ?_
    rcases hd : (putL u false e.c.vers).2 with _ | _
    · rw [hd] at h8
      simp only [hd, Bool.false_eq_true, if_false] at hput
      refine W_region ?_
      refine OL_y (v := .bool false) (y_move h8) (by decide) ?_
      refine OL_y (v := .bool true) (y_not (b := false) rfl) (by decide) ?_
      refine OL_nil ?_
      refine W_cut (fun f ds w' => ∃ (v7 : Value) (cs7 : List Value), f 0 = .pointer (some ⟨b, 1, none⟩) ∧ f 6 = .int .i64 (i : Nat) ∧ f 7 = v7 ∧ ds = [] ∧ Els tVer (Dz w0 F1) W1 cs7 (putV e.c.vers u) ∧ Holds w' (row 32 5 v7 (putV e.c.vers u).length cs7 :: sAt b q (.slice av R1.length cv) R1 F1 W1 w0 (own b5 (.cells #[.int .u64 u.ts, .int .u64 u.txn, .bool u.dead, vv, vt] 32) :: L))) ?_ ?_
      · refine W_condt rfl ?_
        refine W_region ?_
        refine OL_y (y_move h7) (by decide) ?_
        refine OL_y (y_loadA (cs := [.int .u64 u.ts, .int .u64 u.txn, .bool u.dead, vv, vt]) ti32 rfl h5 (Cells.of (H.getOwn 5 rfl) rfl) rfl) (by decide) ?_
        refine OL_c (op_buildSlice H [.agg #[.int .u64 u.ts, .int .u64 u.txn, .bool u.dead, vv, vt]] ti53 ti32 rfl rfl rfl (by simp [Value.cells]) rfl rfl (by decide) fun b54 w14_2 H => ?_)
        refine OL_c (op_append H 1 rfl rfl ti53 ti32 rfl rfl rfl rfl (Src.row (H.getRow 0 rfl)) rfl (by intro c hc; exact tVer.one hu1 c (by simpa [Value.cells] using hc)) (by omega) (by simp [maxLen]; omega) (by decide) fun v55 w14_3 H => ?_)
        have H := H.tail
        refine OL_y (y_assign rfl) (by decide) ?_
        refine OL_nil ?_
        exact ⟨v55, _, h0, h6, rfl, rfl, hput ▸ hE.snoc hu1, by rw [← hput, List.length_append]; exact H⟩
      · rintro f ds w14 ⟨v7, cs7, h0, h6, h7, rfl, hE, H⟩
        obtain ⟨a7, c7, rfl, hl7, hm7⟩ := H.rowLen 0 rfl
        obtain ⟨br2, cr2, hvr2, -, -⟩ := ownsRow_cells (H.getRow 2 rfl) (by omega)
        refine W_region ?_
        refine OL_y (y_move h0) (by decide) ?_
        refine OL_y (y_nilCheck rfl ⟨_, rfl⟩) (by decide) ?_
        refine OL_y (y_fieldAddr ti66 rfl ti49 rfl rfl) (by decide) ?_
        refine OL_y (y_loadS (v := .slice av R1.length cv) ti49 rfl rfl (Cells.unit (H.getOwn 1 rfl) rfl)) (by decide) ?_
        refine OL_y (y_move h6) (by decide) ?_
        refine OL_y (y_move h7) (by decide) ?_
        refine OL_y (y_indexAddr ti49 ti55 hvr2 rfl (by omega) (by omega)) (by decide) ?_
        refine OL_y (y_fieldAddr ti55 rfl ti53 rfl rfl) (by decide) ?_
        refine OL_c (op_storeRow (o := 0 + i * 7 + 1) H 2 rfl (by rw [hvr2]; rfl) ti53 rfl rfl rfl (by rw [flat_len RE.len]; omega) rfl fun w15_8 H => ?_)
        refine OL_nil ?_
        show RetOK _ _ _ _ _ _
        obtain ⟨e', he'⟩ : ∃ e' : RE, e' = ⟨e.vk, .slice a7 (putV e.c.vers u).length c7, e.iv, e.ik, ⟨e.c.key, putV e.c.vers u, e.c.intent⟩⟩ := ⟨_, rfl⟩
        have hpv := put_len e.c.vers u
        have H : Holds w15_8 (row 32 5 (.slice a7 (putV e.c.vers u).length c7) (putV e.c.vers u).length cs7 :: own b (.cells #[q, .slice av R1.length cv] 68) :: row 55 7 (.slice av R1.length cv) R1.length ((R1.flatMap RE.cs).set (0 + i * 7 + 1) (.slice a7 (putV e.c.vers u).length c7)) :: exc F1 W1 :: shr (fun k => k < w0.heap.size) w0 :: own b5 (.cells #[.int .u64 u.ts, .int .u64 u.txn, .bool u.dead, vv, vt] 32) :: L) := H
        rw [Nat.zero_add, flat_set RE.len R1 i 1 e e' _ (by decide) hie (by rw [he']; rfl)] at H
        have hkd := H.dz 3 4 rfl rfl hr1.base
        have hS7 : SlR tVer 72 (Dz w0 fun k => F1 k ∨ (Value.slice a7 (putV e.c.vers u).length c7).ownBlock = some k) w15_8 (.slice a7 (putV e.c.vers u).length c7) (putV e.c.vers u) := SlR.ofRow (H.getRow 0 rfl) (by decide) ((hE.keeps hkd).mono fun k _ hk => hk.imp id .inl) (fun k hk => .inr (.inr hk)) (by omega)
        obtain ⟨H, g2⟩ := H.poolX rfl 2 3 rfl rfl hr1.base
        have hr2 := hr1.grow g2
        have hg2 := hr2.good e hem
        obtain ⟨_, _, _, eq0, hq1, -, hq3⟩ := cl_cells.1 hg2
        injection eq0 with eq1 eq0; injection eq0 with _ eq0
        subst eq1 eq0
        have hgood : tCl.R (Dz w0 fun k => F1 k ∨ (Value.slice a7 (putV e.c.vers u).length c7).ownBlock = some k) w15_8 e'.cs e'.c := by rw [he']; exact cl_cells.2 ⟨_, _, _, rfl, hq1, hS7, hq3⟩
        have hr3 := hr2.rep hie e' (by rw [he']) hgood (a.put (kb key) u) (by rw [he', hek]; show (if _ then _ else _) = _; rw [if_pos rfl, hvv]) (by rw [he']; exact (hr1.va e hem).2) fun k hk => ⟨if_neg (by rw [← hek]; exact hk), rfl⟩
        have H := H.perm (List.perm_middle (l₁ := [_, _, _, _]))
        refine ret0 Try.results36 ⟨rfl, .slice av R1.length cv, R1.set i e', _, w15_8, ?_, hr3, g1.trans g2, by rw [List.length_set]; exact hl1⟩
        show Holds w15_8 (own b _ :: row 55 7 _ (R1.set i e').length _ :: _)
        rw [List.length_set]; exact H.tail
    · rw [hd] at h8
      simp only [hd, if_true] at hput
      refine W_region ?_
      refine OL_y (v := .bool true) (y_move h8) (by decide) ?_
      refine OL_y (v := .bool false) (y_not (b := true) rfl) (by decide) ?_
      refine OL_nil ?_
      refine W_cut (fun f ds w' => ∃ (v7 : Value) (cs7 : List Value), f 0 = .pointer (some ⟨b, 1, none⟩) ∧ f 6 = .int .i64 (i : Nat) ∧ f 7 = v7 ∧ ds = [] ∧ Els tVer (Dz w0 F1) W1 cs7 (putV e.c.vers u) ∧ Holds w' (row 32 5 v7 (putV e.c.vers u).length cs7 :: sAt b q (.slice av R1.length cv) R1 F1 W1 w0 (own b5 (.cells #[.int .u64 u.ts, .int .u64 u.txn, .bool u.dead, vv, vt] 32) :: L))) ?_ ?_
      · refine W_condf rfl ?_
        refine W_skip ?_
        exact ⟨v7, cs7, h0, h6, h7, rfl, hput ▸ hE, hput ▸ H⟩
      · rintro f ds w14 ⟨v7, cs7, h0, h6, h7, rfl, hE, H⟩
        obtain ⟨a7, c7, rfl, hl7, hm7⟩ := H.rowLen 0 rfl
        obtain ⟨br2, cr2, hvr2, -, -⟩ := ownsRow_cells (H.getRow 2 rfl) (by omega)
        refine W_region ?_
        refine OL_y (y_move h0) (by decide) ?_
        refine OL_y (y_nilCheck rfl ⟨_, rfl⟩) (by decide) ?_
        refine OL_y (y_fieldAddr ti66 rfl ti49 rfl rfl) (by decide) ?_
        refine OL_y (y_loadS (v := .slice av R1.length cv) ti49 rfl rfl (Cells.unit (H.getOwn 1 rfl) rfl)) (by decide) ?_
        refine OL_y (y_move h6) (by decide) ?_
        refine OL_y (y_move h7) (by decide) ?_
        refine OL_y (y_indexAddr ti49 ti55 hvr2 rfl (by omega) (by omega)) (by decide) ?_
        refine OL_y (y_fieldAddr ti55 rfl ti53 rfl rfl) (by decide) ?_
        refine OL_c (op_storeRow (o := 0 + i * 7 + 1) H 2 rfl (by rw [hvr2]; rfl) ti53 rfl rfl rfl (by rw [flat_len RE.len]; omega) rfl fun w15_8 H => ?_)
        refine OL_nil ?_
        show RetOK _ _ _ _ _ _
        obtain ⟨e', he'⟩ : ∃ e' : RE, e' = ⟨e.vk, .slice a7 (putV e.c.vers u).length c7, e.iv, e.ik, ⟨e.c.key, putV e.c.vers u, e.c.intent⟩⟩ := ⟨_, rfl⟩
        have hpv := put_len e.c.vers u
        have H : Holds w15_8 (row 32 5 (.slice a7 (putV e.c.vers u).length c7) (putV e.c.vers u).length cs7 :: own b (.cells #[q, .slice av R1.length cv] 68) :: row 55 7 (.slice av R1.length cv) R1.length ((R1.flatMap RE.cs).set (0 + i * 7 + 1) (.slice a7 (putV e.c.vers u).length c7)) :: exc F1 W1 :: shr (fun k => k < w0.heap.size) w0 :: own b5 (.cells #[.int .u64 u.ts, .int .u64 u.txn, .bool u.dead, vv, vt] 32) :: L) := H
        rw [Nat.zero_add, flat_set RE.len R1 i 1 e e' _ (by decide) hie (by rw [he']; rfl)] at H
        have hkd := H.dz 3 4 rfl rfl hr1.base
        have hS7 : SlR tVer 72 (Dz w0 fun k => F1 k ∨ (Value.slice a7 (putV e.c.vers u).length c7).ownBlock = some k) w15_8 (.slice a7 (putV e.c.vers u).length c7) (putV e.c.vers u) := SlR.ofRow (H.getRow 0 rfl) (by decide) ((hE.keeps hkd).mono fun k _ hk => hk.imp id .inl) (fun k hk => .inr (.inr hk)) (by omega)
        obtain ⟨H, g2⟩ := H.poolX rfl 2 3 rfl rfl hr1.base
        have hr2 := hr1.grow g2
        have hg2 := hr2.good e hem
        obtain ⟨_, _, _, eq0, hq1, -, hq3⟩ := cl_cells.1 hg2
        injection eq0 with eq1 eq0; injection eq0 with _ eq0
        subst eq1 eq0
        have hgood : tCl.R (Dz w0 fun k => F1 k ∨ (Value.slice a7 (putV e.c.vers u).length c7).ownBlock = some k) w15_8 e'.cs e'.c := by rw [he']; exact cl_cells.2 ⟨_, _, _, rfl, hq1, hS7, hq3⟩
        have hr3 := hr2.rep hie e' (by rw [he']) hgood (a.put (kb key) u) (by rw [he', hek]; show (if _ then _ else _) = _; rw [if_pos rfl, hvv]) (by rw [he']; exact (hr1.va e hem).2) fun k hk => ⟨if_neg (by rw [← hek]; exact hk), rfl⟩
        have H := H.perm (List.perm_middle (l₁ := [_, _, _, _]))
        refine ret0 Try.results36 ⟨rfl, .slice av R1.length cv, R1.set i e', _, w15_8, ?_, hr3, g1.trans g2, by rw [List.length_set]; exact hl1⟩
        show Holds w15_8 (own b _ :: row 55 7 _ (R1.set i e').length _ :: _)
        rw [List.length_set]; exact H.tail
set_option maxHeartbeats 16000000 in
theorem f38s_calls {q : Value} {w0 w Wp : World} {F : Nat → Prop} {b : Nat} {v : Value} {R : List RE} {a : Abs} {L : List Atom} {vk : Value} {key : Key} {cs : List Value} {u : Ver} (H : Holds w (sAt b q v R F Wp w0 L)) (hr : RRep w0 F Wp R a) (hk : SlR (tInt .u8) 1 (Dz w0 F) Wp vk key) (hu : tVer.R (Dz w0 F) Wp cs u) (hl : R.length ≤ 39000) :
    Calls Try.prog 38 [.pointer (some ⟨b, 1, none⟩), vk, .agg cs.toArray].toArray w fun e w' => e = .returned (.int .i64 (if intendR a (kb key) u then 0 else 150)) ∧ ∃ (v' : Value) (R' : List RE) (F' : Nat → Prop) (Wp' : World), Holds w' (sAt b q v' R' F' Wp' w0 L) ∧ RRep w0 F' Wp' R' (a.intend (kb key) u) ∧ Grow w0 F Wp F' Wp' ∧ R'.length ≤ R.length + 1 := by
  obtain ⟨vv, vt, rfl, hi1, hi2, hv3, hv4⟩ := ver_cells.1 hu
  refine calls_of_W' Try.func38 rfl Try.ntmps38 rfl ?_
  refine W_seq ?_
  refine W_region ?_
  refine OL_c (op_box (v := .agg #[.int .u64 u.ts, .int .u64 u.txn, .bool u.dead, vv, vt]) H rfl (by decide) fun b5 w0_0 H => ?_)
  have H : Holds w0_0 (sAt b q v R F Wp w0 (own b5 (.cells #[.int .u64 u.ts, .int .u64 u.txn, .bool u.dead, vv, vt] 32) :: L)) := H.perm ((List.perm_middle (l₁ := [_, _, _, _])).symm)
  refine OL_y (y_assign rfl) (by decide) ?_
  refine OL_nil ?_
  refine W_seq ?_
  refine W_seq ?_
  by_cases hz : u.txn = 0
  · refine W_region ?_
    refine OL_y (y_fieldAddr ti32 rfl ti24 rfl rfl) (by decide) ?_
    refine OL_y (y_loadS (v := .int .u64 u.txn) ti24 rfl rfl (Cells.unit (H.getOwn 4 rfl) rfl)) (by decide) ?_
    refine OL_y (v := .bool true) (y_eqlT hz rfl rfl) (by decide) ?_
    refine OL_nil ?_
    refine W_condt rfl ?_
    refine W_seq ?_
    refine W_region ?_
    refine OL_y (y_assign rfl) (by decide) ?_
    refine OL_nil ?_
    refine W_ret ?_
    show RetOK _ _ _ _ _ _
    have hR : intendR a (kb key) u = false := by unfold intendR; simp [hz]
    refine ret1 (v := .int .i64 150) Try.results38 rfl ⟨by rw [hR]; rfl, v, R, F, Wp, H.sub (.cons_cons _ (.cons_cons _ (.cons_cons _ (.cons_cons _ (.cons _ (.refl _)))))), ?_, Grow.refl hr.base, by omega⟩
    unfold Abs.intend; rw [hR]; exact hr
  · refine W_region ?_
    refine OL_y (y_fieldAddr ti32 rfl ti24 rfl rfl) (by decide) ?_
    refine OL_y (y_loadS (v := .int .u64 u.txn) ti24 rfl rfl (Cells.unit (H.getOwn 4 rfl) rfl)) (by decide) ?_
    refine OL_y (v := .bool false) (y_eqlF hz rfl rfl) (by decide) ?_
    refine OL_nil ?_
    refine W_condf rfl ?_
    refine W_skip ?_
    refine W_seq ?_
    refine W_seq ?_
    refine W_region ?_
    refine OL_y (y_move rfl) (by decide) ?_
    refine OL_y (y_move rfl) (by decide) ?_
    refine OL_c (op_call 47 en47 rfl [.pointer (some ⟨b, 1, none⟩), vk] rfl (by decide) ((f47s_calls H hr hk (by omega)).mono ?_))
    rintro e w3_2 ⟨rfl, hE47⟩
    refine ⟨_, rfl, ?_⟩
    have H := H.ext0 hE47
    refine OL_y (y_move rfl) (by decide) ?_
    refine OL_y (y_extract (v := .int .i64 (posR R (kb key))) rfl rfl) (by decide) ?_
    refine OL_y (y_extract (v := .bool (hasR R (kb key))) rfl rfl) (by decide) ?_
    refine OL_y (y_assign rfl) (by decide) ?_
    refine OL_y (y_assign rfl) (by decide) ?_
    refine OL_nil ?_
    obtain ⟨qq, hh⟩ : ∃ qq, hasR R (kb key) = qq := ⟨_, rfl⟩
    rw [hh]
    obtain ⟨av, cv, hv, hlv, hmv⟩ := H.rowLen 1 rfl
    subst hv
    refine W_seq ?_
    rcases qq with _ | _
    · refine W_drawQ H mixed (by kernel_rfl) (by kernel_rfl) fun wd4 H => ?_
      have hy := (hr.hasnt hh).2
      refine QL_y (y_move (v := .bool false) rfl) (by decide) ?_
      refine QL_y (v := .bool false) (y_move rfl) (by decide) ?_
      refine QL_s rfl (by decide) rfl rfl (by simp) ?_
      refine QL_s rfl (by decide) rfl rfl (by simp) ?_
      refine QL_s rfl (by decide) rfl rfl (by simp) ?_
      refine QL_s rfl (by decide) rfl rfl (by simp) ?_
      refine QL_s rfl (by decide) rfl rfl (by simp) ?_
      refine QL_s rfl (by decide) rfl rfl (by simp) ?_
      refine QL_s rfl (by decide) rfl rfl (by simp) ?_
      refine QL_s rfl (by decide) rfl rfl (by simp) ?_
      refine QL_s rfl (by decide) rfl rfl (by simp) ?_
      refine QL_s rfl (by decide) rfl rfl (by simp) ?_
      refine QL_y (y_pick (b := false) (v := .bool false) rfl rfl) (by decide) ?_
      refine QL_y (v := .bool false) (y_move rfl) (by decide) ?_
      refine QL_s rfl (by decide) rfl rfl (by simp) ?_
      refine QL_s rfl (by decide) rfl rfl (by simp) ?_
      refine QL_s rfl (by decide) rfl rfl (by simp) ?_
      refine QL_s rfl (by decide) rfl rfl (by simp) ?_
      refine QL_s rfl (by decide) rfl rfl (by simp) ?_
      refine QL_s rfl (by decide) rfl rfl (by simp) ?_
      refine QL_s rfl (by decide) rfl rfl (by simp) ?_
      refine QL_s rfl (by decide) rfl rfl (by simp) ?_
      refine QL_s rfl (by decide) rfl rfl (by simp) ?_
      refine QL_s rfl (by decide) rfl rfl (by simp) ?_
      refine QL_s rfl (by decide) rfl rfl (by simp) ?_
      refine QL_s rfl (by decide) rfl rfl (by simp) ?_
      refine QL_y (y_pick (b := false) (v := .bool false) rfl rfl) (by decide) ?_
      refine QL_nil ?_
      refine W_condf rfl ?_
      refine W_skip ?_
      refine W_seq ?_
      have hR : intendR a (kb key) u = true := by unfold intendR; simp [hz, hy, noV]
      refine W_region ?_
      refine OL_y (y_move rfl) (by decide) ?_
      refine OL_y (y_move rfl) (by decide) ?_
      refine OL_c (op_call 64 en64 rfl [.pointer (some ⟨b, 1, none⟩), vk] rfl (by decide) ((f64s_calls H hr hk hl).mono ?_))
      rintro e w6_2 ⟨i, v1, R1, F1, W1, rfl, H, hr1, g1, ⟨e1, hie, hek1⟩, hl1⟩
      refine ⟨_, rfl, ?_⟩
      obtain ⟨av1, cv1, hv1, hlv1, hmv1⟩ := H.rowLen 1 rfl
      subst hv1
      have hlt1 := (List.getElem?_eq_some_iff.1 hie).1
      obtain ⟨br1, cr1, hvr1, -, -⟩ := ownsRow_cells (H.getRow 1 rfl) (by omega)
      have hu1 := g1.R hu
      refine OL_y (y_assign rfl) (by decide) ?_
      refine OL_nil ?_
      refine W_seq ?_
      refine W_drawD H mixed (by kernel_rfl) [8] (fun wq w' => Holds w' (sAt b q (.slice av1 R1.length cv1) R1 F1 W1 w0 (own b5 (.cells #[.int .u64 u.ts, .int .u64 u.txn, .bool u.dead, vv, vt] 32) :: L))) fun wd7 H hEd => ?_
      have hS : ∀ {ls : Array Bool}, Sx [8] (fun w' => Holds w' (sAt b q (.slice av1 R1.length cv1) R1 F1 W1 w0 (own b5 (.cells #[.int .u64 u.ts, .int .u64 u.txn, .bool u.dead, vv, vt] 32) :: L))) ls wd7 := fun {_} _ => H
      refine DA_p 0 rfl (by kernel_rfl) rfl (fun _ => y_move rfl) hS (by decide) fun hS => ?_
      refine DA_p 1 rfl (by kernel_rfl) rfl (fun _ => y_nilCheck rfl ⟨_, rfl⟩) hS (by decide) fun hS => ?_
      refine DA_p 2 rfl (by kernel_rfl) rfl (fun _ => y_fieldAddr ti66 rfl ti49 rfl rfl) hS (by decide) fun hS => ?_
      refine DA_y 3 rfl (by kernel_rfl) rfl (by kernel_rfl) (fun w' h => y_loadS (v := .slice av1 R1.length cv1) ti49 rfl rfl (Cells.unit (h.getOwn 0 rfl) rfl)) hS (by decide) fun hS => ?_
      refine DA_p 4 rfl (by kernel_rfl) rfl (fun _ => y_move rfl) hS (by decide) fun hS => ?_
      refine DA_y 5 rfl (by kernel_rfl) rfl (by kernel_rfl) (fun w' h => y_loadA (cs := [.int .u64 u.ts, .int .u64 u.txn, .bool u.dead, vv, vt]) ti32 rfl rfl (Cells.of (h.getOwn 4 rfl) rfl) rfl) hS (by decide) fun hS => ?_
      refine DA_p 6 rfl (by kernel_rfl) rfl (fun _ => y_indexAddr ti49 ti55 hvr1 rfl (by omega) (by omega)) hS (by decide) fun hS => ?_
      refine DA_p 7 rfl (by kernel_rfl) rfl (fun _ => y_fieldAddr ti55 rfl ti32 rfl rfl) hS (by decide) fun hS => ?_
      refine DA_one 8 (by kernel_rfl) rfl (op_storeRowA (u := .agg #[.int .u64 u.ts, .int .u64 u.txn, .bool u.dead, vv, vt]) (o := 0 + i * 7 + 2) H 1 rfl (by rw [hvr1]; rfl) ti32 rfl rfl rfl (by rw [flat_len RE.len]; omega) (tVer.one hu1) fun w7_8 H => ⟨fun h => absurd (h 8 (by simp)) (by decide), ?_⟩)
      refine DA_done (by kernel_rfl) ?_
      refine W_seq ?_
      refine W_region ?_
      refine OL_y (y_assign rfl) (by decide) ?_
      refine OL_nil ?_
      refine W_ret ?_
      show RetOK _ _ _ _ _ _
      have H : Holds w7_8 (own b (.cells #[q, .slice av1 R1.length cv1] 68) :: row 55 7 (.slice av1 R1.length cv1) R1.length ((R1.flatMap RE.cs).take (0 + i * 7 + 2) ++ [.int .u64 u.ts, .int .u64 u.txn, .bool u.dead, vv, vt] ++ (R1.flatMap RE.cs).drop (0 + i * 7 + 2 + 5)) :: exc F1 W1 :: shr (fun k => k < w0.heap.size) w0 :: own b5 (.cells #[.int .u64 u.ts, .int .u64 u.txn, .bool u.dead, vv, vt] 32) :: L) := H
      obtain ⟨e2, he2⟩ : ∃ e2 : RE, e2 = ⟨e1.vk, e1.vs, vv, vt, ⟨e1.c.key, e1.c.vers, u⟩⟩ := ⟨_, rfl⟩
      rw [Nat.zero_add, flat_int (e' := e2) hie _ rfl (by rw [he2]; rfl)] at H
      have hr2 := hr1.setI hie hu1
      rw [← he2, hek1] at hr2
      refine ret1 (v := .int .i64 0) Try.results38 rfl ⟨by rw [hR]; rfl, .slice av1 R1.length cv1, R1.set i e2, F1, W1, ?_, ?_, g1, by rw [List.length_set]; exact hl1⟩
      · show Holds w7_8 (own b _ :: row 55 7 _ (R1.set i e2).length _ :: _)
        rw [List.length_set]; exact H.sub (.cons_cons _ (.cons_cons _ (.cons_cons _ (.cons_cons _ (.cons _ (.refl _))))))
      · unfold Abs.intend; rw [hR]; exact hr2
    · by_cases hy : (a.i (kb key)).txn = 0
      · refine W_drawQ H mixed (by kernel_rfl) (by kernel_rfl) fun wd4 H => ?_
        obtain ⟨e, hge, hek, hem, -, hei⟩ := hr.has hh
        have hlt := (List.getElem?_eq_some_iff.1 hge).1
        obtain ⟨br, cr, hvr, -, -⟩ := ownsRow_cells (H.getRow 1 rfl) (by omega)
        have hC := rowElAt RE.len (H.getRow 1 rfl) (b := br) (by rw [hvr]; rfl) hge
        rw [hei] at hy
        refine QL_y (y_move (v := .bool true) rfl) (by decide) ?_
        refine QL_y (v := .bool true) (y_move rfl) (by decide) ?_
        refine QL_yg rfl (by decide) rfl (y_move rfl) (by decide) ?_
        refine QL_yg rfl (by decide) rfl (y_nilCheck rfl ⟨_, rfl⟩) (by decide) ?_
        refine QL_yg rfl (by decide) rfl (y_fieldAddr ti66 rfl ti49 rfl rfl) (by decide) ?_
        refine QL_yg rfl (by decide) rfl (y_loadS (v := .slice av R.length cv) ti49 rfl rfl (Cells.unit (H.getOwn 0 rfl) rfl)) (by decide) ?_
        refine QL_yg rfl (by decide) rfl (y_move rfl) (by decide) ?_
        refine QL_yg rfl (by decide) rfl (y_indexAddr ti49 ti55 hvr rfl (by omega) (by omega)) (by decide) ?_
        refine QL_yg rfl (by decide) rfl (y_fieldAddr ti55 rfl ti32 rfl rfl) (by decide) ?_
        refine QL_yg rfl (by decide) rfl (y_fieldAddr ti32 rfl ti24 rfl rfl) (by decide) ?_
        refine QL_yg rfl (by decide) rfl (y_loadS (v := .int .u64 e.c.intent.txn) ti24 rfl rfl (hC.take 3 rfl)) (by decide) ?_
        refine QL_yg (v := .bool false) rfl (by decide) rfl (y_neqF hy rfl rfl) (by decide) ?_
        refine QL_y (y_pick (b := true) (v := .bool false) rfl rfl) (by decide) ?_
        refine QL_y (v := .bool false) (y_move rfl) (by decide) ?_
        refine QL_s rfl (by decide) rfl rfl (by simp) ?_
        refine QL_s rfl (by decide) rfl rfl (by simp) ?_
        refine QL_s rfl (by decide) rfl rfl (by simp) ?_
        refine QL_s rfl (by decide) rfl rfl (by simp) ?_
        refine QL_s rfl (by decide) rfl rfl (by simp) ?_
        refine QL_s rfl (by decide) rfl rfl (by simp) ?_
        refine QL_s rfl (by decide) rfl rfl (by simp) ?_
        refine QL_s rfl (by decide) rfl rfl (by simp) ?_
        refine QL_s rfl (by decide) rfl rfl (by simp) ?_
        refine QL_s rfl (by decide) rfl rfl (by simp) ?_
        refine QL_s rfl (by decide) rfl rfl (by simp) ?_
        refine QL_s rfl (by decide) rfl rfl (by simp) ?_
        refine QL_y (y_pick (b := false) (v := .bool false) rfl rfl) (by decide) ?_
        refine QL_nil ?_
        refine W_condf rfl ?_
        refine W_skip ?_
        refine W_seq ?_
        have hR : intendR a (kb key) u = true := by unfold intendR; simp [hz, hei, hy]
        refine W_region ?_
        refine OL_y (y_move rfl) (by decide) ?_
        refine OL_y (y_move rfl) (by decide) ?_
        refine OL_c (op_call 64 en64 rfl [.pointer (some ⟨b, 1, none⟩), vk] rfl (by decide) ((f64s_calls H hr hk hl).mono ?_))
        rintro e w6_2 ⟨i, v1, R1, F1, W1, rfl, H, hr1, g1, ⟨e1, hie, hek1⟩, hl1⟩
        refine ⟨_, rfl, ?_⟩
        obtain ⟨av1, cv1, hv1, hlv1, hmv1⟩ := H.rowLen 1 rfl
        subst hv1
        have hlt1 := (List.getElem?_eq_some_iff.1 hie).1
        obtain ⟨br1, cr1, hvr1, -, -⟩ := ownsRow_cells (H.getRow 1 rfl) (by omega)
        have hu1 := g1.R hu
        refine OL_y (y_assign rfl) (by decide) ?_
        refine OL_nil ?_
        refine W_seq ?_
        refine W_drawD H mixed (by kernel_rfl) [8] (fun wq w' => Holds w' (sAt b q (.slice av1 R1.length cv1) R1 F1 W1 w0 (own b5 (.cells #[.int .u64 u.ts, .int .u64 u.txn, .bool u.dead, vv, vt] 32) :: L))) fun wd7 H hEd => ?_
        have hS : ∀ {ls : Array Bool}, Sx [8] (fun w' => Holds w' (sAt b q (.slice av1 R1.length cv1) R1 F1 W1 w0 (own b5 (.cells #[.int .u64 u.ts, .int .u64 u.txn, .bool u.dead, vv, vt] 32) :: L))) ls wd7 := fun {_} _ => H
        refine DA_p 0 rfl (by kernel_rfl) rfl (fun _ => y_move rfl) hS (by decide) fun hS => ?_
        refine DA_p 1 rfl (by kernel_rfl) rfl (fun _ => y_nilCheck rfl ⟨_, rfl⟩) hS (by decide) fun hS => ?_
        refine DA_p 2 rfl (by kernel_rfl) rfl (fun _ => y_fieldAddr ti66 rfl ti49 rfl rfl) hS (by decide) fun hS => ?_
        refine DA_y 3 rfl (by kernel_rfl) rfl (by kernel_rfl) (fun w' h => y_loadS (v := .slice av1 R1.length cv1) ti49 rfl rfl (Cells.unit (h.getOwn 0 rfl) rfl)) hS (by decide) fun hS => ?_
        refine DA_p 4 rfl (by kernel_rfl) rfl (fun _ => y_move rfl) hS (by decide) fun hS => ?_
        refine DA_y 5 rfl (by kernel_rfl) rfl (by kernel_rfl) (fun w' h => y_loadA (cs := [.int .u64 u.ts, .int .u64 u.txn, .bool u.dead, vv, vt]) ti32 rfl rfl (Cells.of (h.getOwn 4 rfl) rfl) rfl) hS (by decide) fun hS => ?_
        refine DA_p 6 rfl (by kernel_rfl) rfl (fun _ => y_indexAddr ti49 ti55 hvr1 rfl (by omega) (by omega)) hS (by decide) fun hS => ?_
        refine DA_p 7 rfl (by kernel_rfl) rfl (fun _ => y_fieldAddr ti55 rfl ti32 rfl rfl) hS (by decide) fun hS => ?_
        refine DA_one 8 (by kernel_rfl) rfl (op_storeRowA (u := .agg #[.int .u64 u.ts, .int .u64 u.txn, .bool u.dead, vv, vt]) (o := 0 + i * 7 + 2) H 1 rfl (by rw [hvr1]; rfl) ti32 rfl rfl rfl (by rw [flat_len RE.len]; omega) (tVer.one hu1) fun w7_8 H => ⟨fun h => absurd (h 8 (by simp)) (by decide), ?_⟩)
        refine DA_done (by kernel_rfl) ?_
        refine W_seq ?_
        refine W_region ?_
        refine OL_y (y_assign rfl) (by decide) ?_
        refine OL_nil ?_
        refine W_ret ?_
        show RetOK _ _ _ _ _ _
        have H : Holds w7_8 (own b (.cells #[q, .slice av1 R1.length cv1] 68) :: row 55 7 (.slice av1 R1.length cv1) R1.length ((R1.flatMap RE.cs).take (0 + i * 7 + 2) ++ [.int .u64 u.ts, .int .u64 u.txn, .bool u.dead, vv, vt] ++ (R1.flatMap RE.cs).drop (0 + i * 7 + 2 + 5)) :: exc F1 W1 :: shr (fun k => k < w0.heap.size) w0 :: own b5 (.cells #[.int .u64 u.ts, .int .u64 u.txn, .bool u.dead, vv, vt] 32) :: L) := H
        obtain ⟨e2, he2⟩ : ∃ e2 : RE, e2 = ⟨e1.vk, e1.vs, vv, vt, ⟨e1.c.key, e1.c.vers, u⟩⟩ := ⟨_, rfl⟩
        rw [Nat.zero_add, flat_int (e' := e2) hie _ rfl (by rw [he2]; rfl)] at H
        have hr2 := hr1.setI hie hu1
        rw [← he2, hek1] at hr2
        refine ret1 (v := .int .i64 0) Try.results38 rfl ⟨by rw [hR]; rfl, .slice av1 R1.length cv1, R1.set i e2, F1, W1, ?_, ?_, g1, by rw [List.length_set]; exact hl1⟩
        · show Holds w7_8 (own b _ :: row 55 7 _ (R1.set i e2).length _ :: _)
          rw [List.length_set]; exact H.sub (.cons_cons _ (.cons_cons _ (.cons_cons _ (.cons_cons _ (.cons _ (.refl _))))))
        · unfold Abs.intend; rw [hR]; exact hr2
      · refine W_drawQ H mixed (by kernel_rfl) (by kernel_rfl) fun wd4 H => ?_
        obtain ⟨e, hge, hek, hem, -, hei⟩ := hr.has hh
        have hlt := (List.getElem?_eq_some_iff.1 hge).1
        obtain ⟨br, cr, hvr, -, -⟩ := ownsRow_cells (H.getRow 1 rfl) (by omega)
        have hC := rowElAt RE.len (H.getRow 1 rfl) (b := br) (by rw [hvr]; rfl) hge
        rw [hei] at hy
        refine QL_y (y_move (v := .bool true) rfl) (by decide) ?_
        refine QL_y (v := .bool true) (y_move rfl) (by decide) ?_
        refine QL_yg rfl (by decide) rfl (y_move rfl) (by decide) ?_
        refine QL_yg rfl (by decide) rfl (y_nilCheck rfl ⟨_, rfl⟩) (by decide) ?_
        refine QL_yg rfl (by decide) rfl (y_fieldAddr ti66 rfl ti49 rfl rfl) (by decide) ?_
        refine QL_yg rfl (by decide) rfl (y_loadS (v := .slice av R.length cv) ti49 rfl rfl (Cells.unit (H.getOwn 0 rfl) rfl)) (by decide) ?_
        refine QL_yg rfl (by decide) rfl (y_move rfl) (by decide) ?_
        refine QL_yg rfl (by decide) rfl (y_indexAddr ti49 ti55 hvr rfl (by omega) (by omega)) (by decide) ?_
        refine QL_yg rfl (by decide) rfl (y_fieldAddr ti55 rfl ti32 rfl rfl) (by decide) ?_
        refine QL_yg rfl (by decide) rfl (y_fieldAddr ti32 rfl ti24 rfl rfl) (by decide) ?_
        refine QL_yg rfl (by decide) rfl (y_loadS (v := .int .u64 e.c.intent.txn) ti24 rfl rfl (hC.take 3 rfl)) (by decide) ?_
        refine QL_yg (v := .bool true) rfl (by decide) rfl (y_neqT hy rfl rfl) (by decide) ?_
        refine QL_y (y_pick (b := true) (v := .bool true) rfl rfl) (by decide) ?_
        refine QL_y (v := .bool true) (y_move rfl) (by decide) ?_
        refine QL_yg rfl (by decide) rfl (y_move rfl) (by decide) ?_
        refine QL_yg rfl (by decide) rfl (y_nilCheck rfl ⟨_, rfl⟩) (by decide) ?_
        refine QL_yg rfl (by decide) rfl (y_fieldAddr ti66 rfl ti49 rfl rfl) (by decide) ?_
        refine QL_yg rfl (by decide) rfl (y_loadS (v := .slice av R.length cv) ti49 rfl rfl (Cells.unit (H.getOwn 0 rfl) rfl)) (by decide) ?_
        refine QL_yg rfl (by decide) rfl (y_move rfl) (by decide) ?_
        refine QL_yg rfl (by decide) rfl (y_indexAddr ti49 ti55 hvr rfl (by omega) (by omega)) (by decide) ?_
        refine QL_yg rfl (by decide) rfl (y_fieldAddr ti55 rfl ti32 rfl rfl) (by decide) ?_
        refine QL_yg rfl (by decide) rfl (y_fieldAddr ti32 rfl ti24 rfl rfl) (by decide) ?_
        refine QL_yg rfl (by decide) rfl (y_loadS (v := .int .u64 e.c.intent.txn) ti24 rfl rfl (hC.take 3 rfl)) (by decide) ?_
        refine QL_yg rfl (by decide) rfl (y_fieldAddr ti32 rfl ti24 rfl rfl) (by decide) ?_
        refine QL_yg rfl (by decide) rfl (y_loadS (v := .int .u64 u.txn) ti24 rfl rfl (Cells.unit (H.getOwn 4 rfl) rfl)) (by decide) ?_
        refine QL_yg rfl (by decide) rfl (y_neq rfl rfl) (by decide) ?_
        refine QL_y (y_pick (b := true) (v := .bool (decide (e.c.intent.txn ≠ u.txn))) rfl rfl) (by decide) ?_
        refine QL_nil ?_
        refine W_cond rfl (fun hc => ?_) (fun hc => ?_)
        · refine W_seq ?_
          refine W_region ?_
          refine OL_y (y_assign rfl) (by decide) ?_
          refine OL_nil ?_
          refine W_ret ?_
          show RetOK _ _ _ _ _ _
          have hne := of_decide_eq_true hc
          have hR : intendR a (kb key) u = false := by unfold intendR; simp [hz, hei, hy, hne]
          refine ret1 (v := .int .i64 150) Try.results38 rfl ⟨by rw [hR]; rfl, _, R, F, Wp, H.sub (.cons_cons _ (.cons_cons _ (.cons_cons _ (.cons_cons _ (.cons _ (.refl _)))))), ?_, Grow.refl hr.base, by omega⟩
          unfold Abs.intend; rw [hR]; exact hr
        · refine W_skip ?_
          refine W_seq ?_
          have heq := of_decide_eq_false hc
          have hR : intendR a (kb key) u = true := by unfold intendR; simp [hz, hei]; right; simpa using heq
          refine W_region ?_
          refine OL_y (y_move rfl) (by decide) ?_
          refine OL_y (y_move rfl) (by decide) ?_
          refine OL_c (op_call 64 en64 rfl [.pointer (some ⟨b, 1, none⟩), vk] rfl (by decide) ((f64s_calls H hr hk hl).mono ?_))
          rintro e w6_2 ⟨i, v1, R1, F1, W1, rfl, H, hr1, g1, ⟨e1, hie, hek1⟩, hl1⟩
          refine ⟨_, rfl, ?_⟩
          obtain ⟨av1, cv1, hv1, hlv1, hmv1⟩ := H.rowLen 1 rfl
          subst hv1
          have hlt1 := (List.getElem?_eq_some_iff.1 hie).1
          obtain ⟨br1, cr1, hvr1, -, -⟩ := ownsRow_cells (H.getRow 1 rfl) (by omega)
          have hu1 := g1.R hu
          refine OL_y (y_assign rfl) (by decide) ?_
          refine OL_nil ?_
          refine W_seq ?_
          refine W_drawD H mixed (by kernel_rfl) [8] (fun wq w' => Holds w' (sAt b q (.slice av1 R1.length cv1) R1 F1 W1 w0 (own b5 (.cells #[.int .u64 u.ts, .int .u64 u.txn, .bool u.dead, vv, vt] 32) :: L))) fun wd7 H hEd => ?_
          have hS : ∀ {ls : Array Bool}, Sx [8] (fun w' => Holds w' (sAt b q (.slice av1 R1.length cv1) R1 F1 W1 w0 (own b5 (.cells #[.int .u64 u.ts, .int .u64 u.txn, .bool u.dead, vv, vt] 32) :: L))) ls wd7 := fun {_} _ => H
          refine DA_p 0 rfl (by kernel_rfl) rfl (fun _ => y_move rfl) hS (by decide) fun hS => ?_
          refine DA_p 1 rfl (by kernel_rfl) rfl (fun _ => y_nilCheck rfl ⟨_, rfl⟩) hS (by decide) fun hS => ?_
          refine DA_p 2 rfl (by kernel_rfl) rfl (fun _ => y_fieldAddr ti66 rfl ti49 rfl rfl) hS (by decide) fun hS => ?_
          refine DA_y 3 rfl (by kernel_rfl) rfl (by kernel_rfl) (fun w' h => y_loadS (v := .slice av1 R1.length cv1) ti49 rfl rfl (Cells.unit (h.getOwn 0 rfl) rfl)) hS (by decide) fun hS => ?_
          refine DA_p 4 rfl (by kernel_rfl) rfl (fun _ => y_move rfl) hS (by decide) fun hS => ?_
          refine DA_y 5 rfl (by kernel_rfl) rfl (by kernel_rfl) (fun w' h => y_loadA (cs := [.int .u64 u.ts, .int .u64 u.txn, .bool u.dead, vv, vt]) ti32 rfl rfl (Cells.of (h.getOwn 4 rfl) rfl) rfl) hS (by decide) fun hS => ?_
          refine DA_p 6 rfl (by kernel_rfl) rfl (fun _ => y_indexAddr ti49 ti55 hvr1 rfl (by omega) (by omega)) hS (by decide) fun hS => ?_
          refine DA_p 7 rfl (by kernel_rfl) rfl (fun _ => y_fieldAddr ti55 rfl ti32 rfl rfl) hS (by decide) fun hS => ?_
          refine DA_one 8 (by kernel_rfl) rfl (op_storeRowA (u := .agg #[.int .u64 u.ts, .int .u64 u.txn, .bool u.dead, vv, vt]) (o := 0 + i * 7 + 2) H 1 rfl (by rw [hvr1]; rfl) ti32 rfl rfl rfl (by rw [flat_len RE.len]; omega) (tVer.one hu1) fun w7_8 H => ⟨fun h => absurd (h 8 (by simp)) (by decide), ?_⟩)
          refine DA_done (by kernel_rfl) ?_
          refine W_seq ?_
          refine W_region ?_
          refine OL_y (y_assign rfl) (by decide) ?_
          refine OL_nil ?_
          refine W_ret ?_
          show RetOK _ _ _ _ _ _
          have H : Holds w7_8 (own b (.cells #[q, .slice av1 R1.length cv1] 68) :: row 55 7 (.slice av1 R1.length cv1) R1.length ((R1.flatMap RE.cs).take (0 + i * 7 + 2) ++ [.int .u64 u.ts, .int .u64 u.txn, .bool u.dead, vv, vt] ++ (R1.flatMap RE.cs).drop (0 + i * 7 + 2 + 5)) :: exc F1 W1 :: shr (fun k => k < w0.heap.size) w0 :: own b5 (.cells #[.int .u64 u.ts, .int .u64 u.txn, .bool u.dead, vv, vt] 32) :: L) := H
          obtain ⟨e2, he2⟩ : ∃ e2 : RE, e2 = ⟨e1.vk, e1.vs, vv, vt, ⟨e1.c.key, e1.c.vers, u⟩⟩ := ⟨_, rfl⟩
          rw [Nat.zero_add, flat_int (e' := e2) hie _ rfl (by rw [he2]; rfl)] at H
          have hr2 := hr1.setI hie hu1
          rw [← he2, hek1] at hr2
          refine ret1 (v := .int .i64 0) Try.results38 rfl ⟨by rw [hR]; rfl, .slice av1 R1.length cv1, R1.set i e2, F1, W1, ?_, ?_, g1, by rw [List.length_set]; exact hl1⟩
          · show Holds w7_8 (own b _ :: row 55 7 _ (R1.set i e2).length _ :: _)
            rw [List.length_set]; exact H.sub (.cons_cons _ (.cons_cons _ (.cons_cons _ (.cons_cons _ (.cons _ (.refl _))))))
          · unfold Abs.intend; rw [hR]; exact hr2
set_option maxHeartbeats 16000000 in
theorem f18s_calls {q : Value} {w0 w Wp : World} {F : Nat → Prop} {b : Nat} {v : Value} {R : List RE} {a : Abs} {L : List Atom} {txn : Int} (H : Holds w (sAt b q v R F Wp w0 L)) (hr : RRep w0 F Wp R a) (hl : R.length ≤ 40000) :
    Calls Try.prog 18 [.pointer (some ⟨b, 1, none⟩), .int .u64 txn].toArray w fun e w' => ∃ (v : Value) (ks : List ByteArray), e = .returned v ∧ IntentsOf a txn ks ∧ SlR tKey 24 (fun k => Dz w0 F k ∨ w.heap.size ≤ k) w' v (ks.map unkb) ∧ Ext none' w w' := by
  have H0 := H
  have hq : ∀ e ∈ R, ∀ x ∈ e.c.key, InK .u8 x := fun e he => (hr.key he).allIn
  obtain ⟨av, cv, hv, hlv, hmv⟩ := H0.rowLen 1 rfl
  subst hv
  have H := Holds.start w
  refine calls_of_W' Try.func18 rfl Try.ntmps18 rfl ?_
  refine W_seq ?_
  refine W_region ?_
  refine OL_y (y_assign rfl) (by decide) ?_
  refine OL_nil ?_
  refine W_seq ?_
  refine W_region ?_
  refine OL_y (y_assign rfl) (by decide) ?_
  refine OL_nil ?_
  refine W_seq ?_
  refine W_seq ?_
  refine W_region ?_
  refine OL_y (y_move rfl) (by decide) ?_
  refine OL_y (y_nilCheck rfl ⟨_, rfl⟩) (by decide) ?_
  refine OL_y (y_fieldAddr ti66 rfl ti49 rfl rfl) (by decide) ?_
  refine OL_y (y_loadS (v := .slice av R.length cv) ti49 rfl rfl (Cells.unit ((H0.ext0 (H.ext_of 0 rfl)).getOwn 0 rfl) rfl)) (by decide) ?_
  refine OL_y (y_len rfl ti49 rfl) (by decide) ?_
  refine OL_y (y_move rfl) (by decide) ?_
  refine OL_nil ?_
  have H := H.rowNil 23 1
  refine W_range (N := R.length) (by simp [maxLen]; omega) (fun k f ds w' => ∃ (v5 : Value) (cs : List Value), f 1 = .int .u64 txn ∧ f 11 = .slice av R.length cv ∧ f 5 = v5 ∧ ds = [] ∧ Els tKey (Dz w0 F) Wp cs (((R.take k).filter fun e => decide (txn ≠ 0 ∧ e.c.intent.txn = txn)).map fun e => e.c.key) ∧
      Holds w' [row 23 1 v5 ((R.take k).filter fun e => decide (txn ≠ 0 ∧ e.c.intent.txn = txn)).length cs, shr (fun k => k < w.heap.size) w])
      ⟨.slice none 0 0, [], rfl, rfl, rfl, rfl, Els.nil _ _ _, H⟩
      rfl rfl (by decide) (by decide) (by decide) rfl rfl ?_ rfl rfl ?_
  · rintro k f ds w3 hk3 ⟨v5, cs, h1, h11, h5, rfl, hE, H⟩ hti htn
    have hxk := List.getElem?_eq_getElem hk3
    have hem := List.getElem_mem hk3
    have HS := H0.ext0 (H.ext_of 1 rfl)
    obtain ⟨br, cr, hvr, -, -⟩ := ownsRow_cells (HS.getRow 1 rfl) (by omega)
    have hC := rowElAt RE.len (HS.getRow 1 rfl) (b := br) (by rw [hvr]; rfl) hxk
    have htk : ((R.take (k + 1)).filter fun e => decide (txn ≠ 0 ∧ e.c.intent.txn = txn)) = ((R.take k).filter fun e => decide (txn ≠ 0 ∧ e.c.intent.txn = txn)) ++ [R[k]].filter fun e => decide (txn ≠ 0 ∧ e.c.intent.txn = txn) := by rw [List.take_add_one, hxk, Option.toList_some, List.filter_append]
    have hcl : ((R.take k).filter fun e => decide (txn ≠ 0 ∧ e.c.intent.txn = txn)).length ≤ 40000 := Nat.le_trans (List.length_filter_le _ _) (by rw [List.length_take]; omega)
    have hone := tCl.one (hr.good _ hem)
    have hkS := hr.key hem
    generalize R[k] = e at *
    obtain ⟨ak, ck, hvk, hlk, hmk⟩ := hkS.len
    rw [hvk] at hkS
    have hcs : e.cs = [.slice ak e.c.key.length ck, e.vs, .int .u64 e.c.intent.ts, .int .u64 e.c.intent.txn, .bool e.c.intent.dead, e.iv, e.ik] := by show [e.vk, _, _, _, _, _, _] = _; rw [hvk]
    rw [hcs] at hC hone
    have h11' := h11.trans hvr
    refine W_block ?_
    refine W_seq ?_
    refine W_region ?_
    refine OL_y (y_indexAddr ti49 ti55 h11' hti (by omega) (by omega)) (by decide) ?_
    refine OL_y (y_loadA (cs := [.slice ak e.c.key.length ck, e.vs, .int .u64 e.c.intent.ts, .int .u64 e.c.intent.txn, .bool e.c.intent.dead, e.iv, e.ik]) ti55 rfl rfl hC rfl) (by decide) ?_
    refine OL_var (v := .agg #[.slice ak e.c.key.length ck, e.vs, .int .u64 e.c.intent.ts, .int .u64 e.c.intent.txn, .bool e.c.intent.dead, e.iv, e.ik]) H ti55 rfl (by decide) (fun _ => rfl) rfl (hone) fun b7 w4_2 H => ?_
    refine OL_nil ?_
    refine W_seq ?_
    by_cases hz : txn = 0
    · refine W_region ?_
      refine OL_y (y_move h1) (by decide) ?_
      refine OL_y (v := .bool false) (y_neqF hz rfl rfl) (by decide) ?_
      refine OL_y (v := .bool false) (y_move rfl) (by decide) ?_
      refine OL_s rfl (by decide) rfl rfl (by simp) ?_
      refine OL_s rfl (by decide) rfl rfl (by simp) ?_
      refine OL_s rfl (by decide) rfl rfl (by simp) ?_
      refine OL_s rfl (by decide) rfl rfl (by simp) ?_
      refine OL_s rfl (by decide) rfl rfl (by simp) ?_
      refine OL_y (y_pick (b := false) (v := .bool false) rfl rfl) (by decide) ?_
      refine OL_nil ?_
      refine W_condf rfl ?_
      refine W_skip ?_
      have hn : ([e].filter fun e => decide (txn ≠ 0 ∧ e.c.intent.txn = txn)) = [] := by simp [hz]
      refine ⟨hti, htn, v5, cs, h1, h11, h5, rfl, ?_, ?_⟩
      · rw [htk, hn, List.append_nil]; exact hE
      · rw [htk, hn, List.append_nil]; exact H.tail
    · refine W_region ?_
      refine OL_y (y_move h1) (by decide) ?_
      refine OL_y (v := .bool true) (y_neqT hz rfl rfl) (by decide) ?_
      refine OL_y (v := .bool true) (y_move rfl) (by decide) ?_
      refine OL_yg rfl (by decide) rfl (y_fieldAddr ti55 rfl ti32 rfl rfl) (by decide) ?_
      refine OL_yg rfl (by decide) rfl (y_fieldAddr ti32 rfl ti24 rfl rfl) (by decide) ?_
      refine OL_yg rfl (by decide) rfl (y_loadS (v := .int .u64 e.c.intent.txn) ti24 rfl rfl (Cells.unit (H.getOwn 0 rfl) rfl)) (by decide) ?_
      refine OL_yg rfl (by decide) rfl (y_move h1) (by decide) ?_
      refine OL_yg rfl (by decide) rfl (y_eql rfl rfl) (by decide) ?_
      refine OL_y (y_pick (b := true) rfl rfl) (by decide) ?_
      refine OL_nil ?_
      refine W_cond rfl (fun hc => ?_) (fun hc => ?_)
      · refine W_region ?_
        refine OL_y (y_move h5) (by decide) ?_
        refine OL_y (y_fieldAddr ti55 rfl ti23 rfl rfl) (by decide) ?_
        refine OL_y (y_loadS (v := .slice ak e.c.key.length ck) ti23 rfl rfl (Cells.unit (H.getOwn 0 rfl) rfl)) (by decide) ?_
        refine OL_c (op_buildSlice H [.slice ak e.c.key.length ck] ti30 ti23 rfl rfl rfl (by simp [Value.cells]) rfl rfl (by decide) fun b29 w6_3 H => ?_)
        refine OL_c (op_append H 2 rfl rfl ti30 ti23 rfl rfl rfl rfl (Src.row (H.getRow 0 rfl)) rfl (by simp [Value.cells, Value.oneCell']) (by omega) (by simp only [maxLen]; omega) (by decide) fun v30 w6_4 H => ?_)
        refine OL_y (y_assign rfl) (by decide) ?_
        refine OL_nil ?_
        have heq := of_decide_eq_true hc
        have hn : ([e].filter fun e => decide (txn ≠ 0 ∧ e.c.intent.txn = txn)) = [e] := by simp [heq, hz]
        refine ⟨hti, htn, v30, cs ++ [Value.slice ak e.c.key.length ck], h1, h11, rfl, rfl, ?_, ?_⟩
        · rw [htk, hn, List.map_append]; exact hE.snoc ⟨_, rfl, hkS⟩
        · rw [htk, hn, List.length_append]; exact H.tail.tail
      · refine W_skip ?_
        have hne := of_decide_eq_false hc
        have hn : ([e].filter fun e => decide (txn ≠ 0 ∧ e.c.intent.txn = txn)) = [] := by simp [hne]
        refine ⟨hti, htn, v5, cs, h1, h11, h5, rfl, ?_, ?_⟩
        · rw [htk, hn, List.append_nil]; exact hE
        · rw [htk, hn, List.append_nil]; exact H.tail
  · rintro f ds w3 ⟨v5, cs, h1, h11, h5, rfl, hE, H⟩ hti htn
    rw [List.take_length] at hE H
    refine W_seq ?_
    refine W_region ?_
    refine OL_y (y_move h5) (by decide) ?_
    refine OL_y (y_assign rfl) (by decide) ?_
    refine OL_nil ?_
    refine W_ret ?_
    show RetOK _ _ _ _ _ _
    have hcl : (R.filter fun e => decide (txn ≠ 0 ∧ e.c.intent.txn = txn)).length ≤ 40000 := Nat.le_trans (List.length_filter_le _ _) hl
    have hun : ((R.filter fun e => decide (txn ≠ 0 ∧ e.c.intent.txn = txn)).map RE.k).map unkb = (R.filter fun e => decide (txn ≠ 0 ∧ e.c.intent.txn = txn)).map fun e => e.c.key := by
      rw [List.map_map]; apply List.map_congr_left; intro e he; exact unkb_kb (hq e (List.mem_filter.1 he).1)
    refine ret1 (v := v5) Try.results18 rfl ⟨_, (R.filter fun e => decide (txn ≠ 0 ∧ e.c.intent.txn = txn)).map RE.k, rfl, ⟨hr.rise.sublist (List.Sublist.map _ List.filter_sublist), fun k => ?_⟩, ?_, H.ext_of 1 rfl⟩
    · rw [List.mem_map]
      constructor
      · rintro ⟨e, he, rfl⟩
        obtain ⟨h1, h2⟩ := List.mem_filter.1 he
        have h3 := of_decide_eq_true h2
        rw [(hr.va e h1).2]; exact h3
      · rintro ⟨h1, h2⟩
        have hin : k ∈ R.map RE.k := Classical.byContradiction fun hn => by
          have := (hr.vn k hn).2
          rw [this] at h2; exact h1 h2.symm
        obtain ⟨e, he, rfl⟩ := List.mem_map.1 hin
        refine ⟨e, List.mem_filter.2 ⟨he, ?_⟩, rfl⟩
        rw [(hr.va e he).2] at h2
        exact decide_eq_true ⟨h1, h2⟩
    · rw [hun]
      exact SlR.ofRow (H.getRow 0 rfl) (by decide) ((hE.keeps ((H0.ext0 (H.ext_of 1 rfl)).dz 2 3 rfl rfl hr.base)).mono fun k _ h => .inl h) (fun k hk => .inr (H.fresh 0 1 rfl rfl rfl k hk)) (by rw [List.length_map]; omega)
set_option maxHeartbeats 16000000 in
theorem f41s_calls {q : Value} {w0 w Wp : World} {F : Nat → Prop} {b : Nat} {v : Value} {R : List RE} {a : Abs} {L : List Atom} {txn : Int} (H : Holds w (sAt b q v R F Wp w0 L)) (hr : RRep w0 F Wp R a) (hl : R.length ≤ 30000) (hlk : ∀ ks, IntentsOf a txn ks → ks.length ≤ 4000) :
    Calls Try.prog 41 [.pointer (some ⟨b, 1, none⟩), .int .u64 txn].toArray w fun e w' => ∃ ks : List ByteArray, e = .returned (.int .i64 ks.length) ∧ IntentsOf a txn ks ∧ ∃ (v' : Value) (R' : List RE) (F' : Nat → Prop) (Wp' : World), Holds w' (sAt b q v' R' F' Wp' w0 L) ∧ RRep w0 F' Wp' R' (a.clear ks) ∧ Grow w0 F Wp F' Wp' ∧ R'.length ≤ R.length + ks.length := by
  refine calls_of_W' Try.func41 rfl Try.ntmps41 rfl ?_
  refine W_seq ?_
  refine W_region ?_
  refine OL_y (y_assign rfl) (by decide) ?_
  refine OL_nil ?_
  refine W_seq ?_
  refine W_region ?_
  refine OL_y (y_move rfl) (by decide) ?_
  refine OL_y (y_move rfl) (by decide) ?_
  refine OL_c (op_call 18 en18 rfl [.pointer (some ⟨b, 1, none⟩), .int .u64 txn] rfl (by decide) ((f18s_calls H hr (by omega)).mono ?_))
  rintro e w1_2 ⟨v5, ks, rfl, hks, hSk, hE18⟩
  refine ⟨_, rfl, ?_⟩
  have hsz := hE18.size
  obtain ⟨H, g1⟩ := H.poolC hE18 2 3 rfl rfl hr.base
  obtain ⟨F', hF'⟩ : ∃ F' : Nat → Prop, F' = fun k => F k ∨ (w.heap.size ≤ k ∧ k < w1_2.heap.size) := ⟨_, rfl⟩
  rw [← hF'] at H g1
  have hSk' : SlR tKey 24 (Dz w0 F') w1_2 v5 (ks.map unkb) := hSk.mono fun k h1 h2 => h2.elim (fun h => h.imp id (fun h => by rw [hF']; exact .inl h)) (fun h => .inr (by rw [hF']; exact .inr ⟨h, h1⟩))
  have hkl := hlk ks hks
  obtain ⟨a5, c5, hv5, hl5, hm5⟩ := hSk'.len
  rw [List.length_map] at hv5 hl5
  subst hv5
  refine OL_y (y_assign rfl) (by decide) ?_
  refine OL_nil ?_
  refine W_seq ?_
  refine W_seq ?_
  refine W_region ?_
  refine OL_y (y_move rfl) (by decide) ?_
  refine OL_y (y_len rfl ti30 rfl) (by decide) ?_
  refine OL_y (y_move rfl) (by decide) ?_
  refine OL_nil ?_
  refine W_range (N := ks.length) (by omega) (fun j f ds w' => ∃ (vj : Value) (Rj : List RE) (Fj : Nat → Prop) (Wj : World), f 0 = .pointer (some ⟨b, 1, none⟩) ∧ f 5 = .slice a5 ks.length c5 ∧ f 12 = .slice a5 ks.length c5 ∧ ds = [] ∧ RRep w0 Fj Wj Rj (a.clear (ks.take j)) ∧ Grow w0 F Wp Fj Wj ∧ SlR tKey 24 (Dz w0 Fj) Wj (.slice a5 ks.length c5) (ks.map unkb) ∧ Rj.length ≤ R.length + j ∧ Holds w' (sAt b q vj Rj Fj Wj w0 L))
      ⟨v, R, F', w1_2, rfl, rfl, rfl, rfl, hr.grow g1, g1, hSk', by omega, H⟩
      rfl rfl (by decide) (by decide) (by decide) rfl rfl ?_ rfl rfl ?_
  · rintro j f ds w2 hj ⟨vj, Rj, Fj, Wj, h0, h5, h12, rfl, hrj, gj, hSj, hRj, H⟩ htj htm
    have hkj := List.getElem?_eq_getElem hj
    have hxj : (ks.map unkb)[j]? = some (unkb ks[j]) := by rw [List.getElem?_map, hkj]; rfl
    obtain ⟨b3, o3, cs3, e3, hz3, hc3, hr3⟩ := hSj.at hxj
    have hc3' := hc3.ext ((H.dz 2 3 rfl rfl hrj.base).2 _ hz3 hc3.lt)
    obtain ⟨vy, rfl, hvy⟩ := hr3
    have htk : ks.take (j + 1) = ks.take j ++ [ks[j]] := by rw [List.take_add_one, hkj]; rfl
    generalize ks[j] = s at *
    have hks2 : kb (unkb s) = s := kb_unkb s
    have h12' := h12.trans (congrArg (Value.slice · _ _) e3)
    refine W_block ?_
    refine W_seq ?_
    refine W_region ?_
    refine OL_y (y_indexAddr ti30 ti23 h12' htj (by omega) (by omega)) (by decide) ?_
    refine OL_y (y_loadS (v := vy) ti23 rfl rfl hc3') (by decide) ?_
    refine OL_y (y_assign rfl) (by decide) ?_
    refine OL_nil ?_
    refine W_seq ?_
    refine W_region ?_
    refine OL_y (y_move h0) (by decide) ?_
    refine OL_y (y_move rfl) (by decide) ?_
    refine OL_c (op_call 64 en64 rfl [.pointer (some ⟨b, 1, none⟩), vy] rfl (by decide) ((f64s_calls H hrj hvy (by omega)).mono ?_))
    rintro e w5_2 ⟨i, v1, R1, F1, W1, rfl, H, hr1, g2, ⟨e1, hie, hek1⟩, hl1⟩
    refine ⟨_, rfl, ?_⟩
    obtain ⟨av1, cv1, hv1, hlv1, hmv1⟩ := H.rowLen 1 rfl
    subst hv1
    have hlt1 := (List.getElem?_eq_some_iff.1 hie).1
    obtain ⟨br1, cr1, hvr1, -, -⟩ := ownsRow_cells (H.getRow 1 rfl) (by omega)
    refine OL_y (y_assign rfl) (by decide) ?_
    refine OL_nil ?_
    refine W_region ?_
    refine OL_y (y_move h0) (by decide) ?_
    refine OL_y (y_nilCheck rfl ⟨_, rfl⟩) (by decide) ?_
    refine OL_y (y_fieldAddr ti66 rfl ti49 rfl rfl) (by decide) ?_
    refine OL_y (y_loadS (v := .slice av1 R1.length cv1) ti49 rfl rfl (Cells.unit (H.getOwn 0 rfl) rfl)) (by decide) ?_
    refine OL_y (y_move rfl) (by decide) ?_
    refine OL_y (v := .agg #[.int .u64 0, .int .u64 0, .bool false, .slice none 0 0, .slice none 0 0]) (y_build ti32 pl32 rfl) (by decide) ?_
    refine OL_y (y_indexAddr ti49 ti55 hvr1 rfl (by omega) (by omega)) (by decide) ?_
    refine OL_y (y_fieldAddr ti55 rfl ti32 rfl rfl) (by decide) ?_
    refine OL_c (op_storeRowA (u := .agg #[.int .u64 0, .int .u64 0, .bool false, .slice none 0 0, .slice none 0 0]) (o := 0 + i * 7 + 2) H 1 rfl (by rw [hvr1]; rfl) ti32 rfl rfl rfl (by rw [flat_len RE.len]; omega) (by simp [Value.cells, Value.oneCell']) fun w6_8 H => ?_)
    refine OL_nil ?_
    have H : Holds w6_8 (own b (.cells #[q, .slice av1 R1.length cv1] 68) :: row 55 7 (.slice av1 R1.length cv1) R1.length ((R1.flatMap RE.cs).take (0 + i * 7 + 2) ++ [.int .u64 0, .int .u64 0, .bool false, .slice none 0 0, .slice none 0 0] ++ (R1.flatMap RE.cs).drop (0 + i * 7 + 2 + 5)) :: exc F1 W1 :: shr (fun k => k < w0.heap.size) w0 :: L) := H
    obtain ⟨e2, he2⟩ : ∃ e2 : RE, e2 = ⟨e1.vk, e1.vs, .slice none 0 0, .slice none 0 0, ⟨e1.c.key, e1.c.vers, noV⟩⟩ := ⟨_, rfl⟩
    rw [Nat.zero_add, flat_int (e' := e2) hie _ rfl (by rw [he2]; rfl)] at H
    have hr2 := hr1.setI hie noV_cells
    rw [← he2, hek1, hks2] at hr2
    refine ⟨htj, htm, .slice av1 R1.length cv1, R1.set i e2, F1, W1, h0, h5, h12, rfl, by rw [htk, ← clear_snoc]; exact hr2, gj.trans g2, g2.slr hSj, by rw [List.length_set]; omega, ?_⟩
    show Holds w6_8 (own b _ :: row 55 7 _ (R1.set i e2).length _ :: _)
    rw [List.length_set]; exact H
  · rintro f ds w2 ⟨vj, Rj, Fj, Wj, h0, h5, h12, rfl, hrj, gj, hSj, hRj, H⟩ htj htm
    rw [List.take_length] at hrj
    refine W_seq ?_
    refine W_region ?_
    refine OL_y (y_move h5) (by decide) ?_
    refine OL_y (y_len rfl ti30 rfl) (by decide) ?_
    refine OL_y (y_assign rfl) (by decide) ?_
    refine OL_nil ?_
    refine W_ret ?_
    show RetOK _ _ _ _ _ _
    exact ret1 (v := .int .i64 ks.length) Try.results41 rfl ⟨ks, rfl, hks, vj, Rj, Fj, Wj, H, hrj, gj, hRj⟩
set_option maxHeartbeats 16000000 in
theorem f39s_calls {q : Value} {w0 w Wp : World} {F : Nat → Prop} {b m : Nat} {v : Value} {R : List RE} {a : Abs} {L : List Atom} {txn ts : Int} (H : Holds w (sAt b q v R F Wp w0 L)) (hr : RRep w0 F Wp R a) (hl : R.length ≤ 30000) (hlk : ∀ ks, IntentsOf a txn ks → ks.length ≤ 4000) (ha : a.Ok m) (hm : m ≤ 10000) (hts : InK .u64 ts) :
    Calls Try.prog 39 [.pointer (some ⟨b, 1, none⟩), .int .u64 txn, .int .u64 ts].toArray w fun e w' => ∃ ks : List ByteArray, e = .returned (.int .i64 ks.length) ∧ IntentsOf a txn ks ∧ ∃ (v' : Value) (R' : List RE) (F' : Nat → Prop) (Wp' : World), Holds w' (sAt b q v' R' F' Wp' w0 L) ∧ RRep w0 F' Wp' R' (ks.foldl (Abs.turn1 ts) a) ∧ Grow w0 F Wp F' Wp' ∧ R'.length ≤ R.length + 2 * ks.length := by
  refine calls_of_W' Try.func39 rfl Try.ntmps39 rfl ?_
  refine W_seq ?_
  refine W_region ?_
  refine OL_y (y_assign rfl) (by decide) ?_
  refine OL_nil ?_
  refine W_seq ?_
  refine W_region ?_
  refine OL_y (y_move rfl) (by decide) ?_
  refine OL_y (y_move rfl) (by decide) ?_
  refine OL_c (op_call 18 en18 rfl [.pointer (some ⟨b, 1, none⟩), .int .u64 txn] rfl (by decide) ((f18s_calls H hr (by omega)).mono ?_))
  rintro e w1_2 ⟨v5, ks, rfl, hks, hSk, hE18⟩
  refine ⟨_, rfl, ?_⟩
  have hsz := hE18.size
  obtain ⟨H, g1⟩ := H.poolC hE18 2 3 rfl rfl hr.base
  obtain ⟨F', hF'⟩ : ∃ F' : Nat → Prop, F' = fun k => F k ∨ (w.heap.size ≤ k ∧ k < w1_2.heap.size) := ⟨_, rfl⟩
  rw [← hF'] at H g1
  have hSk' : SlR tKey 24 (Dz w0 F') w1_2 v5 (ks.map unkb) := hSk.mono fun k h1 h2 => h2.elim (fun h => h.imp id (fun h => by rw [hF']; exact .inl h)) (fun h => .inr (by rw [hF']; exact .inr ⟨h, h1⟩))
  have hkl := hlk ks hks
  obtain ⟨a5, c5, hv5, hl5, hm5⟩ := hSk'.len
  rw [List.length_map] at hv5 hl5
  subst hv5
  refine OL_y (y_assign rfl) (by decide) ?_
  refine OL_nil ?_
  refine W_seq ?_
  refine W_seq ?_
  refine W_region ?_
  refine OL_y (y_move rfl) (by decide) ?_
  refine OL_y (y_len rfl ti30 rfl) (by decide) ?_
  refine OL_y (y_move rfl) (by decide) ?_
  refine OL_nil ?_
  refine W_range (N := ks.length) (by omega) (fun j f ds w' => ∃ (vj : Value) (Rj : List RE) (Fj : Nat → Prop) (Wj : World), f 0 = .pointer (some ⟨b, 1, none⟩) ∧ f 2 = .int .u64 ts ∧ f 7 = .slice a5 ks.length c5 ∧ f 15 = .slice a5 ks.length c5 ∧ ds = [] ∧ RRep w0 Fj Wj Rj ((ks.take j).foldl (Abs.turn1 ts) a) ∧ ((ks.take j).foldl (Abs.turn1 ts) a).Ok (m + j) ∧ Grow w0 F Wp Fj Wj ∧ SlR tKey 24 (Dz w0 Fj) Wj (.slice a5 ks.length c5) (ks.map unkb) ∧ Rj.length ≤ R.length + 2 * j ∧ Holds w' (sAt b q vj Rj Fj Wj w0 L))
      ⟨v, R, F', w1_2, rfl, rfl, rfl, rfl, rfl, hr.grow g1, ha, g1, hSk', by omega, H⟩
      rfl rfl (by decide) (by decide) (by decide) rfl rfl ?_ rfl rfl ?_
  · rintro j f ds w2 hj ⟨vj, Rj, Fj, Wj, h0, h2, h7, h15, rfl, hrj, haj, gj, hSj, hRj, H⟩ htj htm
    have hkj := List.getElem?_eq_getElem hj
    have hxj : (ks.map unkb)[j]? = some (unkb ks[j]) := by rw [List.getElem?_map, hkj]; rfl
    obtain ⟨b3, o3, cs3, e3, hz3, hc3, hr3⟩ := hSj.at hxj
    have hc3' := hc3.ext ((H.dz 2 3 rfl rfl hrj.base).2 _ hz3 hc3.lt)
    obtain ⟨vy, rfl, hvy⟩ := hr3
    have htk : (ks.take (j + 1)).foldl (Abs.turn1 ts) a = Abs.turn1 ts ((ks.take j).foldl (Abs.turn1 ts) a) ks[j] := by rw [List.take_add_one, hkj, Option.toList_some, List.foldl_append]; rfl
    generalize ks[j] = s at *
    generalize (ks.take j).foldl (Abs.turn1 ts) a = aj at *
    have hks2 : kb (unkb s) = s := kb_unkb s
    have h15' := h15.trans (congrArg (Value.slice · _ _) e3)
    refine W_block ?_
    refine W_seq ?_
    refine W_region ?_
    refine OL_y (y_indexAddr ti30 ti23 h15' htj (by omega) (by omega)) (by decide) ?_
    refine OL_y (y_loadS (v := vy) ti23 rfl rfl hc3') (by decide) ?_
    refine OL_y (y_assign rfl) (by decide) ?_
    refine OL_nil ?_
    refine W_seq ?_
    refine W_region ?_
    refine OL_y (y_move h0) (by decide) ?_
    refine OL_y (y_move rfl) (by decide) ?_
    refine OL_c (op_call 64 en64 rfl [.pointer (some ⟨b, 1, none⟩), vy] rfl (by decide) ((f64s_calls H hrj hvy (by omega)).mono ?_))
    rintro e w5_2 ⟨i, v1, R1, F1, W1, rfl, H, hr1, g2, ⟨e1, hie, hek1⟩, hl1⟩
    refine ⟨_, rfl, ?_⟩
    obtain ⟨av1, cv1, hv1, hlv1, hmv1⟩ := H.rowLen 1 rfl
    subst hv1
    have hlt1 := (List.getElem?_eq_some_iff.1 hie).1
    have hem1 := List.mem_of_getElem? hie
    obtain ⟨br1, cr1, hvr1, -, -⟩ := ownsRow_cells (H.getRow 1 rfl) (by omega)
    have hC := rowElAt RE.len (H.getRow 1 rfl) (b := br1) (by rw [hvr1]; rfl) hie
    have hint := hr1.int hem1
    rw [hks2] at hek1
    have hai : aj.i s = e1.c.intent := by rw [← hek1]; exact (hr1.va e1 hem1).2
    rw [← hai] at hint
    obtain ⟨_, _, heq, hj1, hj2, hj3, hj4⟩ := ver_cells.1 hint
    have heq3 := heq
    injection heq with _ heq; injection heq with _ heq; injection heq with _ heq; injection heq with heq1 heq; injection heq with heq2 _
    subst heq1 heq2
    have hu : tVer.R (Dz w0 F1) W1 [.int .u64 ts, .int .u64 (aj.i s).txn, .bool (aj.i s).dead, e1.iv, e1.ik] ((aj.i s).atTs ts) := ver_cells.2 ⟨_, _, rfl, hts, hj2, hj3, hj4⟩
    refine OL_y (y_assign rfl) (by decide) ?_
    refine OL_nil ?_
    refine W_seq ?_
    refine W_region ?_
    refine OL_y (y_move h0) (by decide) ?_
    refine OL_y (y_nilCheck rfl ⟨_, rfl⟩) (by decide) ?_
    refine OL_y (y_fieldAddr ti66 rfl ti49 rfl rfl) (by decide) ?_
    refine OL_y (y_loadS (v := .slice av1 R1.length cv1) ti49 rfl rfl (Cells.unit (H.getOwn 0 rfl) rfl)) (by decide) ?_
    refine OL_y (y_move rfl) (by decide) ?_
    refine OL_y (y_indexAddr ti49 ti55 hvr1 rfl (by omega) (by omega)) (by decide) ?_
    refine OL_y (y_fieldAddr ti55 rfl ti32 rfl rfl) (by decide) ?_
    refine OL_y (y_loadA (cs := [.int .u64 (aj.i s).ts, .int .u64 (aj.i s).txn, .bool (aj.i s).dead, e1.iv, e1.ik]) ti32 rfl rfl (hai ▸ hC.take 2 rfl) rfl) (by decide) ?_
    refine OL_var (v := .agg #[.int .u64 (aj.i s).ts, .int .u64 (aj.i s).txn, .bool (aj.i s).dead, e1.iv, e1.ik]) H ti32 rfl (by decide) (fun _ => rfl) rfl (tVer.one hint) fun b11 w6_8 H => ?_
    refine OL_nil ?_
    refine W_seq ?_
    refine W_region ?_
    refine OL_y (y_move h2) (by decide) ?_
    refine OL_y (y_fieldAddr ti32 rfl ti24 rfl rfl) (by decide) ?_
    refine OL_c (op_store (v := .int .u64 ts) H 0 rfl ti24 rfl rfl rfl (Nat.le_of_ble_eq_true rfl) (by simp [Value.cells, Value.oneCell']) fun w7_2 H => ?_)
    have H : Holds w7_2 (own b11 (.cells #[.int .u64 ts, .int .u64 (aj.i s).txn, .bool (aj.i s).dead, e1.iv, e1.ik] 32) :: sAt b q (.slice av1 R1.length cv1) R1 F1 W1 w0 L) := H
    refine OL_nil ?_
    refine W_seq ?_
    refine W_region ?_
    refine OL_y (y_move h0) (by decide) ?_
    refine OL_y (y_nilCheck rfl ⟨_, rfl⟩) (by decide) ?_
    refine OL_y (y_fieldAddr ti66 rfl ti49 rfl rfl) (by decide) ?_
    refine OL_y (y_loadS (v := .slice av1 R1.length cv1) ti49 rfl rfl (Cells.unit (H.getOwn 1 rfl) rfl)) (by decide) ?_
    refine OL_y (y_move rfl) (by decide) ?_
    refine OL_y (v := .agg #[.int .u64 0, .int .u64 0, .bool false, .slice none 0 0, .slice none 0 0]) (y_build ti32 pl32 rfl) (by decide) ?_
    refine OL_y (y_indexAddr ti49 ti55 hvr1 rfl (by omega) (by omega)) (by decide) ?_
    refine OL_y (y_fieldAddr ti55 rfl ti32 rfl rfl) (by decide) ?_
    refine OL_c (op_storeRowA (u := .agg #[.int .u64 0, .int .u64 0, .bool false, .slice none 0 0, .slice none 0 0]) (o := 0 + i * 7 + 2) H 2 rfl (by rw [hvr1]; rfl) ti32 rfl rfl rfl (by rw [flat_len RE.len]; omega) (by simp [Value.cells, Value.oneCell']) fun w8_8 H => ?_)
    refine OL_nil ?_
    have H : Holds w8_8 (own b11 (.cells #[.int .u64 ts, .int .u64 (aj.i s).txn, .bool (aj.i s).dead, e1.iv, e1.ik] 32) :: own b (.cells #[q, .slice av1 R1.length cv1] 68) :: row 55 7 (.slice av1 R1.length cv1) R1.length ((R1.flatMap RE.cs).take (0 + i * 7 + 2) ++ [.int .u64 0, .int .u64 0, .bool false, .slice none 0 0, .slice none 0 0] ++ (R1.flatMap RE.cs).drop (0 + i * 7 + 2 + 5)) :: exc F1 W1 :: shr (fun k => k < w0.heap.size) w0 :: L) := H
    obtain ⟨e2, he2⟩ : ∃ e2 : RE, e2 = ⟨e1.vk, e1.vs, .slice none 0 0, .slice none 0 0, ⟨e1.c.key, e1.c.vers, noV⟩⟩ := ⟨_, rfl⟩
    rw [Nat.zero_add, flat_int (e' := e2) hie _ rfl (by rw [he2]; rfl)] at H
    have hr2 := hr1.setI hie noV_cells
    rw [← he2, hek1] at hr2
    have H : Holds w8_8 (own b11 (.cells #[.int .u64 ts, .int .u64 (aj.i s).txn, .bool (aj.i s).dead, e1.iv, e1.ik] 32) :: sAt b q (.slice av1 R1.length cv1) (R1.set i e2) F1 W1 w0 L) := by
      show Holds w8_8 (own b11 _ :: own b _ :: row 55 7 _ (R1.set i e2).length _ :: _)
      rw [List.length_set]; exact H
    refine W_region ?_
    refine OL_y (y_move h0) (by decide) ?_
    refine OL_y (y_move rfl) (by decide) ?_
    refine OL_y (y_loadA (cs := [.int .u64 ts, .int .u64 (aj.i s).txn, .bool (aj.i s).dead, e1.iv, e1.ik]) ti32 rfl rfl (Cells.of (H.getOwn 0 rfl) rfl) rfl) (by decide) ?_
    refine OL_c (op_call 36 en36 rfl [.pointer (some ⟨b, 1, none⟩), vy, .agg #[.int .u64 ts, .int .u64 (aj.i s).txn, .bool (aj.i s).dead, e1.iv, e1.ik]] rfl (by decide) ((f36s_calls H.tail hr2 (g2.slr hvy) hu (show (aj.setI s noV).Ok (m + j) from haj) (by omega) (by rw [List.length_set]; omega)).mono ?_))
    rintro e w9_3 ⟨rfl, v3, R3, F3, W3, H, hr3, g3, hl3⟩
    refine ⟨_, rfl, ?_⟩
    refine OL_nil ?_
    rw [hks2] at hr3
    rw [List.length_set] at hl3
    refine ⟨htj, htm, v3, R3, F3, W3, h0, h2, h7, h15, rfl, by rw [htk]; exact hr3, by rw [htk]; exact turn1_ok haj ts s, (gj.trans g2).trans g3, g3.slr (g2.slr hSj), by omega, H⟩
  · rintro f ds w2 ⟨vj, Rj, Fj, Wj, h0, h2, h7, h15, rfl, hrj, haj, gj, hSj, hRj, H⟩ htj htm
    rw [List.take_length] at hrj
    refine W_seq ?_
    refine W_region ?_
    refine OL_y (y_move h7) (by decide) ?_
    refine OL_y (y_len rfl ti30 rfl) (by decide) ?_
    refine OL_y (y_assign rfl) (by decide) ?_
    refine OL_nil ?_
    refine W_ret ?_
    show RetOK _ _ _ _ _ _
    exact ret1 (v := .int .i64 ks.length) Try.results39 rfl ⟨ks, rfl, hks, vj, Rj, Fj, Wj, H, hrj, gj, hRj⟩
set_option maxHeartbeats 16000000 in
theorem f42s_calls {q : Value} {w0 w Wp : World} {F : Nat → Prop} {b m : Nat} {v : Value} {R : List RE} {a : Abs} {L : List Atom} {ts : Int} (H : Holds w (sAt b q v R F Wp w0 L)) (hr : RRep w0 F Wp R a) (hl : R.length ≤ 40000) (ha : a.Ok m) (hm : m ≤ 40000) :
    Calls Try.prog 42 [.pointer (some ⟨b, 1, none⟩), .int .u64 ts].toArray w fun e w' => e = .returned (.int .i64 (gcN a ts (R.map RE.k))) ∧ ∃ (v' : Value) (R' : List RE) (F' : Nat → Prop) (Wp' : World), Holds w' (sAt b q v' R' F' Wp' w0 L) ∧ RRep w0 F' Wp' R' (a.gc ts) ∧ Grow w0 F Wp F' Wp' ∧ R'.map RE.k = R.map RE.k := by
  obtain ⟨av, cv, hv, hlv, hmv⟩ := H.rowLen 1 rfl
  subst hv
  have hnd : (R.map RE.k).Nodup := rise_nodup bLt_irrefl hr.rise
  refine calls_of_W' Try.func42 rfl Try.ntmps42 rfl ?_
  refine W_seq ?_
  refine W_region ?_
  refine OL_y (y_assign rfl) (by decide) ?_
  refine OL_nil ?_
  refine W_seq ?_
  refine W_region ?_
  refine OL_y (y_assign rfl) (by decide) ?_
  refine OL_nil ?_
  refine W_seq ?_
  refine W_seq ?_
  refine W_region ?_
  refine OL_y (y_move rfl) (by decide) ?_
  refine OL_y (y_nilCheck rfl ⟨_, rfl⟩) (by decide) ?_
  refine OL_y (y_fieldAddr ti66 rfl ti49 rfl rfl) (by decide) ?_
  refine OL_y (y_loadS (v := .slice av R.length cv) ti49 rfl rfl (Cells.unit (H.getOwn 0 rfl) rfl)) (by decide) ?_
  refine OL_y (y_len rfl ti49 rfl) (by decide) ?_
  refine OL_y (y_move rfl) (by decide) ?_
  refine OL_nil ?_
  refine W_range (N := R.length) (by simp [maxLen]; omega) (fun i f ds w' => ∃ (Ri : List RE) (Fi : Nat → Prop) (Wi : World), f 0 = .pointer (some ⟨b, 1, none⟩) ∧ f 1 = .int .u64 ts ∧ f 5 = .int .i64 (gcN a ts ((R.map RE.k).take i)) ∧ f 16 = .slice av R.length cv ∧ ds = [] ∧ RRep w0 Fi Wi Ri (a.gcK ts ((R.map RE.k).take i)) ∧ Grow w0 F Wp Fi Wi ∧ Ri.map RE.k = R.map RE.k ∧ Ri.length = R.length ∧ Holds w' (sAt b q (.slice av R.length cv) Ri Fi Wi w0 L))
      ⟨R, F, Wp, rfl, rfl, rfl, rfl, rfl, hr, Grow.refl hr.base, rfl, rfl, H⟩
      rfl rfl (by decide) (by decide) (by decide) rfl rfl ?_ rfl rfl ?_
  · rintro i f ds w3 hi3 ⟨Ri, Fi, Wi, h0, h1, h5, h16, rfl, hri, gi, hki, hli, H⟩ hti htn
    have hie := List.getElem?_eq_getElem (show i < Ri.length by omega)
    have hem := List.mem_of_getElem? hie
    obtain ⟨br, cr, hvr, -, -⟩ := ownsRow_cells (H.getRow 1 rfl) (by omega)
    have hC := rowElAt RE.len (H.getRow 1 rfl) (b := br) (by rw [hvr]; rfl) hie
    have hone := tCl.one (hri.good _ hem)
    have hvS := hri.vers hem
    have hkk : (R.map RE.k)[i]? = some (RE.k (Ri[i]'(by omega))) := by rw [← hki, List.getElem?_map, hie]; rfl
    have htk : (R.map RE.k).take (i + 1) = (R.map RE.k).take i ++ [RE.k (Ri[i]'(by omega))] := by rw [List.take_add_one, hkk]; rfl
    have hav := (hri.va _ hem).1
    generalize Ri[i]'(by omega) = e at *
    have hnin : e.k ∉ (R.map RE.k).take i := by
      intro hin
      obtain ⟨hlt, he⟩ := List.getElem?_eq_some_iff.1 hkk
      have := (List.nodup_append.1 (by rw [← htk]; exact hnd.sublist (List.take_sublist _ _) : ((R.map RE.k).take i ++ [e.k]).Nodup)).2.2 _ hin e.k (by simp)
      exact this rfl
    rw [gcK_out a ts hnin] at hav
    obtain ⟨hsd, hvm⟩ := ha e.k
    rw [hav] at hsd hvm
    obtain ⟨hg1, hg2⟩ := keepL_gc hsd ts
    have hNle : gcN a ts ((R.map RE.k).take i) ≤ 40000 * 40000 := by
      have h1 := gcN_le ha ts ((R.map RE.k).take i)
      have h2 : ((R.map RE.k).take i).length ≤ 40000 := by rw [List.length_take, List.length_map]; omega
      exact Nat.le_trans h1 (Nat.mul_le_mul h2 hm)
    obtain ⟨sa, cs1, hvs, hls, hms⟩ := hvS.len
    rw [hvs] at hvS
    have hcs : e.cs = [e.vk, .slice sa e.c.vers.length cs1, .int .u64 e.c.intent.ts, .int .u64 e.c.intent.txn, .bool e.c.intent.dead, e.iv, e.ik] := by show [_, e.vs, _, _, _, _, _] = _; rw [hvs]
    rw [hcs] at hC hone
    have h16' := h16.trans hvr
    refine W_block ?_
    refine W_seq ?_
    refine W_region ?_
    refine OL_y (y_move hti) (by decide) ?_
    refine OL_y (y_indexAddr ti49 ti55 h16' hti (by omega) (by omega)) (by decide) ?_
    refine OL_y (y_loadA (cs := [e.vk, .slice sa e.c.vers.length cs1, .int .u64 e.c.intent.ts, .int .u64 e.c.intent.txn, .bool e.c.intent.dead, e.iv, e.ik]) ti55 rfl rfl hC rfl) (by decide) ?_
    refine OL_c (op_alloc H ti55 (by decide) fun b7 w4_3 H => ?_)
    refine OL_y (y_assign rfl) (by decide) ?_
    refine OL_c (op_store (v := .agg #[e.vk, .slice sa e.c.vers.length cs1, .int .u64 e.c.intent.ts, .int .u64 e.c.intent.txn, .bool e.c.intent.dead, e.iv, e.ik]) H 0 rfl ti55 rfl rfl rfl (by decide) hone fun w4_5 H => ?_)
    refine OL_nil ?_
    refine W_seq ?_
    refine W_region ?_
    refine OL_y (y_assign rfl) (by decide) ?_
    refine OL_nil ?_
    refine W_seq ?_
    refine W_region ?_
    refine OL_y (v := .bool false) (y_assign rfl) (by decide) ?_
    refine OL_nil ?_
    refine W_seq ?_
    refine W_seq ?_
    refine W_region ?_
    refine OL_y (y_fieldAddr ti55 rfl ti53 rfl rfl) (by decide) ?_
    refine OL_y (y_loadS (v := .slice sa e.c.vers.length cs1) ti53 rfl rfl (Cells.unit (H.getOwn 0 rfl) rfl)) (by decide) ?_
    refine OL_y (y_len rfl ti53 rfl) (by decide) ?_
    refine OL_y (y_move rfl) (by decide) ?_
    refine OL_nil ?_
    have H := H.tail.rowNil 32 5
    refine W_range (N := e.c.vers.length) (by simp [maxLen]; omega) (fun k f ds w' => ∃ (v8 : Value) (cs8 : List Value), f 0 = .pointer (some ⟨b, 1, none⟩) ∧ f 1 = .int .u64 ts ∧ f 5 = .int .i64 (gcN a ts ((R.map RE.k).take i) + (keepL ts (e.c.vers.take k)).2.1 : Nat) ∧ f 6 = .int .i64 (i : Nat) ∧ f 8 = v8 ∧ f 9 = .bool (keepL ts (e.c.vers.take k)).2.2 ∧ f 16 = .slice av R.length cv ∧ f 17 = .int .i64 (R.length : Nat) ∧ f 18 = .int .i64 (i : Nat) ∧ f 24 = .slice sa e.c.vers.length cs1 ∧ ds = [] ∧ Els tVer (Dz w0 Fi) Wi cs8 (keepL ts (e.c.vers.take k)).1 ∧ Holds w' (row 32 5 v8 (keepL ts (e.c.vers.take k)).1.length cs8 :: sAt b q (.slice av R.length cv) Ri Fi Wi w0 L))
        ⟨.slice none 0 0, [], h0, h1, h5, rfl, rfl, rfl, h16, htn, hti, rfl, rfl, Els.nil _ _ _, H⟩
        rfl rfl (by decide) (by decide) (by decide) rfl rfl ?_ rfl rfl ?_
    · rintro k f ds w8 hk3 ⟨v8, cs8, h0, h1, h5, h6, h8, h9, h16, h17, h18, h24, rfl, hE, H⟩ htk2 htn2
      have hxk := List.getElem?_eq_getElem hk3
      obtain ⟨b3, o3, cs3, e3, hz3, hc3, hr3⟩ := hvS.at hxk
      have hc3' := hc3.ext ((H.dz 3 4 rfl rfl hri.base).2 _ hz3 hc3.lt)
      have hts : keepL ts (e.c.vers.take (k + 1)) = keepL ts (e.c.vers.take k ++ [e.c.vers[k]]) := by rw [List.take_add_one, hxk]; rfl
      rw [keepL_snoc] at hts
      have hpl : (keepL ts (e.c.vers.take k)).1.length + (keepL ts (e.c.vers.take k)).2.1 = min k e.c.vers.length := by rw [← List.length_take, keepL_len]; simp
      generalize e.c.vers[k] = x at *
      generalize keepL ts (e.c.vers.take k) = p at *
      obtain ⟨pl, pn, pm⟩ := p
      simp only at h5 h9 hE H hts hpl
      obtain ⟨xv, xk, rfl, hx1, hx2, hx3, hx4⟩ := ver_cells.1 hr3
      have h24' := h24.trans (congrArg (Value.slice · _ _) e3)
      refine W_block ?_
      refine W_seq ?_
      refine W_region ?_
      refine OL_y (y_indexAddr ti53 ti32 h24' htk2 (by omega) (by omega)) (by decide) ?_
      refine OL_y (y_loadA (cs := [.int .u64 x.ts, .int .u64 x.txn, .bool x.dead, xv, xk]) ti32 rfl rfl hc3' rfl) (by decide) ?_
      refine OL_var (v := .agg #[.int .u64 x.ts, .int .u64 x.txn, .bool x.dead, xv, xk]) H ti32 rfl (by decide) (fun _ => rfl) rfl (tVer.one hr3) fun b11 w9_2 H => ?_
      refine OL_nil ?_
      refine W_seq ?_
      by_cases hg : ts < x.ts
      · rcases pm with _ | _
        · refine W_region ?_
          refine OL_y (y_fieldAddr ti32 rfl ti24 rfl rfl) (by decide) ?_
          refine OL_y (y_loadS (v := .int .u64 x.ts) ti24 rfl rfl (Cells.unit (H.getOwn 0 rfl) rfl)) (by decide) ?_
          refine OL_y (y_move h1) (by decide) ?_
          refine OL_y (v := .bool true) (y_gtrT hg rfl rfl) (by decide) ?_
          refine OL_y (v := .bool true) (y_move rfl) (by decide) ?_
          refine OL_s rfl (by decide) rfl rfl (by simp) ?_
          refine OL_s rfl (by decide) rfl rfl (by simp) ?_
          refine OL_s rfl (by decide) rfl rfl (by simp) ?_
          refine OL_u rfl (by decide) rfl (by simp) ?_
          refine OL_u rfl (by decide) rfl (by simp) ?_
          refine OL_u rfl (by decide) rfl (by simp) ?_
          refine OL_s rfl (by decide) rfl rfl (by simp) ?_
          refine OL_y (y_pick (b := true) (v := .bool true) rfl rfl) (by decide) ?_
          refine OL_y (v := .bool true) (y_assign rfl) (by decide) ?_
          refine OL_nil ?_
          refine W_seq ?_
          refine W_region ?_
          refine OL_y (v := .bool false) (y_move h9) (by decide) ?_
          refine OL_y (v := .bool false) (y_move rfl) (by decide) ?_
          refine OL_yg rfl (by decide) rfl (y_fieldAddr ti32 rfl ti24 rfl rfl) (by decide) ?_
          refine OL_yg rfl (by decide) rfl (y_loadS (v := .int .u64 x.ts) ti24 rfl rfl (Cells.unit (H.getOwn 0 rfl) rfl)) (by decide) ?_
          refine OL_yg rfl (by decide) rfl (y_move h1) (by decide) ?_
          refine OL_yg (v := .bool false) rfl (by decide) rfl (y_leqF (by omega) rfl rfl) (by decide) ?_
          refine OL_y (y_pick (b := false) (v := .bool false) rfl rfl) (by decide) ?_
          refine OL_y (v := .bool false) (y_assign rfl) (by decide) ?_
          refine OL_nil ?_
          refine W_seq ?_
          refine W_region ?_
          refine OL_y (v := .bool true) (y_move rfl) (by decide) ?_
          refine OL_nil ?_
          refine W_condt rfl ?_
          refine W_region ?_
          refine OL_y (y_move h8) (by decide) ?_
          refine OL_y (y_loadA (cs := [.int .u64 x.ts, .int .u64 x.txn, .bool x.dead, xv, xk]) ti32 rfl rfl (Cells.of (H.getOwn 0 rfl) rfl) rfl) (by decide) ?_
          refine OL_c (op_buildSlice H [.agg #[.int .u64 x.ts, .int .u64 x.txn, .bool x.dead, xv, xk]] ti53 ti32 rfl rfl rfl (by simp [Value.cells]) rfl rfl (by decide) fun b53 w13_2 H => ?_)
          refine OL_c (op_append H 2 rfl rfl ti53 ti32 rfl rfl rfl rfl (Src.row (H.getRow 0 rfl)) rfl (by intro c hc; exact tVer.one hr3 c (by simpa [Value.cells] using hc)) (by omega) (by simp only [maxLen]; omega) (by decide) fun v54 w13_3 H => ?_)
          refine OL_y (y_assign rfl) (by decide) ?_
          refine OL_nil ?_
          have e2 : keepL ts (e.c.vers.take (k + 1)) = (pl ++ [x], pn, false) := by rw [hts]; unfold keepS; simp [hg, Int.not_le.2 hg]
          refine ⟨htk2, htn2, v54, _, h0, h1, by rw [e2]; exact h5, h6, rfl, by rw [e2]; rfl, h16, h17, h18, h24, rfl, by rw [e2]; exact hE.snoc hr3, ?_⟩
          rw [e2, List.length_append]; exact H.tail.tail
        · refine W_region ?_
          refine OL_y (y_fieldAddr ti32 rfl ti24 rfl rfl) (by decide) ?_
          refine OL_y (y_loadS (v := .int .u64 x.ts) ti24 rfl rfl (Cells.unit (H.getOwn 0 rfl) rfl)) (by decide) ?_
          refine OL_y (y_move h1) (by decide) ?_
          refine OL_y (v := .bool true) (y_gtrT hg rfl rfl) (by decide) ?_
          refine OL_y (v := .bool true) (y_move rfl) (by decide) ?_
          refine OL_s rfl (by decide) rfl rfl (by simp) ?_
          refine OL_s rfl (by decide) rfl rfl (by simp) ?_
          refine OL_s rfl (by decide) rfl rfl (by simp) ?_
          refine OL_u rfl (by decide) rfl (by simp) ?_
          refine OL_u rfl (by decide) rfl (by simp) ?_
          refine OL_u rfl (by decide) rfl (by simp) ?_
          refine OL_s rfl (by decide) rfl rfl (by simp) ?_
          refine OL_y (y_pick (b := true) (v := .bool true) rfl rfl) (by decide) ?_
          refine OL_y (v := .bool true) (y_assign rfl) (by decide) ?_
          refine OL_nil ?_
          refine W_seq ?_
          refine W_region ?_
          refine OL_y (v := .bool true) (y_move h9) (by decide) ?_
          refine OL_y (v := .bool true) (y_move rfl) (by decide) ?_
          refine OL_s rfl (by decide) rfl rfl (by simp) ?_
          refine OL_s rfl (by decide) rfl rfl (by simp) ?_
          refine OL_s rfl (by decide) rfl rfl (by simp) ?_
          refine OL_s rfl (by decide) rfl rfl (by simp) ?_
          refine OL_y (y_pick (b := true) (v := .bool true) rfl rfl) (by decide) ?_
          refine OL_y (v := .bool true) (y_assign rfl) (by decide) ?_
          refine OL_nil ?_
          refine W_seq ?_
          refine W_region ?_
          refine OL_y (v := .bool true) (y_move rfl) (by decide) ?_
          refine OL_nil ?_
          refine W_condt rfl ?_
          refine W_region ?_
          refine OL_y (y_move h8) (by decide) ?_
          refine OL_y (y_loadA (cs := [.int .u64 x.ts, .int .u64 x.txn, .bool x.dead, xv, xk]) ti32 rfl rfl (Cells.of (H.getOwn 0 rfl) rfl) rfl) (by decide) ?_
          refine OL_c (op_buildSlice H [.agg #[.int .u64 x.ts, .int .u64 x.txn, .bool x.dead, xv, xk]] ti53 ti32 rfl rfl rfl (by simp [Value.cells]) rfl rfl (by decide) fun b53 w13_2 H => ?_)
          refine OL_c (op_append H 2 rfl rfl ti53 ti32 rfl rfl rfl rfl (Src.row (H.getRow 0 rfl)) rfl (by intro c hc; exact tVer.one hr3 c (by simpa [Value.cells] using hc)) (by omega) (by simp only [maxLen]; omega) (by decide) fun v54 w13_3 H => ?_)
          refine OL_y (y_assign rfl) (by decide) ?_
          refine OL_nil ?_
          have e2 : keepL ts (e.c.vers.take (k + 1)) = (pl ++ [x], pn, true) := by rw [hts]; unfold keepS; simp [hg]
          refine ⟨htk2, htn2, v54, _, h0, h1, by rw [e2]; exact h5, h6, rfl, by rw [e2]; rfl, h16, h17, h18, h24, rfl, by rw [e2]; exact hE.snoc hr3, ?_⟩
          rw [e2, List.length_append]; exact H.tail.tail
      · rcases pm with _ | _
        · rcases hd : x.dead with _ | _
          · refine W_region ?_
            refine OL_y (y_fieldAddr ti32 rfl ti24 rfl rfl) (by decide) ?_
            refine OL_y (y_loadS (v := .int .u64 x.ts) ti24 rfl rfl (Cells.unit (H.getOwn 0 rfl) rfl)) (by decide) ?_
            refine OL_y (y_move h1) (by decide) ?_
            refine OL_y (v := .bool false) (y_gtrF hg rfl rfl) (by decide) ?_
            refine OL_y (v := .bool false) (y_move rfl) (by decide) ?_
            refine OL_yg (v := .bool false) rfl (by decide) rfl (y_move h9) (by decide) ?_
            refine OL_yg (v := .bool true) rfl (by decide) rfl (y_not (b := false) rfl) (by decide) ?_
            refine OL_yg (v := .bool true) rfl (by decide) rfl (y_move rfl) (by decide) ?_
            refine OL_yg rfl (by decide) rfl (y_fieldAddr ti32 rfl ti4 rfl rfl) (by decide) ?_
            refine OL_yg rfl (by decide) rfl (y_loadS (v := .bool false) ti4 rfl rfl (Cells.unit (H.getOwn 0 rfl) (congrArg (fun z => some (Value.bool z)) hd))) (by decide) ?_
            refine OL_yg (v := .bool true) rfl (by decide) rfl (y_not (b := false) rfl) (by decide) ?_
            refine OL_yg rfl (by decide) rfl (y_pick (b := true) (v := .bool true) rfl rfl) (by decide) ?_
            refine OL_y (y_pick (b := false) (v := .bool true) rfl rfl) (by decide) ?_
            refine OL_y (v := .bool true) (y_assign rfl) (by decide) ?_
            refine OL_nil ?_
            refine W_seq ?_
            refine W_region ?_
            refine OL_y (v := .bool false) (y_move h9) (by decide) ?_
            refine OL_y (v := .bool false) (y_move rfl) (by decide) ?_
            refine OL_yg rfl (by decide) rfl (y_fieldAddr ti32 rfl ti24 rfl rfl) (by decide) ?_
            refine OL_yg rfl (by decide) rfl (y_loadS (v := .int .u64 x.ts) ti24 rfl rfl (Cells.unit (H.getOwn 0 rfl) rfl)) (by decide) ?_
            refine OL_yg rfl (by decide) rfl (y_move h1) (by decide) ?_
            refine OL_yg (v := .bool true) rfl (by decide) rfl (y_leqT (by omega) rfl rfl) (by decide) ?_
            refine OL_y (y_pick (b := false) (v := .bool true) rfl rfl) (by decide) ?_
            refine OL_y (v := .bool true) (y_assign rfl) (by decide) ?_
            refine OL_nil ?_
            refine W_seq ?_
            refine W_region ?_
            refine OL_y (v := .bool true) (y_move rfl) (by decide) ?_
            refine OL_nil ?_
            refine W_condt rfl ?_
            refine W_region ?_
            refine OL_y (y_move h8) (by decide) ?_
            refine OL_y (y_loadA (cs := [.int .u64 x.ts, .int .u64 x.txn, .bool x.dead, xv, xk]) ti32 rfl rfl (Cells.of (H.getOwn 0 rfl) rfl) rfl) (by decide) ?_
            refine OL_c (op_buildSlice H [.agg #[.int .u64 x.ts, .int .u64 x.txn, .bool x.dead, xv, xk]] ti53 ti32 rfl rfl rfl (by simp [Value.cells]) rfl rfl (by decide) fun b53 w13_2 H => ?_)
            refine OL_c (op_append H 2 rfl rfl ti53 ti32 rfl rfl rfl rfl (Src.row (H.getRow 0 rfl)) rfl (by intro c hc; exact tVer.one hr3 c (by simpa [Value.cells] using hc)) (by omega) (by simp only [maxLen]; omega) (by decide) fun v54 w13_3 H => ?_)
            refine OL_y (y_assign rfl) (by decide) ?_
            refine OL_nil ?_
            have e2 : keepL ts (e.c.vers.take (k + 1)) = (pl ++ [x], pn, true) := by rw [hts]; unfold keepS; simp [hg, hd]; omega
            refine ⟨htk2, htn2, v54, _, h0, h1, by rw [e2]; exact h5, h6, rfl, by rw [e2]; rfl, h16, h17, h18, h24, rfl, by rw [e2]; exact hE.snoc hr3, ?_⟩
            rw [e2, List.length_append]; exact H.tail.tail
          · refine W_region ?_
            refine OL_y (y_fieldAddr ti32 rfl ti24 rfl rfl) (by decide) ?_
            refine OL_y (y_loadS (v := .int .u64 x.ts) ti24 rfl rfl (Cells.unit (H.getOwn 0 rfl) rfl)) (by decide) ?_
            refine OL_y (y_move h1) (by decide) ?_
            refine OL_y (v := .bool false) (y_gtrF hg rfl rfl) (by decide) ?_
            refine OL_y (v := .bool false) (y_move rfl) (by decide) ?_
            refine OL_yg (v := .bool false) rfl (by decide) rfl (y_move h9) (by decide) ?_
            refine OL_yg (v := .bool true) rfl (by decide) rfl (y_not (b := false) rfl) (by decide) ?_
            refine OL_yg (v := .bool true) rfl (by decide) rfl (y_move rfl) (by decide) ?_
            refine OL_yg rfl (by decide) rfl (y_fieldAddr ti32 rfl ti4 rfl rfl) (by decide) ?_
            refine OL_yg rfl (by decide) rfl (y_loadS (v := .bool true) ti4 rfl rfl (Cells.unit (H.getOwn 0 rfl) (congrArg (fun z => some (Value.bool z)) hd))) (by decide) ?_
            refine OL_yg (v := .bool false) rfl (by decide) rfl (y_not (b := true) rfl) (by decide) ?_
            refine OL_yg rfl (by decide) rfl (y_pick (b := true) (v := .bool false) rfl rfl) (by decide) ?_
            refine OL_y (y_pick (b := false) (v := .bool false) rfl rfl) (by decide) ?_
            refine OL_y (v := .bool false) (y_assign rfl) (by decide) ?_
            refine OL_nil ?_
            refine W_seq ?_
            refine W_region ?_
            refine OL_y (v := .bool false) (y_move h9) (by decide) ?_
            refine OL_y (v := .bool false) (y_move rfl) (by decide) ?_
            refine OL_yg rfl (by decide) rfl (y_fieldAddr ti32 rfl ti24 rfl rfl) (by decide) ?_
            refine OL_yg rfl (by decide) rfl (y_loadS (v := .int .u64 x.ts) ti24 rfl rfl (Cells.unit (H.getOwn 0 rfl) rfl)) (by decide) ?_
            refine OL_yg rfl (by decide) rfl (y_move h1) (by decide) ?_
            refine OL_yg (v := .bool true) rfl (by decide) rfl (y_leqT (by omega) rfl rfl) (by decide) ?_
            refine OL_y (y_pick (b := false) (v := .bool true) rfl rfl) (by decide) ?_
            refine OL_y (v := .bool true) (y_assign rfl) (by decide) ?_
            refine OL_nil ?_
            refine W_seq ?_
            refine W_region ?_
            refine OL_y (v := .bool false) (y_move rfl) (by decide) ?_
            refine OL_nil ?_
            refine W_condf rfl ?_
            refine W_region ?_
            refine OL_y (y_move h5) (by decide) ?_
            refine OL_y (y_add64' ((gcN a ts ((R.map RE.k).take i) + (pn + 1) : Nat) : Int) rfl rfl (by omega) (by omega) (by omega)) (by decide) ?_
            refine OL_y (y_assign rfl) (by decide) ?_
            refine OL_nil ?_
            have e2 : keepL ts (e.c.vers.take (k + 1)) = (pl, pn + 1, true) := by rw [hts]; unfold keepS; simp [hg, hd]; omega
            refine ⟨htk2, htn2, v8, _, h0, h1, by rw [e2]; rfl, h6, h8, by rw [e2]; rfl, h16, h17, h18, h24, rfl, by rw [e2]; exact hE, ?_⟩
            rw [e2]; exact H.tail
        · refine W_region ?_
          refine OL_y (y_fieldAddr ti32 rfl ti24 rfl rfl) (by decide) ?_
          refine OL_y (y_loadS (v := .int .u64 x.ts) ti24 rfl rfl (Cells.unit (H.getOwn 0 rfl) rfl)) (by decide) ?_
          refine OL_y (y_move h1) (by decide) ?_
          refine OL_y (v := .bool false) (y_gtrF hg rfl rfl) (by decide) ?_
          refine OL_y (v := .bool false) (y_move rfl) (by decide) ?_
          refine OL_yg (v := .bool true) rfl (by decide) rfl (y_move h9) (by decide) ?_
          refine OL_yg (v := .bool false) rfl (by decide) rfl (y_not (b := true) rfl) (by decide) ?_
          refine OL_yg (v := .bool false) rfl (by decide) rfl (y_move rfl) (by decide) ?_
          refine OL_s rfl (by decide) rfl rfl (by simp) ?_
          refine OL_s rfl (by decide) rfl rfl (by simp) ?_
          refine OL_s rfl (by decide) rfl rfl (by simp) ?_
          refine OL_yg rfl (by decide) rfl (y_pick (b := false) (v := .bool false) rfl rfl) (by decide) ?_
          refine OL_y (y_pick (b := false) (v := .bool false) rfl rfl) (by decide) ?_
          refine OL_y (v := .bool false) (y_assign rfl) (by decide) ?_
          refine OL_nil ?_
          refine W_seq ?_
          refine W_region ?_
          refine OL_y (v := .bool true) (y_move h9) (by decide) ?_
          refine OL_y (v := .bool true) (y_move rfl) (by decide) ?_
          refine OL_s rfl (by decide) rfl rfl (by simp) ?_
          refine OL_s rfl (by decide) rfl rfl (by simp) ?_
          refine OL_s rfl (by decide) rfl rfl (by simp) ?_
          refine OL_s rfl (by decide) rfl rfl (by simp) ?_
          refine OL_y (y_pick (b := true) (v := .bool true) rfl rfl) (by decide) ?_
          refine OL_y (v := .bool true) (y_assign rfl) (by decide) ?_
          refine OL_nil ?_
          refine W_seq ?_
          refine W_region ?_
          refine OL_y (v := .bool false) (y_move rfl) (by decide) ?_
          refine OL_nil ?_
          refine W_condf rfl ?_
          refine W_region ?_
          refine OL_y (y_move h5) (by decide) ?_
          refine OL_y (y_add64' ((gcN a ts ((R.map RE.k).take i) + (pn + 1) : Nat) : Int) rfl rfl (by omega) (by omega) (by omega)) (by decide) ?_
          refine OL_y (y_assign rfl) (by decide) ?_
          refine OL_nil ?_
          have e2 : keepL ts (e.c.vers.take (k + 1)) = (pl, pn + 1, true) := by rw [hts]; unfold keepS; simp [hg]
          refine ⟨htk2, htn2, v8, _, h0, h1, by rw [e2]; rfl, h6, h8, by rw [e2]; rfl, h16, h17, h18, h24, rfl, by rw [e2]; exact hE, ?_⟩
          rw [e2]; exact H.tail
    · rintro f ds w8 ⟨v8, cs8, h0, h1, h5, h6, h8, h9, h16, h17, h18, h24, rfl, hE, H⟩ htk2 htn2
      rw [List.take_length] at hE H h5
      rw [hg1] at hE H
      rw [hg2, ← hav, ← gcN_snoc, ← htk] at h5
      obtain ⟨a7, c7, hv7, hl7, hm7⟩ := H.rowLen 0 rfl
      subst hv7
      obtain ⟨br2, cr2, hvr2, -, -⟩ := ownsRow_cells (H.getRow 2 rfl) (by omega)
      refine W_region ?_
      refine OL_y (y_move h0) (by decide) ?_
      refine OL_y (y_nilCheck rfl ⟨_, rfl⟩) (by decide) ?_
      refine OL_y (y_fieldAddr ti66 rfl ti49 rfl rfl) (by decide) ?_
      refine OL_y (y_loadS (v := .slice av R.length cv) ti49 rfl rfl (Cells.unit (H.getOwn 1 rfl) rfl)) (by decide) ?_
      refine OL_y (y_move h6) (by decide) ?_
      refine OL_y (y_move h8) (by decide) ?_
      refine OL_y (y_indexAddr ti49 ti55 (hli ▸ hvr2) rfl (by omega) (by omega)) (by decide) ?_
      refine OL_y (y_fieldAddr ti55 rfl ti53 rfl rfl) (by decide) ?_
      refine OL_c (op_storeRow (o := 0 + i * 7 + 1) H 2 rfl (by rw [hvr2]; rfl) ti53 rfl rfl rfl (by rw [flat_len RE.len]; omega) rfl fun w16_8 H => ?_)
      refine OL_nil ?_
      obtain ⟨e', he'⟩ : ∃ e' : RE, e' = ⟨e.vk, .slice a7 (gcV e.c.vers ts).length c7, e.iv, e.ik, ⟨e.c.key, gcV e.c.vers ts, e.c.intent⟩⟩ := ⟨_, rfl⟩
      have hgl : (gcV e.c.vers ts).length ≤ 40000 := by unfold gcV; rw [List.length_take]; omega
      have H : Holds w16_8 (row 32 5 (.slice a7 (gcV e.c.vers ts).length c7) (gcV e.c.vers ts).length cs8 :: own b (.cells #[q, .slice av R.length cv] 68) :: row 55 7 (.slice av R.length cv) Ri.length ((Ri.flatMap RE.cs).set (0 + i * 7 + 1) (.slice a7 (gcV e.c.vers ts).length c7)) :: exc Fi Wi :: shr (fun k => k < w0.heap.size) w0 :: L) := H
      rw [Nat.zero_add, flat_set RE.len Ri i 1 e e' _ (by decide) hie (by rw [he']; rfl)] at H
      have hkd := H.dz 3 4 rfl rfl hri.base
      have hS7 : SlR tVer 72 (Dz w0 fun k => Fi k ∨ (Value.slice a7 (gcV e.c.vers ts).length c7).ownBlock = some k) w16_8 (.slice a7 (gcV e.c.vers ts).length c7) (gcV e.c.vers ts) := SlR.ofRow (H.getRow 0 rfl) (by decide) ((hE.keeps hkd).mono fun k _ hk => hk.imp id .inl) (fun k hk => .inr (.inr hk)) (by omega)
      obtain ⟨H, g2⟩ := H.poolX rfl 2 3 rfl rfl hri.base
      have hr2 := (hri.grow g2).setV hie hS7
      rw [← he'] at hr2
      have ek : e'.k = e.k := by rw [he']
      refine ⟨h18, h17, Ri.set i e', _, w16_8, h0, h1, h5, h16, rfl, by rw [htk, ← gcK_snoc, hav]; exact hr2, gi.trans g2, ?_, by rw [List.length_set]; exact hli, ?_⟩
      · rw [List.map_set, ek, ← hki]
        apply List.ext_getElem?
        intro j
        by_cases hj : i = j
        · subst hj
          rw [List.getElem?_set_self (by rw [List.length_map]; omega), List.getElem?_map, hie]; rfl
        · rw [List.getElem?_set_ne hj]
      · show Holds w16_8 (own b _ :: row 55 7 _ (Ri.set i e').length _ :: _)
        rw [List.length_set]; exact H
  · rintro f ds w3 ⟨Ri, Fi, Wi, h0, h1, h5, h16, rfl, hri, gi, hki, hli, H⟩ hti htn
    rw [List.take_of_length_le (by rw [List.length_map]; omega)] at h5 hri
    refine W_seq ?_
    refine W_region ?_
    refine OL_y (y_move h5) (by decide) ?_
    refine OL_y (y_assign rfl) (by decide) ?_
    refine OL_nil ?_
    refine W_ret ?_
    show RetOK _ _ _ _ _ _
    rw [gcK_all (fun k hk => Classical.byContradiction fun hn => hk (hr.vn k hn).1)] at hri
    exact ret1 (v := .int .i64 (gcN a ts (R.map RE.k))) Try.results42 rfl ⟨rfl, _, Ri, Fi, Wi, H, hri, gi, hki⟩
set_option maxHeartbeats 16000000 in
theorem f26s_calls {Zl : Nat → Prop} {q : Value} {w0 w Wp : World} {F : Nat → Prop} {b m : Nat} {v : Value} {R : List RE} {a : Abs} {L : List Atom} {vl vh : Value} {lo hi : Key} {ts : Int} (H : Holds w (sAt b q v R F Wp w0 L)) (hr : RRep w0 F Wp R a) (hl : R.length ≤ 40000) (ha : a.Ok m) (hm : m ≤ 40000) (hlo : SlR (tInt .u8) 1 Zl w vl lo) (hhi : SlR (tInt .u8) 1 Zl w vh hi) :
    Calls Try.prog 26 [.pointer (some ⟨b, 1, none⟩), vl, vh, .int .u64 ts].toArray w fun e w' => ∃ (v : Value) (ks : List ByteArray), e = .returned v ∧ ScanOf a lo hi ts ks ∧ SlR tCl 120 (fun k => Dz w0 F k ∨ w.heap.size ≤ k) w' v (ks.map (cellOf a ts)) ∧ Ext none' w w' := by
  have H0 := H
  have hq : ∀ e ∈ R, ∀ x ∈ e.c.key, InK .u8 x := fun e he => (hr.key he).allIn
  have hDz := RRep.dz0s H0
  have hkd := H0.dz 2 3 rfl rfl hr.base
  obtain ⟨av, cv, hv, hlv, hmv⟩ := H0.rowLen 1 rfl
  subst hv
  obtain ⟨q, hqq⟩ : ∃ q : RE → Bool, q = fun e => withinB e.c.key lo hi && decide (upTo e.c.vers ts ≠ [] ∨ e.c.intent.txn ≠ 0) := ⟨_, rfl⟩
  have hqe : ∀ e, q e = (withinB e.c.key lo hi && decide (upTo e.c.vers ts ≠ [] ∨ e.c.intent.txn ≠ 0)) := fun e => by rw [hqq]
  have H := Holds.start w
  refine calls_of_W' Try.func26 rfl Try.ntmps26 rfl ?_
  refine W_seq ?_
  refine W_region ?_
  refine OL_y (y_assign rfl) (by decide) ?_
  refine OL_nil ?_
  refine W_seq ?_
  refine W_region ?_
  refine OL_y (y_assign rfl) (by decide) ?_
  refine OL_nil ?_
  refine W_seq ?_
  refine W_seq ?_
  refine W_region ?_
  refine OL_y (y_move rfl) (by decide) ?_
  refine OL_y (y_nilCheck rfl ⟨_, rfl⟩) (by decide) ?_
  refine OL_y (y_fieldAddr ti66 rfl ti49 rfl rfl) (by decide) ?_
  refine OL_y (y_loadS (v := .slice av R.length cv) ti49 rfl rfl (Cells.unit ((H0.ext0 (H.ext_of 0 rfl)).getOwn 0 rfl) rfl)) (by decide) ?_
  refine OL_y (y_len rfl ti49 rfl) (by decide) ?_
  refine OL_y (y_move rfl) (by decide) ?_
  refine OL_nil ?_
  have H := (H.share (Dz w0 F) (fun k hk => Nat.lt_of_lt_of_le (hDz k hk) (H.ext_of 0 rfl).size) (by intro a ha hx; simp only [List.mem_singleton] at ha; subst ha; cases hx)).rowNil 55 7
  refine W_range (N := R.length) (by simp [maxLen]; omega) (fun i f ds w' => ∃ (v9 : Value) (cs9 : List Value) (Zp : Nat → Prop) (Wq : World), f 1 = vl ∧ f 2 = vh ∧ f 3 = .int .u64 ts ∧ f 9 = v9 ∧ f 18 = .slice av R.length cv ∧ ds = [] ∧ Els tCl Zp Wq cs9 (((R.take i).filter q).map (reCl ts)) ∧ (∀ k, Dz w0 F k → Zp k) ∧ (∀ k, Zp k → Dz w0 F k ∨ w.heap.size ≤ k) ∧
      Holds w' [row 55 7 v9 ((R.take i).filter q).length cs9, shr Zp Wq, shr (fun k => k < w.heap.size) w])
      ⟨.slice none 0 0, [], _, _, rfl, rfl, rfl, rfl, rfl, rfl, Els.nil _ _ _, fun _ h => h, fun _ h => .inl h, H⟩
      rfl rfl (by decide) (by decide) (by decide) rfl rfl ?_ rfl rfl ?_
  · rintro i f ds w3 hi3 ⟨v9, cs9, Zp, Wq, h1, h2, h3, h9, h18, rfl, hE9, hZ, hZn, H⟩ hti htn
    have hxk := List.getElem?_eq_getElem hi3
    have hem := List.getElem_mem hi3
    have HS := H0.ext0 (H.ext_of 2 rfl)
    obtain ⟨br, cr, hvr, -, -⟩ := ownsRow_cells (HS.getRow 1 rfl) (by omega)
    have hC := rowElAt RE.len (HS.getRow 1 rfl) (b := br) (by rw [hvr]; rfl) hxk
    have htk : ((R.take (i + 1)).filter q) = ((R.take i).filter q) ++ [R[i]].filter q := by rw [List.take_add_one, hxk, Option.toList_some, List.filter_append]
    have hcl : ((R.take i).filter q).length ≤ 40000 := Nat.le_trans (List.length_filter_le _ _) (by rw [List.length_take]; omega)
    have hone := tCl.one (hr.good _ hem)
    have hkS := (hr.key hem).keeps hkd
    have hvS := (hr.vers hem).keeps hkd
    have hiS := tVer.keeps (hr.int hem) hkd
    have hva := (hr.va _ hem).1
    generalize R[i] = e at *
    obtain ⟨hsd, hvm⟩ := ha e.k
    rw [hva] at hsd hvm
    obtain ⟨ak, ck, hvk, hlk, hmk⟩ := hkS.len
    obtain ⟨aw, cw, hvw, hlw, hmw⟩ := hvS.len
    rw [hvk] at hkS
    rw [hvw] at hvS
    have hcs : e.cs = [.slice ak e.c.key.length ck, .slice aw e.c.vers.length cw, .int .u64 e.c.intent.ts, .int .u64 e.c.intent.txn, .bool e.c.intent.dead, e.iv, e.ik] := by show [e.vk, e.vs, _, _, _, _, _] = _; rw [hvk, hvw]
    rw [hcs] at hC hone
    have hone12 : ∀ u ∈ [.slice ak e.c.key.length ck, .slice none 0 0, .int .u64 e.c.intent.ts, .int .u64 e.c.intent.txn, .bool e.c.intent.dead, e.iv, e.ik], u.oneCell' = true := by
      intro u hu
      simp only [List.mem_cons, List.not_mem_nil, or_false] at hu
      rcases hu with rfl | rfl | hu
      · rfl
      · rfl
      · exact hone u (by simp only [List.mem_cons, List.not_mem_nil, or_false]; exact .inr (.inr hu))
    have h18' := h18.trans hvr
    refine W_block ?_
    refine W_seq ?_
    refine W_region ?_
    refine OL_y (y_indexAddr ti49 ti55 h18' hti (by omega) (by omega)) (by decide) ?_
    refine OL_y (y_loadA (cs := [.slice ak e.c.key.length ck, .slice aw e.c.vers.length cw, .int .u64 e.c.intent.ts, .int .u64 e.c.intent.txn, .bool e.c.intent.dead, e.iv, e.ik]) ti55 rfl rfl hC rfl) (by decide) ?_
    refine OL_var (v := .agg #[.slice ak e.c.key.length ck, .slice aw e.c.vers.length cw, .int .u64 e.c.intent.ts, .int .u64 e.c.intent.txn, .bool e.c.intent.dead, e.iv, e.ik]) H ti55 rfl (by decide) (fun _ => rfl) rfl (hone) fun b11 w4_2 H => ?_
    refine OL_nil ?_
    refine W_seq ?_
    refine W_region ?_
    refine OL_y (y_fieldAddr ti55 rfl ti23 rfl rfl) (by decide) ?_
    refine OL_y (y_loadS (v := .slice ak e.c.key.length ck) ti23 rfl rfl (Cells.unit (H.getOwn 0 rfl) rfl)) (by decide) ?_
    refine OL_y (y_fieldAddr ti55 rfl ti32 rfl rfl) (by decide) ?_
    refine OL_y (y_loadA (cs := [.int .u64 e.c.intent.ts, .int .u64 e.c.intent.txn, .bool e.c.intent.dead, e.iv, e.ik]) ti32 rfl rfl (Cells.of (H.getOwn 0 rfl) rfl) rfl) (by decide) ?_
    refine OL_y (v := .agg #[.slice ak e.c.key.length ck, .slice none 0 0, .int .u64 e.c.intent.ts, .int .u64 e.c.intent.txn, .bool e.c.intent.dead, e.iv, e.ik]) (y_build ti55 pl55 (by kernel_rfl)) (by decide) ?_
    refine OL_var (v := .agg #[.slice ak e.c.key.length ck, .slice none 0 0, .int .u64 e.c.intent.ts, .int .u64 e.c.intent.txn, .bool e.c.intent.dead, e.iv, e.ik]) H ti55 rfl (by decide) (fun _ => rfl) rfl (hone12) fun b12 w5_5 H => ?_
    refine OL_nil ?_
    refine W_seq ?_
    refine W_seq ?_
    refine W_region ?_
    refine OL_y (y_fieldAddr ti55 rfl ti53 rfl rfl) (by decide) ?_
    refine OL_y (y_loadS (v := .slice aw e.c.vers.length cw) ti53 rfl rfl (Cells.unit (H.getOwn 1 rfl) rfl)) (by decide) ?_
    refine OL_y (y_len rfl ti53 rfl) (by decide) ?_
    refine OL_y (y_move rfl) (by decide) ?_
    refine OL_nil ?_
    have H := H.rowNil 32 5
    refine W_range (N := e.c.vers.length) (by simp [maxLen]; omega) (fun k f ds w' => ∃ (v12 : Value) (cs12 : List Value), f 1 = vl ∧ f 2 = vh ∧ f 3 = .int .u64 ts ∧ f 9 = v9 ∧ f 11 = .pointer (some ⟨b11, 0, none⟩) ∧ f 12 = .pointer (some ⟨b12, 0, none⟩) ∧ f 18 = .slice av R.length cv ∧ f 19 = .int .i64 (R.length : Nat) ∧ f 20 = .int .i64 (i : Nat) ∧ f 30 = .slice aw e.c.vers.length cw ∧ ds = [] ∧ v12.oneCell' = true ∧ v12.cells = #[v12] ∧ Els tVer (Dz w0 F) w cs12 (upTo (e.c.vers.take k) ts) ∧
        Holds w' [row 32 5 v12 (upTo (e.c.vers.take k) ts).length cs12, own b12 (.cells #[.slice ak e.c.key.length ck, v12, .int .u64 e.c.intent.ts, .int .u64 e.c.intent.txn, .bool e.c.intent.dead, e.iv, e.ik] 55), own b11 (.cells #[.slice ak e.c.key.length ck, .slice aw e.c.vers.length cw, .int .u64 e.c.intent.ts, .int .u64 e.c.intent.txn, .bool e.c.intent.dead, e.iv, e.ik] 55), row 55 7 v9 ((R.take i).filter q).length cs9, shr Zp Wq, shr (fun k => k < w.heap.size) w])
        ⟨.slice none 0 0, [], h1, h2, h3, h9, rfl, rfl, h18, htn, hti, rfl, rfl, rfl, rfl, Els.nil _ _ _, H⟩
        rfl rfl (by decide) (by decide) (by decide) rfl rfl ?_ rfl rfl ?_
    · rintro k f ds w7 hk3 ⟨v12, cs12, h1, h2, h3, h9, h11, h12, h18, h19, h20, h30, rfl, h1c, hvc, hE12, H⟩ htk2 htn2
      have hxk2 := List.getElem?_eq_getElem hk3
      obtain ⟨b3, o3, cs3, e3, hz3, hc3, hr3⟩ := hvS.at hxk2
      have hc3' := hc3.ext ((H.keepsAll 5 rfl (Dz w0 F)).2 _ hz3 hc3.lt)
      have hts : upTo (e.c.vers.take (k + 1)) ts = upTo (e.c.vers.take k ++ [e.c.vers[k]]) ts := by rw [List.take_add_one, hxk2]; rfl
      rw [upTo_snoc] at hts
      have hpl : (upTo (e.c.vers.take k) ts).length ≤ 40000 := Nat.le_trans (List.length_filter_le _ _) (by rw [List.length_take]; omega)
      generalize e.c.vers[k] = x at *
      obtain ⟨xv, xk, rfl, hx1, hx2, hx3, hx4⟩ := ver_cells.1 hr3
      have h30' := h30.trans (congrArg (Value.slice · _ _) e3)
      refine W_block ?_
      refine W_seq ?_
      refine W_region ?_
      refine OL_y (y_indexAddr ti53 ti32 h30' htk2 (by omega) (by omega)) (by decide) ?_
      refine OL_y (y_loadA (cs := [.int .u64 x.ts, .int .u64 x.txn, .bool x.dead, xv, xk]) ti32 rfl rfl hc3' rfl) (by decide) ?_
      refine OL_var (v := .agg #[.int .u64 x.ts, .int .u64 x.txn, .bool x.dead, xv, xk]) H ti32 rfl (by decide) (fun _ => rfl) rfl (tVer.one hr3) fun b14 w8_2 H => ?_
      refine OL_nil ?_
      refine W_seq ?_
      refine W_region ?_
      refine OL_y (y_fieldAddr ti32 rfl ti24 rfl rfl) (by decide) ?_
      refine OL_y (y_loadS (v := .int .u64 x.ts) ti24 rfl rfl (Cells.unit (H.getOwn 0 rfl) rfl)) (by decide) ?_
      refine OL_y (y_move h3) (by decide) ?_
      refine OL_y (y_leq rfl rfl) (by decide) ?_
      refine OL_nil ?_
      refine W_cond rfl (fun hc => ?_) (fun hc => ?_)
      · have hle := of_decide_eq_true hc
        refine W_region ?_
        refine OL_y (y_fieldAddr ti55 rfl ti53 rfl h12) (by decide) ?_
        refine OL_y (y_loadS (v := v12) ti53 rfl rfl (Cells.unit (H.getOwn 2 rfl) rfl)) (by decide) ?_
        refine OL_y (y_loadA (cs := [.int .u64 x.ts, .int .u64 x.txn, .bool x.dead, xv, xk]) ti32 rfl rfl (Cells.of (H.getOwn 0 rfl) rfl) rfl) (by decide) ?_
        refine OL_c (op_buildSlice H [.agg #[.int .u64 x.ts, .int .u64 x.txn, .bool x.dead, xv, xk]] ti53 ti32 rfl rfl rfl (by simp [Value.cells]) rfl rfl (by decide) fun b43 w10_3 H => ?_)
        refine OL_c (op_append H 2 rfl rfl ti53 ti32 rfl rfl rfl rfl (Src.row (H.getRow 0 rfl)) rfl (by intro c hc; exact tVer.one hr3 c (by simpa [Value.cells] using hc)) (by omega) (by simp only [maxLen]; omega) (by decide) fun v44 w10_4 H => ?_)
        obtain ⟨a44, c44, rfl, hl44, hm44⟩ := H.rowLen 2 rfl
        have H := H.tail.tail
        refine OL_y (y_fieldAddr ti55 rfl ti53 rfl h12) (by decide) ?_
        refine OL_c (op_store (v := .slice a44 ((upTo (e.c.vers.take k) ts).length + 1) c44) H 1 rfl ti53 rfl rfl rfl (Nat.le_of_ble_eq_true rfl) (by simp [Value.cells, Value.oneCell']) fun w10_6 H => ?_)
        refine OL_nil ?_
        have e2 : upTo (e.c.vers.take (k + 1)) ts = upTo (e.c.vers.take k) ts ++ [x] := by rw [hts, if_pos hle]
        refine ⟨htk2, htn2, .slice a44 ((upTo (e.c.vers.take k) ts).length + 1) c44, cs12 ++ [Value.int .u64 x.ts, .int .u64 x.txn, .bool x.dead, xv, xk], h1, h2, h3, h9, h11, h12, h18, h19, h20, h30, rfl, rfl, rfl, by rw [e2]; exact hE12.snoc hr3, ?_⟩
        rw [e2, List.length_append]; exact H
      · refine W_skip ?_
        have hle := of_decide_eq_false hc
        have e2 : upTo (e.c.vers.take (k + 1)) ts = upTo (e.c.vers.take k) ts := by rw [hts, if_neg hle, List.append_nil]
        refine ⟨htk2, htn2, v12, cs12, h1, h2, h3, h9, h11, h12, h18, h19, h20, h30, rfl, h1c, hvc, by rw [e2]; exact hE12, ?_⟩
        rw [e2]; exact H.tail
    · rintro f ds w7 ⟨v12, cs12, h1, h2, h3, h9, h11, h12, h18, h19, h20, h30, rfl, h1c, hvc, hE12, H⟩ htk2 htn2
      rw [List.take_length] at hE12 H
      have hpl : (upTo e.c.vers ts).length ≤ 40000 := Nat.le_trans (List.length_filter_le _ _) (by omega)
      obtain ⟨a12, c12, hv12, hl12, hm12⟩ := H.rowLen 0 rfl
      subst hv12
      obtain ⟨wb, hwb⟩ : ∃ wb, withinB e.c.key lo hi = wb := ⟨_, rfl⟩
      refine W_seq ?_
      rcases wb with _ | _
      · refine W_region ?_
        refine OL_y (y_fieldAddr ti55 rfl ti23 rfl h11) (by decide) ?_
        refine OL_y (y_loadS (v := .slice ak e.c.key.length ck) ti23 rfl rfl (Cells.unit (H.getOwn 2 rfl) rfl)) (by decide) ?_
        refine OL_y (y_move h1) (by decide) ?_
        refine OL_y (y_move h2) (by decide) ?_
        refine OL_c (op_call 55 en55 rfl [.slice ak e.c.key.length ck, vl, vh] rfl (by decide) ((f55_calls (hkS.keeps (H.keepsAll 5 rfl _)) (hlo.keeps (H.keepsAll 5 rfl _)) (hhi.keeps (H.keepsAll 5 rfl _))).mono ?_))
        rintro e w12_4 ⟨rfl, hE55⟩
        refine ⟨_, rfl, ?_⟩
        have H := H.ext0 hE55
        rw [hwb]
        refine OL_y (y_move (v := .bool false) rfl) (by decide) ?_
        refine OL_s rfl (by decide) rfl rfl (by simp) ?_
        refine OL_s rfl (by decide) rfl rfl (by simp) ?_
        refine OL_s rfl (by decide) rfl rfl (by simp) ?_
        refine OL_s rfl (by decide) rfl rfl (by simp) ?_
        refine OL_s rfl (by decide) rfl rfl (by simp) ?_
        refine OL_u rfl (by decide) rfl (by simp) ?_
        refine OL_u rfl (by decide) rfl (by simp) ?_
        refine OL_u rfl (by decide) rfl (by simp) ?_
        refine OL_u rfl (by decide) rfl (by simp) ?_
        refine OL_s rfl (by decide) rfl rfl (by simp) ?_
        refine OL_y (y_pick (b := false) (v := .bool false) rfl rfl) (by decide) ?_
        refine OL_nil ?_
        refine W_condf rfl ?_
        refine W_skip ?_
        have hqt : [e].filter q = [] := by
          rw [List.filter_cons_of_neg (by rw [hqe, hwb]; simp)]; rfl
        refine ⟨h20, h19, v9, cs9, Zp, Wq, h1, h2, h3, h9, h18, rfl, ?_, hZ, hZn, ?_⟩
        · rw [htk, hqt, List.append_nil]; exact hE9
        · rw [htk, hqt, List.append_nil]; exact H.tail.tail.tail
      · by_cases hn : (0 : Int) < ((upTo e.c.vers ts).length : Nat)
        · refine W_region ?_
          refine OL_y (y_fieldAddr ti55 rfl ti23 rfl h11) (by decide) ?_
          refine OL_y (y_loadS (v := .slice ak e.c.key.length ck) ti23 rfl rfl (Cells.unit (H.getOwn 2 rfl) rfl)) (by decide) ?_
          refine OL_y (y_move h1) (by decide) ?_
          refine OL_y (y_move h2) (by decide) ?_
          refine OL_c (op_call 55 en55 rfl [.slice ak e.c.key.length ck, vl, vh] rfl (by decide) ((f55_calls (hkS.keeps (H.keepsAll 5 rfl _)) (hlo.keeps (H.keepsAll 5 rfl _)) (hhi.keeps (H.keepsAll 5 rfl _))).mono ?_))
          rintro e w12_4 ⟨rfl, hE55⟩
          refine ⟨_, rfl, ?_⟩
          have H := H.ext0 hE55
          rw [hwb]
          refine OL_y (y_move (v := .bool true) rfl) (by decide) ?_
          refine OL_yg rfl (by decide) rfl (y_fieldAddr ti55 rfl ti53 rfl h12) (by decide) ?_
          refine OL_yg rfl (by decide) rfl (y_loadS (v := .slice a12 (upTo e.c.vers ts).length c12) ti53 rfl rfl (Cells.unit (H.getOwn 1 rfl) rfl)) (by decide) ?_
          refine OL_yg rfl (by decide) rfl (y_len rfl ti53 rfl) (by decide) ?_
          refine OL_yg (v := .bool true) rfl (by decide) rfl (y_gtrT hn rfl rfl) (by decide) ?_
          refine OL_yg (v := .bool true) rfl (by decide) rfl (y_move rfl) (by decide) ?_
          refine OL_s rfl (by decide) rfl rfl (by simp) ?_
          refine OL_s rfl (by decide) rfl rfl (by simp) ?_
          refine OL_s rfl (by decide) rfl rfl (by simp) ?_
          refine OL_s rfl (by decide) rfl rfl (by simp) ?_
          refine OL_yg rfl (by decide) rfl (y_pick (b := true) (v := .bool true) rfl rfl) (by decide) ?_
          refine OL_y (y_pick (b := true) (v := .bool true) rfl rfl) (by decide) ?_
          refine OL_nil ?_
          refine W_condt rfl ?_
          have hone9 : ∀ u ∈ [.slice ak e.c.key.length ck, .slice a12 (upTo e.c.vers ts).length c12, .int .u64 e.c.intent.ts, .int .u64 e.c.intent.txn, .bool e.c.intent.dead, e.iv, e.ik], u.oneCell' = true := by
            intro u hu
            simp only [List.mem_cons, List.not_mem_nil, or_false] at hu
            rcases hu with rfl | rfl | hu
            · rfl
            · rfl
            · exact hone u (by simp only [List.mem_cons, List.not_mem_nil, or_false]; exact .inr (.inr hu))
          refine W_region ?_
          refine OL_y (y_move h9) (by decide) ?_
          refine OL_y (y_loadA (cs := [.slice ak e.c.key.length ck, .slice a12 (upTo e.c.vers ts).length c12, .int .u64 e.c.intent.ts, .int .u64 e.c.intent.txn, .bool e.c.intent.dead, e.iv, e.ik]) ti55 rfl h12 (Cells.of (H.getOwn 1 rfl) rfl) rfl) (by decide) ?_
          refine OL_c (op_buildSlice H [.agg #[.slice ak e.c.key.length ck, .slice a12 (upTo e.c.vers ts).length c12, .int .u64 e.c.intent.ts, .int .u64 e.c.intent.txn, .bool e.c.intent.dead, e.iv, e.ik]] ti49 ti55 rfl rfl rfl (by simp [Value.cells]) rfl rfl (by decide) fun b66 w13_2 H => ?_)
          refine OL_c (op_append H 4 rfl rfl ti49 ti55 rfl rfl rfl rfl (Src.row (H.getRow 0 rfl)) rfl (by intro c hc; exact hone9 c (by simpa [Value.cells] using hc)) (by omega) (by simp only [maxLen]; omega) (by decide) fun v67 w13_3 H => ?_)
          refine OL_y (y_assign rfl) (by decide) ?_
          refine OL_nil ?_
          have hqt : [e].filter q = [e] := by
            rw [List.filter_cons_of_pos (by rw [hqe, hwb, Bool.true_and, decide_eq_true_eq]; left; intro h; rw [h] at hn; exact absurd hn (by decide))]; rfl
          have H := H.tail
          have H2 := H.pool rfl 3 rfl
          have hT : tCl.R (fun k => Zp k ∨ (Value.slice a12 (upTo e.c.vers ts).length c12).ownBlock = some k) w13_3 [.slice ak e.c.key.length ck, .slice a12 (upTo e.c.vers ts).length c12, .int .u64 e.c.intent.ts, .int .u64 e.c.intent.txn, .bool e.c.intent.dead, e.iv, e.ik] (reCl ts e) := cl_cells.2 ⟨_, _, _, rfl, (hkS.keeps (H.keepsAll 5 rfl _)).mono fun k _ h => Or.inl (hZ k h), SlR.ofRow (xs := upTo e.c.vers ts) (Z := fun k => Zp k ∨ (Value.slice a12 (upTo e.c.vers ts).length c12).ownBlock = some k) (H.getRow 0 rfl) (by decide) ((hE12.keeps (H.keepsAll 5 rfl _)).mono fun k _ h => Or.inl (hZ k h)) (fun k hk => Or.inr hk) (by omega), tVer.mono (Z' := fun k => Zp k ∨ (Value.slice a12 (upTo e.c.vers ts).length c12).ownBlock = some k) (tVer.keeps hiS (H.keepsAll 5 rfl _)) fun k _ h => Or.inl (hZ k h)⟩
          refine ⟨h20, h19, v67, cs9 ++ [Value.slice ak e.c.key.length ck, .slice a12 (upTo e.c.vers ts).length c12, .int .u64 e.c.intent.ts, .int .u64 e.c.intent.txn, .bool e.c.intent.dead, e.iv, e.ik], fun k => Zp k ∨ (Value.slice a12 (upTo e.c.vers ts).length c12).ownBlock = some k, w13_3, h1, h2, h3, rfl, h18, rfl, ?_, fun k hk => Or.inl (hZ k hk), fun k hk => hk.elim (hZn k) fun hk => .inr (H.fresh 0 5 rfl rfl rfl k hk), ?_⟩
          · rw [htk, hqt, List.map_append]
            exact ((hE9.keeps (H.keeps (i := 4) rfl)).mono fun _ _ h => .inl h).snoc hT
          · rw [htk, hqt, List.length_append]; exact H2.tail.tail
        · refine W_region ?_
          refine OL_y (y_fieldAddr ti55 rfl ti23 rfl h11) (by decide) ?_
          refine OL_y (y_loadS (v := .slice ak e.c.key.length ck) ti23 rfl rfl (Cells.unit (H.getOwn 2 rfl) rfl)) (by decide) ?_
          refine OL_y (y_move h1) (by decide) ?_
          refine OL_y (y_move h2) (by decide) ?_
          refine OL_c (op_call 55 en55 rfl [.slice ak e.c.key.length ck, vl, vh] rfl (by decide) ((f55_calls (hkS.keeps (H.keepsAll 5 rfl _)) (hlo.keeps (H.keepsAll 5 rfl _)) (hhi.keeps (H.keepsAll 5 rfl _))).mono ?_))
          rintro e w12_4 ⟨rfl, hE55⟩
          refine ⟨_, rfl, ?_⟩
          have H := H.ext0 hE55
          rw [hwb]
          refine OL_y (y_move (v := .bool true) rfl) (by decide) ?_
          refine OL_yg rfl (by decide) rfl (y_fieldAddr ti55 rfl ti53 rfl h12) (by decide) ?_
          refine OL_yg rfl (by decide) rfl (y_loadS (v := .slice a12 (upTo e.c.vers ts).length c12) ti53 rfl rfl (Cells.unit (H.getOwn 1 rfl) rfl)) (by decide) ?_
          refine OL_yg rfl (by decide) rfl (y_len rfl ti53 rfl) (by decide) ?_
          refine OL_yg (v := .bool false) rfl (by decide) rfl (y_gtrF hn rfl rfl) (by decide) ?_
          refine OL_yg (v := .bool false) rfl (by decide) rfl (y_move rfl) (by decide) ?_
          refine OL_yg rfl (by decide) rfl (y_fieldAddr ti55 rfl ti32 rfl h12) (by decide) ?_
          refine OL_yg rfl (by decide) rfl (y_fieldAddr ti32 rfl ti24 rfl rfl) (by decide) ?_
          refine OL_yg rfl (by decide) rfl (y_loadS (v := .int .u64 e.c.intent.txn) ti24 rfl rfl (Cells.unit (H.getOwn 1 rfl) rfl)) (by decide) ?_
          refine OL_yg rfl (by decide) rfl (y_neq rfl rfl) (by decide) ?_
          refine OL_yg rfl (by decide) rfl (y_pick (b := false) rfl rfl) (by decide) ?_
          refine OL_y (y_pick (b := true) rfl rfl) (by decide) ?_
          refine OL_nil ?_
          refine W_cond rfl (fun hc => ?_) (fun hc => ?_)
          · have hone9 : ∀ u ∈ [.slice ak e.c.key.length ck, .slice a12 (upTo e.c.vers ts).length c12, .int .u64 e.c.intent.ts, .int .u64 e.c.intent.txn, .bool e.c.intent.dead, e.iv, e.ik], u.oneCell' = true := by
              intro u hu
              simp only [List.mem_cons, List.not_mem_nil, or_false] at hu
              rcases hu with rfl | rfl | hu
              · rfl
              · rfl
              · exact hone u (by simp only [List.mem_cons, List.not_mem_nil, or_false]; exact .inr (.inr hu))
            refine W_region ?_
            refine OL_y (y_move h9) (by decide) ?_
            refine OL_y (y_loadA (cs := [.slice ak e.c.key.length ck, .slice a12 (upTo e.c.vers ts).length c12, .int .u64 e.c.intent.ts, .int .u64 e.c.intent.txn, .bool e.c.intent.dead, e.iv, e.ik]) ti55 rfl h12 (Cells.of (H.getOwn 1 rfl) rfl) rfl) (by decide) ?_
            refine OL_c (op_buildSlice H [.agg #[.slice ak e.c.key.length ck, .slice a12 (upTo e.c.vers ts).length c12, .int .u64 e.c.intent.ts, .int .u64 e.c.intent.txn, .bool e.c.intent.dead, e.iv, e.ik]] ti49 ti55 rfl rfl rfl (by simp [Value.cells]) rfl rfl (by decide) fun b66 w13_2 H => ?_)
            refine OL_c (op_append H 4 rfl rfl ti49 ti55 rfl rfl rfl rfl (Src.row (H.getRow 0 rfl)) rfl (by intro c hc; exact hone9 c (by simpa [Value.cells] using hc)) (by omega) (by simp only [maxLen]; omega) (by decide) fun v67 w13_3 H => ?_)
            refine OL_y (y_assign rfl) (by decide) ?_
            refine OL_nil ?_
            have hne := of_decide_eq_true hc
            have hqt : [e].filter q = [e] := by
              rw [List.filter_cons_of_pos (by rw [hqe, hwb, Bool.true_and, decide_eq_true_eq]; right; exact hne)]; rfl
            have H := H.tail
            have H2 := H.pool rfl 3 rfl
            have hT : tCl.R (fun k => Zp k ∨ (Value.slice a12 (upTo e.c.vers ts).length c12).ownBlock = some k) w13_3 [.slice ak e.c.key.length ck, .slice a12 (upTo e.c.vers ts).length c12, .int .u64 e.c.intent.ts, .int .u64 e.c.intent.txn, .bool e.c.intent.dead, e.iv, e.ik] (reCl ts e) := cl_cells.2 ⟨_, _, _, rfl, (hkS.keeps (H.keepsAll 5 rfl _)).mono fun k _ h => Or.inl (hZ k h), SlR.ofRow (xs := upTo e.c.vers ts) (Z := fun k => Zp k ∨ (Value.slice a12 (upTo e.c.vers ts).length c12).ownBlock = some k) (H.getRow 0 rfl) (by decide) ((hE12.keeps (H.keepsAll 5 rfl _)).mono fun k _ h => Or.inl (hZ k h)) (fun k hk => Or.inr hk) (by omega), tVer.mono (Z' := fun k => Zp k ∨ (Value.slice a12 (upTo e.c.vers ts).length c12).ownBlock = some k) (tVer.keeps hiS (H.keepsAll 5 rfl _)) fun k _ h => Or.inl (hZ k h)⟩
            refine ⟨h20, h19, v67, cs9 ++ [Value.slice ak e.c.key.length ck, .slice a12 (upTo e.c.vers ts).length c12, .int .u64 e.c.intent.ts, .int .u64 e.c.intent.txn, .bool e.c.intent.dead, e.iv, e.ik], fun k => Zp k ∨ (Value.slice a12 (upTo e.c.vers ts).length c12).ownBlock = some k, w13_3, h1, h2, h3, rfl, h18, rfl, ?_, fun k hk => Or.inl (hZ k hk), fun k hk => hk.elim (hZn k) fun hk => .inr (H.fresh 0 5 rfl rfl rfl k hk), ?_⟩
            · rw [htk, hqt, List.map_append]
              exact ((hE9.keeps (H.keeps (i := 4) rfl)).mono fun _ _ h => .inl h).snoc hT
            · rw [htk, hqt, List.length_append]; exact H2.tail.tail
          · refine W_skip ?_
            have hne := of_decide_eq_false hc
            have hnil : upTo e.c.vers ts = [] := List.eq_nil_of_length_eq_zero (by omega)
            have hqt : [e].filter q = [] := by
              rw [List.filter_cons_of_neg (by rw [hqe, hwb, hnil, Bool.true_and, decide_eq_true_eq]; intro h; rcases h with h | h; exact h rfl; exact hne h)]; rfl
            refine ⟨h20, h19, v9, cs9, Zp, Wq, h1, h2, h3, h9, h18, rfl, ?_, hZ, hZn, ?_⟩
            · rw [htk, hqt, List.append_nil]; exact hE9
            · rw [htk, hqt, List.append_nil]; exact H.tail.tail.tail
  · rintro f ds w3 ⟨v9, cs9, Zp, Wq, h1, h2, h3, h9, h18, rfl, hE9, hZ, hZn, H⟩ hti htn
    rw [List.take_length] at hE9 H
    refine W_seq ?_
    refine W_region ?_
    refine OL_y (y_move h9) (by decide) ?_
    refine OL_y (y_assign rfl) (by decide) ?_
    refine OL_nil ?_
    refine W_ret ?_
    show RetOK _ _ _ _ _ _
    have hcl : (R.filter q).length ≤ 40000 := Nat.le_trans (List.length_filter_le _ _) hl
    have hun : ((R.filter q).map RE.k).map (cellOf a ts) = (R.filter q).map (reCl ts) := by
      rw [List.map_map]; apply List.map_congr_left; intro e he
      have he' := (List.mem_filter.1 he).1
      show (⟨unkb (kb e.c.key), upTo (a.v e.k) ts, a.i e.k⟩ : Cl) = _
      rw [unkb_kb (hq e he'), (hr.va e he').1, (hr.va e he').2]
    refine ret1 (v := v9) Try.results26 rfl ⟨_, (R.filter q).map RE.k, rfl, ⟨hr.rise.sublist (List.Sublist.map _ List.filter_sublist), fun k => ?_⟩, ?_, H.ext_of 2 rfl⟩
    · rw [List.mem_map]
      constructor
      · rintro ⟨e, he, rfl⟩
        obtain ⟨h1, h2⟩ := List.mem_filter.1 he
        rw [hqe, Bool.and_eq_true, decide_eq_true_eq] at h2
        unfold shown
        rw [(hr.va e h1).2, (hr.va e h1).1, unkb_kb (hq e h1)]
        exact h2
      · intro h1
        have hin : k ∈ R.map RE.k := Classical.byContradiction fun hn => by
          have := hr.vn k hn
          unfold shown at h1
          rw [this.1, this.2] at h1; rcases h1.2 with h1 | h1 <;> exact h1 rfl
        obtain ⟨e, he, rfl⟩ := List.mem_map.1 hin
        refine ⟨e, List.mem_filter.2 ⟨he, ?_⟩, rfl⟩
        unfold shown at h1
        rw [(hr.va e he).2, (hr.va e he).1, unkb_kb (hq e he)] at h1
        rw [hqe, Bool.and_eq_true, decide_eq_true_eq]
        exact h1
    · rw [hun]
      exact SlR.ofRow (H.getRow 0 rfl) (by decide) ((hE9.keeps (H.keeps (i := 1) rfl)).mono fun k _ h => hZn k h) (fun k hk => .inr (H.fresh 0 2 rfl rfl rfl k hk)) (by rw [List.length_map]; omega)
end Go.Proofs.Ytpandioolpnihaa

namespace Go.Wk
open Go
set_option linter.unusedVariables false
section
variable {P : Program} {l : Option Nat} {n : Nat} {Q : PQ} {f : Fr} {ds : List Deferred} {w : World} {ops : List Oper} {bs : List Nat} {S0 : World → Prop} {fuel : Nat} {listed : List Bool}
theorem DA_x (i : Nat) {o : Oper} (hi : ops[i]? = some o) (hok : okT ops listed i = true) (hb : bs.contains i = false) (hw : ∀ a, Fits n f a → Region.wanted o (yielded ops.toArray a.tmps) = false)
    (hS : Sx bs S0 listed.toArray w) (hd : ∀ d, o.dst = some d → d < n)
    (k : Sx bs S0 (listed.set i true).toArray w → DA P n ops bs S0 Q fuel (listed.set i true) (updO f o.dst undef) ds w) : DA P n ops bs S0 Q (fuel + 1) listed f ds w := fun hc a ha he => by
  simp only [okT, Bool.and_eq_true] at hok
  obtain ⟨⟨h1, h2⟩, h3⟩ := hok
  have hi' : ops.toArray[i]? = some o := by simpa using hi
  have hr : i ∈ Region.ready .any ops.toArray listed.toArray := by simpa using h3
  have hnb : i ∉ bs := fun h => by rw [List.contains_eq_mem, decide_eq_false_iff_not] at hb; exact hb h
  have hset : (listed.set i true).toArray = listed.toArray.setIfInBounds i true := by simp
  have hS2 : Sx bs S0 (listed.set i true).toArray w := by rw [hset]; exact (Sx_set hnb _ _).2 hS
  refine wpAnyS_first hi' (Region.noSelect_spec h1) (fun c a w h => h.elim) (Sx_set hnb) fuel _ a w hc (Region.free_spec hi' h2) hr ?_ hS ?_ (v := undef)
  · exact .inr ⟨hw a ha, rfl⟩
  · have := k hS2 (by rw [hset]; exact hc.set hr) _ (ha.putO hd undef) (by cases o.dst <;> exact he)
    rw [hset] at this; exact this
/-- The guard says otherwise. -/
theorem DA_s (i : Nat) {dst : Option Nat} {op : Op} {ty : Nat} {p : String} {af : Array Edge} {j dj : Nat} {b b' : Bool} (hi : ops[i]? = some ⟨dst, op, ty, p, af, some (j, b)⟩) (hj : (ops.toArray[j]?).bind (·.dst) = some dj) (hdj : dj < n) (hbv : f dj = .bool b') (hne : (b' == b) = false) (hok : okT ops listed i = true) (hb : bs.contains i = false)
    (hS : Sx bs S0 listed.toArray w) (hd : ∀ d, dst = some d → d < n) (k : Sx bs S0 (listed.set i true).toArray w → DA P n ops bs S0 Q fuel (listed.set i true) (updO f dst undef) ds w) : DA P n ops bs S0 Q (fuel + 1) listed f ds w :=
  DA_x i hi hok hb (fun a ha => by simp only [Region.wanted, yielded_at ha hj hdj hbv]; cases b <;> cases b' <;> simp_all) hS hd k
end
end Go.Wk

namespace Go.Wk
open Go
set_option linter.unusedVariables false
set_option linter.unusedSimpArgs false

/-- Two exclusive parts as one. -/
theorem Holds.mergeX {w : World} {L : List Atom} {a b : Atom} (H : Holds w (a :: L)) (hx : a.excl = true) (i : Nat) (hi : L[i]? = some b) (hb : b.excl = true) : Holds w (L.set i (exc (fun k => b.F k ∨ a.F k) w)) := by
  have hT := H.tail
  have hlt : i < L.length := (List.getElem?_eq_some_iff.1 hi).1
  have hap := getElem_apart hT.apart hi
  have hha := (List.pairwise_cons.1 H.apart).1
  have hZ := (hT.ok _ (List.mem_of_getElem? hi)).2.1
  have hA := (H.ok a (by simp)).2.1
  refine ⟨fun b hm => ?_, pairwise_set hT.apart hlt fun b hm e k hk hbk => ?_⟩
  · rcases List.mem_or_eq_of_mem_set hm with hm | rfl
    · exact hT.ok b hm
    · exact exc_ok fun k hk => hk.elim (hZ k) (hA k)
  · rcases hk with hk | hk
    · exact hap b hm (.inl hb) k hk hbk
    · exact hha b (List.mem_of_mem_eraseIdx hm) (.inl hx) k hk hbk

/-- What the loop that ranges owes; hx x: what comes with x, and is the loop's from then on. -/
structure RangerH {α : Type} (P : Program) (enc : α → Value) (hx : α → Atom) (Qp : List α → Prop) (n0 : Nat) (l : Nat) (J Jx : List α → (Nat → Prop) → World → Prop) : Prop where
  stable : ∀ pre B w w', J pre B w → w.heap.size ≤ w'.heap.size → w'.os = w.os → w'.tape = w.tape → w'.output = w.output → (∀ k, k < w.heap.size → (B k ∨ k < n0) → w'.heap[k]? = w.heap[k]?) → J pre B w'
  stablex : ∀ pre B w w', Jx pre B w → w.heap.size ≤ w'.heap.size → w'.os = w.os → w'.tape = w.tape → w'.output = w.output → (∀ k, k < w.heap.size → (B k ∨ k < n0) → w'.heap[k]? = w.heap[k]?) → Jx pre B w'
  bnd : ∀ pre B w, J pre B w → n0 ≤ w.heap.size ∧ ∀ k, B k → k < w.heap.size
  bndx : ∀ pre B w, Jx pre B w → n0 ≤ w.heap.size ∧ ∀ k, B k → k < w.heap.size
  round : ∀ pre x B W, J pre B W → Qp (pre ++ [x]) → (hx x).ok W → (hx x).excl = true → (∀ k, (hx x).F k → ¬ B k ∧ n0 ≤ k) → YieldAt P l (enc x) W fun e W' => ∃ B', Ext (fun k => B k ∨ (hx x).F k) W W' ∧ (∀ k, B' k → B k ∨ (hx x).F k ∨ W.heap.size ≤ k) ∧
    ((e = .returned (.bool true) ∧ J (pre ++ [x]) B' W') ∨ (e = .returned (.bool false) ∧ Jx (pre ++ [x]) B' W'))

/-- What an iterator owes. -/
def IterH {α : Type} (P : Program) (k : FuncId) (cap : List Value) (enc : α → Value) (hx : α → Atom) (Qp Ee : List α → Prop) (w : World) : Prop :=
  ∀ l B J Jx, RangerH P enc hx Qp w.heap.size l J Jx → J [] B w →
    Calls P k (.func (.yield l) #[] #[] :: cap).toArray w fun e w' => (∃ v, e = .returned v) ∧ ∃ B', Ext B w w' ∧ (∀ k, B' k → B k ∨ w.heap.size ≤ k) ∧ ((∃ xs, Ee xs ∧ J xs B' w') ∨ ∃ pre, Qp pre ∧ Jx pre B' w')

section
variable {α : Type} {P : Program} {enc : α → Value} {hx : α → Atom} {Qp Ee : List α → Prop} {l : Nat} {J Jx : List α → (Nat → Prop) → World → Prop} {w W0 W : World} {B0 B : Nat → Prop} {L : List Atom} {pre : List α}
theorem RangerH.start (hR : RangerH P enc hx Qp w.heap.size l J Jx) (hJ : J [] B w) : Holds w [aB B B w, aZ B w] ∧ ItInv w w B B := by
  have hb := (hR.bnd _ _ _ hJ).2
  refine ⟨(((Holds.nil w).cons (a := aZ B w) ⟨⟨Nat.le_refl _, rfl, rfl, rfl, fun _ _ => rfl⟩, fun k h => h.1, shr_stable fun k h => h.1⟩ (by simp)).cons (exc_ok fun k h => hb k (h.elim id id)) ?_), fun k h => .inl h, fun _ _ _ => rfl, Nat.le_refl _, fun k h => hb k (h.elim id id)⟩
  intro b hm _ k hk hF
  simp only [List.mem_singleton] at hm; subst hm
  exact hF.2 (hk.elim id id)
/-- Before the first yield: all that lay there lies there still. -/
theorem ItInv.first (hi : ItInv w w B B) (H : Holds W L) {i j : Nat} (h1 : L[i]? = some (aB B B w)) (h2 : L[j]? = some (aZ B w)) : Ext none' w W := by
  obtain ⟨a, b, c, d, _⟩ := H.get h1
  exact ⟨b, c, d, a, fun k hk _ => hi.agree H h1 h2 k hk (.inr hk)⟩
theorem RangerH.at (hR : RangerH P enc hx Qp w.heap.size l J Jx) (hJ : J pre B W0) (hi : ItInv w W0 B0 B) (H : Holds W L) {i j : Nat} (h1 : L[i]? = some (aB B B0 W0)) (h2 : L[j]? = some (aZ B0 w)) : J pre B W := by
  obtain ⟨a, b, c, d, _⟩ := H.get h1
  exact hR.stable pre B W0 W hJ a b c d (hi.agree H h1 h2)
theorem RangerH.atx (hR : RangerH P enc hx Qp w.heap.size l J Jx) (hJ : Jx pre B W0) (hi : ItInv w W0 B0 B) (H : Holds W L) {i j : Nat} (h1 : L[i]? = some (aB B B0 W0)) (h2 : L[j]? = some (aZ B0 w)) : Jx pre B W := by
  obtain ⟨a, b, c, d, _⟩ := H.get h1
  exact hR.stablex pre B W0 W hJ a b c d (hi.agree H h1 h2)
/-- A call of yield. -/
theorem RangerH.yield (hR : RangerH P enc hx Qp w.heap.size l J Jx) (hJ : J pre B W0) (hi : ItInv w W0 B0 B) {x : α} (H : Holds W (hx x :: L)) (i j : Nat) (h1 : L[i]? = some (aB B B0 W0)) (h2 : L[j]? = some (aZ B0 w)) (hex : (hx x).excl = true) (hnew : ∀ k, (hx x).F k → w.heap.size ≤ k) (hq : Qp (pre ++ [x])) :
    YieldAt P l (enc x) W fun e W' => (e = .returned (.bool true) ∧ ∃ B', J (pre ++ [x]) B' W' ∧ ItInv w W' B0 B' ∧ Holds W' (L.set i (aB B' B0 W'))) ∨ (e = .returned (.bool false) ∧ ∃ B', Jx (pre ++ [x]) B' W' ∧ ItInv w W' B0 B' ∧ Holds W' (L.set i (aB B' B0 W'))) := by
  have hap := (List.pairwise_cons.1 H.apart).1 _ (List.mem_of_getElem? h1)
  obtain ⟨fn, tmps, assign, body, hy, hr⟩ := hR.round pre x B W (hR.at hJ hi H.tail h1 h2) hq (H.ok _ (by simp)) hex fun k hk => ⟨fun hB => hap (.inl hex) k hk (.inl hB), hnew k hk⟩
  refine ⟨fn, tmps, assign, body, hy, hr.mono ?_⟩
  rintro e W' ⟨B', hE, hB', hor⟩
  have hlti : i < L.length := (List.getElem?_eq_some_iff.1 h1).1
  have H2 := H.mergeX hex i h1 rfl
  have h1' : (L.set i (exc (fun k => (B k ∨ B0 k) ∨ (hx x).F k) W))[i]? = some (exc (fun k => (B k ∨ B0 k) ∨ (hx x).F k) W) := List.getElem?_set_self hlti
  have hlt : ∀ k, B k ∨ B0 k → k < W.heap.size := fun k hk => (H.tail.ok _ (List.mem_of_getElem? h1)).2.1 k hk
  have key : (∀ k, B' k → k < W'.heap.size) → ItInv w W' B0 B' ∧ Holds W' (L.set i (aB B' B0 W')) := fun hb' => by
    have hb2 : ∀ k, B' k ∨ B0 k → k < W'.heap.size := fun k hk => hk.elim (hb' k) fun h => Nat.lt_of_lt_of_le (hlt k (.inr h)) hE.size
    have H' := H2.step i h1' rfl (a' := aB B' B0 W') hE (fun k _ hB => hB.elim (fun h => .inl (.inl h)) .inr) (exc_ok hb2) (fun k hk => by
      rcases hk with hk | hk
      · rcases hB' k hk with h | h | h
        · exact .inl (.inl (.inl h))
        · exact .inl (.inr h)
        · exact .inr h
      · exact .inl (.inl (.inr hk)))
    rw [List.set_set] at H'
    refine ⟨⟨fun k hk => ?_, fun k hk hn => ?_, ?_, hb2⟩, H'⟩
    · rcases hB' k hk with h | h | h
      · exact hi.sub k h
      · exact .inr (hnew k h)
      · obtain ⟨a, _⟩ := H.tail.get h2
        exact .inr (by omega)
    · by_cases hB : B k ∨ (hx x).F k
      · rcases hB with hB | hB
        · rcases hi.sub k hB with h | h
          · exact (hn h).elim
          · omega
        · have := hnew k hB; omega
      · obtain ⟨a, _, _, _, e⟩ := H.tail.get h2
        exact (hE.blk k (by omega) hB).trans (e k ⟨hk, hn⟩)
    · obtain ⟨a, _⟩ := H.tail.get h2
      have := hE.size; omega
  rcases hor with ⟨he, hJ'⟩ | ⟨he, hJ'⟩
  · obtain ⟨k1, k2⟩ := key (hR.bnd _ _ _ hJ').2
    exact .inl ⟨he, B', hJ', k1, k2⟩
  · obtain ⟨k1, k2⟩ := key (hR.bndx _ _ _ hJ').2
    exact .inr ⟨he, B', hJ', k1, k2⟩
/-- The iterator's end: all have come; or the loop was left. -/
theorem RangerH.done (hR : RangerH P enc hx Qp w.heap.size l J Jx) {xs : List α} (hxs : Ee xs) (hJ : J xs B W0) (hi : ItInv w W0 B0 B) (H : Holds W L) (i j : Nat) (h1 : L[i]? = some (aB B B0 W0)) (h2 : L[j]? = some (aZ B0 w)) :
    ∃ B', Ext B0 w W ∧ (∀ k, B' k → B0 k ∨ w.heap.size ≤ k) ∧ ((∃ xs, Ee xs ∧ J xs B' W) ∨ ∃ pre, Qp pre ∧ Jx pre B' W) := ⟨B, ItInv.ext H h2, hi.sub, .inl ⟨xs, hxs, hR.at hJ hi H h1 h2⟩⟩
theorem RangerH.left (hR : RangerH P enc hx Qp w.heap.size l J Jx) (hJ : Jx pre B W0) (hp : Qp pre) (hi : ItInv w W0 B0 B) (H : Holds W L) (i j : Nat) (h1 : L[i]? = some (aB B B0 W0)) (h2 : L[j]? = some (aZ B0 w)) :
    ∃ B', Ext B0 w W ∧ (∀ k, B' k → B0 k ∨ w.heap.size ≤ k) ∧ ((∃ xs, Ee xs ∧ J xs B' W) ∨ ∃ pre, Qp pre ∧ Jx pre B' W) := ⟨B, ItInv.ext H h2, hi.sub, .inr ⟨pre, hp, hR.atx hJ hi H h1 h2⟩⟩
end

section
variable {P : Program} {n : Nat} {Q : PQ} {f : Fr} {ds : List Deferred} {w : World} {L : List Atom}

/-- **THE RULE** for 'for x := range g { .. }' that stands in no other such loop. -/
theorem W_rangeFuncH {α : Type} {g : Operand} {tp : Nat} {assign body : Code} {k : FuncId} {cap : Array Value} (enc : α → Value) (hx : α → Atom) (Qp Ee : List α → Prop) (I : List α → List Atom → Prop) (Ix : Leave → List α → List Atom → Prop)
    (hg : ev f g = .func (.func k) #[] cap) (en : En P k) (htp : tp < n) (H : Holds w L) (hI0 : I [] L)
    (hsh : ∀ pre Ls, I pre Ls → ∀ a ∈ Ls, a.excl = false → ∀ k, a.F k → k < w.heap.size) (hshx : ∀ e pre Ls, Ix e pre Ls → ∀ a ∈ Ls, a.excl = false → ∀ k, a.F k → k < w.heap.size)
    (it : ∀ w', Ext none' w w' → IterH P k cap.toList enc hx Qp Ee w')
    (hbody : ∀ l aL aL' aD aO pre x Ls Wd, I pre Ls → Qp (pre ++ [x]) → Holds Wd (aL :: aD :: aO :: hx x :: Ls) →
      W P (some l) n assign (thenQ (fun f1 ds1 W1 => ∃ Ls1, Holds W1 (aL :: aD :: aO :: Ls1) ∧ ∀ W2, Holds W2 (aL' :: aD :: aO :: Ls1) → W P (some l) n body (bodyQ aL' aD aO I Ix (pre ++ [x])) f1 ds1 W2) (fun _ _ _ _ => False)) (upd f tp (enc x)) [] Wd)
    (hdone : ∀ D xs Ls W, Ee xs → I xs Ls → Holds W (own D (.deferred (some [])) :: Ls) → Q .normal f ({ target := .collected D, args := #[] } :: ds) W)
    (hexit : ∀ D pre Ls W e, Qp pre → Ix e pre Ls → Holds W (own D (.deferred (some [])) :: Ls) → Q e.out f ({ target := .collected D, args := #[] } :: ds) W) :
    W P none n (.rangeFunc g #[tp] assign body) Q f ds w := fun a ha hd => by
  refine wpIn_rangeFunc fun fn _ => ?_
  let D := w.heap.size
  let l := w.heap.size + 1
  let rec0 (st : LoopState) (j : Option Code) : Loop := { state := st, pending := j, fn, tmps := a.tmps, params := #[tp], assign, body, defers := D }
  let w1 := (w.alloc (.deferred (some []))).alloc (.loop (rec0 .ready none))
  have e1 : Ext none' w w1 := (Ext.alloc _ _ _).trans (Ext.alloc _ _ _)
  have hs1 : w1.heap.size = w.heap.size + 2 := by show ((w.alloc _).alloc _).heap.size = _; simp [World.size_alloc]
  have H1 : Holds w1 (own l (.loop (rec0 .ready none)) :: own D (.deferred (some [])) :: L) := by
    have := (H.alloc (.deferred (some []))).alloc (.loop (rec0 .ready none))
    rw [World.size_alloc] at this; exact this
  -- what the loop stands on
  let J (pre : List α) (B : Nat → Prop) (W : World) : Prop := ∃ Ls, I pre Ls ∧ Holds W (own l (.loop (rec0 .ready none)) :: own D (.deferred (some [])) :: Ls) ∧ (w1.heap.size ≤ W.heap.size) ∧ ∀ k, B k ↔ feet w1.heap.size (own l (.loop (rec0 .ready none)) :: own D (.deferred (some [])) :: Ls) k
  let Jx (pre : List α) (B : Nat → Prop) (W : World) : Prop := ∃ e Ls, Ix e pre Ls ∧ Holds W (own l (.loop (rec0 .done (some e.code))) :: own D (.deferred (some [])) :: Ls) ∧ (w1.heap.size ≤ W.heap.size) ∧ ∀ k, B k ↔ feet w1.heap.size (own l (.loop (rec0 .done (some e.code))) :: own D (.deferred (some [])) :: Ls) k
  have hrg : RangerH P enc hx Qp w1.heap.size l J Jx := by
    refine ⟨?_, ?_, ?_, ?_, ?_⟩
    · rintro pre B W W' ⟨Ls, h1, h2, h3, h4⟩ hs ho ht hou hk
      exact ⟨Ls, h1, h2.agree (n0 := w1.heap.size) hs ho ht hou fun k hl hf => hk k hl (hf.imp (h4 k).2 id), by omega, h4⟩
    · rintro pre B W W' ⟨e, Ls, h1, h2, h3, h4⟩ hs ho ht hou hk
      exact ⟨e, Ls, h1, h2.agree (n0 := w1.heap.size) hs ho ht hou fun k hl hf => hk k hl (hf.imp (h4 k).2 id), by omega, h4⟩
    · rintro pre B W ⟨Ls, h1, h2, h3, h4⟩
      exact ⟨h3, fun k hk => by obtain ⟨a, ha, hF, _⟩ := (h4 k).1 hk; exact (h2.ok a ha).2.1 k hF⟩
    · rintro pre B W ⟨e, Ls, h1, h2, h3, h4⟩
      exact ⟨h3, fun k hk => by obtain ⟨a, ha, hF, _⟩ := (h4 k).1 hk; exact (h2.ok a ha).2.1 k hF⟩
    · rintro pre x B W ⟨Ls, h1, h2, h3, h4⟩ hpre hok hex hnb
      have hrec := h2.getOwn 0 rfl
      refine ⟨fn, a.tmps.setIfInBounds tp (enc x), assign, body, ?_, ?_⟩
      · rw [run_yield hrec (by simp [rec0])]; simp [rec0]
      -- what lies beside the loop stays
      let aO : Atom := shr (fun k => k < W.heap.size ∧ ¬ (B k ∨ (hx x).F k)) W
      have h2X : Holds W (hx x :: own l (.loop (rec0 .ready none)) :: own D (.deferred (some [])) :: Ls) := h2.cons hok fun b hb _ k hk hF => by
        by_cases hbx : b.excl = true
        · exact (hnb k hk).1 ((h4 k).2 ⟨b, hb, hF, .inl hbx⟩)
        · have hbm : b ∈ Ls := by
            simp only [List.mem_cons] at hb
            rcases hb with rfl | rfl | hb
            · exact absurd rfl hbx
            · exact absurd rfl hbx
            · exact hb
          have h5 := hsh _ _ h1 b hbm (by simpa using hbx) k hF
          have h6 := (hnb k hk).2
          omega
      have h2O : Holds W (own l (.loop (rec0 .ready none)) :: own D (.deferred (some [])) :: aO :: hx x :: Ls) := by
        have h := h2X.share (fun k => k < W.heap.size ∧ ¬ (B k ∨ (hx x).F k)) (fun k h => h.1) (fun b hb hxx k hk hF => by
          rcases List.mem_cons.1 hb with rfl | hb
          · exact hk.2 (.inr hF)
          · exact hk.2 (.inl ((h4 k).2 ⟨b, hb, hF, .inl hxx⟩)))
        exact h.perm (by
          have p1 : (aO :: hx x :: own l (.loop (rec0 .ready none)) :: own D (.deferred (some [])) :: Ls).Perm (own l (.loop (rec0 .ready none)) :: own D (.deferred (some [])) :: ([aO, hx x] ++ Ls)) := by
            have := List.perm_append_comm (l₁ := [aO, hx x]) (l₂ := [own l (.loop (rec0 .ready none)), own D (.deferred (some []))])
            exact (this.append_right Ls)
          exact p1)
      have hb := hbody l (own l (.loop (rec0 .ready none))) (own l (.loop (rec0 .busy none))) (own D (.deferred (some []))) aO pre x Ls W h1 hpre h2O
      refine roundIn_of_wpIn trivial ?_
      have hfe : Fence.wide.inRound l = fe (some l) := rfl
      rw [hfe]
      refine wpIn_mono (hb _ (fits_param ha htp (enc x)) rfl) ?_
      rintro e a1 W1 ⟨f1, hf1, q⟩
      cases e with
      | normal =>
        obtain ⟨Ls1, hL1, hW2⟩ := q
        have hr1 := hL1.getOwn 0 rfl
        refine ⟨_, run_beginRound hr1 rfl, ?_⟩
        have hL2 := hL1.put 0 rfl (.loop (rec0 .busy none))
        refine wpIn_mono (hW2 _ hL2 a1 hf1 rfl) ?_
        -- the round's end
        have fin : ∀ (Ls2 : List Atom) (W3 : World) (st : LoopState) (j : Option Code), (∀ a ∈ Ls2, a.excl = false → ∀ k, a.F k → k < w.heap.size) → Holds W3 (own l (.loop (rec0 .busy none)) :: own D (.deferred (some [])) :: aO :: Ls2) →
            Ext (fun k => B k ∨ (hx x).F k) W (W3.putObj l (.loop (rec0 st j))) ∧ (∀ k, feet w1.heap.size (own l (.loop (rec0 st j)) :: own D (.deferred (some [])) :: Ls2) k → B k ∨ (hx x).F k ∨ W.heap.size ≤ k) ∧
            Holds (W3.putObj l (.loop (rec0 st j))) (own l (.loop (rec0 st j)) :: own D (.deferred (some [])) :: Ls2) ∧ w1.heap.size ≤ (W3.putObj l (.loop (rec0 st j))).heap.size := by
          intro Ls2 W3 st j hs2 hH3
          have hH4 := hH3.put 0 rfl (.loop (rec0 st j))
          have hO := hH4.get (i := 2) rfl
          obtain ⟨o1, o2, o3, o4, o5⟩ := hO
          refine ⟨⟨o2, o3, o4, o1, fun k hk hB => o5 k ⟨hk, hB⟩⟩, ?_, hH4.sub (List.Sublist.cons_cons _ (List.Sublist.cons_cons _ (List.Sublist.cons _ (List.Sublist.refl _)))), by omega⟩
          rintro k ⟨b, hb, hF, hor⟩
          by_cases hk : W.heap.size ≤ k
          · exact .inr (.inr hk)
          · refine or_assoc.1 (.inl (Classical.byContradiction fun hB => ?_))
            have hap := getElem_apart hH4.apart (i := 2) (a := aO) rfl
            have hb' : b ∈ (own l (.loop (rec0 st j)) :: own D (.deferred (some [])) :: aO :: Ls2).eraseIdx 2 := by
              simp only [List.eraseIdx_cons_succ, List.eraseIdx_cons_zero]; exact hb
            by_cases hbx : b.excl = true
            · exact hap b hb' (.inr hbx) k ⟨by omega, hB⟩ hF
            · rcases hor with hor | hor
              · exact hbx hor
              · have hbm : b ∈ Ls2 := by
                  simp only [List.mem_cons] at hb
                  rcases hb with rfl | rfl | hb
                  · exact absurd rfl hbx
                  · exact absurd rfl hbx
                  · exact hb
                have := hs2 b hbm (by simpa using hbx) k hF
                omega
        rintro e2 a2 W3 ⟨f3, hf3, q3⟩
        cases e2 with
        | normal =>
          obtain ⟨Ls2, hI2, hH3⟩ := q3
          obtain ⟨g1, g2, g3, g4⟩ := fin Ls2 W3 .ready none (hsh _ _ hI2) hH3
          exact ⟨_, _, run_endRound none (hH3.getOwn 0 rfl), _, g1, g2, .inl ⟨rfl, Ls2, hI2, g3, g4, fun k => Iff.rfl⟩⟩
        | ret =>
          obtain ⟨Ls2, hI2, hH3⟩ := q3
          obtain ⟨g1, g2, g3, g4⟩ := fin Ls2 W3 .done (some .ret) (hshx _ _ _ hI2) hH3
          exact ⟨_, _, run_endRound (some .ret) (hH3.getOwn 0 rfl), _, g1, g2, .inr ⟨rfl, .ret, Ls2, hI2, g3, g4, fun k => Iff.rfl⟩⟩
        | exit i =>
          obtain ⟨Ls2, hI2, hH3⟩ := q3
          obtain ⟨g1, g2, g3, g4⟩ := fin Ls2 W3 .done (some (.exit i)) (hshx _ _ _ hI2) hH3
          exact ⟨_, _, run_endRound (some (.exit i)) (hH3.getOwn 0 rfl), _, g1, g2, .inr ⟨rfl, .exit i, Ls2, hI2, g3, g4, fun k => Iff.rfl⟩⟩
        | goto i =>
          obtain ⟨Ls2, hI2, hH3⟩ := q3
          obtain ⟨g1, g2, g3, g4⟩ := fin Ls2 W3 .done (some (.goto i)) (hshx _ _ _ hI2) hH3
          exact ⟨_, _, run_endRound (some (.goto i)) (hH3.getOwn 0 rfl), _, g1, g2, .inr ⟨rfl, .goto i, Ls2, hI2, g3, g4, fun k => Iff.rfl⟩⟩
        | panic c => exact q3.elim
        | outgrown => exact q3.elim
      | exit i => exact q.elim
      | goto i => exact q.elim
      | ret => exact q.elim
      | panic c => exact q.elim
      | outgrown => exact q.elim
  have hJ0 : J [] (fun k => feet w1.heap.size (own l (.loop (rec0 .ready none)) :: own D (.deferred (some [])) :: L) k) w1 := ⟨L, hI0, H1, Nat.le_refl _, fun k => Iff.rfl⟩
  have hcall := it w1 e1 l _ J Jx hrg hJ0
  refine ⟨l, [{ target := .collected D, args := #[] }], w1, { target := .fn (.func k) cap, args := #[.func (.yield l) #[] #[]] }, w1, k, (.func (.yield l) #[] #[] :: cap.toList).toArray, w1, ?_, ?_, fun _ _ => trivial, ?_, fun h => (by cases h), ?_⟩
  · exact run_enterLoop_outer fn a.tmps #[tp] assign body
  · have hg' : a.eval g = .func (.func k) #[] cap := by rw [ha.eval]; exact hg
    have hm : (#[Operand.const (.func (.yield l) #[] #[])] : Array Operand).map a.eval = #[.func (.yield l) #[] #[]] := by simp; rfl
    simp only [resolve, rangeCall, hg', hm, Deferred.ofValue]
    rfl
  · have := en (#[.func (.yield l) #[] #[]] ++ cap) w1
    simp only [invoke]
    rw [this]; congr 2
    simp
  · refine (callsIn_wide.2 hcall).mono ?_
    rintro e w3 ⟨⟨v, rfl⟩, B', hE, hB', hJ⟩
    have hrec : ∀ st j (Ls : List Atom) W, Holds W (own l (.loop (rec0 st j)) :: own D (.deferred (some [])) :: Ls) → st ≠ .busy → (Instr.endLoop l).run P W = .ok j (W.putObj l (.loop (rec0 .exhausted j))) := fun st j Ls W hH hst => run_endLoop (hH.getOwn 0 rfl) hst
    have hfd : Fits n f { tmps := a.tmps, defers := [{ target := .collected D, args := #[] }] ++ a.defers } := ⟨ha.1, ha.2⟩
    rcases hJ with ⟨xs, hxs, Ls, hI, hH, _, _⟩ | ⟨pre, hpre, e, Ls, hI, hH, _, _⟩
    · refine ⟨none, _, hrec _ _ _ _ hH (by simp), f, hfd, ?_⟩
      have := (hH.put 0 rfl (.loop (rec0 .exhausted none))).tail
      have hq := hdone D xs Ls _ hxs hI this
      simpa [hd] using hq
    · refine ⟨some e.code, _, hrec _ _ _ _ hH (by simp), ?_⟩
      have hH' := (hH.put 0 rfl (.loop (rec0 .exhausted (some e.code)))).tail
      have hq := hexit D pre Ls _ e hpre hI hH'
      cases e with
      | ret => exact wpIn_ret ⟨f, hfd, by simpa [hd, Leave.out] using hq⟩
      | exit i => exact wpIn_exit ⟨f, hfd, by simpa [hd, Leave.out] using hq⟩
      | goto i => exact wpIn_goto ⟨f, hfd, by simpa [hd, Leave.out] using hq⟩
end
end Go.Wk

namespace Go.Proofs.Ytpandioolpnihaa
open Go Go.Wk
set_option linter.unusedVariables false
set_option linter.unusedSimpArgs false

/-- A cell whose value is known. -/
abbrev tC (v : Value) (h : v.oneCell' = true) : Ty Unit := tLit (fun _ => v) (fun _ => True) fun _ => h
structure Wr where
  key : Key
  dead : Bool
  val : Key
  deriving DecidableEq
structure Co where
  name : ByteArray
  kind : Int
  nn : Bool
structure Tb where
  id : Int
  name : ByteArray
  cols : List Co
  key : Int
  idx : List Int
structure Lk where
  txn : Int
  level : Int
  mode : Int
  lo : Key
  hi : Key
structure Cmd where
  client : Int
  seq : Int
  kind : Int
  txn : Int
  ts : Int
  flag : Bool
  lk : Lk
  lo : Key
  hi : Key
  txns : List Int
  writes : List Wr
  keys : List Key
  tb : Tb
structure Rs where
  err : Int
  cells : List Cl
  deriving DecidableEq
structure Told where
  client : Int
  seq : Int
  r : Rs
  deriving DecidableEq
abbrev tWr : Ty Wr := tMap (tPair tKey (tPair tBool tKey)) fun x => (x.key, x.dead, x.val)
abbrev tCo : Ty Co := tMap (tPair tStr (tPair (tInt .i64) tBool)) fun x => (x.name, x.kind, x.nn)
abbrev tTb : Ty Tb := tMap (tPair (tInt .i64) (tPair tStr (tPair (tSlice tCo 32) (tPair (tInt .i64) (tSlice (tInt .i64) 8))))) fun x => (x.id, x.name, x.cols, x.key, x.idx)
abbrev tLk : Ty Lk := tMap (tPair (tInt .u64) (tPair (tInt .i64) (tPair (tInt .i64) (tPair tKey tKey)))) fun x => (x.txn, x.level, x.mode, x.lo, x.hi)
abbrev tCmd : Ty Cmd := tMap (tPair (tInt .u64) (tPair (tInt .u64) (tPair (tInt .i64) (tPair (tInt .u64) (tPair (tInt .u64) (tPair tBool (tPair tLk (tPair tKey (tPair tKey (tPair (tSlice (tInt .u64) 8) (tPair (tSlice tWr 56) (tPair tKeys tTb))))))))))))
  fun x => (x.client, x.seq, x.kind, x.txn, x.ts, x.flag, x.lk, x.lo, x.hi, x.txns, x.writes, x.keys, x.tb)
abbrev tRes : Ty Rs := tMap (tPair (tInt .i64) (tPair (tC (.int .u64 0) rfl) (tPair (tC (.int .u64 0) rfl) (tPair (tC (.bool false) rfl) (tPair (tC (.slice none 0 0) rfl) (tPair (tSlice tCl 120) (tC (.slice none 0 0) rfl))))))) fun r => (r.err, (), (), (), (), r.cells, ())
theorem wr_cells {Z : Nat → Prop} {w : World} {cs : List Value} {x : Wr} : tWr.R Z w cs x ↔ ∃ vk vv, cs = [vk, .bool x.dead, vv] ∧ SlR (tInt .u8) 1 Z w vk x.key ∧ SlR (tInt .u8) 1 Z w vv x.val := by
  constructor
  · rintro ⟨_, _, rfl, ⟨vk, rfl, h1⟩, _, _, rfl, ⟨rfl, _⟩, vv, rfl, h2⟩
    exact ⟨vk, vv, rfl, h1, h2⟩
  · rintro ⟨vk, vv, rfl, h1, h2⟩
    exact ⟨[vk], _, rfl, ⟨vk, rfl, h1⟩, [.bool x.dead], [vv], rfl, ⟨rfl, trivial⟩, vv, rfl, h2⟩
theorem res_cells {Z : Nat → Prop} {w : World} {cs : List Value} {r : Rs} : tRes.R Z w cs r ↔ ∃ v, cs = [.int .i64 r.err, .int .u64 0, .int .u64 0, .bool false, .slice none 0 0, v, .slice none 0 0] ∧ InK .i64 r.err ∧ SlR tCl 120 Z w v r.cells := by
  constructor
  · rintro ⟨_, _, rfl, ⟨rfl, h1⟩, _, _, rfl, ⟨rfl, _⟩, _, _, rfl, ⟨rfl, _⟩, _, _, rfl, ⟨rfl, _⟩, _, _, rfl, ⟨rfl, _⟩, _, _, rfl, ⟨v, rfl, h2⟩, ⟨rfl, _⟩⟩
    exact ⟨v, rfl, h1, h2⟩
  · rintro ⟨v, rfl, h1, h2⟩
    exact ⟨[.int .i64 r.err], _, rfl, ⟨rfl, h1⟩, [.int .u64 0], _, rfl, ⟨rfl, trivial⟩, [.int .u64 0], _, rfl, ⟨rfl, trivial⟩, [.bool false], _, rfl, ⟨rfl, trivial⟩, [.slice none 0 0], _, rfl, ⟨rfl, trivial⟩, [v], [.slice none 0 0], rfl, ⟨v, rfl, h2⟩, ⟨rfl, trivial⟩⟩
theorem cmd_cells {Z : Nat → Prop} {w : World} {cs : List Value} {c : Cmd} : tCmd.R Z w cs c ↔ ∃ vll vlh vlo vhi vtx vwr vke vco vix, cs = [.int .u64 c.client, .int .u64 c.seq, .int .i64 c.kind, .int .u64 c.txn, .int .u64 c.ts, .bool c.flag, .int .u64 c.lk.txn, .int .i64 c.lk.level, .int .i64 c.lk.mode, vll, vlh, vlo, vhi, vtx, vwr, vke, .int .i64 c.tb.id, .string c.tb.name, vco, .int .i64 c.tb.key, vix] ∧
    InK .u64 c.client ∧ InK .u64 c.seq ∧ InK .i64 c.kind ∧ InK .u64 c.txn ∧ InK .u64 c.ts ∧ (InK .u64 c.lk.txn ∧ InK .i64 c.lk.level ∧ InK .i64 c.lk.mode ∧ SlR (tInt .u8) 1 Z w vll c.lk.lo ∧ SlR (tInt .u8) 1 Z w vlh c.lk.hi) ∧ SlR (tInt .u8) 1 Z w vlo c.lo ∧ SlR (tInt .u8) 1 Z w vhi c.hi ∧ SlR (tInt .u64) 8 Z w vtx c.txns ∧ SlR tWr 56 Z w vwr c.writes ∧ SlR tKey 24 Z w vke c.keys ∧
    (InK .i64 c.tb.id ∧ StrOk c.tb.name ∧ SlR tCo 32 Z w vco c.tb.cols ∧ InK .i64 c.tb.key ∧ SlR (tInt .i64) 8 Z w vix c.tb.idx) := by
  constructor
  · rintro ⟨_, _, rfl, ⟨rfl, h1⟩, _, _, rfl, ⟨rfl, h2⟩, _, _, rfl, ⟨rfl, h3⟩, _, _, rfl, ⟨rfl, h4⟩, _, _, rfl, ⟨rfl, h5⟩, _, _, rfl, ⟨rfl, _⟩, _, _, rfl, ⟨_, _, rfl, ⟨rfl, l1⟩, _, _, rfl, ⟨rfl, l2⟩, _, _, rfl, ⟨rfl, l3⟩, _, _, rfl, ⟨vll, rfl, l4⟩, vlh, rfl, l5⟩, _, _, rfl, ⟨vlo, rfl, h7⟩, _, _, rfl, ⟨vhi, rfl, h8⟩, _, _, rfl, ⟨vtx, rfl, h9⟩, _, _, rfl, ⟨vwr, rfl, h10⟩, _, _, rfl, ⟨vke, rfl, h11⟩, _, _, rfl, ⟨rfl, t1⟩, _, _, rfl, ⟨rfl, t2⟩, _, _, rfl, ⟨vco, rfl, t3⟩, _, _, rfl, ⟨rfl, t4⟩, vix, rfl, t5⟩
    exact ⟨vll, vlh, vlo, vhi, vtx, vwr, vke, vco, vix, rfl, h1, h2, h3, h4, h5, ⟨l1, l2, l3, l4, l5⟩, h7, h8, h9, h10, h11, t1, t2, t3, t4, t5⟩
  · rintro ⟨vll, vlh, vlo, vhi, vtx, vwr, vke, vco, vix, rfl, h1, h2, h3, h4, h5, ⟨l1, l2, l3, l4, l5⟩, h7, h8, h9, h10, h11, t1, t2, t3, t4, t5⟩
    exact ⟨[_], _, rfl, ⟨rfl, h1⟩, [_], _, rfl, ⟨rfl, h2⟩, [_], _, rfl, ⟨rfl, h3⟩, [_], _, rfl, ⟨rfl, h4⟩, [_], _, rfl, ⟨rfl, h5⟩, [_], _, rfl, ⟨rfl, trivial⟩, [_, _, _, _, _], _, rfl, ⟨[_], _, rfl, ⟨rfl, l1⟩, [_], _, rfl, ⟨rfl, l2⟩, [_], _, rfl, ⟨rfl, l3⟩, [_], [_], rfl, ⟨vll, rfl, l4⟩, vlh, rfl, l5⟩, [_], _, rfl, ⟨vlo, rfl, h7⟩, [_], _, rfl, ⟨vhi, rfl, h8⟩, [_], _, rfl, ⟨vtx, rfl, h9⟩, [_], _, rfl, ⟨vwr, rfl, h10⟩, [_], [_, _, _, _, _], rfl, ⟨vke, rfl, h11⟩, [_], _, rfl, ⟨rfl, t1⟩, [_], _, rfl, ⟨rfl, t2⟩, [_], _, rfl, ⟨vco, rfl, t3⟩, [_], [_], rfl, ⟨rfl, t4⟩, vix, rfl, t5⟩
end Go.Proofs.Ytpandioolpnihaa

namespace Go.Proofs.Ytpandioolpnihaa
open Go Go.Wk
set_option linter.unusedVariables false

set_option maxHeartbeats 2000000 in
theorem f71_iter {w : World} {bx bm : Nat} {es : Array MapEntry} {clock : Nat} {m : List (ByteArray × Value)} (hbx : w.heap[bx]? = some (.cells #[.map (some bm)] 110)) (hb : w.heap[bm]? = some (.map es clock)) (hm : MapObj Value.string m (.map es clock)) :
    IterQ Try.prog 71 [.pointer (some ⟨bx, 0, none⟩)] Value.string (fun pre => ∃ rest, (pre ++ rest).Perm (m.map (·.1))) (fun xs => xs.Perm (m.map (·.1))) (fun k => k = bx ∨ k = bm) w := by
  intro l B0 J Jx hR hJ0 hZ
  obtain ⟨H, hIt⟩ := hR.start hJ0
  have rdx : ∀ {W : World} {L : List Atom} (j : Nat), Holds W L → L[j]? = some (aZ B0 w) → W.heap[bx]? = some (.cells #[.map (some bm)] 110) := fun j H hj => by
    obtain ⟨_, _, _, _, e⟩ := H.get hj; rw [e bx ⟨own_lt hbx, hZ bx (.inl rfl)⟩]; exact hbx
  have rdm : ∀ {W : World} {L : List Atom} (j : Nat), Holds W L → L[j]? = some (aZ B0 w) → W.heap[bm]? = some (.map es clock) := fun j H hj => by
    obtain ⟨_, _, _, _, e⟩ := H.get hj; rw [e bm ⟨own_lt hb, hZ bm (.inr rfl)⟩]; exact hb
  refine calls_of_W' Try.func71 rfl Try.ntmps71 rfl ?_
  refine W_seq ?_
  refine W_region ?_
  refine OL_y (y_loadS (v := .map (some bm)) ti110 rfl rfl (Cells.unit (rdx 1 H rfl) rfl)) (by decide) ?_
  refine OL_c (op_range (K := Value.string) H (rdm 1 H rfl) hm ti110 rfl (by decide) fun r w0_1 hE0 H hr => ?_)
  refine OL_nil ?_
  refine W_block (W_loopN (fun g f ds W => ∃ (since c0 : Nat) (seen : Array Nat) (left : List (ByteArray × Value)) (pre : List ByteArray) (B : Nat → Prop) (W0 : World), g = left.length ∧ f 0 = .func (.yield l) #[] #[] ∧ f 5 = .pointer (some ⟨r, 0, none⟩) ∧ ds = [] ∧ since ≤ c0 ∧ since ≤ clock ∧ Rng Value.string es since seen left ∧ (pre ++ left.map (·.1)).Perm (m.map (·.1)) ∧
      Holds W [own r (.mapIter (some bm) since seen c0), aB B B0 W0, aZ B0 w] ∧ J pre B W0 ∧ ItInv w W0 B0 B)
      m.length ⟨clock, clock, #[], m, [], B0, w, rfl, rfl, rfl, rfl, Nat.le_refl _, Nat.le_refl _, hr, by simp, H, hJ0, hIt⟩
      ?_)
  rintro g f ds w1 ⟨since, c0, seen, left, pre, B, W0, rfl, h0, h5, rfl, hsc, hsc2, hr, hp, H, hJ, hIt⟩
  refine W_seq ?_
  refine W_region ?_
  refine OL_c (op_next H 0 rfl (rdm 2 H rfl) hr hsc h5 (by decide) ?_ ?_)
  · rintro rfl
    refine OL_y (y_extract (v := .bool false) rfl rfl) (by decide) ?_
    refine OL_nil ?_
    refine W_seq ?_
    refine W_condf rfl ?_
    refine W_exit ?_
    show RetOK _ _ _ _ _ _
    exact ret0 Try.results71 ⟨⟨_, rfl⟩, hR.done (by simpa using hp) hJ hIt H 1 2 rfl rfl⟩
  · rintro e pa u pb w1_0 rfl hmem hek hev hEn H hr
    refine OL_y (y_extract (v := .bool true) rfl rfl) (by decide) ?_
    refine OL_nil ?_
    refine W_seq ?_
    refine W_condt rfl ?_
    refine W_skip ?_
    refine W_block ?_
    refine W_seq ?_
    refine W_region ?_
    refine OL_y (y_entry (H.getOwn 0 rfl) (rdm 2 H rfl) hmem hr.born hek hev h5) (by decide) ?_
    refine OL_y (y_extract rfl rfl) (by decide) ?_
    refine OL_y (y_assign rfl) (by decide) ?_
    refine OL_nil ?_
    refine W_seq ?_
    have hx : ∃ rest, (pre ++ [u.1] ++ rest).Perm (m.map (·.1)) := ⟨(pa ++ pb).map (·.1), by
      refine List.Perm.trans ?_ hp
      rw [List.append_assoc]
      refine List.Perm.append_left pre ?_
      simp only [List.map_append, List.map_cons, List.singleton_append]
      exact List.perm_middle.symm⟩
    refine W_region ?_
    refine OL_y (y_move h0) (by decide) ?_
    refine OL_y (y_move rfl) (by decide) ?_
    refine OL_yield (hR.yield hJ hIt H 1 2 rfl rfl hx) rfl rfl (by decide) ?_
    rintro e2 W' (⟨rfl, B', hJ', hIt', H'⟩ | ⟨rfl, B', hJ', hIt', H'⟩)
    rotate_left
    · refine ⟨_, rfl, ?_⟩
      refine OL_y (y_not rfl) (by decide) ?_
      refine OL_nil ?_
      refine W_condt rfl ?_
      refine W_ret ?_
      show RetOK _ _ _ _ _ _
      exact ret0 Try.results71 ⟨⟨_, rfl⟩, hR.left hJ' hx hIt' H' 1 2 rfl rfl⟩
    refine ⟨_, rfl, ?_⟩
    refine OL_y (v := .bool false) (y_not (b := true) rfl) (by decide) ?_
    refine OL_nil ?_
    refine W_condf rfl ?_
    refine W_skip ?_
    refine ⟨(pa ++ pb).length, by simp, since, _, _, pa ++ pb, pre ++ [u.1], B', W', rfl, h0, h5, rfl, hsc2, hsc2, hr, ?_, H', hJ', hIt'⟩
    · refine List.Perm.trans ?_ hp
      rw [List.append_assoc]
      refine List.Perm.append_left pre ?_
      simp only [List.map_append, List.map_cons, List.singleton_append]
      exact List.perm_middle.symm
theorem f51_calls {w : World} {bm : Nat} : Calls Try.prog 51 [.map (some bm)].toArray w fun e w' => ∃ bx, e = .returned (.func (.func 71) #[] #[.pointer (some ⟨bx, 0, none⟩)]) ∧ Ext none' w w' ∧ w'.heap[bx]? = some (.cells #[.map (some bm)] 110) ∧ w.heap.size ≤ bx := by
  have H := Holds.start w
  refine calls_of_W' Try.func51 rfl Try.ntmps51 rfl ?_
  refine W_seq ?_
  refine W_region ?_
  refine OL_c (op_box (v := .map (some bm)) H rfl (by decide) fun b1 w0_0 H => ?_)
  refine OL_y (y_assign rfl) (by decide) ?_
  refine OL_nil ?_
  refine W_seq ?_
  refine W_region ?_
  refine OL_y (y_makeFunc (vs := [.pointer (some ⟨b1, 0, none⟩)]) rfl) (by decide) ?_
  refine OL_y (y_assign rfl) (by decide) ?_
  refine OL_nil ?_
  refine W_ret ?_
  show RetOK _ _ _ _ _ _
  exact ret1 (v := .func (.func 71) #[] #[.pointer (some ⟨b1, 0, none⟩)]) Try.results51 rfl ⟨b1, rfl, H.ext_of 1 rfl, H.getOwn 0 rfl, H.fresh 0 1 rfl rfl rfl _ rfl⟩
end Go.Proofs.Ytpandioolpnihaa

namespace Go.Proofs.Ytpandioolpnihaa
open Go Go.Wk
set_option linter.unusedVariables false
set_option linter.unusedSimpArgs false

/-- A key as it is handed over. -/
structure Yk where
  b : Nat
  cap : Nat
  s : ByteArray
abbrev yEnc (y : Yk) : Value := .slice (some ⟨y.b, 0, none⟩) y.s.size y.cap
abbrev yAt (y : Yk) : Atom := own y.b (.cells (bytesRow y.s y.cap) 5 ((bytesRow y.s y.cap).size, (bytesRow y.s y.cap).size + 1))
def yOk (y : Yk) : Prop := y.s.size ≤ y.cap ∧ y.cap ≤ maxLen ∧ y.s.size ≤ 140737488351232
def yQ (ks : List ByteArray) (pre : List Yk) : Prop := pre.map (·.s) <+: ks ∧ ∀ y ∈ pre, yOk y
def yE (ks : List ByteArray) (pre : List Yk) : Prop := pre.map (·.s) = ks
def MapAt (w : World) (b : Nat) (m : List (ByteArray × Value)) : Prop := ∃ es clock, w.heap[b]? = some (.map es clock) ∧ MapObj Value.string m (.map es clock)

set_option maxHeartbeats 16000000 in
theorem f50_iter {w : World} {bs b b1 b2 : Nat} {m1 m2 : List (ByteArray × Value)} {ks : List ByteArray} (hbs : w.heap[bs]? = some (.cells #[.pointer (some ⟨b, 0, none⟩)] 26)) (hb : w.heap[b]? = some (.cells #[.map (some b1), .map (some b2)] 98)) (h1 : MapAt w b1 m1) (h2 : MapAt w b2 m2)
    (hz : ∀ k ∈ ks, k.size ≤ 140737488351232) (hl : m1.length + m2.length ≤ 900000) (hks : ks.Pairwise bLt) (hm : ∀ k, k ∈ ks ↔ k ∈ m1.map (·.1) ∨ k ∈ m2.map (·.1)) : IterH Try.prog 50 [.pointer (some ⟨bs, 0, none⟩)] yEnc yAt (yQ ks) (yE ks) w := by
  intro l B0 J Jx hR hJ0
  obtain ⟨H, hIt⟩ := hR.start hJ0
  obtain ⟨es1, clock1, hb1, hmo1⟩ := h1
  obtain ⟨es2, clock2, hb2, hmo2⟩ := h2
  have rd : ∀ {W : World} {L : List Atom} (i j : Nat), Holds W L → L[i]? = some (aB B0 B0 w) → L[j]? = some (aZ B0 w) → ∀ {c : Nat} {o : Obj}, w.heap[c]? = some o → W.heap[c]? = some o := fun {W L} i j H hi hj {c o} hc => ((hIt.first H hi hj).blk c (own_lt hc) (fun h => h)).trans hc
  refine calls_of_W' Try.func50 rfl Try.ntmps50 rfl ?_
  refine W_seq ?_
  refine W_seq ?_
  refine W_region ?_
  refine OL_y (y_loadS (v := .pointer (some ⟨b, 0, none⟩)) ti26 rfl rfl (Cells.unit (rd 0 1 H rfl rfl hbs) rfl)) (by decide) ?_
  refine OL_c (op_call 43 en43 rfl [.pointer (some ⟨b, 0, none⟩)] rfl (by decide) ((f43_calls (rd 0 1 H rfl rfl hb)).mono ?_))
  rintro e w0_1 ⟨rfl, hE43⟩
  refine ⟨_, rfl, ?_⟩
  have H := H.ext0 hE43
  refine OL_y (y_not (b := true) rfl) (by decide) ?_
  refine OL_nil ?_
  refine W_condf rfl ?_
  refine W_skip ?_
  refine W_seq ?_
  refine W_region ?_
  refine OL_c (op_makeMap Value.string H (by decide) fun bm w1_0 H => ?_)
  refine OL_y (y_assign rfl) (by decide) ?_
  refine OL_nil ?_
  refine W_seq ?_
  refine W_seq ?_
  refine W_region ?_
  refine OL_y (y_loadS (v := .pointer (some ⟨b, 0, none⟩)) ti26 rfl rfl (Cells.unit (rd 1 2 H rfl rfl hbs) rfl)) (by decide) ?_
  refine OL_y (y_nilCheck rfl ⟨_, rfl⟩) (by decide) ?_
  refine OL_y (y_fieldAddr ti98 rfl ti95 rfl rfl) (by decide) ?_
  refine OL_y (y_loadS (v := .map (some b1)) ti95 rfl rfl (Cells.unit (rd 1 2 H rfl rfl hb) rfl)) (by decide) ?_
  refine OL_c (op_range (K := Value.string) H (rd 1 2 H rfl rfl hb1) hmo1 ti95 rfl (by decide) fun r w2_4 hE2 H hr => ?_)
  refine OL_nil ?_
  refine W_block (W_loopN (fun g f ds W => ∃ (since c0 : Nat) (seen : Array Nat) (left m3 : List (ByteArray × Value)) (pre : List ByteArray), g = left.length ∧ f 0 = .func (.yield l) #[] #[] ∧ f 1 = .pointer (some ⟨bs, 0, none⟩) ∧ f 3 = .map (some bm) ∧ f 16 = .pointer (some ⟨r, 0, none⟩) ∧ ds = [] ∧ since ≤ c0 ∧ since ≤ clock1 ∧ Rng Value.string es1 since seen left ∧ (pre ++ left.map (·.1)).Perm (m1.map (·.1)) ∧ (∀ k, k ∈ m3.map (·.1) ↔ k ∈ pre) ∧
      Holds W [own r (.mapIter (some b1) since seen c0), mp Value.string bm m3, aB B0 B0 w, aZ B0 w])
      m1.length ⟨clock1, clock1, #[], m1, [], [], rfl, rfl, rfl, rfl, rfl, rfl, Nat.le_refl _, Nat.le_refl _, hr, by simp, by simp, H⟩
      ?_)
  rintro g f ds w3 ⟨since, c0, seen, left, m3, pre, rfl, h0, hf1, h3, h16, rfl, hsc, hsc2, hr, hp, hmem3, H⟩
  refine W_seq ?_
  refine W_region ?_
  refine OL_c (op_next H 0 rfl (rd 2 3 H rfl rfl hb1) hr hsc h16 (by decide) ?_ ?_)
  · rintro rfl
    rw [List.map_nil, List.append_nil] at hp
    refine OL_y (y_extract (v := .bool false) rfl rfl) (by decide) ?_
    refine OL_nil ?_
    refine W_seq ?_
    refine W_condf rfl ?_
    refine W_exit ?_
    refine W_seq ?_
    refine W_seq ?_
    have H := H.tail
    refine W_region ?_
    refine OL_y (y_loadS (v := .pointer (some ⟨b, 0, none⟩)) ti26 rfl hf1 (Cells.unit (rd 1 2 H rfl rfl hbs) rfl)) (by decide) ?_
    refine OL_y (y_nilCheck rfl ⟨_, rfl⟩) (by decide) ?_
    refine OL_y (y_fieldAddr ti98 rfl ti96 rfl rfl) (by decide) ?_
    refine OL_y (y_loadS (v := .map (some b2)) ti96 rfl rfl (Cells.unit (rd 1 2 H rfl rfl hb) rfl)) (by decide) ?_
    refine OL_c (op_range (K := Value.string) H (rd 1 2 H rfl rfl hb2) hmo2 ti96 rfl (by decide) fun r2 w6_4 hE6 H hr2 => ?_)
    refine OL_nil ?_
    refine W_block (W_loopN (fun g f ds W => ∃ (since c0 : Nat) (seen : Array Nat) (left m3 : List (ByteArray × Value)) (pre : List ByteArray), g = left.length ∧ f 0 = .func (.yield l) #[] #[] ∧ f 3 = .map (some bm) ∧ f 27 = .pointer (some ⟨r2, 0, none⟩) ∧ ds = [] ∧ since ≤ c0 ∧ since ≤ clock2 ∧ Rng Value.string es2 since seen left ∧ (pre ++ left.map (·.1)).Perm (m2.map (·.1)) ∧ (∀ k, k ∈ m3.map (·.1) ↔ k ∈ m1.map (·.1) ∨ k ∈ pre) ∧
        Holds W [own r2 (.mapIter (some b2) since seen c0), mp Value.string bm m3, aB B0 B0 w, aZ B0 w])
        m2.length ⟨clock2, clock2, #[], m2, m3, [], rfl, h0, h3, rfl, rfl, Nat.le_refl _, Nat.le_refl _, hr2, by simp, fun k => by rw [hmem3 k, hp.mem_iff]; simp, H⟩
        ?_)
    rintro g f ds w7 ⟨since2, c2, seen2, left2, m4, pre2, rfl, h0, h3, h27, rfl, hsc, hsc2, hr2, hp2, hmem4, H⟩
    refine W_seq ?_
    refine W_region ?_
    refine OL_c (op_next H 0 rfl (rd 2 3 H rfl rfl hb2) hr2 hsc h27 (by decide) ?_ ?_)
    · rintro rfl
      rw [List.map_nil, List.append_nil] at hp2
      refine OL_y (y_extract (v := .bool false) rfl rfl) (by decide) ?_
      refine OL_nil ?_
      refine W_seq ?_
      refine W_condf rfl ?_
      refine W_exit ?_
      refine W_seq ?_
      have H := H.tail
      obtain ⟨es3, clock3, hmo3, H⟩ := H.mpOpen 0 rfl
      have hbm3 := H.getOwn 0 rfl
      refine W_region ?_
      refine OL_y (y_move h3) (by decide) ?_
      refine OL_c (op_call 51 en51 rfl [.map (some bm)] rfl (by decide) ((f51_calls).mono ?_))
      rintro e w10_1 ⟨bx, rfl, hE51, hbx, hbxn⟩
      refine ⟨_, rfl, ?_⟩
      have H := H.ext0 hE51
      have hbm4 := H.getOwn 0 rfl
      have hit : ∀ w', Ext none' w10_1 w' → IterQ Try.prog 71 [.pointer (some ⟨bx, 0, none⟩)] Value.string (fun pre => ∃ rest, (pre ++ rest).Perm (m4.map (·.1))) (fun xs => xs.Perm (m4.map (·.1))) (fun k => k = bx ∨ k = bm) w' := fun w' hE =>
        f71_iter ((hE.blk bx (own_lt hbx) (fun h => h)).trans hbx) ((hE.blk bm (own_lt hbm4) (fun h => h)).trans hbm4) hmo3
      have hnd4 : (m4.map (·.1)).Nodup := by obtain ⟨_, _, _, _, h, _⟩ := hmo3; exact h
      have hlen4 : (m4.map (·.1)).length ≤ 900000 := by
        have h1 : ∀ k ∈ m4.map (·.1), k ∈ m1.map (·.1) ++ m2.map (·.1) := fun k hk => List.mem_append.2 (((hmem4 k).1 hk).imp id fun h => hp2.mem_iff.1 h)
        have := List.Nodup.length_le_of_subset hnd4 h1
        rw [List.length_append, List.length_map, List.length_map] at this
        rw [List.length_map]; rw [List.length_map] at this; omega
      refine OL_c (op_call 48 en48 rfl [.func (.func 71) #[] #[.pointer (some ⟨bx, 0, none⟩)]] rfl (by decide) ((f48_calls (M := 900000) en71 hit (fun k hk => hk.elim (fun h => h ▸ own_lt hbx) (fun h => h ▸ own_lt hbm4)) (fun pre ⟨rest, hp⟩ => by have := hp.length_eq; rw [List.length_append] at this; omega) (by decide)).mono ?_))
      rintro e w10_2 ⟨vv, zs, ys, rfl, hzs, hyz, hys, hE48, hvf, hrow⟩
      refine ⟨_, rfl, ?_⟩
      have H := H.new hE48 (row_ok hrow) hvf
      obtain ⟨av, cv, hvv, _, _⟩ := H.rowLen 0 rfl
      have hyp := hyz.trans hzs
      have hynd : ys.Nodup := hyp.nodup_iff.2 hnd4
      have hyr : ys.Pairwise bLt := rise_of_le hys hynd
      have hyk : ys = ks := rise_unique bLt_irrefl bLt_trans hyr hks fun k => by rw [hyp.mem_iff, hmem4 k, hm k, hp2.mem_iff]
      subst hyk
      have hyl : ys.length ≤ 900000 := by rw [hyp.length_eq]; exact hlen4
      refine OL_y (y_len rfl ti104 (show _ = Value.slice av ys.length cv from hvv)) (by decide) ?_
      refine OL_y (y_move rfl) (by decide) ?_
      refine OL_nil ?_
      refine W_range (N := ys.length) (by simp [maxLen]; omega) (fun k f ds W => ∃ (pre : List Yk) (B : Nat → Prop) (W0 : World), f 0 = .func (.yield l) #[] #[] ∧ f 36 = .slice av ys.length cv ∧ ds = [] ∧ pre.map (·.s) = ys.take k ∧ (∀ y ∈ pre, yOk y) ∧ J pre B W0 ∧ ItInv w W0 B0 B ∧ Holds W [row 9 1 vv ys.length (ys.map Value.string), own bm (.map es3 clock3), aB B B0 W0, aZ B0 w])
          ⟨[], B0, w, h0, hvv, rfl, rfl, by simp, hJ0, hIt, H⟩
          rfl rfl (by decide) (by decide) (by decide) rfl rfl ?_ rfl rfl ?_
      · rintro k f ds w11 hk ⟨pre, B, W0, h0, h36, rfl, hpre, hyo, hJ, hIt, H⟩ hti htn
        have hyk := List.getElem?_eq_getElem hk
        have htk : ys.take (k + 1) = ys.take k ++ [ys[k]] := by rw [List.take_add_one, hyk]; rfl
        have hsz : ys[k].size ≤ 140737488351232 := hz _ (List.getElem_mem hk)
        obtain ⟨bv, cv2, hv2, hC, -⟩ : ∃ b c, vv = .slice (some ⟨b, 0, none⟩) ys.length c ∧ Cells w11 b (0 + k * 1) [.string ys[k]] ∧ True := by
          obtain ⟨b, c, h, _, _⟩ := ownsRow_cells (H.getRow 0 rfl) (by omega)
          refine ⟨b, c, h, ?_, trivial⟩
          have := rowCell (o := k) (u := .string ys[k]) (H.getRow 0 rfl) (b := b) (by rw [h]; rfl) (by rw [List.getElem?_map, hyk]; rfl)
          simpa using this
        have h36' := h36.trans (hvv.symm.trans hv2)
        generalize ys[k] = s at *
        refine W_block ?_
        refine W_seq ?_
        refine W_region ?_
        refine OL_y (y_indexAddr ti104 ti9 h36' hti (by omega) (by omega)) (by decide) ?_
        refine OL_y (y_loadS (v := .string s) ti9 rfl rfl hC) (by decide) ?_
        refine OL_y (y_assign rfl) (by decide) ?_
        refine OL_nil ?_
        refine W_seq ?_
        refine W_region ?_
        refine OL_y (y_move h0) (by decide) ?_
        refine OL_y (y_move rfl) (by decide) ?_
        refine OL_c (op_toBytes H Try.underlying9 Try.underlying23 Try.underlying5 rfl hsz (by decide) fun b44 cap w13_2 hc1 hc2 H => ?_)
        have hnew : ∀ k, k = b44 → w.heap.size ≤ k := by
          rintro k rfl
          refine Nat.le_of_not_lt fun hlt => ?_
          by_cases hB : B0 k
          · exact (List.pairwise_cons.1 H.apart).1 (aB B B0 W0) (by simp) (.inl rfl) k rfl (.inr hB)
          · exact (List.pairwise_cons.1 H.apart).1 (aZ B0 w) (by simp) (.inl rfl) k rfl ⟨hlt, hB⟩
        have hq : yQ ys (pre ++ [⟨b44, cap, s⟩]) := by
          refine ⟨?_, fun y hy => ?_⟩
          · rw [List.map_append, hpre]; show ys.take k ++ [s] <+: ys; rw [← htk]; exact List.take_prefix _ _
          · rcases List.mem_append.1 hy with hy | hy
            · exact hyo y hy
            · rw [List.mem_singleton.1 hy]; exact ⟨hc1, hc2, hsz⟩
        refine OL_yield (hR.yield (x := ⟨b44, cap, s⟩) hJ hIt H 2 3 rfl rfl rfl hnew hq) rfl rfl (by decide) ?_
        rintro e2 W' (⟨rfl, B', hJ', hIt', H'⟩ | ⟨rfl, B', hJ', hIt', H'⟩)
        rotate_left
        · refine ⟨_, rfl, ?_⟩
          refine OL_y (y_not rfl) (by decide) ?_
          refine OL_nil ?_
          refine W_condt rfl ?_
          refine W_ret ?_
          show RetOK _ _ _ _ _ _
          exact ret0 Try.results50 ⟨⟨_, rfl⟩, hR.left hJ' hq hIt' H' 2 3 rfl rfl⟩
        refine ⟨_, rfl, ?_⟩
        refine OL_y (v := .bool false) (y_not (b := true) rfl) (by decide) ?_
        refine OL_nil ?_
        refine W_condf rfl ?_
        refine W_skip ?_
        exact ⟨hti, htn, pre ++ [⟨b44, cap, s⟩], B', W', h0, h36, rfl, by rw [List.map_append, hpre, htk]; rfl, hq.2, hJ', hIt', H'⟩
      · rintro f ds w11 ⟨pre, B, W0, h0, h36, rfl, hpre, hyo, hJ, hIt, H⟩ hti htn
        rw [List.take_length] at hpre
        show RetOK _ _ _ _ _ _
        exact ret0 Try.results50 ⟨⟨_, rfl⟩, hR.done (xs := pre) hpre hJ hIt H 2 3 rfl rfl⟩
    · rintro e pa u pb w7_0 rfl hmem hek hev hEn H hr2
      refine OL_y (y_extract (v := .bool true) rfl rfl) (by decide) ?_
      refine OL_nil ?_
      refine W_seq ?_
      refine W_condt rfl ?_
      refine W_skip ?_
      refine W_block ?_
      refine W_seq ?_
      refine W_region ?_
      refine OL_y (y_entry (H.getOwn 0 rfl) (rd 2 3 H rfl rfl hb2) hmem hr2.born hek hev h27) (by decide) ?_
      refine OL_y (y_extract rfl rfl) (by decide) ?_
      refine OL_y (y_assign rfl) (by decide) ?_
      refine OL_nil ?_
      refine W_region ?_
      refine OL_y (y_move h3) (by decide) ?_
      refine OL_y (y_move rfl) (by decide) ?_
      refine OL_c (op_mapUpdate (k := u.1) (v := .bool true) H 1 rfl ti110 (KeyOK.str Try.underlying9) rfl rfl rfl fun w9_2 H => ?_)
      refine OL_nil ?_
      refine ⟨(pa ++ pb).length, by simp, since2, _, _, pa ++ pb, mset m4 u.1 (.bool true), pre2 ++ [u.1], rfl, h0, h3, h27, rfl, hsc2, hsc2, hr2, ?_, ?_, H⟩
      · refine List.Perm.trans ?_ hp2
        rw [List.append_assoc]
        refine List.Perm.append_left pre2 ?_
        simp only [List.map_append, List.map_cons, List.singleton_append]
        exact List.perm_middle.symm
      · intro k
        rw [mset_keys]
        split
        · rename_i hin
          rw [List.mem_append, List.mem_singleton, hmem4 k]
          exact ⟨fun h => h.imp id .inl, fun h => h.elim .inl fun h => h.elim .inr fun h => by rw [h]; exact (hmem4 _).1 hin⟩
        · rw [List.mem_append, List.mem_append, hmem4 k, or_assoc]
  · rintro e pa u pb w3_0 rfl hmem hek hev hEn H hr
    refine OL_y (y_extract (v := .bool true) rfl rfl) (by decide) ?_
    refine OL_nil ?_
    refine W_seq ?_
    refine W_condt rfl ?_
    refine W_skip ?_
    refine W_block ?_
    refine W_seq ?_
    refine W_region ?_
    refine OL_y (y_entry (H.getOwn 0 rfl) (rd 2 3 H rfl rfl hb1) hmem hr.born hek hev h16) (by decide) ?_
    refine OL_y (y_extract rfl rfl) (by decide) ?_
    refine OL_y (y_assign rfl) (by decide) ?_
    refine OL_nil ?_
    refine W_region ?_
    refine OL_y (y_move h3) (by decide) ?_
    refine OL_y (y_move rfl) (by decide) ?_
    refine OL_c (op_mapUpdate (k := u.1) (v := .bool true) H 1 rfl ti110 (KeyOK.str Try.underlying9) rfl rfl rfl fun w5_2 H => ?_)
    refine OL_nil ?_
    refine ⟨(pa ++ pb).length, by simp, since, _, _, pa ++ pb, mset m3 u.1 (.bool true), pre ++ [u.1], rfl, h0, hf1, h3, h16, rfl, hsc2, hsc2, hr, ?_, ?_, H⟩
    · refine List.Perm.trans ?_ hp
      rw [List.append_assoc]
      refine List.Perm.append_left pre ?_
      simp only [List.map_append, List.map_cons, List.singleton_append]
      exact List.perm_middle.symm
    · intro k
      rw [mset_keys]
      split
      · rename_i hin
        rw [List.mem_append, List.mem_singleton, hmem3 k]
        exact ⟨.inl, fun h => h.elim id fun h => by rw [h]; exact (hmem3 _).1 hin⟩
      · rw [List.mem_append, List.mem_append, hmem3 k]
theorem f20_calls {w : World} {b : Nat} : Calls Try.prog 20 [.pointer (some ⟨b, 0, none⟩)].toArray w fun e w' => ∃ bs, e = .returned (.func (.func 50) #[] #[.pointer (some ⟨bs, 0, none⟩)]) ∧ Ext none' w w' ∧ w'.heap[bs]? = some (.cells #[.pointer (some ⟨b, 0, none⟩)] 26) ∧ w.heap.size ≤ bs := by
  have H := Holds.start w
  refine calls_of_W' Try.func20 rfl Try.ntmps20 rfl ?_
  refine W_seq ?_
  refine W_region ?_
  refine OL_c (op_box (v := .pointer (some ⟨b, 0, none⟩)) H rfl (by decide) fun b1 w0_0 H => ?_)
  refine OL_y (y_assign rfl) (by decide) ?_
  refine OL_nil ?_
  refine W_seq ?_
  refine W_region ?_
  refine OL_y (y_makeFunc (vs := [.pointer (some ⟨b1, 0, none⟩)]) rfl) (by decide) ?_
  refine OL_y (y_assign rfl) (by decide) ?_
  refine OL_nil ?_
  refine W_ret ?_
  show RetOK _ _ _ _ _ _
  exact ret1 (v := .func (.func 50) #[] #[.pointer (some ⟨b1, 0, none⟩)]) Try.results20 rfl ⟨b1, rfl, H.ext_of 1 rfl, H.getOwn 0 rfl, H.fresh 0 1 rfl rfl rfl _ rfl⟩
end Go.Proofs.Ytpandioolpnihaa

namespace Go.Proofs.Ytpandioolpnihaa
open Go Go.Wk
set_option linter.unusedVariables false
set_option linter.unusedSimpArgs false

/-- Texts put in order. -/
theorem rise_exists : ∀ l : List ByteArray, ∃ ks : List ByteArray, ks.Pairwise bLt ∧ ∀ k, k ∈ ks ↔ k ∈ l
  | [] => ⟨[], .nil, by simp⟩
  | x :: l => by
    obtain ⟨ks, hr, hm⟩ := rise_exists l
    by_cases hx : x ∈ ks
    · refine ⟨ks, hr, fun k => ?_⟩
      rw [List.mem_cons, ← hm k]
      exact ⟨.inr, fun h => h.elim (fun h => h ▸ hx) id⟩
    · refine ⟨ks.filter (fun y => decide (bLt y x)) ++ x :: ks.filter (fun y => decide (bLt x y)), ?_, fun k => ?_⟩
      · refine List.pairwise_append.2 ⟨hr.sublist List.filter_sublist, List.pairwise_cons.2 ⟨fun y hy => of_decide_eq_true (List.mem_filter.1 hy).2, hr.sublist List.filter_sublist⟩, fun a ha b hb => ?_⟩
        have h1 : bLt a x := of_decide_eq_true (List.mem_filter.1 ha).2
        rcases List.mem_cons.1 hb with rfl | hb
        · exact h1
        · exact bLt_trans h1 (of_decide_eq_true (List.mem_filter.1 hb).2)
      · rw [List.mem_append, List.mem_cons, List.mem_cons, List.mem_filter, List.mem_filter, ← hm k, decide_eq_true_eq, decide_eq_true_eq]
        constructor
        · rintro (h | h | h)
          · exact .inr h.1
          · exact .inl h
          · exact .inr h.1
        · rintro (h | h)
          · exact .inr (.inl h)
          · by_cases h1 : bLt k x
            · exact .inl ⟨h, h1⟩
            · by_cases h2 : bLt x k
              · exact .inr (.inr ⟨h, h2⟩)
              · exact .inr (.inl (bLt_tri h1 h2))
theorem CRep.isKey {w0 Wp : World} {F : Nat → Prop} {E : List Ent} {I : List Itn} {a : Abs} (h : CRep w0 F Wp E I a) (k : ByteArray) : Go.Proofs.Ytpandioolpnihaa.isKey a k ↔ k ∈ (E.map Ent.kv).map (·.1) ∨ k ∈ (I.map Itn.kv).map (·.1) := by
  rw [List.map_map, List.map_map]
  show _ ↔ k ∈ E.map (·.key) ∨ k ∈ I.map (·.key)
  unfold Go.Proofs.Ytpandioolpnihaa.isKey
  constructor
  · rintro (h1 | h1)
    · exact .inl (Classical.byContradiction fun hn => h1 (h.vn k hn))
    · exact .inr (Classical.byContradiction fun hn => h1 (by rw [h.inn k hn]; rfl))
  · rintro (h1 | h1)
    · obtain ⟨e, he, rfl⟩ := List.mem_map.1 h1
      exact .inl (by rw [h.va e he]; exact h.en e he)
    · obtain ⟨i, hi, rfl⟩ := List.mem_map.1 h1
      exact .inr (by rw [h.ia i hi]; exact (h.iv i hi).2)
theorem CRep.keys {w0 Wp : World} {F : Nat → Prop} {E : List Ent} {I : List Itn} {a : Abs} (h : CRep w0 F Wp E I a) : ∃ ks, KeysOf a ks ∧ (∀ k ∈ ks, k.size ≤ 140737488351232) := by
  obtain ⟨ks, hr, hm⟩ := rise_exists ((E.map Ent.kv).map (·.1) ++ (I.map Itn.kv).map (·.1))
  refine ⟨ks, ⟨hr, fun k => by rw [hm k, List.mem_append, h.isKey k]⟩, fun k hk => ?_⟩
  have h1 := (hm k).1 hk
  rw [List.mem_append, List.map_map, List.map_map] at h1
  rcases h1 with h1 | h1
  · obtain ⟨e, he, rfl⟩ := List.mem_map.1 h1; exact h.ek e he
  · obtain ⟨e, he, rfl⟩ := List.mem_map.1 h1; exact h.ik e he
theorem CRep.del {w0 Wp : World} {F : Nat → Prop} {E1 E2 : List Ent} {I : List Itn} {a : Abs} {e : Ent} (h : CRep w0 F Wp (E1 ++ e :: E2) I a) : CRep w0 F Wp (E1 ++ E2) I (a.setV e.key []) := by
  have hs := nd_split h.nd
  have hm2 : ∀ x, x ∈ E1 ++ E2 → x ∈ E1 ++ e :: E2 := fun x hx => by rcases List.mem_append.1 hx with hx | hx <;> simp [hx]
  have hsub : (E1 ++ E2).Sublist (E1 ++ e :: E2) := List.Sublist.append_left (List.sublist_cons_self _ _) _
  refine ⟨h.base, fun x hx => h.ev x (hm2 x hx), fun x hx => h.en x (hm2 x hx), h.nd.sublist (hsub.map _), fun x hx => (if_neg (hs x hx)).trans (h.va x (hm2 x hx)), fun k hk => ?_, h.iv, h.ind, h.ia, h.inn, fun x hx => h.ek x (hm2 x hx), h.ik⟩
  show (if k = e.key then [] else a.v k) = []
  split
  · rfl
  · rename_i hne
    refine h.vn k fun hin => hk ?_
    obtain ⟨x, hx, rfl⟩ := List.mem_map.1 hin
    refine List.mem_map.2 ⟨x, ?_, rfl⟩
    rcases List.mem_append.1 hx with hx | hx
    · exact List.mem_append.2 (.inl hx)
    · rcases List.mem_cons.1 hx with rfl | hx
      · exact absurd rfl hne
      · exact List.mem_append.2 (.inr hx)
theorem mdel_ent {E1 E2 : List Ent} {e : Ent} (h : ((E1 ++ e :: E2).map (·.key)).Nodup) : mdel ((E1 ++ e :: E2).map Ent.kv) e.key = (E1 ++ E2).map Ent.kv := by
  have hs := nd_split h
  unfold mdel
  have hid : ∀ l : List Ent, (∀ x ∈ l, x.key ≠ e.key) → (l.map Ent.kv).filter (fun x => decide (x.1 ≠ e.key)) = l.map Ent.kv := fun l hl => by
    rw [List.filter_eq_self]
    intro x hx
    obtain ⟨y, hy, rfl⟩ := List.mem_map.1 hx
    simpa using hl y hy
  rw [List.map_append, List.map_cons, List.filter_append, List.filter_cons_of_neg (by simp), hid E1 fun x hx => hs x (List.mem_append.2 (.inl hx)), hid E2 fun x hx => hs x (List.mem_append.2 (.inr hx)), List.map_append]
theorem setV_same {a : Abs} {k : ByteArray} {vs : List Ver} (h : a.v k = vs) : a.setV k vs = a := by
  obtain ⟨v, i⟩ := a
  unfold Abs.setV
  congr 1
  funext x
  split
  · rename_i e; rw [e]; exact h.symm
  · rfl
theorem gcPos_dead {vs : List Ver} {ts : Int} {x : Ver} (h : vs[posV vs ts]? = some x) : gcPos vs ts = posV vs ts + (if x.dead then 0 else 1) := by unfold gcPos; rw [h]
theorem gcPos_end {vs : List Ver} {ts : Int} (h : posV vs ts = vs.length) : gcPos vs ts = vs.length := by unfold gcPos; rw [h, List.getElem?_eq_none (Nat.le_refl _)]; rfl

set_option maxHeartbeats 2000000 in
/-- slices.Clone of the first ones of a row. -/
theorem f52_take {w : World} {b n c i : Nat} {cs : List Value} (hrow : w.ownsRow 0 32 5 (.slice (some ⟨b, 0, none⟩) n c) n cs) (hi : i ≤ n) (hn : n ≤ 50000) (h1 : ∀ u ∈ cs, u.oneCell' = true) :
    Calls Try.prog 52 [.slice (some ⟨b, 0, none⟩) i c].toArray w fun e w' => ∃ v : Value, e = .returned v ∧ w'.ownsRow 0 32 5 v i (cs.take (i * 5)) ∧ (∀ k, v.ownBlock = some k → w.heap.size ≤ k) ∧ Ext none' w w' := by
  have H := Holds.start w
  have hrow' : ∀ {w' : World}, Ext none' w w' → w'.ownsRow 0 32 5 (.slice (some ⟨b, 0, none⟩) n c) n cs := fun {w'} hE => row_stable 32 5 _ n cs w w' hE.size hE.os hE.tape hE.output (fun k _ hk => hE.blk k hk (fun h => h)) hrow
  have hsrc : ∀ {w' : World}, Ext none' w w' → Go.Wk.Src w' (.slice (some ⟨b, 0, none⟩) i c) i (cs.take (i * 5)) := fun {w'} hE => by
    have := Src.takeRow (hrow' hE) i hi
    rw [cutA_zero] at this
    exact this.grow (by simp)
  have hcl : cs.length = n * 5 := hrow.1
  refine calls_of_W' Try.func52 rfl Try.ntmps52 rfl ?_
  refine W_seq ?_
  refine W_region ?_
  refine OL_y (y_assign rfl) (by decide) ?_
  refine OL_nil ?_
  refine W_seq ?_
  refine W_seq ?_
  refine W_region ?_
  refine OL_y (y_move rfl) (by decide) ?_
  refine OL_y (v := .bool false) (y_eqlNilSlice (a := some ⟨b, 0, none⟩) Try.underlying53 rfl rfl) (by decide) ?_
  refine OL_nil ?_
  refine W_condf rfl ?_
  refine W_skip ?_
  refine W_seq ?_
  refine W_region ?_
  refine OL_c (op_buildSlice H [] ti53 ti32 rfl rfl rfl (by simp) rfl rfl (by decide) fun b5 w3_0 H => ?_)
  refine OL_y (y_move rfl) (by decide) ?_
  refine OL_c (op_append (news := cs.take (i * 5)) H 0 rfl rfl ti53 ti32 rfl rfl rfl rfl (hsrc (H.ext_of 1 rfl)) (by rw [List.length_take]; omega) (fun u hu => h1 u (List.mem_of_mem_take hu)) (by omega) (by simp only [maxLen]; omega) (by decide) fun v7 w3_2 H => ?_)
  refine OL_y (y_assign rfl) (by decide) ?_
  refine OL_nil ?_
  refine W_ret ?_
  show RetOK _ _ _ _ _ _
  have H : Holds _ [row 32 5 v7 (0 + i) ([] ++ cs.take (i * 5)), shr (fun k => k < w.heap.size) w] := H
  rw [Nat.zero_add, List.nil_append] at H
  exact ret1 (v := v7) Try.results52 rfl ⟨_, rfl, H.getRow 0 rfl, fun k hk => H.fresh 0 1 rfl rfl rfl k hk, H.ext_of 1 rfl⟩
end Go.Proofs.Ytpandioolpnihaa
