/- walk, After, Reaches: closures, and a range over them. -/
import Derived.Test.YtplpedigkhgakaaC
namespace Go.Proofs.Ytplpedigkhgakaa
open Go Go.Wk Pl
set_option linter.unusedVariables false

/-- What a boxed variable holds, later. -/
theorem blk_ext {w w' : World} {b : Nat} {o : Obj} (h : w.heap[b]? = some o) (e : Ext none' w w') : w'.heap[b]? = some o := (e.blk b (own_lt h) (fun h => h)).trans h

theorem f14_calls {w : World} {a : Value} {fr : Int} : Calls Try.prog 14 [a, .int .u64 fr].toArray w fun e w' => ∃ bf bl, e = .returned (.func (.func 18) #[] #[.pointer (some ⟨bf, 0, none⟩), .pointer (some ⟨bl, 0, none⟩)]) ∧ Ext none' w w' ∧
    w'.heap[bf]? = some (.cells #[.int .u64 fr] 23) ∧ w'.heap[bl]? = some (.cells a.cells 22) ∧ w.heap.size ≤ bf ∧ w.heap.size ≤ bl := by
  have H := Holds.start w
  refine calls_of_W' Try.func14 rfl Try.ntmps14 rfl ?_
  refine W_seq ?_
  refine W_region ?_
  refine OL_c (op_box (v := a) H rfl (by decide) fun bl w1 H => ?_)
  refine OL_c (op_box (v := .int .u64 fr) H rfl (by decide) fun bf w2 H => ?_)
  refine OL_y (y_assign rfl) (by decide) ?_
  refine OL_nil ?_
  refine W_seq ?_
  refine W_region ?_
  refine OL_y (y_makeFunc (vs := [.pointer (some ⟨bf, 0, none⟩), .pointer (some ⟨bl, 0, none⟩)]) rfl) (by decide) ?_
  refine OL_y (y_assign rfl) (by decide) ?_
  refine OL_nil ?_
  refine W_ret ?_
  show RetOK _ _ _ _ _ _
  exact ret1 (v := .func (.func 18) #[] #[.pointer (some ⟨bf, 0, none⟩), .pointer (some ⟨bl, 0, none⟩)]) Try.results14 rfl ⟨bf, bl, rfl, H.ext_of 2 rfl, H.getOwn 0 rfl, H.getOwn 1 rfl, H.fresh 0 2 rfl rfl rfl _ rfl, H.fresh 1 2 rfl rfl rfl _ rfl⟩
theorem f13_calls {w : World} {a : Value} {fr : Int} : Calls Try.prog 13 [a, .int .u64 fr].toArray w fun e w' => ∃ bl bf, e = .returned (.func (.func 17) #[] #[.pointer (some ⟨bl, 0, none⟩), .pointer (some ⟨bf, 0, none⟩)]) ∧ Ext none' w w' ∧
    w'.heap[bf]? = some (.cells #[.int .u64 fr] 23) ∧ w'.heap[bl]? = some (.cells a.cells 22) ∧ w.heap.size ≤ bf ∧ w.heap.size ≤ bl := by
  have H := Holds.start w
  refine calls_of_W' Try.func13 rfl Try.ntmps13 rfl ?_
  refine W_seq ?_
  refine W_region ?_
  refine OL_c (op_box (v := a) H rfl (by decide) fun bl w1 H => ?_)
  refine OL_c (op_box (v := .int .u64 fr) H rfl (by decide) fun bf w2 H => ?_)
  refine OL_y (y_assign rfl) (by decide) ?_
  refine OL_nil ?_
  refine W_seq ?_
  refine W_region ?_
  refine OL_y (y_makeFunc (vs := [.pointer (some ⟨bl, 0, none⟩), .pointer (some ⟨bf, 0, none⟩)]) rfl) (by decide) ?_
  refine OL_y (y_assign rfl) (by decide) ?_
  refine OL_nil ?_
  refine W_ret ?_
  show RetOK _ _ _ _ _ _
  exact ret1 (v := .func (.func 17) #[] #[.pointer (some ⟨bl, 0, none⟩), .pointer (some ⟨bf, 0, none⟩)]) Try.results13 rfl ⟨bl, bf, rfl, H.ext_of 2 rfl, H.getOwn 0 rfl, H.getOwn 1 rfl, H.fresh 0 2 rfl rfl rfl _ rfl, H.fresh 1 2 rfl rfl rfl _ rfl⟩

set_option maxHeartbeats 1000000 in
theorem f17_iter {Zx : Nat → Prop} {w : World} {a : Value} {xs : List E} {fr : Int} {bf bl : Nat} (hbf : w.heap[bf]? = some (.cells #[.int .u64 fr] 23)) (hbl : w.heap[bl]? = some (.cells #[a] 22)) (hx : SlR tE 16 Zx w a xs) (hfr : InK .u64 fr) (h40 : xs.length ≤ 40) :
    Iter Try.prog 17 [.pointer (some ⟨bl, 0, none⟩), .pointer (some ⟨bf, 0, none⟩)] (Value.int .u64) ((walkE xs fr).map (·.2)) (fun k => k = bf ∨ k = bl ∨ (Zx k ∧ k < w.heap.size)) w := by
  intro l B0 J Jx hR hJ0 hZ
  obtain ⟨H, hIt⟩ := hR.start hJ0
  obtain ⟨a0, c0, rfl, hl0, hm0⟩ := hx.len
  have hbfl := own_lt hbf
  have hbll := own_lt hbl
  have rdf : ∀ {W : World} {L : List Atom} (j : Nat), Holds W L → L[j]? = some (aZ B0 w) → W.heap[bf]? = some (.cells #[.int .u64 fr] 23) := fun j H hj => by
    obtain ⟨_, _, _, _, e⟩ := H.get hj; rw [e bf ⟨hbfl, hZ bf (.inl rfl)⟩]; exact hbf
  have rdl : ∀ {W : World} {L : List Atom} (j : Nat), Holds W L → L[j]? = some (aZ B0 w) → W.heap[bl]? = some (.cells #[.slice a0 xs.length c0] 22) := fun j H hj => by
    obtain ⟨_, _, _, _, e⟩ := H.get hj; rw [e bl ⟨hbll, hZ bl (.inr (.inl rfl))⟩]; exact hbl
  have rdx : ∀ {W : World} {L : List Atom} (j : Nat), Holds W L → L[j]? = some (aZ B0 w) → SlR tE 16 (fun k => Zx k ∧ k < w.heap.size) W (.slice a0 xs.length c0) xs := fun j H hj => by
    obtain ⟨s1, _, _, _, e⟩ := H.get hj
    exact (hx.mono fun k hk hz => ⟨hz, hk⟩).keeps ⟨s1, fun k hz hk => e k ⟨hk, hZ k (.inr (.inr hz))⟩⟩
  refine calls_of_W' Try.func17 rfl Try.ntmps17 rfl ?_
  refine W_seq ?_
  refine W_region ?_
  refine OL_c (op_box (v := .func (.yield l) #[] #[]) H rfl (by decide) fun b3 w1 H => ?_)
  refine OL_nil ?_
  refine W_seq ?_
  refine W_region ?_
  refine OL_y (y_loadS ti22 rfl rfl (Cells.unit (rdl 2 H rfl) rfl)) (by decide) ?_
  refine OL_y (y_loadS ti23 rfl rfl (Cells.unit (rdf 2 H rfl) rfl)) (by decide) ?_
  refine OL_c (op_call 14 en14 rfl [.slice a0 xs.length c0, .int .u64 fr] rfl (by decide) (f14_calls.mono ?_))
  rintro e w2 ⟨bf2, bl2, rfl, hE, hbf2, hbl2, hn1, hn2⟩
  refine ⟨_, rfl, ?_⟩
  refine OL_nil ?_
  have Hw1 := H
  have H := H.ext0 hE
  refine W_block ?_
  refine W_rangeFunc encE (walkE xs fr) (fun k => k = bf2 ∨ k = bl2 ∨ ((Zx k ∧ k < w.heap.size) ∧ k < w2.heap.size)) (fun pre Ls => ∃ B W0, Ls = [own b3 (.cells #[.func (.yield l) #[] #[]] 45), aB B B0 W0, aZ B0 w] ∧ J (pre.map (·.2)) B W0 ∧ ItInv w W0 B0 B)
    (fun e pre Ls => e = .ret ∧ ∃ B W0, Ls = [own b3 (.cells #[.func (.yield l) #[] #[]] 45), aB B B0 W0, aZ B0 w] ∧ Jx (pre.map (·.2)) B W0 ∧ ItInv w W0 B0 B ∧ pre.map (·.2) <+: (walkE xs fr).map (·.2))
    rfl en18 (by decide) H ⟨B0, w, rfl, hJ0, hIt⟩ ?_ ?_ ?_ ?_ ?_ ?_ ?_
  · rintro pre Ls ⟨B, W0, rfl, _, _⟩ at_ ha hx k hk
    simp only [List.mem_cons, List.not_mem_nil, or_false] at ha
    rcases ha with rfl | rfl | rfl
    · cases hx
    · cases hx
    · have := hE.size; have := (Hw1.get (i := 2) rfl).1; have := hk.1; omega
  · rintro e pre Ls ⟨_, B, W0, rfl, _, _⟩ at_ ha hx k hk
    simp only [List.mem_cons, List.not_mem_nil, or_false] at ha
    rcases ha with rfl | rfl | rfl
    · cases hx
    · cases hx
    · have := hE.size; have := (Hw1.get (i := 2) rfl).1; have := hk.1; omega
  · intro k hk
    have hapart : ∀ k, w1.heap.size ≤ k → ∀ a ∈ [own b3 (.cells (Value.func (.yield l) #[] #[]).cells 45), aB B0 B0 w, aZ B0 w], a.excl = true → ¬ a.F k := fun k hk a ha _ hF => by
      have := (Hw1.ok a ha).2.1 k hF; omega
    rcases hk with rfl | rfl | ⟨hk, hlt⟩
    · exact ⟨own_lt hbf2, hapart _ hn1⟩
    · exact ⟨own_lt hbl2, hapart _ hn2⟩
    · refine ⟨hlt, fun a ha hx hF => ?_⟩
      have hzk : ¬ B0 k := hZ k (.inr (.inr hk))
      obtain ⟨i, hi, rfl⟩ := List.getElem_of_mem ha
      have hz := getElem_apart Hw1.apart (i := 2) (a := aZ B0 w) rfl
      simp only [List.length_cons, List.length_nil] at hi
      have : i = 0 ∨ i = 1 ∨ i = 2 := by omega
      rcases this with rfl | rfl | rfl
      · exact hz (own b3 _) (by simp) (.inr rfl) k ⟨hk.2, hzk⟩ hF
      · exact hz (aB B0 B0 w) (by simp) (.inr rfl) k ⟨hk.2, hzk⟩ hF
      · cases hx
  · intro w' hE'
    have hbf' := blk_ext hbf2 hE'
    have hbl' := blk_ext hbl2 hE'
    have := f18_iter (Zx := fun k => (Zx k ∧ k < w.heap.size) ∧ k < w2.heap.size) hbf' hbl' (((rdx 2 H rfl).mono fun k hk hz => ⟨hz, hk⟩).keeps hE'.keeps0) hfr h40
    intro l B J Jx hR hJ hZ
    exact this l B J Jx hR hJ fun k hk => hZ k (hk.imp id (Or.imp id fun h => h.1))
  · rintro l' aL aL' aD aO pre x Ls Wd ⟨B, W0, rfl, hJ, hIt⟩ hpre HH
    refine W_region ?_
    refine OL_var HH ti35 rfl (by decide) (fun _ => rfl) rfl (by simp [Value.cells, Value.oneCell']) fun b4 w3 HH => ?_
    refine OL_nil ?_
    have HH := HH.perm (L' := [aL, aD, aO, own b4 (.cells #[.int .u64 x.1, .int .u64 x.2] 35), own b3 (.cells #[.func (.yield l) #[] #[]] 45), aB B B0 W0, aZ B0 w]) (by
      exact (List.Perm.swap _ _ _).trans (List.Perm.cons _ ((List.Perm.swap _ _ _).trans (List.Perm.cons _ (List.Perm.swap _ _ _)))))
    refine ⟨_, HH, fun W2 HH => ?_⟩
    refine W_block ?_
    refine W_seq ?_
    refine W_region ?_
    refine OL_y (y_loadS ti45 rfl rfl (Cells.unit (HH.getOwn 4 rfl) rfl)) (by decide) ?_
    refine OL_y (y_fieldAddr ti35 rfl ti23 rfl rfl) (by decide) ?_
    refine OL_y (y_loadS ti23 rfl rfl (Cells.unit (HH.getOwn 3 rfl) rfl)) (by decide) ?_
    have hp2 : pre.map (·.2) ++ [x.2] <+: (walkE xs fr).map (·.2) := by
      obtain ⟨c, hc⟩ := hpre; exact ⟨c.map (·.2), by rw [← hc]; simp⟩
    refine OL_yield (hR.yield hJ hIt HH 5 6 rfl rfl hp2) rfl rfl (by decide) ?_
    rintro e W' (⟨rfl, B', hJ', hIt', H'⟩ | ⟨rfl, B', hJ', hIt', H'⟩)
    · refine ⟨_, rfl, ?_⟩
      refine OL_y (y_not rfl) (by decide) ?_
      refine OL_nil ?_
      refine W_condf rfl ?_
      refine W_skip ?_
      refine ⟨_, ⟨B', W', rfl, by rw [List.map_append]; exact hJ', hIt'⟩, H'.sub (.cons_cons _ (.cons_cons _ (.cons_cons _ (.cons _ (.refl _)))))⟩
    · refine ⟨_, rfl, ?_⟩
      refine OL_y (y_not rfl) (by decide) ?_
      refine OL_nil ?_
      refine W_condt rfl ?_
      refine W_ret ?_
      refine ⟨_, ⟨rfl, B', W', rfl, by rw [List.map_append]; exact hJ', hIt', by rw [List.map_append]; exact hp2⟩, H'.sub (.cons_cons _ (.cons_cons _ (.cons_cons _ (.cons _ (.refl _)))))⟩
  · rintro D Ls W ⟨B, W0, rfl, hJ, hIt⟩ HH
    refine RetOK.mark (HH.getOwn 0 rfl) ?_
    have HH := HH.put 0 rfl (.deferred none)
    exact ret0 Try.results17 ⟨⟨_, rfl⟩, hR.done hJ hIt HH 2 3 rfl rfl⟩
  · rintro D pre Ls W e hpre ⟨rfl, B, W0, rfl, hJ, hIt, hp⟩ HH
    refine RetOK.mark (HH.getOwn 0 rfl) ?_
    have HH := HH.put 0 rfl (.deferred none)
    exact ret0 Try.results17 ⟨⟨_, rfl⟩, hR.left hJ hp hIt HH 2 3 rfl rfl⟩

/-- Reaches. -/
theorem f12_calls {Zx : Nat → Prop} {w : World} {a : Value} {xs : List E} {fr to : Int} (hx : SlR tE 16 Zx w a xs) (hfr : InK .u64 fr) (h40 : xs.length ≤ 40) :
    Calls Try.prog 12 [a, .int .u64 fr, .int .u64 to].toArray w fun e w' => e = .returned (.bool (decide (to ∈ (walkE xs fr).map (·.2)))) ∧ Ext none' w w' := by
  have H := Holds.start w
  obtain ⟨a0, c0, rfl, hl0, hm0⟩ := hx.len
  have hx := hx.mono (Z' := fun k => Zx k ∧ k < w.heap.size) fun k hk hz => ⟨hz, hk⟩
  refine calls_of_W' Try.func12 rfl Try.ntmps12 rfl ?_
  refine W_seq ?_
  refine W_region ?_
  refine OL_c (op_box (v := .int .u64 to) H rfl (by decide) fun b5 w1 H => ?_)
  refine OL_c (op_alloc H ti4 (by decide) fun b6 w2 H => ?_)
  refine OL_nil ?_
  refine W_seq ?_
  refine W_seq ?_
  refine W_region ?_
  refine OL_y (y_move rfl) (by decide) ?_
  refine OL_y (y_move rfl) (by decide) ?_
  refine OL_c (op_call 13 en13 rfl [.slice a0 xs.length c0, .int .u64 fr] rfl (by decide) (f13_calls.mono ?_))
  rintro e w3 ⟨bl, bf, rfl, hE, hbf, hbl, hn1, hn2⟩
  refine ⟨_, rfl, ?_⟩
  refine OL_nil ?_
  have Hw2 := H
  have H := H.ext0 hE
  have hxw := hx.keeps (H.keepsAll 2 rfl _)
  refine W_block ?_
  refine W_rangeFunc (Value.int .u64) ((walkE xs fr).map (·.2)) (fun k => k = bf ∨ k = bl ∨ ((Zx k ∧ k < w.heap.size) ∧ k < w3.heap.size))
    (fun pre Ls => Ls = [own b6 (.cells #[.bool false] 4), own b5 (.cells #[.int .u64 to] 23), shr (fun k => k < w.heap.size) w] ∧ to ∉ pre)
    (fun e pre Ls => e = .ret ∧ Ls = [own b6 (.cells #[.bool true] 4), own b5 (.cells #[.int .u64 to] 23), shr (fun k => k < w.heap.size) w] ∧ to ∈ pre)
    rfl en17 (by decide) H ⟨rfl, by simp⟩ ?_ ?_ ?_ ?_ ?_ ?_ ?_
  · rintro pre Ls ⟨rfl, _⟩ at_ ha hx k hk
    simp only [List.mem_cons, List.not_mem_nil, or_false] at ha
    rcases ha with rfl | rfl | rfl
    · cases hx
    · cases hx
    · have := (H.get (i := 2) rfl).1; simp only at hk; omega
  · rintro e pre Ls ⟨_, rfl, _⟩ at_ ha hx k hk
    simp only [List.mem_cons, List.not_mem_nil, or_false] at ha
    rcases ha with rfl | rfl | rfl
    · cases hx
    · cases hx
    · have := (H.get (i := 2) rfl).1; simp only at hk; omega
  · intro k hk
    rcases hk with rfl | rfl | ⟨hk, hlt⟩
    · exact ⟨own_lt hbf, fun a ha _ hF => by have := (Hw2.ok a ha).2.1 k hF; omega⟩
    · exact ⟨own_lt hbl, fun a ha _ hF => by have := (Hw2.ok a ha).2.1 k hF; omega⟩
    · refine ⟨hlt, fun a ha hx hF => ?_⟩
      simp only [List.mem_cons, List.not_mem_nil, or_false] at ha
      rcases ha with rfl | rfl | rfl
      · have := Hw2.fresh 0 2 rfl rfl rfl k hF; have := hk.2; omega
      · have := Hw2.fresh 1 2 rfl rfl rfl k hF; have := hk.2; omega
      · cases hx
  · intro w' hE'
    have := f17_iter (Zx := fun k => (Zx k ∧ k < w.heap.size) ∧ k < w3.heap.size) (blk_ext hbf hE') (blk_ext hbl hE') ((hxw.mono fun k hk hz => ⟨hz, hk⟩).keeps hE'.keeps0) hfr h40
    intro l B J Jx hR hJ hZ
    exact this l B J Jx hR hJ fun k hk => hZ k (hk.imp id (Or.imp id fun h => h.1))
  · rintro l' aL aL' aD aO pre x Ls Wd ⟨rfl, hni⟩ hpre HH
    refine W_region ?_
    refine OL_y (y_assign rfl) (by decide) ?_
    refine OL_nil ?_
    refine ⟨_, HH, fun W2 HH => ?_⟩
    refine W_block ?_
    refine W_seq ?_
    refine W_region ?_
    refine OL_y (y_move rfl) (by decide) ?_
    refine OL_y (y_loadS ti23 rfl rfl (Cells.unit (HH.getOwn 4 rfl) rfl)) (by decide) ?_
    refine OL_y (y_eql rfl rfl) (by decide) ?_
    refine OL_nil ?_
    refine W_cond rfl (fun hc => ?_) (fun hc => ?_)
    · have hc := of_decide_eq_true hc
      refine W_seq ?_
      refine W_region ?_
      refine OL_c (op_store (v := .bool true) HH 3 rfl ti4 rfl rfl rfl (by decide) (by simp [Value.cells, Value.oneCell']) fun w4 HH => ?_)
      refine OL_nil ?_
      refine W_ret ?_
      exact ⟨_, ⟨rfl, rfl, by simp [hc]⟩, HH⟩
    · have hc := of_decide_eq_false hc
      refine W_skip ?_
      exact ⟨_, ⟨rfl, by simp [hni]; exact fun h => hc h.symm⟩, HH⟩
  · rintro D Ls W ⟨rfl, hni⟩ HH
    refine W_seq ?_
    refine W_region ?_
    refine OL_c (op_store (v := .bool false) HH 1 rfl ti4 rfl rfl rfl (by decide) (by simp [Value.cells, Value.oneCell']) fun w4 HH => ?_)
    refine OL_nil ?_
    refine W_ret ?_
    refine RetOK.mark (HH.getOwn 0 rfl) ?_
    have HH := HH.put 0 rfl (.deferred none)
    exact ret1c (v := .bool false) Try.results12 rfl (run_loadVarS ti4 rfl (Cells.unit (HH.getOwn 1 rfl) rfl)) ⟨by simp only [decide_eq_false hni], HH.ext_of 3 rfl⟩
  · rintro D pre Ls W e hpre ⟨rfl, rfl, hin⟩ HH
    refine RetOK.mark (HH.getOwn 0 rfl) ?_
    have HH := HH.put 0 rfl (.deferred none)
    have hin' : to ∈ (walkE xs fr).map (·.2) := hpre.subset hin
    exact ret1c (v := .bool true) Try.results12 rfl (run_loadVarS ti4 rfl (Cells.unit (HH.getOwn 1 rfl) rfl)) ⟨by simp only [decide_eq_true hin'], HH.ext_of 3 rfl⟩
end Go.Proofs.Ytplpedigkhgakaa
