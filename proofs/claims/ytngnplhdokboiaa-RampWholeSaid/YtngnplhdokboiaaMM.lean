/- maps.Keys of a map by texts: whatever order it may come in. -/
import Derived.Test.YtngnplhdokboiaaMK
namespace Go.Proofs.Ytngnplhdokboiaa
open Go Go.Wk
set_option linter.unusedVariables false
set_option linter.unusedSimpArgs false

set_option maxHeartbeats 2000000 in
theorem f27_iter {w : World} {bx bm : Nat} {es : Array MapEntry} {clock : Nat} {m : List (ByteArray × Value)} (hbx : w.heap[bx]? = some (.cells #[.map (some bm)] 51)) (hb : w.heap[bm]? = some (.map es clock)) (hm : MapObj Value.string m (.map es clock)) :
    IterQ Try.prog 27 [.pointer (some ⟨bx, 0, none⟩)] Value.string (fun pre => ∃ rest, (pre ++ rest).Perm (m.map (·.1))) (fun xs => xs.Perm (m.map (·.1))) (fun k => k = bx ∨ k = bm) w := by
  intro l B0 J Jx hR hJ0 hZ
  obtain ⟨H, hIt⟩ := hR.start hJ0
  have rdx : ∀ {W : World} {L : List Atom} (j : Nat), Holds W L → L[j]? = some (aZ B0 w) → W.heap[bx]? = some (.cells #[.map (some bm)] 51) := fun j H hj => by
    obtain ⟨_, _, _, _, e⟩ := H.get hj; rw [e bx ⟨own_lt hbx, hZ bx (.inl rfl)⟩]; exact hbx
  have rdm : ∀ {W : World} {L : List Atom} (j : Nat), Holds W L → L[j]? = some (aZ B0 w) → W.heap[bm]? = some (.map es clock) := fun j H hj => by
    obtain ⟨_, _, _, _, e⟩ := H.get hj; rw [e bm ⟨own_lt hb, hZ bm (.inr rfl)⟩]; exact hb
  refine calls_of_W' Try.func27 rfl Try.ntmps27 rfl ?_
  refine W_seq ?_
  refine W_region ?_
  refine OL_y (y_loadS (v := .map (some bm)) ti51 rfl rfl (Cells.unit (rdx 1 H rfl) rfl)) (by decide) ?_
  refine OL_c (op_range (K := Value.string) H (rdm 1 H rfl) hm ti51 rfl (by decide) fun r w0_1 hE0 H hr => ?_)
  refine OL_nil ?_
  refine W_block (W_loopN (fun g f ds W => ∃ (since c0 : Nat) (seen : Array Nat) (left : List (ByteArray × Value)) (pre : List ByteArray) (B : Nat → Prop) (W0 : World), g = left.length ∧ f 0 = .func (.yield l) #[] #[] ∧ f 5 = .pointer (some ⟨r, 0, none⟩) ∧ ds = [] ∧ since ≤ c0 ∧ since ≤ clock ∧ Rng Value.string es since seen left ∧ (pre ++ left.map (·.1)).Perm (m.map (·.1)) ∧
      Holds W [own r (.mapIter (some bm) since seen c0), aB B B0 W0, aZ B0 w] ∧ J pre B W0 ∧ ItInv w W0 B0 B)
      m.length ⟨clock, clock, #[], m, [], B0, w, rfl, rfl, rfl, rfl, Nat.le_refl _, Nat.le_refl _, hr, by simp, H, hJ0, hIt⟩
      ?_)
  rintro g f ds w1 ⟨since, c0, seen, left, pre, B, W0, rfl, h0, h5, rfl, hsc, hsc2, hr, hp, H, hJ, hIt⟩
  refine W_seq ?_
  refine W_region ?_
  refine OL_c (op_next H 0 rfl (rdm 2 H rfl) hr hsc h5 (by decide) ?_ ?_)
  · rintro rfl
    refine OL_y (y_extract (v := .bool false) rfl rfl) (by decide) ?_
    refine OL_nil ?_
    refine W_seq ?_
    refine W_condf rfl ?_
    refine W_exit ?_
    show RetOK _ _ _ _ _ _
    exact ret0 Try.results27 ⟨⟨_, rfl⟩, hR.done (by simpa using hp) hJ hIt H 1 2 rfl rfl⟩
  · rintro e pa u pb w1_0 rfl hmem hek hev hEn H hr
    refine OL_y (y_extract (v := .bool true) rfl rfl) (by decide) ?_
    refine OL_nil ?_
    refine W_seq ?_
    refine W_condt rfl ?_
    refine W_skip ?_
    refine W_block ?_
    refine W_seq ?_
    refine W_region ?_
    refine OL_y (y_entry (H.getOwn 0 rfl) (rdm 2 H rfl) hmem hr.born hek hev h5) (by decide) ?_
    refine OL_y (y_extract rfl rfl) (by decide) ?_
    refine OL_y (y_assign rfl) (by decide) ?_
    refine OL_nil ?_
    refine W_seq ?_
    have hx : ∃ rest, (pre ++ [u.1] ++ rest).Perm (m.map (·.1)) := ⟨(pa ++ pb).map (·.1), by
      refine List.Perm.trans ?_ hp
      rw [List.append_assoc]
      refine List.Perm.append_left pre ?_
      simp only [List.map_append, List.map_cons, List.singleton_append]
      exact List.perm_middle.symm⟩
    refine W_region ?_
    refine OL_y (y_move h0) (by decide) ?_
    refine OL_y (y_move rfl) (by decide) ?_
    refine OL_yield (hR.yield hJ hIt H 1 2 rfl rfl hx) rfl rfl (by decide) ?_
    rintro e2 W' (⟨rfl, B', hJ', hIt', H'⟩ | ⟨rfl, B', hJ', hIt', H'⟩)
    rotate_left
    · refine ⟨_, rfl, ?_⟩
      refine OL_y (y_not rfl) (by decide) ?_
      refine OL_nil ?_
      refine W_condt rfl ?_
      refine W_ret ?_
      show RetOK _ _ _ _ _ _
      exact ret0 Try.results27 ⟨⟨_, rfl⟩, hR.left hJ' hx hIt' H' 1 2 rfl rfl⟩
    refine ⟨_, rfl, ?_⟩
    refine OL_y (v := .bool false) (y_not (b := true) rfl) (by decide) ?_
    refine OL_nil ?_
    refine W_condf rfl ?_
    refine W_skip ?_
    refine ⟨(pa ++ pb).length, by simp, since, _, _, pa ++ pb, pre ++ [u.1], B', W', rfl, h0, h5, rfl, hsc2, hsc2, hr, ?_, H', hJ', hIt'⟩
    · refine List.Perm.trans ?_ hp
      rw [List.append_assoc]
      refine List.Perm.append_left pre ?_
      simp only [List.map_append, List.map_cons, List.singleton_append]
      exact List.perm_middle.symm
theorem f19_calls {w : World} {bm : Nat} : Calls Try.prog 19 [.map (some bm)].toArray w fun e w' => ∃ bx, e = .returned (.func (.func 27) #[] #[.pointer (some ⟨bx, 0, none⟩)]) ∧ Ext none' w w' ∧ w'.heap[bx]? = some (.cells #[.map (some bm)] 51) ∧ w.heap.size ≤ bx := by
  have H := Holds.start w
  refine calls_of_W' Try.func19 rfl Try.ntmps19 rfl ?_
  refine W_seq ?_
  refine W_region ?_
  refine OL_c (op_box (v := .map (some bm)) H rfl (by decide) fun b1 w0_0 H => ?_)
  refine OL_y (y_assign rfl) (by decide) ?_
  refine OL_nil ?_
  refine W_seq ?_
  refine W_region ?_
  refine OL_y (y_makeFunc (vs := [.pointer (some ⟨b1, 0, none⟩)]) rfl) (by decide) ?_
  refine OL_y (y_assign rfl) (by decide) ?_
  refine OL_nil ?_
  refine W_ret ?_
  show RetOK _ _ _ _ _ _
  exact ret1 (v := .func (.func 27) #[] #[.pointer (some ⟨b1, 0, none⟩)]) Try.results19 rfl ⟨b1, rfl, H.ext_of 1 rfl, H.getOwn 0 rfl, H.fresh 0 1 rfl rfl rfl _ rfl⟩
end Go.Proofs.Ytngnplhdokboiaa
