/- PLAIN: two rows in order, one behind the other, put in order; no program in sight. -/
import Derived.Test.YtelgegodeifbiaaO4
namespace Go.Proofs.Ytelgegodeifbiaa
open Go Go.Wk Pl

theorem le_refl (x : RR) : le x x := by rw [le_iff]; omega
theorem take_le {l : List RR} (hs : Srt l) {h : Nat} {u : RR} (hu : l[h]? = some u) : ∀ z ∈ l.take (h + 1), le z u := by
  intro z hz
  obtain ⟨i, hi⟩ := List.getElem?_of_mem hz
  have hl := (List.getElem?_eq_some_iff.1 hu).1
  have hil := (List.getElem?_eq_some_iff.1 hi).1
  rw [List.length_take] at hil
  rw [List.getElem?_take_of_lt (by omega)] at hi
  by_cases e : i = h
  · subst e; rw [hu] at hi; injection hi with hi; subst hi; exact le_refl _
  · obtain ⟨h1, e1⟩ := List.getElem?_eq_some_iff.1 hi
    obtain ⟨h2, e2⟩ := List.getElem?_eq_some_iff.1 hu
    have := List.pairwise_iff_getElem.1 hs i h h1 h2 (by omega)
    rwa [e1, e2] at this
theorem drop_ge {l : List RR} (hs : Srt l) {h : Nat} {u : RR} (hu : l[h]? = some u) : ∀ z ∈ l.drop h, le u z := by
  intro z hz
  obtain ⟨i, hi⟩ := List.getElem?_of_mem hz
  rw [List.getElem?_drop] at hi
  by_cases e : i = 0
  · subst e; rw [Nat.add_zero, hu] at hi; injection hi with hi; subst hi; exact le_refl _
  · obtain ⟨h1, e1⟩ := List.getElem?_eq_some_iff.1 hi
    obtain ⟨h2, e2⟩ := List.getElem?_eq_some_iff.1 hu
    have := List.pairwise_iff_getElem.1 hs h (h + i) h2 h1 (by omega)
    rwa [e1, e2] at this
theorem lt_of_le_lt {x y z : RR} (h1 : le x y) (h2 : cmpR y.r z.r < 0) : cmpR x.r z.r < 0 := by
  rw [le_iff] at h1; rw [cmpR_neg] at *; omega
theorem lt_of_lt_le {x y z : RR} (h1 : cmpR x.r y.r < 0) (h2 : le y z) : cmpR x.r z.r < 0 := by
  rw [le_iff] at h2; rw [cmpR_neg] at *; omega
/-- One put between. -/
theorem one_fin {C1 C2 : List RR} {x : RR} (hs : Srt (C1 ++ C2)) (h1 : ∀ z ∈ C1, le z x) (h2 : ∀ z ∈ C2, le x z) : Srt (C1 ++ x :: C2) := by
  unfold Srt at *
  rw [List.pairwise_append] at hs ⊢
  refine ⟨hs.1, List.pairwise_cons.2 ⟨h2, hs.2.1⟩, fun a ha b hb => ?_⟩
  rcases List.mem_cons.1 hb with rfl | hb
  · exact h1 a ha
  · exact hs.2.2 a ha b hb
theorem merge_fin {L1 L2 R1 R2 S1 S2 : List RR} (hB : Srt (L1 ++ L2)) (hC : Srt (R1 ++ R2)) (h1 : ∀ x ∈ L1, ∀ y ∈ R2, le x y) (h2 : ∀ x ∈ L2, ∀ y ∈ R1, le y x) (p1 : S1.Perm (L1 ++ R1)) (p2 : S2.Perm (L2 ++ R2)) (s1 : Srt S1) (s2 : Srt S2) : Srt (S1 ++ S2) := by
  refine List.pairwise_append.2 ⟨s1, s2, fun a ha b hb => ?_⟩
  have ha := p1.mem_iff.1 ha
  have hb := p2.mem_iff.1 hb
  rcases List.mem_append.1 ha with ha | ha <;> rcases List.mem_append.1 hb with hb | hb
  · exact (List.pairwise_append.1 hB).2.2 a ha b hb
  · exact h1 a ha b hb
  · exact h2 b hb a ha
  · exact (List.pairwise_append.1 hC).2.2 a ha b hb
/-- Behind the search: where the rows are cut. -/
theorem cut_le {B C : List RR} (sB : Srt B) (sC : Srt C) {q t : Nat} (hqB : q ≤ B.length) (h : q = 0 ∨ C.length ≤ t ∨ ∀ x y, B[q - 1]? = some x → C[t]? = some y → le x y) : ∀ x ∈ B.take q, ∀ y ∈ C.drop t, le x y := by
  intro x hx y hy
  by_cases hq : q = 0
  · subst hq; simp at hx
  by_cases ht : C.length ≤ t
  · rw [List.drop_of_length_le ht] at hy; cases hy
  have h := (h.resolve_left hq).resolve_left ht
  have h1 := take_le sB (List.getElem?_eq_getElem (show q - 1 < B.length by omega)) x (by rw [show q - 1 + 1 = q by omega]; exact hx)
  have h2 := drop_ge sC (List.getElem?_eq_getElem (show t < C.length by omega)) y hy
  exact le_trans h1 (le_trans (h _ _ (List.getElem?_eq_getElem (by omega)) (List.getElem?_eq_getElem (by omega))) h2)
theorem cut_lt {B C : List RR} (sB : Srt B) (sC : Srt C) {q t : Nat} (htC : t ≤ C.length) (h : t = 0 ∨ B.length ≤ q ∨ ∀ x y, B[q]? = some x → C[t - 1]? = some y → cmpR y.r x.r < 0) : ∀ x ∈ B.drop q, ∀ y ∈ C.take t, le y x := by
  intro x hx y hy
  by_cases ht : t = 0
  · subst ht; simp at hy
  by_cases hq : B.length ≤ q
  · rw [List.drop_of_length_le hq] at hx; cases hx
  have h := (h.resolve_left ht).resolve_left hq
  have h1 := take_le sC (List.getElem?_eq_getElem (show t - 1 < C.length by omega)) y (by rw [show t - 1 + 1 = t by omega]; exact hy)
  have h2 := drop_ge sB (List.getElem?_eq_getElem (show q < B.length by omega)) x hx
  exact le_trans h1 (le_trans (le_of_lt (h _ _ (List.getElem?_eq_getElem (by omega)) (List.getElem?_eq_getElem (by omega)))) h2)
theorem half (n : Nat) : ((n : Nat) : Int).fdiv 2 = ((n / 2 : Nat) : Int) := by
  rw [Int.fdiv_eq_ediv_of_nonneg _ (by decide)]; omega
end Go.Proofs.Ytelgegodeifbiaa
