/- THE GROUND OF THE WALKS, 24: the order of texts; rows of texts that rise are known by their members. -/
import Derived.Test.YtngnplhdokboiaaWkn
namespace Go.Wk
open Go

theorem bLt_irrefl (a : ByteArray) : ¬ bLt a a := List.lt_irrefl _
theorem bLt_trans {a b c : ByteArray} (h : bLt a b) (k : bLt b c) : bLt a c := List.lt_trans h k
theorem bytes_ext {a b : ByteArray} (h : a.data.toList = b.data.toList) : a = b := by
  obtain ⟨⟨a⟩⟩ := a; obtain ⟨⟨b⟩⟩ := b; simp at h; subst h; rfl
theorem bLt_tri {a b : ByteArray} (h : ¬ bLt a b) (k : ¬ bLt b a) : a = b := bytes_ext (List.le_antisymm (List.not_lt.1 k) (List.not_lt.1 h))
theorem bLt_asymm {a b : ByteArray} (h : bLt a b) : ¬ bLt b a := fun k => bLt_irrefl a (bLt_trans h k)
theorem bLt_of_le {a b : ByteArray} (h : a.data.toList ≤ b.data.toList) (hne : a ≠ b) : bLt a b := Classical.byContradiction fun hn => hne (bytes_ext (List.le_antisymm h (List.not_lt.1 hn)))
theorem not_bLt_of_le {a b : ByteArray} (h : a.data.toList ≤ b.data.toList) : ¬ bLt b a := List.not_lt.2 h
/-- Two rows that rise, with the same members, are one. -/
theorem rise_unique {α : Type} {lt : α → α → Prop} (hi : ∀ a, ¬ lt a a) (ht : ∀ {a b c}, lt a b → lt b c → lt a c) {l l' : List α} (h : l.Pairwise lt) (h' : l'.Pairwise lt) (hm : ∀ a, a ∈ l ↔ a ∈ l') : l = l' := by
  have nd : ∀ {l : List α}, l.Pairwise lt → l.Nodup := fun h => List.nodup_iff_pairwise_ne.2 (List.Pairwise.imp (S := fun a b => a ≠ b) (fun {a b} (h : lt a b) (e : a = b) => hi a (by rw [← e] at h; exact h)) h)
  exact List.Perm.eq_of_pairwise (fun a b _ _ h1 h2 => (hi a (ht h1 h2)).elim) h h' ((List.perm_ext_iff_of_nodup (nd h) (nd h')).2 hm)
theorem rise_nodup {α : Type} {lt : α → α → Prop} (hi : ∀ a, ¬ lt a a) {l : List α} (h : l.Pairwise lt) : l.Nodup := List.nodup_iff_pairwise_ne.2 (List.Pairwise.imp (S := fun a b => a ≠ b) (fun {a b} (h : lt a b) (e : a = b) => hi a (by rw [← e] at h; exact h)) h)
/-- A row put in order in which nothing stands twice rises. -/
theorem rise_of_le {l : List ByteArray} (h : l.Pairwise fun a b => a.data.toList ≤ b.data.toList) (hn : l.Nodup) : l.Pairwise bLt := by
  rw [List.nodup_iff_pairwise_ne] at hn
  exact (h.and hn).imp fun {a b} h => bLt_of_le h.1 h.2
abbrev kLt (a b : List Int) : Prop := bLt (kb a) (kb b)
/-- One put between those below it and those above it. -/
theorem rise_ins {α : Type} {lt : α → α → Prop} {A B : List α} {x : α} (h : (A ++ B).Pairwise lt) (h1 : ∀ a ∈ A, lt a x) (h2 : ∀ b ∈ B, lt x b) : (A ++ x :: B).Pairwise lt := by
  rw [List.pairwise_append] at h ⊢
  refine ⟨h.1, List.pairwise_cons.2 ⟨h2, h.2.1⟩, fun a ha b hb => ?_⟩
  rcases List.mem_cons.1 hb with rfl | hb
  · exact h1 a ha
  · exact h.2.2 a ha b hb
end Go.Wk
