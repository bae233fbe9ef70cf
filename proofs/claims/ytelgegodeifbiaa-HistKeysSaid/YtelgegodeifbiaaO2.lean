/- PLAIN: runs in order, put in order; no program in sight. -/
import Derived.Test.YtelgegodeifbiaaO1
namespace Go.Proofs.Ytelgegodeifbiaa
open Go Go.Wk Pl

theorem cmpR_neg {x y : Rn} : cmpR x y < 0 ↔ (x.ts < y.ts ∨ (x.ts = y.ts ∧ x.txn < y.txn)) := by
  unfold cmpR cmp2
  by_cases h1 : x.ts < y.ts
  · simp [h1]
  · by_cases h2 : x.ts > y.ts
    · simp [h1, h2]; omega
    · have h3 : x.ts = y.ts := by omega
      simp [h3]
      split
      · rename_i h; simp [h]
      · rename_i h; split <;> simp <;> omega
/-- x may stand ahead of y. -/
def le (x y : RR) : Prop := ¬ cmpR y.r x.r < 0
theorem le_iff {x y : RR} : le x y ↔ (x.r.ts < y.r.ts ∨ (x.r.ts = y.r.ts ∧ x.r.txn ≤ y.r.txn)) := by
  unfold le; rw [cmpR_neg]; omega
theorem le_trans {x y z : RR} (h1 : le x y) (h2 : le y z) : le x z := by
  rw [le_iff] at *; omega
theorem le_of_lt {x y : RR} (h : cmpR x.r y.r < 0) : le x y := by
  rw [le_iff]; rw [cmpR_neg] at h; omega
abbrev Srt (l : List RR) : Prop := l.Pairwise le

theorem at_mid {α : Type} {P Q : List α} {x : α} {j : Nat} (h : j = P.length) : (P ++ x :: Q)[j]? = some x := by
  subst h; simp
theorem swap_adj {α : Type} {P Q : List α} {x z : α} {j : Nat} (h : j = P.length) : ((P ++ z :: x :: Q).set (j + 1) z).set j x = P ++ x :: z :: Q := by
  subst h; simp [List.set_append]
theorem swap_adj' {α : Type} {P Q : List α} {x z : α} {j : Nat} (h : j = P.length) : ((P ++ z :: x :: Q).set j x).set (j + 1) z = P ++ x :: z :: Q := by
  subst h; simp [List.set_append]
theorem swap_two {α : Type} {P M Q : List α} {u v : α} {i j : Nat} (hi : i = P.length) (hj : j = P.length + 1 + M.length) : ((P ++ u :: (M ++ v :: Q)).set i v).set j u = P ++ v :: (M ++ u :: Q) := by
  subst hi; subst hj; simp [List.set_append, Nat.add_assoc, Nat.add_sub_cancel_left, Nat.add_comm 1]
/-- One is put in its place. -/
theorem ins_sorted {S1 S2 : List RR} {x : RR} (h : Srt (S1 ++ S2)) (h2 : ∀ y ∈ S2, cmpR x.r y.r < 0) (h1 : S1 = [] ∨ ∃ S z, S1 = S ++ [z] ∧ ¬ cmpR x.r z.r < 0) : Srt (S1 ++ x :: S2) := by
  unfold Srt at *
  rw [List.pairwise_append] at h ⊢
  refine ⟨h.1, ?_, ?_⟩
  · rw [List.pairwise_cons]; exact ⟨fun y hy => le_of_lt (h2 y hy), h.2.1⟩
  · intro y hy z hz
    rcases List.mem_cons.1 hz with rfl | hz
    · rcases h1 with rfl | ⟨S, u, rfl, hu⟩
      · cases hy
      · rcases List.mem_append.1 hy with hy | hy
        · have := (List.pairwise_append.1 h.1).2.2 y hy u (by simp)
          exact le_trans this hu
        · simp at hy; subst hy; exact hu
    · exact h.2.2 y hy z hz
end Go.Proofs.Ytelgegodeifbiaa
