/- PLAIN: small histories; runs stand once each; no program in sight. -/
import Derived.Test.YtelgegodeifbiaaPR
namespace Go.Proofs.Ytelgegodeifbiaa
open Pl
theorem small_spec {xs : List Ev} (h : small xs = true) : xs.length ≤ 30 ∧ ∀ e ∈ xs, e.seen.length ≤ 8 := by
  unfold small at h
  rw [Bool.and_eq_true, decide_eq_true_iff] at h
  refine ⟨h.2, fun e he => ?_⟩
  have h1 : xs.any bigEv = false := by simpa using h.1
  have h2 : bigEv e = false := by rw [List.any_eq_false] at h1; simpa using h1 e he
  unfold bigEv bigHead at h2
  rw [Bool.or_eq_false_iff, Bool.or_eq_false_iff, decide_eq_false_iff_not] at h2
  omega

theorem runs_nodup (h : List Ev) : ((runs h).map (·.txn)).Nodup := by
  have h1 : ∀ (l : List Ev) (s : List Rn), (s.map (·.txn)).Nodup → ((l.foldl pass1 s).map (·.txn)).Nodup := by
    intro l
    induction l with
    | nil => intro s hs; exact hs
    | cons e l ih => intro s hs; exact ih _ (pass1_nodup hs e)
  have h2 : ∀ (l : List Ev) (s : List Rn), (l.foldl pass2 s).map (·.txn) = s.map (·.txn) := by
    intro l
    induction l with
    | nil => intro s; rfl
    | cons e l ih => intro s; rw [List.foldl_cons, ih, pass2_txn]
  unfold runs
  rw [h2]
  exact h1 h [] (by simp)
theorem runs_len (h : List Ev) : (runs h).length ≤ h.length := by
  have h1 : ∀ (l : List Ev) (s : List Rn), (l.foldl pass1 s).length ≤ s.length + l.length := by
    intro l
    induction l with
    | nil => intro s; simp
    | cons e l ih =>
      intro s
      have := ih (pass1 s e)
      have h2 : (pass1 s e).length ≤ s.length + 1 := by unfold pass1; split <;> simp
      rw [List.foldl_cons, List.length_cons]; omega
  have h2 : ∀ (l : List Ev) (s : List Rn), (l.foldl pass2 s).length = s.length := by
    intro l
    induction l with
    | nil => intro s; rfl
    | cons e l ih => intro s; rw [List.foldl_cons, ih]; unfold pass2; rw [List.length_map]
  unfold runs
  rw [h2]
  simpa using h1 h []

theorem txn_inj {l : List Rn} (hn : (l.map (·.txn)).Nodup) {x y : Rn} (hx : x ∈ l) (hy : y ∈ l) (h : x.txn = y.txn) : x = y := by
  obtain ⟨i, hi⟩ := List.getElem?_of_mem hx
  obtain ⟨j, hj⟩ := List.getElem?_of_mem hy
  have := txn_unique hn hi hj h
  subst this
  rw [hi] at hj
  exact Option.some.inj hj
end Go.Proofs.Ytelgegodeifbiaa
