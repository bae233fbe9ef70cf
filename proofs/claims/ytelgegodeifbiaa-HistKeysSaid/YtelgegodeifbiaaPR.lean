/- PLAIN: what a history tells of each transaction; no program in sight. -/
import Derived.Test.YtelgegodeifbiaaP
namespace Go.Proofs.Ytelgegodeifbiaa.Pl
def beginR (e : Ev) : Rn := ⟨e.txn, e.level, 0, e.ts, 0, [], [], []⟩
def pass1 (s : List Rn) (e : Ev) : List Rn := if e.kind = 1 ∧ e.txn ∉ s.map (·.txn) then s ++ [beginR e] else s
def endR (e : Ev) (r : Rn) : Rn := if r.state = 0 then { r with state := if e.kind = 3 then 1 else 2, ts := e.ts, keys := e.keys } else r
def updR (e : Ev) (r : Rn) : Rn :=
  if e.kind = 2 then { r with seen := r.seen ++ e.seen, spans := r.spans ++ [e.span] } else
  if e.kind = 3 ∨ e.kind = 4 then endR e r else r
def pass2 (s : List Rn) (e : Ev) : List Rn := s.map fun r => if r.txn = e.txn then updR e r else r
def runs (h : List Ev) : List Rn := h.foldl pass2 (h.foldl pass1 [])
theorem endR_txn (e : Ev) (r : Rn) : (endR e r).txn = r.txn := by unfold endR; split <;> rfl
theorem updR_txn (e : Ev) (r : Rn) : (updR e r).txn = r.txn := by
  unfold updR; split
  · rfl
  · split
    · exact endR_txn e r
    · rfl
theorem pass2_txn (s : List Rn) (e : Ev) : (pass2 s e).map (·.txn) = s.map (·.txn) := by
  unfold pass2; rw [List.map_map]
  apply List.map_congr_left
  intro r _
  simp only [Function.comp]
  split
  · exact updR_txn e r
  · rfl
theorem pass1_nodup {s : List Rn} (h : (s.map (·.txn)).Nodup) (e : Ev) : ((pass1 s e).map (·.txn)).Nodup := by
  unfold pass1; split
  · rename_i hc
    rw [List.map_append, List.nodup_append]
    exact ⟨h, by simp, fun a ha b hb => by simp [beginR] at hb; subst hb; rintro rfl; exact hc.2 ha⟩
  · exact h
theorem pass1_new {s : List Rn} (h : ∀ r ∈ s, r.state = 0 ∧ r.ts = 0 ∧ r.keys = [] ∧ r.seen = [] ∧ r.spans = []) (e : Ev) : ∀ r ∈ pass1 s e, r.state = 0 ∧ r.ts = 0 ∧ r.keys = [] ∧ r.seen = [] ∧ r.spans = [] := by
  unfold pass1; split
  · intro r hr
    rcases List.mem_append.1 hr with hr | hr
    · exact h r hr
    · simp at hr; subst hr; exact ⟨rfl, rfl, rfl, rfl, rfl⟩
  · exact h
theorem txn_unique {s : List Rn} (hn : (s.map (·.txn)).Nodup) {i j : Nat} {a b : Rn} (hi : s[i]? = some a) (hj : s[j]? = some b) (h : a.txn = b.txn) : i = j := by
  have h1 : (s.map (·.txn))[i]? = some a.txn := by rw [List.getElem?_map, hi]; rfl
  have h2 : (s.map (·.txn))[j]? = some a.txn := by rw [List.getElem?_map, hj, h]; rfl
  obtain ⟨l1, e1⟩ := List.getElem?_eq_some_iff.1 h1
  obtain ⟨l2, e2⟩ := List.getElem?_eq_some_iff.1 h2
  exact (List.getElem_inj hn).1 (e1.trans e2.symm)
theorem pass2_set {s : List Rn} (hn : (s.map (·.txn)).Nodup) {i : Nat} {r : Rn} {e : Ev} (hi : s[i]? = some r) (hr : r.txn = e.txn) : pass2 s e = s.set i (updR e r) := by
  apply List.ext_getElem?
  intro j
  unfold pass2
  rw [List.getElem?_map, List.getElem?_set]
  by_cases hj : i = j
  · subst hj
    have hl := (List.getElem?_eq_some_iff.1 hi).1
    rw [hi]; simp [hl, hr]
  · rw [if_neg hj]
    cases hx : s[j]? with
    | none => rfl
    | some x =>
      have : x.txn ≠ e.txn := fun h => hj (txn_unique hn hi hx (hr.trans h.symm))
      simp [this]
theorem pass2_none {s : List Rn} {e : Ev} (h : e.txn ∉ s.map (·.txn)) : pass2 s e = s := by
  unfold pass2
  conv => rhs; rw [← List.map_id s]
  apply List.map_congr_left
  intro r hr
  rw [if_neg (fun he => h (List.mem_map.2 ⟨r, hr, he⟩))]; rfl
end Go.Proofs.Ytelgegodeifbiaa.Pl
