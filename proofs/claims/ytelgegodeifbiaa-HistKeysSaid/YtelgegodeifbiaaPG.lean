/- PLAIN: what is told of each transaction, one after the other; no program in sight. -/
import Derived.Test.YtelgegodeifbiaaPR
namespace Go.Proofs.Ytelgegodeifbiaa.Pl
def upd1 (r : Rn) (x : Ev) : Rn := if r.txn = x.txn then updR x r else r
def known (pre : List Ev) (e : Ev) : Prop := ∃ x ∈ pre, x.kind = 1 ∧ x.txn = e.txn
def runOf (h : List Ev) (e : Ev) : Rn := h.foldl upd1 (beginR e)
theorem pass2_fold (l : List Ev) : ∀ (s : List Rn), l.foldl pass2 s = s.map fun r => l.foldl upd1 r := by
  induction l with
  | nil => intro s; simp
  | cons e l ih =>
    intro s
    rw [List.foldl_cons, ih]
    unfold pass2
    rw [List.map_map]
    rfl
theorem upd1_txn (r : Rn) (x : Ev) : (upd1 r x).txn = r.txn := by
  unfold upd1; split
  · exact updR_txn x r
  · rfl
theorem pass1_mem (l : List Ev) (t : Int) : t ∈ (l.foldl pass1 []).map (·.txn) ↔ ∃ x ∈ l, x.kind = 1 ∧ x.txn = t := by
  have : ∀ (l : List Ev) (s : List Rn), t ∈ (l.foldl pass1 s).map (·.txn) ↔ t ∈ s.map (·.txn) ∨ ∃ x ∈ l, x.kind = 1 ∧ x.txn = t := by
    intro l
    induction l with
    | nil => intro s; simp
    | cons e l ih =>
      intro s
      rw [List.foldl_cons, ih]
      unfold pass1
      split
      · rename_i hc
        rw [List.map_append, List.mem_append]
        simp only [List.map_cons, List.map_nil, List.mem_cons, List.not_mem_nil, or_false]
        constructor
        · rintro ((h | rfl) | ⟨x, hx, h⟩)
          · exact .inl h
          · exact .inr ⟨e, .inl rfl, hc.1, rfl⟩
          · exact .inr ⟨x, .inr hx, h⟩
        · rintro (h | ⟨x, rfl | hx, h⟩)
          · exact .inl (.inl h)
          · exact .inl (.inr h.2.symm)
          · exact .inr ⟨x, hx, h⟩
      · rename_i hc
        simp only [List.mem_cons]
        constructor
        · rintro (h | ⟨x, hx, h⟩)
          · exact .inl h
          · exact .inr ⟨x, .inr hx, h⟩
        · rintro (h | ⟨x, rfl | hx, h1, h2⟩)
          · exact .inl h
          · exact .inl (Classical.byContradiction fun hn => hc ⟨h1, by rw [h2]; exact hn⟩)
          · exact .inr ⟨x, hx, h1, h2⟩
  simpa using this l []
/-- The runs told up to the k-th event. -/
def told (h : List Ev) (k : Nat) : List Rn := ((h.take k).foldl pass1 []).map fun r => h.foldl upd1 r
theorem told_step {h : List Ev} {k : Nat} {e : Ev} (hk : h[k]? = some e) : (e.kind = 1 ∧ ¬ known (h.take k) e → told h (k + 1) = told h k ++ [runOf h e]) ∧ (¬ (e.kind = 1 ∧ ¬ known (h.take k) e) → told h (k + 1) = told h k) := by
  have hm := pass1_mem (h.take k) e.txn
  have hc : (e.kind = 1 ∧ e.txn ∉ ((h.take k).foldl pass1 []).map (·.txn)) ↔ (e.kind = 1 ∧ ¬ known (h.take k) e) := by rw [hm]; rfl
  have he : told h (k + 1) = (pass1 ((h.take k).foldl pass1 []) e).map fun r => h.foldl upd1 r := by
    unfold told
    rw [List.take_add_one, hk, Option.toList_some, List.foldl_append]; rfl
  rw [he]
  refine ⟨fun hq => ?_, fun hq => ?_⟩
  · rw [show pass1 ((h.take k).foldl pass1 []) e = (h.take k).foldl pass1 [] ++ [beginR e] from if_pos (hc.2 hq), List.map_append]; rfl
  · rw [show pass1 ((h.take k).foldl pass1 []) e = (h.take k).foldl pass1 [] from if_neg (fun h => hq (hc.1 h))]; rfl
theorem told_all (h : List Ev) : told h h.length = runs h := by
  unfold told runs; rw [List.take_length, pass2_fold]
theorem told_len (h : List Ev) : ∀ k, (told h k).length ≤ k := by
  intro k
  unfold told; rw [List.length_map]
  have : ∀ (l : List Ev) (s : List Rn), (l.foldl pass1 s).length ≤ s.length + l.length := by
    intro l
    induction l with
    | nil => intro s; simp
    | cons e l ih =>
      intro s
      rw [List.foldl_cons]
      refine Nat.le_trans (ih _) ?_
      unfold pass1; split <;> simp <;> omega
  have := this (h.take k) []
  simp at this; omega
/-- One event, as the reference takes it. -/
theorem upd1_ref (r : Rn) (x : Ev) (h : r.txn = x.txn) :
    upd1 r x = (let r1 := if x.kind = 2 then { r with seen := r.seen ++ x.seen, spans := r.spans ++ [x.span] } else r
      let r2 := if r1.state = 0 ∧ x.kind = 3 then { r1 with state := 1, ts := x.ts, keys := x.keys } else r1
      if r2.state = 0 ∧ x.kind = 4 then { r2 with state := 2, ts := x.ts, keys := x.keys } else r2) := by
  unfold upd1 updR endR
  rw [if_pos h]
  by_cases h2 : x.kind = 2
  · have h3 : ¬ x.kind = 3 := by omega
    have h4 : ¬ x.kind = 4 := by omega
    simp [h2]
  · by_cases h3 : x.kind = 3
    · by_cases hs : r.state = 0 <;> simp [h3, hs]
    · by_cases h4 : x.kind = 4
      · by_cases hs : r.state = 0 <;> simp [h4, hs]
      · simp [h2, h3, h4]
end Go.Proofs.Ytelgegodeifbiaa.Pl
