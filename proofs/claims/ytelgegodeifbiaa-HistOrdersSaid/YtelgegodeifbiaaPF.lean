/- PLAIN: a history is formed just if each event suits those before it; no program in sight. -/
import Derived.Test.YtelgegodeifbiaaP
namespace Go.Proofs.Ytelgegodeifbiaa.Pl
def isEnd (e : Ev) : Bool := decide (e.kind = 3 ∨ e.kind = 4)
def scanS (txn : Int) (s : Option St) (x : Ev) : Option St :=
  if x.txn = txn then some (match s with | none => ⟨x.level, x.ts, isEnd x⟩ | some st => { st with over := st.over || isEnd x }) else s
def scanT (pre : List Ev) (txn : Int) : Option St := pre.foldl (scanS txn) none
def dup (pre : List Ev) (e : Ev) : Prop := ∃ x ∈ pre, x.kind = 3 ∧ e.kind = 3 ∧ x.ts = e.ts
def bad (pre : List Ev) (e : Ev) : Prop :=
  match scanT pre e.txn with
  | none => e.kind ≠ 1
  | some st => e.kind = 1 ∨ st.over = true ∨ st.level ≠ e.level ∨ (e.kind = 3 ∧ e.ts ≤ st.start)

theorem scanT_snoc (pre : List Ev) (txn : Int) (e : Ev) : scanT (pre ++ [e]) txn = scanS txn (scanT pre txn) e := by simp [scanT]

structure Tells (pre : List Ev) (s : FS) : Prop where
  st : ∀ txn, (s.1.find? fun y => decide (y.1 = txn)).map (·.2) = scanT pre txn
  ts : ∀ t, t ∈ s.2 ↔ ∃ x ∈ pre, x.kind = 3 ∧ x.ts = t

theorem find_mapped {S : List (Int × St)} {k : Int} {st : St} (f : St) (hf : (S.find? fun y => decide (y.1 = k)) = some (k, st)) (t : Int) :
    ((S.map fun y => if y.1 = k then (k, f) else y).find? fun y => decide (y.1 = t)).map (·.2) = if t = k then some f else (S.find? fun y => decide (y.1 = t)).map (·.2) := by
  induction S with
  | nil => simp at hf
  | cons y S ih =>
    rw [List.find?_cons] at hf
    by_cases hy : y.1 = k
    · rw [List.map_cons, if_pos hy, List.find?_cons, List.find?_cons]
      by_cases ht : t = k
      · subst ht; simp
      · have h1 : ¬ k = t := fun h => ht h.symm
        simp only [h1, decide_false, hy, if_neg ht]
        -- behind it
        clear hf ih
        induction S with
        | nil => rfl
        | cons z S ih =>
          rw [List.map_cons, List.find?_cons, List.find?_cons]
          by_cases hz : z.1 = k
          · have h2 : ¬ z.1 = t := fun h => h1 (hz ▸ h)
            rw [if_pos hz]; simp only [h1, h2, decide_false]; exact ih
          · rw [if_neg hz]
            by_cases hzt : z.1 = t
            · simp [hzt]
            · simp only [hzt, decide_false]; exact ih
    · simp only [hy, decide_false] at hf
      rw [List.map_cons, if_neg hy, List.find?_cons, List.find?_cons]
      by_cases hyt : y.1 = t
      · have : t ≠ k := fun h => hy (hyt.trans h)
        simp [hyt, this]
      · simp only [hyt, decide_false]
        exact ih hf

theorem step_tells {pre : List Ev} {s : FS} {e : Ev} (h : Tells pre s) : (∀ s', stepF s e = some s' → Tells (pre ++ [e]) s' ∧ ¬ bad pre e ∧ ¬ dup pre e) ∧ (stepF s e = none → bad pre e ∨ dup pre e) := by
  have hst := h.st e.txn
  unfold stepF bad
  cases hf : s.1.find? fun y => decide (y.1 = e.txn) with
  | none =>
    rw [hf] at hst
    simp only [Option.map_none] at hst
    rw [← hst]
    by_cases hk : e.kind = 1
    · have hne : ¬ (e.kind ≠ 1) := fun h => h hk
      simp only [if_neg hne]
      refine ⟨fun s' hs => ?_, fun h => by cases h⟩
      injection hs with hs; subst hs
      refine ⟨⟨fun txn => ?_, fun t => ?_⟩, hne, ?_⟩
      · rw [scanT_snoc, ← h.st txn]
        simp only [List.find?_append]
        by_cases ht : e.txn = txn
        · subst ht
          rw [hf]
          simp [scanS, isEnd, hk]
        · simp only [scanS, if_neg ht]
          cases s.1.find? (fun y => decide (y.1 = txn)) with
          | none => simp [ht]
          | some y => rfl
      · rw [h.ts t]
        refine ⟨fun ⟨x, hx, h1⟩ => ⟨x, List.mem_append_left _ hx, h1⟩, fun ⟨x, hx, h1⟩ => ?_⟩
        rcases List.mem_append.1 hx with hx | hx
        · exact ⟨x, hx, h1⟩
        · simp at hx; subst hx; omega
      · rintro ⟨x, _, _, h3, _⟩; omega
    · simp only [if_pos hk]
      exact ⟨fun s' hs => (by cases hs), fun _ => .inl hk⟩
  | some y =>
    obtain ⟨y1, st⟩ := y
    have hy1 : y1 = e.txn := by have := List.find?_some hf; simpa using this
    subst hy1
    rw [hf] at hst
    simp only [Option.map_some] at hst
    rw [← hst]
    simp only
    by_cases hc : e.kind = 1 ∨ st.over = true ∨ st.level ≠ e.level
    · simp only [if_pos hc]
      exact ⟨fun s' hs => (by cases hs), fun _ => .inl (by rcases hc with h | h | h <;> simp [h])⟩
    · have hov : st.over = false := by
        cases ho : st.over with
        | false => rfl
        | true => exact absurd (.inr (.inl ho)) hc
      simp only [if_neg hc]
      have htell : ∀ T, (∀ t, t ∈ T ↔ ∃ x ∈ pre ++ [e], x.kind = 3 ∧ x.ts = t) → Tells (pre ++ [e]) (s.1.map (fun y => if y.1 = e.txn then (e.txn, { st with over := decide (e.kind = 3 ∨ e.kind = 4) }) else y), T) := by
        intro T hT
        refine ⟨fun txn => ?_, hT⟩
        rw [scanT_snoc, ← h.st txn, find_mapped _ hf txn]
        by_cases ht : txn = e.txn
        · subst ht
          rw [hf]; simp [scanS, isEnd, hov]
        · have : ¬ e.txn = txn := fun h => ht h.symm
          simp [scanS, ht, this]
      by_cases hk : e.kind = 3
      · have hne : ¬ (e.kind ≠ 3) := fun h => h hk
        simp only [if_neg hne]
        by_cases hd : e.ts ∈ s.2 ∨ e.ts ≤ st.start
        · simp only [if_pos hd]
          refine ⟨fun s' hs => (by cases hs), fun _ => ?_⟩
          rcases hd with hd | hd
          · obtain ⟨x, hx, h1, h2⟩ := (h.ts _).1 hd
            exact .inr ⟨x, hx, h1, hk, h2⟩
          · exact .inl (.inr (.inr (.inr ⟨hk, hd⟩)))
        · simp only [if_neg hd]
          refine ⟨fun s' hs => ?_, fun h => (by cases h)⟩
          injection hs with hs; subst hs
          refine ⟨htell _ fun t => ?_, ?_, ?_⟩
          · rw [List.mem_append, h.ts t, List.mem_singleton]
            constructor
            · rintro (⟨x, hx, h1⟩ | rfl)
              · exact ⟨x, List.mem_append_left _ hx, h1⟩
              · exact ⟨e, List.mem_append_right _ (by simp), hk, rfl⟩
            · rintro ⟨x, hx, h1, h2⟩
              rcases List.mem_append.1 hx with hx | hx
              · exact .inl ⟨x, hx, h1, h2⟩
              · simp at hx; subst hx; exact .inr h2.symm
          · rintro (h | h | h | h)
            · exact hc (.inl h)
            · exact hc (.inr (.inl h))
            · exact hc (.inr (.inr h))
            · exact hd (.inr h.2)
          · rintro ⟨x, hx, h1, _, h2⟩
            exact hd (.inl ((h.ts _).2 ⟨x, hx, h1, h2⟩))
      · simp only [if_pos hk]
        refine ⟨fun s' hs => ?_, fun h => (by cases h)⟩
        injection hs with hs; subst hs
        refine ⟨htell _ fun t => ?_, ?_, ?_⟩
        · rw [h.ts t]
          refine ⟨fun ⟨x, hx, h1⟩ => ⟨x, List.mem_append_left _ hx, h1⟩, fun ⟨x, hx, h1⟩ => ?_⟩
          rcases List.mem_append.1 hx with hx | hx
          · exact ⟨x, hx, h1⟩
          · simp at hx; subst hx; exact absurd h1.1 hk
        · rintro (h | h | h | h)
          · exact hc (.inl h)
          · exact hc (.inr (.inl h))
          · exact hc (.inr (.inr h))
          · exact hk h.1
        · rintro ⟨x, _, _, h3, _⟩; exact hk h3
theorem tells_nil : Tells [] ([], []) := ⟨fun txn => rfl, fun t => by simp⟩
theorem tells_of : ∀ (n : Nat) {h : List Ev} {s : FS}, n ≤ h.length → formedFrom ([], []) (h.take n) = some s → Tells (h.take n) s
  | 0, h, s, _, hs => by simp [formedFrom] at hs; subst hs; simpa using tells_nil
  | n + 1, h, s, hn, hs => by
    obtain ⟨e, he⟩ : ∃ e, h[n]? = some e := ⟨h[n]'(by omega), List.getElem?_eq_getElem _⟩
    rw [List.take_add_one, he] at hs ⊢
    simp only [Option.toList_some] at hs ⊢
    rw [formedFrom_snoc] at hs
    cases hp : formedFrom ([], []) (h.take n) with
    | none => rw [hp] at hs; cases hs
    | some s0 =>
      rw [hp] at hs
      exact ((step_tells (tells_of n (by omega) hp)).1 s hs).1
end Go.Proofs.Ytelgegodeifbiaa.Pl
