/- PLAIN: histories, and what is told of them; no program in sight. -/
namespace Go.Proofs.Ytelgegodeifbiaa.Pl
abbrev Key := List Int
structure Sn where
  key : Key
  ts : Int
  txn : Int
  keys : List Key
  deriving DecidableEq
structure Sp where
  lo : Key
  hi : Key
  deriving DecidableEq
structure Ev where
  kind : Int
  txn : Int
  level : Int
  ts : Int
  span : Sp
  seen : List Sn
  keys : List Key
  deriving DecidableEq
structure Rn where
  txn : Int
  level : Int
  state : Int
  start : Int
  ts : Int
  keys : List Key
  seen : List Sn
  spans : List Sp
  deriving DecidableEq

def bigHead (e : Ev) : Bool := decide (8 < e.seen.length) || (decide (8 < e.keys.length) || decide (40 < e.span.lo.length + e.span.hi.length))
def bigEv (e : Ev) : Bool := bigHead e || e.seen.any fun s => decide (8 < s.keys.length)
def small (h : List Ev) : Bool := !h.any bigEv && decide (h.length ≤ 30)

/-- How far a transaction has come. -/
structure St where
  level : Int
  start : Int
  over : Bool
  deriving DecidableEq
abbrev FS := List (Int × St) × List Int
def stepF (s : FS) (e : Ev) : Option FS :=
  match s.1.find? (fun y => decide (y.1 = e.txn)) with
  | none => if e.kind ≠ 1 then none else some (s.1 ++ [(e.txn, ⟨e.level, e.ts, false⟩)], s.2)
  | some (_, x) =>
    if e.kind = 1 ∨ x.over = true ∨ x.level ≠ e.level then none else
    let l := s.1.map fun y => if y.1 = e.txn then (e.txn, { x with over := decide (e.kind = 3 ∨ e.kind = 4) }) else y
    if e.kind ≠ 3 then some (l, s.2) else
    if e.ts ∈ s.2 ∨ e.ts ≤ x.start then none else some (l, s.2 ++ [e.ts])
def formedFrom : FS → List Ev → Option FS
  | s, [] => some s
  | s, e :: h => (stepF s e).bind fun s => formedFrom s h
def formed (h : List Ev) : Bool := (formedFrom ([], []) h).isSome

theorem formedFrom_append (s : FS) : ∀ (a b : List Ev), formedFrom s (a ++ b) = (formedFrom s a).bind fun s => formedFrom s b := by
  intro a
  induction a generalizing s with
  | nil => intro b; rfl
  | cons e a ih =>
    intro b
    simp only [List.cons_append, formedFrom]
    cases stepF s e with
    | none => rfl
    | some s => exact ih s b
theorem formed_take {h : List Ev} (n : Nat) (hf : formed h = true) : formed (h.take n) = true := by
  unfold formed at *
  rw [← List.take_append_drop n h, formedFrom_append] at hf
  cases hh : formedFrom ([], []) (h.take n) with
  | none => rw [hh] at hf; simp at hf
  | some s => rfl
theorem formedFrom_snoc (s : FS) (a : List Ev) (e : Ev) : formedFrom s (a ++ [e]) = (formedFrom s a).bind fun s => stepF s e := by
  rw [formedFrom_append]
  congr 1
  funext s
  simp only [formedFrom]
  cases stepF s e <;> rfl
theorem formed_next {h : List Ev} {k : Nat} {e : Ev} {s : FS} (hk : h[k]? = some e) (hF : formedFrom ([], []) (h.take k) = some s) : formedFrom ([], []) (h.take (k + 1)) = stepF s e := by
  rw [List.take_add_one, hk, Option.toList_some, formedFrom_snoc, hF]; rfl
theorem formed_stop {h : List Ev} {k : Nat} {e : Ev} {s : FS} (hk : h[k]? = some e) (hF : formedFrom ([], []) (h.take k) = some s) (hs : stepF s e = none) : formed h = false := by
  have h1 := formed_next hk hF
  rw [hs] at h1
  unfold formed
  rw [← List.take_append_drop (k + 1) h, formedFrom_append, h1]; rfl
theorem set_key {β : Type} {S : List (Int × β)} (hn : (S.map (·.1)).Nodup) {j : Nat} {y : Int × β} (hj : S[j]? = some y) (g : Int × β) : S.map (fun x => if x.1 = y.1 then g else x) = S.set j g := by
  apply List.ext_getElem?
  intro i
  rw [List.getElem?_map, List.getElem?_set]
  by_cases e : j = i
  · subst e
    have hl := (List.getElem?_eq_some_iff.1 hj).1
    rw [hj]; simp [hl]
  · rw [if_neg e]
    cases hi : S[i]? with
    | none => rfl
    | some x =>
      have hne : x.1 ≠ y.1 := fun he => e (by
        have h1 : (S.map (·.1))[j]? = some y.1 := by rw [List.getElem?_map, hj]; rfl
        have h2 : (S.map (·.1))[i]? = some y.1 := by rw [List.getElem?_map, hi, ← he]; rfl
        obtain ⟨l1, e1⟩ := List.getElem?_eq_some_iff.1 h1
        obtain ⟨l2, e2⟩ := List.getElem?_eq_some_iff.1 h2
        exact (List.getElem_inj hn).1 (e1.trans e2.symm))
      simp [hne]
end Go.Proofs.Ytelgegodeifbiaa.Pl
