/- PLAIN: what is asked of keys; what is chosen; no program in sight. -/
import Derived.Test.YtngnplhdokboiaaA
namespace Go.Proofs.Ytngnplhdokboiaa
open Go Go.Wk

def firstS (seen : List Sn) (c : Cl) : Sn :=
  match c.vers.find? (fun v => !barredB seen v.ts v.keys) with
  | some v => ⟨c.key, v.ts, v.txn, v.keys⟩
  | none => ⟨c.key, 0, 0, []⟩
theorem firstS_key (seen : List Sn) (c : Cl) : (firstS seen c).key = c.key := by unfold firstS; split <;> rfl
def setZ (zs : List Sn) (z : Sn) : List Sn := if z.key ∈ zs.map (·.key) then zs.map (fun x => if x.key = z.key then z else x) else zs ++ [z]
def asZ (v : Sn) (k : Key) : Sn := ⟨k, v.ts, v.txn, v.keys⟩
def askK (s : Sp) (v : Sn) (zs : List Sn) (k : Key) : List Sn :=
  if withinB k s.lo s.hi = false then zs else
  match zs.find? (fun x => decide (x.key = k)) with
  | some x => if v.ts ≤ x.ts then zs else setZ zs (asZ v k)
  | none => setZ zs (asZ v k)
def askV (s : Sp) (zs : List Sn) (v : Sn) : List Sn := v.keys.foldl (askK s v) zs
def least (s : Sp) (V : List Sn) : List Sn := V.foldl (askV s) []

theorem setZ_keys (zs : List Sn) (z : Sn) : (setZ zs z).map (·.key) = if z.key ∈ zs.map (·.key) then zs.map (·.key) else zs.map (·.key) ++ [z.key] := by
  unfold setZ; split
  · rw [List.map_map]; apply List.map_congr_left; intro x _; simp only [Function.comp]; split
    · rename_i h; exact h.symm
    · rfl
  · rw [List.map_append]; rfl
theorem setZ_nodup {zs : List Sn} (h : (zs.map (·.key)).Nodup) (z : Sn) : ((setZ zs z).map (·.key)).Nodup := by
  rw [setZ_keys]; split
  · exact h
  · rename_i hn; rw [List.nodup_append]; exact ⟨h, by simp, fun a ha b hb => by simp at hb; subst hb; rintro rfl; exact hn ha⟩
theorem setZ_len (zs : List Sn) (z : Sn) : (setZ zs z).length ≤ zs.length + 1 := by unfold setZ; split <;> simp
theorem setZ_mem {zs : List Sn} {z x : Sn} (h : x ∈ setZ zs z) : x = z ∨ (x ∈ zs ∧ x.key ≠ z.key) := by
  unfold setZ at h; split at h
  · obtain ⟨y, hy, rfl⟩ := List.mem_map.1 h
    by_cases hk : y.key = z.key
    · rw [if_pos hk]; exact .inl rfl
    · rw [if_neg hk]; exact .inr ⟨hy, hk⟩
  · rename_i hn
    rcases List.mem_append.1 h with h | h
    · exact .inr ⟨h, fun e => hn (e ▸ List.mem_map.2 ⟨x, h, rfl⟩)⟩
    · exact .inl (List.mem_singleton.1 h)
theorem setZ_self (zs : List Sn) (z : Sn) : z ∈ setZ zs z := by
  unfold setZ; split
  · rename_i h
    obtain ⟨y, hy, hk⟩ := List.mem_map.1 h
    exact List.mem_map.2 ⟨y, hy, by rw [if_pos hk]⟩
  · simp
theorem setZ_other {zs : List Sn} {z x : Sn} (h : x ∈ zs) (hk : x.key ≠ z.key) : x ∈ setZ zs z := by
  unfold setZ; split
  · exact List.mem_map.2 ⟨x, h, by rw [if_neg hk]⟩
  · exact List.mem_append.2 (.inl h)

/-- What is known of what is asked: V have asked in full, v has asked the keys 'ks' of its own. -/
structure LInv (s : Sp) (V : List Sn) (v : Sn) (ks : List Key) (zs : List Sn) : Prop where
  nodup : (zs.map (·.key)).Nodup
  from' : ∀ z ∈ zs, withinB z.key s.lo s.hi = true ∧ ∃ u, (u ∈ V ∨ (u = v ∧ z.key ∈ ks)) ∧ z.key ∈ u.keys ∧ z.ts = u.ts ∧ z.txn = u.txn ∧ z.keys = u.keys
  all : ∀ u ∈ V, ∀ k ∈ u.keys, withinB k s.lo s.hi = true → ∃ z ∈ zs, z.key = k ∧ u.ts ≤ z.ts
  own : ∀ k ∈ ks, withinB k s.lo s.hi = true → ∃ z ∈ zs, z.key = k ∧ v.ts ≤ z.ts
theorem find_key {zs : List Sn} {k : Key} : (zs.find? (fun x => decide (x.key = k)) = none → k ∉ zs.map (·.key)) ∧ ∀ x, zs.find? (fun x => decide (x.key = k)) = some x → x ∈ zs ∧ x.key = k := by
  refine ⟨fun h hk => ?_, fun x h => ⟨List.mem_of_find?_eq_some h, by simpa using List.find?_some h⟩⟩
  obtain ⟨x, hx, rfl⟩ := List.mem_map.1 hk
  have := List.find?_eq_none.1 h x hx
  simp at this
theorem LInv.step {s : Sp} {V : List Sn} {v : Sn} {ks : List Key} {zs : List Sn} (h : LInv s V v ks zs) {k : Key} (hk : k ∈ v.keys) : LInv s V v (ks ++ [k]) (askK s v zs k) := by
  have keep : (withinB k s.lo s.hi = true → ∃ z ∈ zs, z.key = k ∧ v.ts ≤ z.ts) → LInv s V v (ks ++ [k]) zs := fun hh => ⟨h.nodup, fun z hz => by
    obtain ⟨h1, u, h2, h3⟩ := h.from' z hz
    exact ⟨h1, u, h2.imp id fun ⟨e, hm⟩ => ⟨e, List.mem_append.2 (.inl hm)⟩, h3⟩, h.all, fun k' hk' hw => by
    rcases List.mem_append.1 hk' with h1 | h1
    · exact h.own k' h1 hw
    · rw [List.mem_singleton.1 h1] at hw ⊢; exact hh hw⟩
  unfold askK
  split
  · rename_i hw
    exact keep fun h => by rw [hw] at h; cases h
  · rename_i hw
    have hw : withinB k s.lo s.hi = true := by simpa using hw
    have key : (∀ x ∈ zs, x.key = k → x.ts ≤ v.ts) → LInv s V v (ks ++ [k]) (setZ zs (asZ v k)) := fun hle => by
      have up : ∀ x ∈ zs, ∃ z ∈ setZ zs (asZ v k), z.key = x.key ∧ x.ts ≤ z.ts := fun x hx => by
        by_cases hxk : x.key = k
        · exact ⟨asZ v k, setZ_self _ _, hxk.symm, hle x hx hxk⟩
        · exact ⟨x, setZ_other hx hxk, rfl, Int.le_refl _⟩
      refine ⟨setZ_nodup h.nodup _, fun z hz => ?_, fun u hu k' hk' hw' => ?_, fun k' hk' hw' => ?_⟩
      · rcases setZ_mem hz with rfl | ⟨hz, _⟩
        · exact ⟨hw, v, .inr ⟨rfl, List.mem_append.2 (.inr (by simp [asZ]))⟩, hk, rfl, rfl, rfl⟩
        · obtain ⟨h1, u, h2, h3⟩ := h.from' z hz
          exact ⟨h1, u, h2.imp id fun ⟨e, hm⟩ => ⟨e, List.mem_append.2 (.inl hm)⟩, h3⟩
      · obtain ⟨z, hz, e, hl⟩ := h.all u hu k' hk' hw'
        obtain ⟨z', hz', e', hl'⟩ := up z hz
        exact ⟨z', hz', e'.trans e, Int.le_trans hl hl'⟩
      · rcases List.mem_append.1 hk' with h1 | h1
        · obtain ⟨z, hz, e, hl⟩ := h.own k' h1 hw'
          obtain ⟨z', hz', e', hl'⟩ := up z hz
          exact ⟨z', hz', e'.trans e, Int.le_trans hl hl'⟩
        · rw [List.mem_singleton.1 h1]; exact ⟨asZ v k, setZ_self _ _, rfl, Int.le_refl _⟩
    split
    · rename_i x hx
      obtain ⟨hxm, hxk⟩ := find_key.2 x hx
      split
      · rename_i hle
        exact keep fun _ => ⟨x, hxm, hxk, hle⟩
      · rename_i hle
        refine key fun y hy hyk => ?_
        have : y = x := by
          obtain ⟨i, hi⟩ := List.getElem?_of_mem hy
          obtain ⟨j, hj⟩ := List.getElem?_of_mem hxm
          have h1 : (zs.map (·.key))[i]? = some k := by rw [List.getElem?_map, hi, ← hyk]; rfl
          have h2 : (zs.map (·.key))[j]? = some k := by rw [List.getElem?_map, hj, ← hxk]; rfl
          obtain ⟨l1, e1⟩ := List.getElem?_eq_some_iff.1 h1
          obtain ⟨l2, e2⟩ := List.getElem?_eq_some_iff.1 h2
          have : i = j := (List.getElem_inj h.nodup).1 (e1.trans e2.symm)
          subst this; rw [hi] at hj; exact Option.some.inj hj
        subst this; omega
    · rename_i hx
      exact key fun y hy hyk => ((find_key.1 hx) (List.mem_map.2 ⟨y, hy, hyk⟩)).elim
theorem LInv.fold {s : Sp} {V : List Sn} {v : Sn} : ∀ (l ks : List Key) (zs : List Sn), LInv s V v ks zs → (∀ k ∈ l, k ∈ v.keys) → LInv s V v (ks ++ l) (l.foldl (askK s v) zs)
  | [], ks, zs, h, _ => by simpa using h
  | k :: l, ks, zs, h, hl => by
    have := LInv.fold l (ks ++ [k]) _ (h.step (hl k (by simp))) fun k' hk' => hl k' (by simp [hk'])
    simpa using this
theorem LInv.next {s : Sp} {V : List Sn} {v v' : Sn} {zs : List Sn} (h : LInv s V v v.keys zs) : LInv s (V ++ [v]) v' [] zs :=
  ⟨h.nodup, fun z hz => by
    obtain ⟨h1, u, h2, h3⟩ := h.from' z hz
    refine ⟨h1, u, .inl ?_, h3⟩
    rcases h2 with h2 | ⟨rfl, _⟩ <;> simp [*], fun u hu k hk hw => by
    rcases List.mem_append.1 hu with hu | hu
    · exact h.all u hu k hk hw
    · obtain rfl := List.mem_singleton.1 hu; exact h.own k hk hw, fun k hk => by cases hk⟩
theorem least_snoc (s : Sp) (V : List Sn) (v : Sn) : least s (V ++ [v]) = askV s (least s V) v := by unfold least; rw [List.foldl_append]; rfl
theorem least_inv (s : Sp) (V : List Sn) (v : Sn) : LInv s V v [] (least s V) := by
  have key : ∀ (l V : List Sn) (zs : List Sn), (∀ v, LInv s V v [] zs) → ∀ v, LInv s (V ++ l) v [] (l.foldl (askV s) zs) := by
    intro l
    induction l with
    | nil => intro V zs h v; simpa using h v
    | cons u l ih =>
      intro V zs h v
      have h1 : LInv s V u u.keys (askV s zs u) := LInv.fold u.keys [] zs (h u) fun k hk => hk
      have := ih (V ++ [u]) _ (fun v' => h1.next) v
      simpa using this
  exact key V [] [] (fun v => ⟨by simp, by simp, by simp, by simp⟩) v
theorem askV_len (s : Sp) (zs : List Sn) (v : Sn) : (askV s zs v).length ≤ zs.length + v.keys.length := by
  unfold askV
  have : ∀ (l : List Key) (zs : List Sn), (l.foldl (askK s v) zs).length ≤ zs.length + l.length := by
    intro l
    induction l with
    | nil => intro zs; simp
    | cons k l ih =>
      intro zs
      have h1 := ih (askK s v zs k)
      have h2 : (askK s v zs k).length ≤ zs.length + 1 := by
        unfold askK
        split
        · omega
        · split
          · split
            · omega
            · exact setZ_len _ _
          · exact setZ_len _ _
      rw [List.foldl_cons, List.length_cons]; omega
  exact this _ _

/-- The last one's time, of those read of a key. -/
def chosenOf (all : List Sn) (k : Key) : Option Int := (all.reverse.find? (fun x => decide (x.key = k))).map (·.ts)
theorem chosenOf_snoc (all : List Sn) (x : Sn) (k : Key) : chosenOf (all ++ [x]) k = if x.key = k then some x.ts else chosenOf all k := by
  unfold chosenOf
  rw [List.reverse_append, List.reverse_cons, List.reverse_nil, List.nil_append, List.cons_append, List.nil_append, List.find?_cons]
  by_cases h : x.key = k <;> simp [h]
def delB (all : List Sn) (z : Sn) : Bool := match chosenOf all z.key with
  | some t => decide (z.ts ≤ t)
  | none => false
def needZ (seen : List Sn) (s : Sp) (cells : List Cl) : List Sn := (least s (cells.map (firstS seen) ++ seen)).filter fun z => !delB (cells.map (firstS seen)) z
def gotZ (seen : List Sn) (s : Sp) (cells : List Cl) : List Sn := (cells.map (firstS seen)).filter fun x => decide (x.key ∉ (needZ seen s cells).map (·.key))
end Go.Proofs.Ytngnplhdokboiaa
