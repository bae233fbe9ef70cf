/- PLAIN: the walk through the edges, breadth first, as lists; no program in sight. -/
namespace Go.Proofs.Ytplpedigkhgakaa.Pl

theorem length_le_of_nodup {α : Type} [DecidableEq α] : ∀ (xs ys : List α), xs.Nodup → (∀ x ∈ xs, x ∈ ys) → xs.length ≤ ys.length
  | [], _, _, _ => Nat.zero_le _
  | x :: xs, ys, hn, hs => by
    rw [List.nodup_cons] at hn
    have hx := hs x (by simp)
    have := length_le_of_nodup xs (ys.erase x) hn.2 fun y hy => by
      rw [List.mem_erase_of_ne (by rintro rfl; exact hn.1 hy)]
      exact hs y (by simp [hy])
    rw [List.length_erase_of_mem hx] at this
    have : 0 < ys.length := List.length_pos_of_mem hx
    simp only [List.length_cons]; omega

abbrev E := Int × Int
def stepE (fr q : Int) (s : List E × List Int) (e : E) : List E × List Int :=
  if e.1 = q ∧ e.2 ∉ s.1.map (·.1) then (s.1 ++ [(e.2, e.1)], if e.2 = fr then s.2 else s.2 ++ [e.2]) else s
def inner (l : List E) (fr q : Int) (s : List E × List Int) : List E × List Int := l.foldl (stepE fr q) s
def bfs (l : List E) (fr : Int) : Nat → Nat → List E × List Int → List E
  | 0, _, s => s.1
  | k + 1, i, s => match s.2[i]? with
    | none => s.1
    | some x => bfs l fr k (i + 1) (inner l fr x s)
def refWalk (l : List E) (fr : Int) : List E := bfs l fr (l.length + 2) 0 ([], [fr])

structure Inv (l : List E) (s : List E × List Int) : Prop where
  nd : (s.1.map (·.1)).Nodup
  sub : ∀ x ∈ s.1.map (·.1), x ∈ l.map (·.2)
  q : s.2.length ≤ s.1.length + 1
theorem Inv.len {l : List E} {s : List E × List Int} (h : Inv l s) : s.1.length ≤ l.length := by
  have := length_le_of_nodup _ _ h.nd h.sub
  simpa using this
theorem Inv.init (l : List E) (fr : Int) : Inv l ([], [fr]) := ⟨by simp, by simp, by simp⟩
theorem Inv.step {l : List E} {fr q : Int} {s : List E × List Int} (h : Inv l s) {e : E} (he : e ∈ l) : Inv l (stepE fr q s e) := by
  unfold stepE
  split
  · rename_i hc
    refine ⟨?_, ?_, ?_⟩
    · simp only [List.map_append, List.map_cons, List.map_nil]
      rw [List.nodup_append]
      refine ⟨h.nd, by simp, ?_⟩
      intro a ha b hb
      simp at hb; subst hb
      rintro rfl; exact hc.2 ha
    · intro x hx
      simp only [List.map_append, List.map_cons, List.map_nil, List.mem_append, List.mem_singleton] at hx
      rcases hx with hx | rfl
      · exact h.sub x hx
      · exact List.mem_map.2 ⟨e, he, rfl⟩
    · have := h.q
      split <;> simp <;> omega
  · exact h
theorem Inv.inner {l : List E} {fr q : Int} : ∀ (l' : List E) {s : List E × List Int}, (∀ e ∈ l', e ∈ l) → Inv l s → Inv l (inner l' fr q s)
  | [], s, _, h => h
  | e :: r, s, hl, h => Inv.inner r (fun x hx => hl x (by simp [hx])) (h.step (hl e (by simp)))
theorem inner_snoc (l : List E) (fr q : Int) (s : List E × List Int) (e : E) : inner (l ++ [e]) fr q s = stepE fr q (inner l fr q s) e := by simp [inner]
theorem stepE_prefix (fr q : Int) (s : List E × List Int) (e : E) : s.1 <+: (stepE fr q s e).1 := by
  unfold stepE; split
  · exact List.prefix_append _ _
  · exact List.prefix_refl _
theorem inner_prefix (fr q : Int) : ∀ (l : List E) (s : List E × List Int), s.1 <+: (inner l fr q s).1
  | [], s => List.prefix_refl _
  | e :: l, s => (stepE_prefix fr q s e).trans (inner_prefix fr q l _)
theorem inner_split (fr q : Int) (l : List E) (k : Nat) (s : List E × List Int) : inner l fr q s = inner (l.drop k) fr q (inner (l.take k) fr q s) := by
  unfold inner; rw [← List.foldl_append, List.take_append_drop]
theorem inner_take_prefix (fr q : Int) (l : List E) (k : Nat) (s : List E × List Int) : (inner (l.take k) fr q s).1 <+: (inner l fr q s).1 := by
  rw [inner_split fr q l k s]; exact inner_prefix _ _ _ _
theorem bfs_prefix (l : List E) (fr : Int) : ∀ (k i : Nat) (s : List E × List Int), s.1 <+: bfs l fr k i s
  | 0, _, s => List.prefix_refl _
  | k + 1, i, s => by
    simp only [bfs]
    split
    · exact List.prefix_refl _
    · exact (inner_prefix fr _ l s).trans (bfs_prefix l fr k (i + 1) _)
/-- Whoever is come to is come to from the begin, or from one that was come to before. -/
structure Inv2 (fr : Int) (s : List E × List Int) : Prop where
  wf : ∀ u x, s.1[u]? = some x → x.2 = fr ∨ x.2 ∈ (s.1.take u).map (·.1)
  qf : ∀ x ∈ s.2, x = fr ∨ x ∈ s.1.map (·.1)
theorem Inv2.step {fr q : Int} {s : List E × List Int} (h : Inv2 fr s) (hq : q = fr ∨ q ∈ s.1.map (·.1)) (e : E) : Inv2 fr (stepE fr q s e) := by
  unfold stepE
  split
  · rename_i hc
    refine ⟨fun u x hx => ?_, fun x hx => ?_⟩
    · simp only at hx ⊢
      by_cases hu : u < s.1.length
      · rw [List.getElem?_append_left hu] at hx
        rw [List.take_append_of_le_length (by omega)]
        exact h.wf u x hx
      · have : u = s.1.length := by have := (List.getElem?_eq_some_iff.1 hx).1; simp at this; omega
        subst this
        simp at hx; subst hx
        rw [List.take_left]
        rw [← hc.1] at hq; exact hq
    · simp only at hx ⊢
      rw [List.map_append]
      have : x ∈ s.2 ∨ x = e.2 := by
        split at hx
        · exact .inl hx
        · simpa using hx
      rcases this with hx | rfl
      · exact (h.qf x hx).imp id fun h => List.mem_append.2 (.inl h)
      · exact .inr (List.mem_append.2 (.inr (by simp)))
  · exact h
theorem mem_prefix {a b : List E} (h : a <+: b) {x : Int} (hx : x ∈ a.map (·.1)) : x ∈ b.map (·.1) := by
  obtain ⟨c, rfl⟩ := h; rw [List.map_append]; exact List.mem_append.2 (.inl hx)
theorem Inv2.inner {fr q : Int} : ∀ (l : List E) {s : List E × List Int}, (q = fr ∨ q ∈ s.1.map (·.1)) → Inv2 fr s → Inv2 fr (inner l fr q s)
  | [], s, _, h => h
  | e :: r, s, hq, h => Inv2.inner r (hq.imp id (mem_prefix (stepE_prefix fr q s e))) (h.step hq e)
structure Good (l : List E) (fr : Int) (out : List E) : Prop where
  nd : (out.map (·.1)).Nodup
  sub : ∀ x ∈ out.map (·.1), x ∈ l.map (·.2)
  wf : ∀ u x, out[u]? = some x → x.2 = fr ∨ x.2 ∈ (out.take u).map (·.1)
  ed : ∀ x ∈ out, (x.2, x.1) ∈ l
def InvE (l : List E) (s : List E × List Int) : Prop := ∀ x ∈ s.1, (x.2, x.1) ∈ l
theorem InvE.step {l : List E} {fr q : Int} {s : List E × List Int} (h : InvE l s) {e : E} (he : e ∈ l) : InvE l (stepE fr q s e) := by
  unfold stepE
  split
  · intro x hx
    rcases List.mem_append.1 hx with hx | hx
    · exact h x hx
    · simp at hx; subst hx; exact he
  · exact h
theorem InvE.inner {l : List E} {fr q : Int} : ∀ (l' : List E) {s : List E × List Int}, (∀ e ∈ l', e ∈ l) → InvE l s → InvE l (inner l' fr q s)
  | [], s, _, h => h
  | e :: r, s, hl, h => InvE.inner r (fun x hx => hl x (by simp [hx])) (h.step (hl e (by simp)))
theorem bfs_good (l : List E) (fr : Int) : ∀ (k i : Nat) (s : List E × List Int), Inv l s → Inv2 fr s → InvE l s → Good l fr (bfs l fr k i s)
  | 0, _, s, h, h2, h3 => ⟨h.nd, h.sub, h2.wf, h3⟩
  | k + 1, i, s, h, h2, h3 => by
    simp only [bfs]
    cases hq : s.2[i]? with
    | none => exact ⟨h.nd, h.sub, h2.wf, h3⟩
    | some x => exact bfs_good l fr k (i + 1) _ (h.inner l (fun _ h => h)) (h2.inner l (h2.qf x (List.mem_of_getElem? hq))) (h3.inner l fun _ h => h)
theorem refWalk_good (l : List E) (fr : Int) : Good l fr (refWalk l fr) := bfs_good l fr _ _ _ (Inv.init l fr) ⟨fun u x h => by simp at h, fun x h => by simp at h; exact .inl h⟩ fun x h => by simp at h

/-! ### The way back -/
def scan (fr : Int) : List E → Int → List Int → Option (List Int)
  | [], _, _ => none
  | x :: r, n, acc => if x.1 = n then (if x.2 = fr then some (x.2 :: acc) else scan fr r x.2 (x.2 :: acc)) else scan fr r n acc
def refCycle (l : List E) (fr : Int) : List Int := (scan fr (refWalk l fr).reverse fr []).getD []
theorem take_succ' {α : Type} (l : List α) (t : Nat) (h : t < l.length) : (l.take (t + 1)).reverse = l[t] :: (l.take t).reverse := by
  rw [List.take_add_one, List.getElem?_eq_getElem h]; simp
theorem scan_none {fr : Int} : ∀ (r : List E) (n : Int) (acc : List Int), n ∉ r.map (·.1) → scan fr r n acc = none
  | [], _, _, _ => rfl
  | x :: r, n, acc, h => by
    simp only [List.map_cons, List.mem_cons, not_or] at h
    simp only [scan, if_neg (Ne.symm h.1)]
    exact scan_none r n acc h.2
theorem scan_find {fr : Int} {out : List E} (hn : (out.map (·.1)).Nodup) (n : Int) (acc : List Int) : ∀ (t : Nat), n ∈ (out.take t).map (·.1) →
    ∃ u n', u < t ∧ out[u]? = some (n, n') ∧ scan fr (out.take t).reverse n acc = if n' = fr then some (n' :: acc) else scan fr (out.take u).reverse n' (n' :: acc)
  | 0, h => by simp at h
  | t + 1, h => by
    by_cases ht : t < out.length
    · rw [take_succ' out t ht]
      simp only [scan]
      by_cases hx : out[t].1 = n
      · refine ⟨t, out[t].2, by omega, by rw [List.getElem?_eq_getElem ht, ← hx], by rw [if_pos hx]⟩
      · rw [if_neg hx]
        rw [List.take_add_one, List.getElem?_eq_getElem ht] at h
        simp only [List.map_append, List.mem_append, Option.toList_some, List.map_cons, List.map_nil, List.mem_singleton] at h
        obtain ⟨u, n', h1, h2, h3⟩ := scan_find hn n acc t (h.resolve_right fun e => hx e.symm)
        exact ⟨u, n', by omega, h2, h3⟩
    · have e : out.take (t + 1) = out.take t := by rw [List.take_of_length_le (by omega), List.take_of_length_le (by omega)]
      rw [e] at h ⊢
      obtain ⟨u, n', h1, h2, h3⟩ := scan_find hn n acc t h
      exact ⟨u, n', by omega, h2, h3⟩
theorem idx_unique {out : List E} (hn : (out.map (·.1)).Nodup) {u v : Nat} {n a b : Int} (hu : out[u]? = some (n, a)) (hv : out[v]? = some (n, b)) : u = v := by
  have hul := (List.getElem?_eq_some_iff.1 hu)
  have hvl := (List.getElem?_eq_some_iff.1 hv)
  obtain ⟨hul, hue⟩ := hul
  obtain ⟨hvl, hve⟩ := hvl
  exact (List.getElem_inj (i := u) (j := v) (xs := out.map (·.1)) (h₀ := by simpa using hul) (h₁ := by simpa using hvl) hn).1 (by simp [hue, hve])
theorem scan_at {fr : Int} {out : List E} (hn : (out.map (·.1)).Nodup) {n n' : Int} {acc : List Int} {t u : Nat} (hu : u < t) (h : out[u]? = some (n, n')) :
    scan fr (out.take t).reverse n acc = if n' = fr then some (n' :: acc) else scan fr (out.take u).reverse n' (n' :: acc) := by
  obtain ⟨v, m, h1, h2, h3⟩ := scan_find (fr := fr) hn n acc t (List.mem_map.2 ⟨(n, n'), List.mem_of_getElem? (i := u) (by rw [List.getElem?_take_of_lt hu]; exact h), rfl⟩)
  obtain rfl := idx_unique hn h h2
  rw [h] at h2; injection h2 with h2; injection h2 with _ h2; subst h2
  exact h3
theorem mem_take {out : List E} {u : Nat} {x : E} (h : out[u]? = some x) {t : Nat} (hu : u < t) : x.1 ∈ (out.take t).map (·.1) :=
  List.mem_map.2 ⟨x, List.mem_of_getElem? (i := u) (by rw [List.getElem?_take_of_lt hu]; exact h), rfl⟩
theorem not_mem_take {out : List E} (hn : (out.map (·.1)).Nodup) {u : Nat} {x : E} (h : out[u]? = some x) : x.1 ∉ (out.take u).map (·.1) := by
  intro hm
  obtain ⟨y, hy, he⟩ := List.mem_map.1 hm
  obtain ⟨v, hv, rfl⟩ := List.getElem_of_mem hy
  have hvu : v < u := by simp at hv; omega
  have hul := (List.getElem?_eq_some_iff.1 h).1
  rw [List.getElem_take] at he
  have := (List.getElem_inj (i := v) (j := u) (xs := out.map (·.1)) (h₀ := by simp; omega) (h₁ := by simpa using hul) hn).1 (by
    have h2 := (List.getElem?_eq_some_iff.1 h).2
    simp [he, h2])
  omega
theorem scan_some {fr : Int} {out : List E} {l : List E} (hg : Good l fr out) : ∀ (t : Nat) (n : Int) (acc : List Int), n ∈ (out.take t).map (·.1) → ∃ c, scan fr (out.take t).reverse n acc = some c := by
  intro t
  induction t using Nat.strongRecOn with
  | _ t ih =>
    intro n acc h
    obtain ⟨u, n', h1, h2, h3⟩ := scan_find (fr := fr) hg.nd n acc t h
    rw [h3]
    split
    · exact ⟨_, rfl⟩
    · rename_i hne
      exact ih u h1 n' _ ((hg.wf u _ h2).resolve_left hne)

/-- What a way back is: it begins at fr, comes to nobody twice, each step is an edge, and from its end an edge leads back to fr. -/
structure Way (l : List E) (out : List E) (fr : Int) (c : List Int) : Prop where
  nd : c.Nodup
  mem : ∀ x ∈ c, x ∈ out.map (·.1)
  step : ∀ i x y, c[i]? = some x → c[i + 1]? = some y → (x, y) ∈ l
  last : ∀ x, c.getLast? = some x → (x, fr) ∈ l
theorem Way.cons {l out : List E} {fr n n' : Int} {acc : List Int} (h : Way l out fr (n :: acc)) (hn : n' ∉ n :: acc) (hm : n' ∈ out.map (·.1)) (he : (n', n) ∈ l) : Way l out fr (n' :: n :: acc) := by
  refine ⟨List.nodup_cons.2 ⟨hn, h.nd⟩, fun x hx => ?_, fun i x y hx hy => ?_, fun x hx => h.last x (by simpa using hx)⟩
  · rcases List.mem_cons.1 hx with rfl | hx
    · exact hm
    · exact h.mem x hx
  · cases i with
    | zero => simp at hx hy; subst hx hy; exact he
    | succ i => exact h.step i x y (by simpa using hx) (by simpa using hy)
theorem scan_way {fr : Int} {out l : List E} (hg : Good l fr out) (hfr : fr ∈ out.map (·.1)) : ∀ (t : Nat) (n : Int) (acc c : List Int), n ∈ (out.take t).map (·.1) → Way l out fr (n :: acc) → fr ∉ n :: acc → (∀ x ∈ acc, x ∉ (out.take t).map (·.1)) →
    scan fr (out.take t).reverse n (n :: acc) = some c → Way l out fr c ∧ c.head? = some fr := by
  intro t
  induction t using Nat.strongRecOn with
  | _ t ih =>
    intro n acc c h hw hnf hout hs
    obtain ⟨u, n', h1, h2, h3⟩ := scan_find (fr := fr) hg.nd n (n :: acc) t h
    rw [h3] at hs
    have he : (n', n) ∈ l := hg.ed _ (List.mem_of_getElem? h2)
    split at hs
    · rename_i hf
      injection hs with hs; subst hs hf
      exact ⟨hw.cons hnf hfr he, rfl⟩
    · rename_i hne
      have hm := (hg.wf u _ h2).resolve_left hne
      have hnn : n ∉ (out.take u).map (·.1) := not_mem_take hg.nd h2
      have hsub : ∀ x, x ∈ (out.take u).map (·.1) → x ∈ (out.take t).map (·.1) := fun x hx => by
        have : out.take u = (out.take t).take u := by rw [List.take_take, Nat.min_eq_left (by omega)]
        rw [this] at hx
        obtain ⟨y, hy, rfl⟩ := List.mem_map.1 hx
        exact List.mem_map.2 ⟨y, List.mem_of_mem_take hy, rfl⟩
      have hn' : n' ∉ n :: acc := by
        intro hc
        rcases List.mem_cons.1 hc with hc | hc
        · rw [hc] at hm; exact hnn hm
        · exact hout n' hc (hsub n' hm)
      refine ih u h1 n' (n :: acc) c hm (hw.cons hn' ?_ he) ?_ ?_ hs
      · obtain ⟨y, hy, e⟩ := List.mem_map.1 hm
        exact List.mem_map.2 ⟨y, List.mem_of_mem_take hy, e⟩
      · intro hc
        rcases List.mem_cons.1 hc with hc | hc
        · exact hne hc.symm
        · exact hnf hc
      · intro x hx
        rcases List.mem_cons.1 hx with rfl | hx
        · exact hnn
        · exact fun h => hout x hx (hsub x h)
theorem cycle_nil {l : List E} {fr : Int} (h : fr ∉ (refWalk l fr).map (·.1)) : refCycle l fr = [] := by
  unfold refCycle; rw [scan_none _ _ _ (by simpa using h)]; rfl
theorem cycle_way {l : List E} {fr : Int} (h : fr ∈ (refWalk l fr).map (·.1)) : Way l (refWalk l fr) fr (refCycle l fr) ∧ (refCycle l fr).head? = some fr := by
  have hg := refWalk_good l fr
  generalize ho : refWalk l fr = out at h hg
  have hall : out = out.take out.length := by simp
  have h' : fr ∈ (out.take out.length).map (·.1) := by rw [List.take_length]; exact h
  obtain ⟨u, n', h1, h2, h3⟩ := scan_find (fr := fr) hg.nd fr [] out.length h'
  obtain ⟨c, hc⟩ := scan_some hg out.length fr [] h'
  have hr : refCycle l fr = c := by unfold refCycle; rw [ho, ← List.take_length (l := out), hc]; rfl
  rw [hr]
  rw [hc] at h3
  have he : (n', fr) ∈ l := hg.ed _ (List.mem_of_getElem? h2)
  have hone : ∀ n, n ∈ out.map (·.1) → (n, fr) ∈ l → Way l out fr [n] := fun n hn hl => ⟨by simp, fun x hx => by simp at hx; subst hx; exact hn, fun i x y hx hy => by simp at hy, fun x hx => by simp at hx; subst hx; exact hl⟩
  split at h3
  · rename_i hf
    injection h3 with h3; subst h3 hf
    exact ⟨hone _ h he, rfl⟩
  · rename_i hne
    have hm := (hg.wf u _ h2).resolve_left hne
    have hm' : n' ∈ out.map (·.1) := by
      obtain ⟨y, hy, e⟩ := List.mem_map.1 hm
      exact List.mem_map.2 ⟨y, List.mem_of_mem_take hy, e⟩
    exact scan_way hg h u n' [] c hm (hone _ hm' he) (by simp; exact fun e => hne e.symm) (by simp) h3.symm

theorem cycle_len (l : List E) (fr : Int) : (refCycle l fr).length ≤ l.length := by
  by_cases h : fr ∈ (refWalk l fr).map (·.1)
  · obtain ⟨hw, _⟩ := cycle_way h
    have hg := refWalk_good l fr
    have := length_le_of_nodup _ (l.map (·.2)) hw.nd fun x hx => hg.sub x (hw.mem x hx)
    simpa using this
  · rw [cycle_nil h]; simp

/-- The edges by which nodes are come to. -/
def ed (out : List E) : List E := out.map fun s => (s.2, s.1)
def walkE (l : List E) (fr : Int) : List E := ed (refWalk l fr)
theorem ed_prefix {a b : List E} (h : a <+: b) : ed a <+: ed b := by
  obtain ⟨c, rfl⟩ := h; exact ⟨ed c, by simp [ed]⟩
end Go.Proofs.Ytplpedigkhgakaa.Pl
