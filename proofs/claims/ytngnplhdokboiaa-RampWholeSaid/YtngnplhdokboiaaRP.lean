/- PLAIN: each key is read once, and not behind its first version. -/
import Derived.Test.YtngnplhdokboiaaC
namespace Go.Proofs.Ytngnplhdokboiaa
open Go Go.Wk
set_option linter.unusedVariables false
set_option linter.unusedSimpArgs false

theorem filter_unique : ∀ {L : List Sn} {x : Sn}, (L.map (·.key)).Nodup → x ∈ L → L.filter (fun y => decide (y.key = x.key)) = [x]
  | y :: L, x, h, hx => by
    rw [List.map_cons, List.nodup_cons] at h
    rcases List.mem_cons.1 hx with rfl | hx
    · rw [List.filter_cons_of_pos (by simp)]
      congr 1
      rw [List.filter_eq_nil_iff]
      intro y hy he
      exact h.1 (List.mem_map.2 ⟨y, hy, by simpa using he⟩)
    · have hne : ¬ y.key = x.key := fun he => h.1 (List.mem_map.2 ⟨x, hx, he.symm⟩)
      rw [List.filter_cons_of_neg (by simp [hne])]
      exact filter_unique h.2 hx
theorem sn_unique {L : List Sn} (h : (L.map (·.key)).Nodup) {a b : Sn} (ha : a ∈ L) (hb : b ∈ L) (hk : a.key = b.key) : a = b := by
  have h1 := filter_unique h ha
  rw [hk, filter_unique h hb] at h1
  injection h1 with h1 _; exact h1.symm
theorem chosen_of {all : List Sn} (h : (all.map (·.key)).Nodup) {x : Sn} (hx : x ∈ all) : chosenOf all x.key = some x.ts := by
  unfold chosenOf
  cases hf : all.reverse.find? (fun y => decide (y.key = x.key)) with
  | none =>
    have := List.find?_eq_none.1 hf x (List.mem_reverse.2 hx)
    simp at this
  | some y =>
    have hy := List.mem_reverse.1 (List.mem_of_find?_eq_some hf)
    have hk : y.key = x.key := by simpa using List.find?_some hf
    rw [sn_unique h hy hx hk]; rfl
theorem all_keys (seen : List Sn) (cells : List Cl) : (cells.map (firstS seen)).map (·.key) = cells.map (·.key) := by
  rw [List.map_map]; apply List.map_congr_left; intro c _; exact firstS_key seen c
theorem need_nodup (seen : List Sn) (s : Sp) (cells : List Cl) : ((needZ seen s cells).map (·.key)).Nodup :=
  (least_inv s _ ⟨[], 0, 0, []⟩).nodup.sublist (List.Sublist.map _ List.filter_sublist)
/-- What is read and what is needed: each key once. -/
theorem read_nodup {seen need : List Sn} {s : Sp} {cells : List Cl} (hnd : (cells.map (·.key)).Nodup) (hp : need.Perm (needZ seen s cells)) : ((gotZ seen s cells ++ need).map (·.key)).Nodup := by
  rw [List.map_append, List.nodup_append]
  refine ⟨?_, (hp.map _).nodup_iff.2 (need_nodup seen s cells), ?_⟩
  · rw [← all_keys seen] at hnd
    exact hnd.sublist (List.Sublist.map _ List.filter_sublist)
  · intro a ha b hb hab
    obtain ⟨x, hx, rfl⟩ := List.mem_map.1 ha
    have h2 : x.key ∉ (needZ seen s cells).map (·.key) := by simpa using (List.mem_filter.1 hx).2
    exact h2 ((hp.map _).mem_iff.1 (hab ▸ hb))
theorem firstS_nil {c : Cl} {v : Ver} (h : c.vers.head? = some v) : (firstS [] c).ts = v.ts := by
  unfold firstS
  cases hv : c.vers with
  | nil => rw [hv] at h; cases h
  | cons u us =>
    rw [hv] at h; injection h with h; subst h
    have : (!barredB [] u.ts u.keys) = true := by simp [barredB]
    rw [List.find?_cons, this]
theorem latest_law {need : List Sn} {s : Sp} {cells : List Cl} (hnd : (cells.map (·.key)).Nodup) (hp : need.Perm (needZ [] s cells)) {c : Cl} (hc : c ∈ cells) :
    ∃ z, (gotZ [] s cells ++ need).filter (fun x => decide (x.key = c.key)) = [z] ∧ ∀ v, c.vers.head? = some v → v.ts ≤ z.ts := by
  have hall : firstS [] c ∈ cells.map (firstS []) := List.mem_map.2 ⟨c, hc, rfl⟩
  have hnd' : ((cells.map (firstS [])).map (·.key)).Nodup := by rw [all_keys]; exact hnd
  have key : ∀ z ∈ gotZ [] s cells ++ need, z.key = c.key → ∃ z, (gotZ [] s cells ++ need).filter (fun x => decide (x.key = c.key)) = [z] ∧ ∀ v, c.vers.head? = some v → v.ts ≤ z.ts := by
    intro z hz hk
    refine ⟨z, by rw [← hk]; exact filter_unique (read_nodup hnd hp) hz, fun v hv => ?_⟩
    rcases List.mem_append.1 hz with hz | hz
    · have hz := (List.mem_filter.1 hz).1
      have := sn_unique hnd' hz hall (by rw [hk, firstS_key])
      rw [this, firstS_nil hv]; exact Int.le_refl _
    · have hz := (List.mem_filter.1 (hp.mem_iff.1 hz)).2
      have hch := chosen_of hnd' hall
      rw [firstS_key, ← hk] at hch
      unfold delB at hz
      rw [hch] at hz
      have : ¬ z.ts ≤ (firstS [] c).ts := by simpa using hz
      rw [firstS_nil hv] at this; omega
  by_cases hn : c.key ∈ (needZ [] s cells).map (·.key)
  · obtain ⟨z, hz, hk⟩ := List.mem_map.1 hn
    exact key z (List.mem_append.2 (.inr (hp.mem_iff.2 hz))) hk
  · exact key (firstS [] c) (List.mem_append.2 (.inl (List.mem_filter.2 ⟨hall, by rw [firstS_key]; simpa using hn⟩))) (firstS_key _ _)
end Go.Proofs.Ytngnplhdokboiaa
