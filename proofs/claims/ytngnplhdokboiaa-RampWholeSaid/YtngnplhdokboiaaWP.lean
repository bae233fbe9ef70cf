/- PLAIN: nothing is seen in part, whatever the cells, if their keys differ and lie within the span. -/
import Derived.Test.YtngnplhdokboiaaRP
import Derived.Test.YtngnplhdokboiaaD
namespace Go.Proofs.Ytngnplhdokboiaa
open Go Go.Wk
set_option linter.unusedVariables false
set_option linter.unusedSimpArgs false

theorem bars_iff {X : List Sn} {ts : Int} {keys : List Key} : barredB X ts keys = false ↔ ∀ b ∈ X, b.key ∈ keys → ts ≤ b.ts := by
  unfold barredB
  rw [List.any_eq_false]
  constructor
  · intro h b hb hk
    refine Int.not_lt.1 fun hlt => h b.key hk ?_
    exact List.any_eq_true.2 ⟨b, hb, by simp [hlt]⟩
  · intro h k hk ha
    obtain ⟨b, hb, hh⟩ := List.any_eq_true.1 ha
    rw [Bool.and_eq_true, decide_eq_true_iff, decide_eq_true_iff] at hh
    have := h b hb (by rw [hh.2]; exact hk)
    omega
theorem frac_iff {X : List Sn} : fracturedB X = false ↔ ∀ a ∈ X, ∀ b ∈ X, b.key ∈ a.keys → a.ts ≤ b.ts := by
  unfold fracturedB
  rw [List.any_eq_false]
  constructor
  · intro h a ha b hb hk
    exact bars_iff.1 (by simpa using h a ha) b hb hk
  · intro h a ha
    rw [bars_iff.2 fun b hb hk => h a ha b hb hk]; decide
theorem firstS_bars {S : List Sn} {c : Cl} : ∀ b ∈ S, b.key ∈ (firstS S c).keys → (firstS S c).ts ≤ b.ts := by
  unfold firstS
  split
  · rename_i v hv
    have := List.find?_some hv
    exact bars_iff.1 (by simpa using this)
  · intro b _ h; cases h
theorem whole_law {S need : List Sn} {s : Sp} {cells : List Cl} (hS : fracturedB S = false) (hnd : (cells.map (·.key)).Nodup) (hw : ∀ c ∈ cells, withinB c.key s.lo s.hi = true) (hp : need.Perm (needZ S s cells)) :
    fracturedB (S ++ gotZ S s cells ++ need) = false ∧ ∀ x ∈ need, withinB x.key s.lo s.hi = true := by
  have hI := least_inv s (cells.map (firstS S) ++ S) ⟨[], 0, 0, []⟩
  have hnd' : ((cells.map (firstS S)).map (·.key)).Nodup := by rw [all_keys]; exact hnd
  have hneed : ∀ x ∈ need, x ∈ least s (cells.map (firstS S) ++ S) := fun x hx => (List.mem_filter.1 (hp.mem_iff.1 hx)).1
  rw [frac_iff] at hS
  -- whoever asked: what is read of a key within the span is not behind
  have hask : ∀ u ∈ cells.map (firstS S) ++ S, ∀ b, (b ∈ gotZ S s cells ∨ b ∈ need) → b.key ∈ u.keys → u.ts ≤ b.ts := by
    intro u hu b hb hk
    rcases hb with hb | hb
    · obtain ⟨hb1, hb2⟩ := List.mem_filter.1 hb
      have hb2 : b.key ∉ (needZ S s cells).map (·.key) := by simpa using hb2
      have hbw : withinB b.key s.lo s.hi = true := by
        obtain ⟨c, hc, rfl⟩ := List.mem_map.1 hb1
        rw [firstS_key]; exact hw c hc
      obtain ⟨z, hz, hzk, hzt⟩ := hI.all u hu b.key hk hbw
      have hzn : z ∉ needZ S s cells := fun h => hb2 (List.mem_map.2 ⟨z, h, hzk⟩)
      have hdel : delB (cells.map (firstS S)) z = true := by
        refine Classical.byContradiction fun h => hzn (List.mem_filter.2 ⟨hz, ?_⟩)
        simpa using h
      have hch := chosen_of hnd' hb1
      unfold delB at hdel
      rw [hzk, hch] at hdel
      have : z.ts ≤ b.ts := by simpa using hdel
      omega
    · have hbl := hneed b hb
      obtain ⟨hbw, -⟩ := hI.from' b hbl
      obtain ⟨z, hz, hzk, hzt⟩ := hI.all u hu b.key hk hbw
      rw [sn_unique hI.nodup hz hbl hzk] at hzt
      exact hzt
  have hbar : ∀ u ∈ cells.map (firstS S) ++ S, ∀ b ∈ S, b.key ∈ u.keys → u.ts ≤ b.ts := by
    intro u hu b hb hk
    rcases List.mem_append.1 hu with hu | hu
    · obtain ⟨c, hc, rfl⟩ := List.mem_map.1 hu
      exact firstS_bars b hb hk
    · exact hS u hu b hb hk
  have hfrom : ∀ a ∈ S ++ gotZ S s cells ++ need, ∃ u ∈ cells.map (firstS S) ++ S, a.ts = u.ts ∧ a.keys = u.keys := by
    intro a ha
    rcases List.mem_append.1 ha with ha | ha
    · rcases List.mem_append.1 ha with ha | ha
      · exact ⟨a, List.mem_append.2 (.inr ha), rfl, rfl⟩
      · exact ⟨a, List.mem_append.2 (.inl (List.mem_filter.1 ha).1), rfl, rfl⟩
    · obtain ⟨-, u, hu, -, h1, -, h2⟩ := hI.from' a (hneed a ha)
      refine ⟨u, ?_, h1, h2⟩
      rcases hu with hu | ⟨_, h⟩
      · exact hu
      · cases h
  refine ⟨frac_iff.2 fun a ha b hb hk => ?_, fun x hx => (hI.from' x (hneed x hx)).1⟩
  obtain ⟨u, hu, h1, h2⟩ := hfrom a ha
  rw [h1]; rw [h2] at hk
  rcases List.mem_append.1 hb with hb | hb
  · rcases List.mem_append.1 hb with hb | hb
    · exact hbar u hu b hb hk
    · exact hask u hu b (.inl hb) hk
  · exact hask u hu b (.inr hb) hk
/-- How long it grows; keys stay few. -/
theorem whole_len {S need : List Sn} {s : Sp} {cells : List Cl} (h6 : ∀ c ∈ cells, ∀ v ∈ c.vers, v.keys.length ≤ 6) (hS6 : ∀ x ∈ S, x.keys.length ≤ 6) (hp : need.Perm (needZ S s cells)) :
    (gotZ S s cells).length ≤ cells.length ∧ need.length ≤ 6 * (cells.length + S.length) ∧ ∀ x ∈ S ++ gotZ S s cells ++ need, x.keys.length ≤ 6 := by
  have hV : ∀ u ∈ cells.map (firstS S) ++ S, u.keys.length ≤ 6 := by
    intro u hu
    rcases List.mem_append.1 hu with hu | hu
    · obtain ⟨c, hc, rfl⟩ := List.mem_map.1 hu
      unfold firstS
      split
      · rename_i v hv; exact h6 c hc v (List.mem_of_find?_eq_some hv)
      · simp
    · exact hS6 u hu
  have hI := least_inv s (cells.map (firstS S) ++ S) ⟨[], 0, 0, []⟩
  refine ⟨Nat.le_trans (List.length_filter_le _ _) (by rw [List.length_map]; exact Nat.le_refl _), ?_, ?_⟩
  · rw [hp.length_eq]
    refine Nat.le_trans (List.length_filter_le _ _) (Nat.le_trans (least_len s 6 _ hV) ?_)
    rw [List.length_append, List.length_map]; exact Nat.le_refl _
  · intro x hx
    rcases List.mem_append.1 hx with hx | hx
    · rcases List.mem_append.1 hx with hx | hx
      · exact hS6 x hx
      · exact hV x (List.mem_append.2 (.inl (List.mem_filter.1 hx).1))
    · obtain ⟨-, u, hu, -, -, -, h2⟩ := hI.from' x (List.mem_filter.1 (hp.mem_iff.1 hx)).1
      rw [h2]
      rcases hu with hu | ⟨_, h⟩
      · exact hV u hu
      · cases h
def bnd : Nat → Nat
  | 0 => 0
  | n + 1 => 7 * bnd n + 336
theorem bnd_le : ∀ i, i ≤ 3 → bnd i ≤ 19152 := by decide
end Go.Proofs.Ytngnplhdokboiaa
