/- THE GROUND OF THE WALKS, 5: Go's data as Lean's: what cells represent, slices in slices, all on a set of blocks; a row of one's own that becomes data. -/
import Derived.Test.YtngnplhdokboiaaWk4
namespace Go.Wk
open Go
set_option linter.unusedVariables false

def Keeps (Z : Nat → Prop) (w w' : World) : Prop := w.heap.size ≤ w'.heap.size ∧ ∀ k, Z k → k < w.heap.size → w'.heap[k]? = w.heap[k]?
theorem Keeps.refl (Z : Nat → Prop) (w : World) : Keeps Z w w := ⟨Nat.le_refl _, fun _ _ _ => rfl⟩
theorem Keeps.trans {Z a b c} (h : Keeps Z a b) (k : Keeps Z b c) : Keeps Z a c := ⟨Nat.le_trans h.1 k.1, fun i hz hi => (k.2 i hz (Nat.lt_of_lt_of_le hi h.1)).trans (h.2 i hz hi)⟩
theorem Ext.keeps {M Z : Nat → Prop} {a b} (h : Ext M a b) (hM : ∀ k, Z k → ¬ M k) : Keeps Z a b := ⟨h.size, fun k hz hk => h.blk k hk (hM k hz)⟩
theorem Ext.keeps0 {Z : Nat → Prop} {a b} (h : Ext none' a b) : Keeps Z a b := h.keeps fun _ _ h => h

/-- What 'sz' cells represent in a world, on the blocks Z alone. -/
structure Ty (α : Type) where
  sz : Nat
  R : (Nat → Prop) → World → List Value → α → Prop
  len : ∀ {Z w cs x}, R Z w cs x → cs.length = sz
  one : ∀ {Z w cs x}, R Z w cs x → ∀ u ∈ cs, u.oneCell' = true
  keeps : ∀ {Z w w' cs x}, R Z w cs x → Keeps Z w w' → R Z w' cs x
  mono : ∀ {Z Z' : Nat → Prop} {w cs x}, R Z w cs x → (∀ k, k < w.heap.size → Z k → Z' k) → R Z' w cs x

def tLit {α : Type} (enc : α → Value) (ok : α → Prop) (h1 : ∀ x, (enc x).oneCell' = true) : Ty α where
  sz := 1
  R _ _ cs x := cs = [enc x] ∧ ok x
  len := by rintro Z w cs x ⟨rfl, _⟩; rfl
  one := by rintro Z w cs x ⟨rfl, _⟩ u hu; simp at hu; subst hu; exact h1 x
  keeps := fun h _ => h
  mono := fun h _ => h
def InK (k : IntKind) (x : Int) : Prop := (Lit.int k x).wf = true
def tInt (k : IntKind) : Ty Int := tLit (Value.int k) (InK k) fun _ => rfl
def tBool : Ty Bool := tLit Value.bool (fun _ => True) fun _ => rfl

/-- What a slice value says: its elements' cells. 'by': an element's bytes (the reach). -/
def SlR {α : Type} (T : Ty α) (bytes : Nat) (Z : Nat → Prop) (w : World) (v : Value) (xs : List α) : Prop :=
  ∃ a c, v = .slice a xs.length c ∧ xs.length ≤ c ∧ (a = none → xs.length = 0 ∧ c = 0) ∧ xs.length * bytes ≤ 140737488351232 ∧ c ≤ maxLen ∧
    ∀ i x, xs[i]? = some x → ∃ b o cs, a = some ⟨b, o, none⟩ ∧ Z b ∧ Cells w b (o + i * T.sz) cs ∧ T.R Z w cs x
def tSlice {α : Type} (T : Ty α) (bytes : Nat) : Ty (List α) where
  sz := 1
  R Z w cs xs := ∃ v, cs = [v] ∧ SlR T bytes Z w v xs
  len := by rintro Z w cs x ⟨v, rfl, _⟩; rfl
  one := by rintro Z w cs x ⟨v, rfl, a, c, rfl, _⟩ u hu; simp at hu; subst hu; rfl
  keeps := by
    rintro Z w w' cs x ⟨v, rfl, a, c, rfl, h1, h2, h3, h4, h5⟩ k
    refine ⟨_, rfl, a, c, rfl, h1, h2, h3, h4, fun i x hx => ?_⟩
    obtain ⟨b, o, cs, e1, e2, e3, e4⟩ := h5 i x hx
    exact ⟨b, o, cs, e1, e2, e3.ext (k.2 b e2 e3.lt), T.keeps e4 k⟩
  mono := by
    rintro Z Z' w cs x ⟨v, rfl, a, c, rfl, h1, h2, h3, h4, h5⟩ k
    refine ⟨_, rfl, a, c, rfl, h1, h2, h3, h4, fun i x hx => ?_⟩
    obtain ⟨b, o, cs, e1, e2, e3, e4⟩ := h5 i x hx
    exact ⟨b, o, cs, e1, k b e3.lt e2, e3, T.mono e4 k⟩
def tPair {α β : Type} (A : Ty α) (B : Ty β) : Ty (α × β) where
  sz := A.sz + B.sz
  R Z w cs x := ∃ c1 c2, cs = c1 ++ c2 ∧ A.R Z w c1 x.1 ∧ B.R Z w c2 x.2
  len := by rintro Z w cs x ⟨c1, c2, rfl, h1, h2⟩; rw [List.length_append, A.len h1, B.len h2]
  one := by
    rintro Z w cs x ⟨c1, c2, rfl, h1, h2⟩ u hu
    rcases List.mem_append.1 hu with hu | hu
    · exact A.one h1 u hu
    · exact B.one h2 u hu
  keeps := by rintro Z w w' cs x ⟨c1, c2, rfl, h1, h2⟩ k; exact ⟨c1, c2, rfl, A.keeps h1 k, B.keeps h2 k⟩
  mono := by rintro Z Z' w cs x ⟨c1, c2, rfl, h1, h2⟩ k; exact ⟨c1, c2, rfl, A.mono h1 k, B.mono h2 k⟩
def tMap {α β : Type} (A : Ty α) (f : β → α) : Ty β where
  sz := A.sz
  R Z w cs x := A.R Z w cs (f x)
  len := A.len
  one := A.one
  keeps := A.keeps
  mono := A.mono

/-- A list of elements, cells one behind the other. -/
def Els {α : Type} (T : Ty α) (Z : Nat → Prop) (w : World) (cs : List Value) (xs : List α) : Prop := cs.length = xs.length * T.sz ∧ ∀ i x, xs[i]? = some x → T.R Z w ((cs.drop (i * T.sz)).take T.sz) x
theorem Els.nil {α : Type} (T : Ty α) (Z : Nat → Prop) (w : World) : Els T Z w [] [] := ⟨by simp, fun i x h => by simp at h⟩
theorem Els.snoc {α : Type} {T : Ty α} {Z : Nat → Prop} {w : World} {cs c : List Value} {xs : List α} {x : α} (h : Els T Z w cs xs) (hx : T.R Z w c x) : Els T Z w (cs ++ c) (xs ++ [x]) := by
  have hl := T.len hx
  refine ⟨by simp [h.1, hl, Nat.add_mul], fun i y hy => ?_⟩
  by_cases hi : i < xs.length
  · rw [List.getElem?_append_left hi] at hy
    have := h.2 i y hy
    have hb : i * T.sz + T.sz ≤ cs.length := by rw [h.1]; have := Nat.mul_le_mul_right T.sz (show i + 1 ≤ xs.length from hi); rw [Nat.add_mul] at this; omega
    rwa [List.drop_append_of_le_length (by omega), List.take_append_of_le_length (by simp; omega)]
  · rw [List.getElem?_append_right (by omega)] at hy
    have hi0 : i - xs.length = 0 := by
      have := (List.getElem?_eq_some_iff.1 hy).1
      simp at this; omega
    rw [hi0] at hy
    simp at hy; subst hy
    obtain rfl : i = xs.length := by omega
    rw [← h.1, List.drop_left, ← hl, List.take_length]; exact hx
theorem Els.append {α : Type} {T : Ty α} {Z : Nat → Prop} {w : World} {cs ds : List Value} {xs ys : List α} (h : Els T Z w cs xs) (h' : Els T Z w ds ys) : Els T Z w (cs ++ ds) (xs ++ ys) := by
  refine ⟨by simp [h.1, h'.1, Nat.add_mul], fun i y hy => ?_⟩
  by_cases hi : i < xs.length
  · rw [List.getElem?_append_left hi] at hy
    have := h.2 i y hy
    have hb : i * T.sz + T.sz ≤ cs.length := by rw [h.1]; have := Nat.mul_le_mul_right T.sz (show i + 1 ≤ xs.length from hi); rw [Nat.add_mul] at this; omega
    rwa [List.drop_append_of_le_length (by omega), List.take_append_of_le_length (by simp; omega)]
  · rw [List.getElem?_append_right (by omega)] at hy
    have := h'.2 _ y hy
    have e : i * T.sz = cs.length + (i - xs.length) * T.sz := by rw [h.1, ← Nat.add_mul]; congr 1; omega
    rw [e, ← List.drop_drop, List.drop_left]; exact this
theorem Els.keeps {α : Type} {T : Ty α} {Z : Nat → Prop} {w w' : World} {cs : List Value} {xs : List α} (h : Els T Z w cs xs) (k : Keeps Z w w') : Els T Z w' cs xs := ⟨h.1, fun i x hx => T.keeps (h.2 i x hx) k⟩
theorem Els.mono {α : Type} {T : Ty α} {Z Z' : Nat → Prop} {w : World} {cs : List Value} {xs : List α} (h : Els T Z w cs xs) (k : ∀ k, k < w.heap.size → Z k → Z' k) : Els T Z' w cs xs := ⟨h.1, fun i x hx => T.mono (h.2 i x hx) k⟩
theorem Els.one {α : Type} {T : Ty α} {Z : Nat → Prop} {w : World} {cs : List Value} {xs : List α} (h : Els T Z w cs xs) (hp : 0 < T.sz) : ∀ u ∈ cs, u.oneCell' = true := by
  intro u hu
  obtain ⟨j, hj, rfl⟩ := List.getElem_of_mem hu
  have hj' : j / T.sz < xs.length := by rw [Nat.div_lt_iff_lt_mul hp, ← h.1]; exact hj
  have hr := h.2 (j / T.sz) _ (List.getElem?_eq_getElem hj')
  refine T.one hr _ (List.mem_iff_getElem?.2 ⟨j % T.sz, ?_⟩)
  rw [List.getElem?_take_of_lt (Nat.mod_lt _ hp), List.getElem?_drop, Nat.mul_comm, Nat.div_add_mod, List.getElem?_eq_getElem hj]

/-- A row of one's own, read as data: its block is among Z. -/
theorem SlR.ofRow {α : Type} {T : Ty α} {bytes : Nat} {Z : Nat → Prop} {w : World} {e n base : Nat} {v : Value} {cs : List Value} {xs : List α} (h : w.ownsRow base e T.sz v n cs) (hp : 0 < T.sz) (he : Els T Z w cs xs) (hZ : ∀ k, v.ownBlock = some k → Z k)
    (hb : xs.length * bytes ≤ 140737488351232) : SlR T bytes Z w v xs := by
  have hn : n = xs.length := by
    have h1 := h.1; rw [he.1] at h1; exact (Nat.eq_of_mul_eq_mul_right hp h1).symm
  subst hn
  rcases h.2 with ⟨rfl, h0⟩ | ⟨g, cap, cur, rfl, _, hh, hc, hm, hsz, ht⟩
  · exact ⟨none, 0, by rw [h0], by omega, fun _ => ⟨h0, rfl⟩, hb, Nat.zero_le _, fun i x hx => by have := (List.getElem?_eq_some_iff.1 hx).1; omega⟩
  · refine ⟨_, cap, rfl, hc, fun h => (by cases h), hb, hm, fun i x hx => ?_⟩
    refine ⟨g, 0, (cs.drop (i * T.sz)).take T.sz, rfl, hZ g rfl, ?_, he.2 i x hx⟩
    have hC : Cells w g 0 cs := Cells.of hh (by rw [List.drop_zero, h.1]; exact ht)
    refine hC.take (i * T.sz) ?_
    rw [List.length_take, List.length_drop]
    have hi := (List.getElem?_eq_some_iff.1 hx).1
    have hb : i * T.sz + T.sz ≤ cs.length := by rw [he.1]; have := Nat.mul_le_mul_right T.sz (show i + 1 ≤ xs.length from hi); rw [Nat.add_mul] at this; omega
    rw [Nat.min_eq_left (by omega)]

theorem SlR.len {α : Type} {T : Ty α} {bytes : Nat} {Z : Nat → Prop} {w : World} {v : Value} {xs : List α} (h : SlR T bytes Z w v xs) : ∃ a c, v = .slice a xs.length c ∧ xs.length ≤ c ∧ c ≤ maxLen := by
  obtain ⟨a, c, h1, h2, _, _, h3, _⟩ := h; exact ⟨a, c, h1, h2, h3⟩
/-- An element of a slice: where it lies. -/
theorem SlR.at {α : Type} {T : Ty α} {bytes : Nat} {Z : Nat → Prop} {w : World} {a : Option Addr} {n c : Nat} {xs : List α} (h : SlR T bytes Z w (.slice a n c) xs) {i : Nat} {x : α} (hx : xs[i]? = some x) :
    ∃ b o cs, a = some ⟨b, o, none⟩ ∧ Z b ∧ Cells w b (o + i * T.sz) cs ∧ T.R Z w cs x := by
  obtain ⟨a', c', h1, _, _, _, _, h5⟩ := h
  injection h1 with e1 e2 e3; subst e1
  exact h5 i x hx
theorem SlR.keeps {α : Type} {T : Ty α} {bytes : Nat} {Z : Nat → Prop} {w w' : World} {v : Value} {xs : List α} (h : SlR T bytes Z w v xs) (k : Keeps Z w w') : SlR T bytes Z w' v xs := by
  obtain ⟨v', e, h⟩ := (tSlice T bytes).keeps (cs := [v]) ⟨v, rfl, h⟩ k
  injection e with e; subst e; exact h
theorem SlR.mono {α : Type} {T : Ty α} {bytes : Nat} {Z Z' : Nat → Prop} {w : World} {v : Value} {xs : List α} (h : SlR T bytes Z w v xs) (k : ∀ k, k < w.heap.size → Z k → Z' k) : SlR T bytes Z' w v xs := by
  obtain ⟨v', e, h⟩ := (tSlice T bytes).mono (cs := [v]) ⟨v, rfl, h⟩ k
  injection e with e; subst e; exact h
theorem SlR.nil {α : Type} (T : Ty α) (bytes : Nat) (Z : Nat → Prop) (w : World) : SlR T bytes Z w (.slice none 0 0) ([] : List α) :=
  ⟨none, 0, rfl, Nat.le_refl _, fun _ => ⟨rfl, rfl⟩, by simp, Nat.zero_le _, fun i x h => by simp at h⟩

/-- What is shared stays: data on shared blocks read as ever. -/
theorem Holds.keeps {w w0 : World} {L : List Atom} (h : Holds w L) {i : Nat} {Z : Nat → Prop} (hi : L[i]? = some (shr Z w0)) : Keeps Z w0 w := by
  obtain ⟨a, _, _, _, e⟩ := h.get hi
  exact ⟨a, fun k hz _ => e k hz⟩

theorem Holds.keepsAll {w w0 : World} {L : List Atom} (h : Holds w L) (i : Nat) (hi : L[i]? = some (shr (fun k => k < w0.heap.size) w0)) (Z : Nat → Prop) : Keeps Z w0 w := by
  obtain ⟨a, _, _, _, e⟩ := h.get hi
  exact ⟨a, fun k _ hk => e k hk⟩

/-! ### A range over a slice: 'for i, x := range xs' -/
section
variable {P : Program} {l : Option Nat} {n : Nat} {Q : PQ} {f : Fr} {ds : List Deferred} {w : World}
/-- The whole statement: BLOCK b (LOOP (i < len; body in its block; i++)). I k: what holds when k rounds are over. -/
theorem W_range {bid rid0 rid1 ti tn tc tu ty0 ty1 ty2 : Nat} {p0 p1 p2 : String} {e0 e1 e2 : Array Edge} {body : Code} {t0 t0' t1 t1' : Nat} {N : Nat} (hN : (N : Int) ≤ maxLen)
    (I : Nat → PK) (h0 : I 0 f ds w) (hi0 : f ti = .int .i64 0) (hn0 : f tn = .int .i64 N) (hc : tc < n) (hu : tu < n) (hti : ti < n) (hne1 : Nat.beq ti tc = false) (hne2 : Nat.beq tn tc = false)
    (hbody : ∀ k f ds w, k < N → I k f ds w → f ti = .int .i64 k → f tn = .int .i64 N → W P l n body (thenQ (fun f' ds' w' => f' ti = .int .i64 k ∧ f' tn = .int .i64 N ∧ I (k + 1) (upd (upd f' tu (.int .i64 ((k : Int) + 1))) ti (.int .i64 ((k : Int) + 1))) ds' w') (blockQ bid Q)) (upd f tc (.bool true)) ds w)
    (hne3 : Nat.beq tn tu = false) (hne4 : Nat.beq tn ti = false) (hdone : ∀ f ds w, I N f ds w → f ti = .int .i64 N → f tn = .int .i64 N → Q .normal (upd f tc (.bool false)) ds w) :
    W P l n (.block bid (.loop (.seq (.region rid0 #[⟨some tc, .binOp .lss t0 (.tmp ti) (.tmp tn) t0', ty0, p0, e0, none⟩] false) (.seq (.cond (.tmp tc) .skip (.exit bid)) (.seq body
      (.region rid1 #[⟨some tu, .binOp .add t1 (.tmp ti) (.const (.int .i64 1)) t1', ty1, p1, e1, none⟩, ⟨some ti, .move (.tmp tu), ty2, p2, e2, none⟩] false)))))) Q f ds w := by
  refine W_block (W_loopN (fun j f ds w => ∃ k, k + j = N ∧ I k f ds w ∧ f ti = .int .i64 k ∧ f tn = .int .i64 N) N ⟨0, by omega, h0, hi0, hn0⟩ ?_)
  rintro j f ds w ⟨k, hk, hI, hti', htn'⟩
  have hupd : ∀ v, upd f tc v ti = .int .i64 k := fun v => by simp only [upd, hne1, cond_false]; exact hti'
  have hupd' : ∀ v, upd f tc v tn = .int .i64 N := fun v => by simp only [upd, hne2, cond_false]; exact htn'
  refine W_seq (W_region (ops := [_]) (OL_y (y_lss hti' htn') hc (OL_nil ?_)))
  by_cases hlt : k < N
  · have hd : decide ((k : Int) < (N : Int)) = true := by simp; omega
    show W P l n _ _ _ _ _
    rw [hd]
    refine W_seq (W_condt (show upd f tc _ tc = _ from upd_same _ _ _) (W_skip ?_))
    show W P l n _ _ _ _ _
    refine W_seq (W_mono (hbody k f ds w hlt hI hti' htn') ?_)
    rintro e f' ds' w' q
    cases e with
    | normal =>
      obtain ⟨q1, q2, q3⟩ := q
      show W P l n _ _ _ _ _
      refine W_region (ops := [_, _]) (OL_y (y_addw (x := .tmp ti) (y := .const _) (kd := .i64) (a := k) (b := 1) q1 rfl) hu (OL_y (y_move (x := .tmp tu) (upd_same _ _ _)) hti (OL_nil ?_)))
      have hw : IntKind.i64.wrap ((k : Int) + 1) = (k : Int) + 1 := by
        simp only [maxLen] at hN
        exact IntWalk.i64_in _ (by omega)
      rw [hw]
      have hnn : ∀ a b, upd (upd f' tu a) ti b tn = .int .i64 N := fun a b => by simp only [upd, hne3, hne4, cond_false]; exact q2
      exact ⟨j - 1, by omega, k + 1, by omega, q3, by rw [upd_same]; simp, hnn _ _⟩
    | exit i => exact q
    | goto i => exact q
    | ret => exact q
    | panic c => exact q
    | outgrown => exact q
  · obtain rfl : k = N := by omega
    have hd : decide ((k : Int) < (k : Int)) = false := by simp
    show W P l n _ _ _ _ _
    rw [hd]
    refine W_seq (W_condf (show upd f tc _ tc = _ from upd_same _ _ _) (W_exit ?_))
    show cond (Nat.beq bid bid) _ _
    rw [Nat.beq_refl]
    exact hdone f ds w hI hti' htn'
end
end Go.Wk
