/- THE GROUND OF THE WALKS, 2: the judgement on code (frames as functions from a slot's number), and its rules for the forms of control, for a function's begin and end. -/
import Derived.Test.YtngnplhdokboiaaWk1
import Derived.CallsIn
import Derived.RangeFuncLeaves
import Derived.Tactics
namespace Go.Wk
open Go
set_option linter.unusedVariables false

theorem nbeq_false {a b : Nat} (h : a ≠ b) : Nat.beq a b = false := by
  cases hb : Nat.beq a b with
  | false => rfl
  | true => exact absurd (Nat.eq_of_beq_eq_true hb) h

abbrev Fr := Nat → Value
def upd (f : Fr) (d : Nat) (v : Value) : Fr := fun t => cond (Nat.beq t d) v (f t)
def Fits (n : Nat) (f : Fr) (a : Act) : Prop := a.tmps.size = n ∧ ∀ t, a.tmps.getD t undef = f t
def ev (f : Fr) : Operand → Value
  | .tmp t => f t
  | .const v => v
  | .global g => .pointer (some ⟨g, 0, none⟩)
  | .func g => .func (.func g) #[] #[]

theorem upd_same (f : Fr) (d : Nat) (v : Value) : upd f d v d = v := by simp [upd]
theorem upd_ne (f : Fr) {d t : Nat} (v : Value) (h : t ≠ d) : upd f d v t = f t := by
  simp only [upd, nbeq_false h, cond_false]

theorem Fits.eval {n : Nat} {f : Fr} {a : Act} (h : Fits n f a) : a.eval = ev f := by
  funext x
  cases x with
  | tmp t => exact h.2 t
  | const v => rfl
  | global g => rfl
  | func g => rfl
theorem Fits.put {n : Nat} {f : Fr} {a : Act} (h : Fits n f a) {d : Nat} (hd : d < n) (v : Value) : Fits n (upd f d v) (a.put (some d) v) := by
  refine ⟨by simp [Act.put, h.1], fun t => ?_⟩
  by_cases ht : t = d
  · subst ht; rw [upd_same]; simp [Act.put, h.1, hd]
  · rw [upd_ne _ _ ht, ← h.2 t]; simp [Act.put, Array.getElem?_setIfInBounds_ne (Ne.symm ht)]
theorem Fits.eq {n : Nat} {f g : Fr} {a : Act} (h : Fits n f a) (h' : Fits n g a) : f = g := funext fun t => (h.2 t).symm.trans (h'.2 t)

abbrev PQ := Exit → Fr → List Deferred → World → Prop
abbrev PK := Fr → List Deferred → World → Prop
def lift (n : Nat) (Q : PQ) : Exit → Act → World → Prop := fun e a w => ∃ f, Fits n f a ∧ Q e f a.defers w
def liftK (n : Nat) (K : PK) : Act → World → Prop := fun a w => ∃ f, Fits n f a ∧ K f a.defers w

/-- The fence is as wide as can be; l: the round of which loop the frame is. -/
def fe : Option Nat → Fence
  | none => Fence.wide
  | some l => Fence.wide.inRound l
theorem fe_fn (l : Option Nat) (f : FuncId) : (fe l).fn f := by cases l <;> trivial
theorem fe_depth (l : Option Nat) : (fe l).depth = none := by cases l <;> rfl
theorem fe_round (l : Option Nat) : (fe l).round = l := by cases l <;> rfl
theorem fe_room (l : Option Nat) (k : Nat) : (fe l).room k := fun d hd => by rw [fe_depth] at hd; cases hd

/-- THE JUDGEMENT: from the frame f, the deferred calls ds, the world w the code c comes to what Q takes. -/
def W (P : Program) (l : Option Nat) (n : Nat) (c : Code) (Q : PQ) : PK := fun f ds w => ∀ a, Fits n f a → a.defers = ds → c.wpIn (fe l) 0 P (lift n Q) a w

def thenQ (K : PK) (Q : PQ) : PQ
  | .normal, f, ds, w => K f ds w
  | e, f, ds, w => Q e f ds w
def blockQ (id : Nat) (Q : PQ) : PQ
  | .exit id', f, ds, w => cond (Nat.beq id' id) (Q .normal f ds w) (Q (.exit id') f ds w)
  | e, f, ds, w => Q e f ds w

section
variable {P : Program} {l : Option Nat} {n : Nat} {Q : PQ} {f : Fr} {ds : List Deferred} {w : World}

theorem W_mono {Q' : PQ} {c : Code} (h : W P l n c Q f ds w) (hq : ∀ e f ds w, Q e f ds w → Q' e f ds w) : W P l n c Q' f ds w :=
  fun a ha hd => wpIn_mono (h a ha hd) fun e a w ⟨f, hf, q⟩ => ⟨f, hf, hq _ _ _ _ q⟩
theorem W_skip (h : Q .normal f ds w) : W P l n .skip Q f ds w := fun _ ha hd => wpIn_skip ⟨f, ha, hd ▸ h⟩
theorem W_label {i : Nat} (h : Q .normal f ds w) : W P l n (.label i) Q f ds w := fun _ ha hd => wpIn_label ⟨f, ha, hd ▸ h⟩
theorem W_exit {i : Nat} (h : Q (.exit i) f ds w) : W P l n (.exit i) Q f ds w := fun _ ha hd => wpIn_exit ⟨f, ha, hd ▸ h⟩
theorem W_goto {i : Nat} (h : Q (.goto i) f ds w) : W P l n (.goto i) Q f ds w := fun _ ha hd => wpIn_goto ⟨f, ha, hd ▸ h⟩
theorem W_ret (h : Q .ret f ds w) : W P l n .ret Q f ds w := fun _ ha hd => wpIn_ret ⟨f, ha, hd ▸ h⟩
theorem W_seq {x y : Code} (h : W P l n x (thenQ (W P l n y Q) Q) f ds w) : W P l n (.seq x y) Q f ds w := fun a ha hd =>
  wpIn_seq (wpIn_mono (h a ha hd) fun e a w ⟨f, hf, q⟩ => by
    cases e with
    | normal => exact q a hf rfl
    | _ => exact ⟨f, hf, q⟩)
theorem W_cond {c : Operand} {x y : Code} {b : Bool} (hc : ev f c = .bool b) (hx : b = true → W P l n x Q f ds w) (hy : b = false → W P l n y Q f ds w) : W P l n (.cond c x y) Q f ds w := fun a ha hd =>
  wpIn_cond_split (by rw [ha.eval]; exact hc) (fun e => hx e a ha hd) (fun e => hy e a ha hd)
theorem W_condt {c : Operand} {x y : Code} (hc : ev f c = .bool true) (hx : W P l n x Q f ds w) : W P l n (.cond c x y) Q f ds w := W_cond hc (fun _ => hx) (by simp)
theorem W_condf {c : Operand} {x y : Code} (hc : ev f c = .bool false) (hy : W P l n y Q f ds w) : W P l n (.cond c x y) Q f ds w := W_cond hc (by simp) (fun _ => hy)
theorem W_block {i : Nat} {c : Code} (h : W P l n c (blockQ i Q) f ds w) : W P l n (.block i c) Q f ds w := fun a ha hd =>
  wpIn_block (wpIn_mono (h a ha hd) fun e a w ⟨f, hf, q⟩ => by
    cases e with
    | exit j =>
      simp only [blockQ] at q
      simp only [Exit.inBlock]
      by_cases e : j = i
      · subst e; rw [if_pos rfl]; rw [show Nat.beq j j = true from Nat.beq_refl j] at q; exact ⟨f, hf, q⟩
      · rw [if_neg e]; rw [nbeq_false e] at q; exact ⟨f, hf, q⟩
    | _ => exact ⟨f, hf, q⟩)

/-- A loop, by a measure. -/
theorem W_loop {c : Code} (I : PK) (μ : Fr → World → Nat) (h₀ : I f ds w)
    (round : ∀ f ds w, I f ds w → W P l n c (thenQ (fun f' ds' w' => I f' ds' w' ∧ μ f' w' < μ f w) Q) f ds w) : W P l n (.loop c) Q f ds w := fun a ha hd =>
  wpIn_loop (fun a w => ∃ f, Fits n f a ∧ I f a.defers w) (fun a w => μ (fun t => a.tmps.getD t undef) w) ⟨f, ha, hd ▸ h₀⟩ fun a w ⟨f, hf, hi⟩ =>
    wpIn_mono (round f _ w hi a hf rfl) fun e a' w' ⟨f', hf', q⟩ => by
      cases e with
      | normal =>
        obtain ⟨q1, q2⟩ := q
        have e1 : (fun t => a.tmps.getD t undef) = f := funext hf.2
        have e2 : (fun t => a'.tmps.getD t undef) = f' := funext hf'.2
        exact ⟨⟨f', hf', q1⟩, by rw [e1, e2]; exact q2⟩
      | _ => exact ⟨f', hf', q⟩
/-- A loop over a ghost that every round lowers (in the order of numbers). -/
theorem W_loopN {c : Code} (I : Nat → PK) (k₀ : Nat) (h₀ : I k₀ f ds w)
    (round : ∀ k f ds w, I k f ds w → W P l n c (thenQ (fun f' ds' w' => ∃ k', k' < k ∧ I k' f' ds' w') Q) f ds w) : W P l n (.loop c) Q f ds w := by
  -- by induction on the ghost: the loop unrolled
  intro a ha hd b k cs hro hb hr
  have key : ∀ j f ds w a, I j f ds w → Fits n f a → a.defers = ds →
      ∃ e a' w', lift n Q e a' w' ∧ ArrivesIn (Machine.fenced P (fe l)) P (lone (b.atR a (.code c :: .inLoop c :: k)) cs w) b k cs e a' w' := by
    intro j
    induction j using Nat.strongRecOn with
    | _ j ih =>
      intro f ds w a hI ha hd
      obtain ⟨e, a₁, w₁, ⟨f₁, hf₁, hq⟩, harr⟩ := round j f ds w hI a ha hd b (.inLoop c :: k) cs hro hb hr
      cases e with
      | normal =>
        obtain ⟨j', hlt, hI₁⟩ := hq
        obtain ⟨e₂, a₂, w₂, hq₂, harr₂⟩ := ih j' hlt f₁ _ w₁ a₁ hI₁ hf₁ rfl
        exact ⟨e₂, a₂, w₂, hq₂, .of_steps (StepsIn.trans harr (.one (fenced_calm hb hr rfl) stepR_inLoop)) harr₂⟩
      | exit id => exact ⟨_, a₁, w₁, ⟨f₁, hf₁, hq⟩, .pass (x := .inLoop c) rfl (fun _ _ => .inl (by simp)) harr⟩
      | goto id => exact ⟨_, a₁, w₁, ⟨f₁, hf₁, hq⟩, .pass (x := .inLoop c) rfl (fun _ _ => .inl (by simp)) harr⟩
      | ret => exact ⟨_, a₁, w₁, ⟨f₁, hf₁, hq⟩, .pass (x := .inLoop c) rfl (fun _ _ => .inl (by simp)) harr⟩
      | panic ch => exact ⟨_, a₁, w₁, ⟨f₁, hf₁, hq⟩, .pass (x := .inLoop c) rfl (fun _ _ => .inl (by simp)) harr⟩
      | outgrown => exact ⟨_, a₁, w₁, ⟨f₁, hf₁, hq⟩, .pass (x := .inLoop c) rfl (fun _ _ => .inl (by simp)) harr⟩
  obtain ⟨e, a', w', hq, harr⟩ := key k₀ f ds w a h₀ ha hd
  exact ⟨e, a', w', hq, .of_steps (.one (fenced_calm hb hr rfl) stepR_loop) harr⟩
end

/-! ### A function's begin and end -/
def fr0 : List Value → Fr
  | [], _ => undef
  | a :: _, 0 => a
  | _ :: l, t + 1 => fr0 l t
theorem fr0_eq (l : List Value) (t : Nat) : fr0 l t = l.getD t undef := by
  induction l generalizing t with
  | nil => rfl
  | cons a l ih => cases t with
    | zero => rfl
    | succ t => simpa [fr0] using ih t

def RetOK (P : Program) (fn : Func) (R : Ending → World → Prop) (f : Fr) : List Deferred → World → Prop
  | [], w => ∃ v, (∀ a, Fits fn.ntmps f a → (results fn a.tmps).run P w = .ok v w) ∧ R (.returned v) w
  | d :: ds, w => ∃ r, d = { target := .collected r, args := #[] } ∧ w.heap[r]? = some (.deferred (some [])) ∧ RetOK P fn R f ds (w.putObj r (.deferred none))
def retQ (P : Program) (fn : Func) (R : Ending → World → Prop) : PQ
  | .normal, f, ds, w => RetOK P fn R f ds w
  | .ret, f, ds, w => RetOK P fn R f ds w
  | _, _, _, _ => False

theorem RetOK.leaves {P : Program} {fn : Func} {R : Ending → World → Prop} {f : Fr} {a : Act} (ha : Fits fn.ntmps f a) : ∀ (ds : List Deferred) (w : World), RetOK P fn R f ds w → LeavesInM (fe none) 0 P fn a.tmps R ds .returning w
  | [], w, ⟨v, hv, hR⟩ => ⟨v, hv a ha, hR⟩
  | d :: ds, w, ⟨r, hd, hr, h⟩ => ⟨by simp, .inl ⟨r, _, by rw [hd], run_takeDeferred hr, RetOK.leaves ha ds _ h⟩⟩

theorem calls_of_W {P : Program} {k : FuncId} {fn : Func} {c : Code} {args : List Value} {w : World} {R : Ending → World → Prop} (hf : P.funcs[k]? = some fn) (hb : fn.body = some c)
    (hn : args.length ≤ fn.ntmps) (h : W P none fn.ntmps c (retQ P fn R) (fr0 args) [] w) : Calls P k args.toArray w R := by
  refine callsIn_wide.1 (callsIn_of_wp_marks (F := Fence.wide) (n := 0) hf hb trivial (wpIn_mono (h _ ⟨?_, fun t => ?_⟩ rfl) ?_))
  · simp; omega
  · rw [fr0_eq]
    simp only [Array.getD_eq_getD_getElem?, List.size_toArray]
    by_cases ht : t < args.length
    · rw [Array.getElem?_append_left (by simpa using ht)]; simp [List.getD, ht]
    · rw [Array.getElem?_append_right (by simpa using ht)]
      simp only [List.size_toArray, Array.getElem?_replicate]
      have : args[t]? = none := by simp; omega
      split <;> simp [List.getD, this]
  · rintro e a w ⟨f, hf, q⟩
    cases e with
    | normal => exact RetOK.leaves hf _ _ q
    | ret => exact RetOK.leaves hf _ _ q
    | _ => exact q.elim

theorem calls_of_W' {P : Program} {k : FuncId} {fn : Func} {c : Code} {nt : Nat} {args : List Value} {w : World} {R : Ending → World → Prop} (hf : P.funcs[k]? = some fn) (hb : fn.body = some c) (hnt : fn.ntmps = nt)
    (hn : Nat.ble args.length nt = true) (h : W P none nt c (retQ P fn R) (fr0 args) [] w) : Calls P k args.toArray w R := by
  subst hnt; exact calls_of_W hf hb (Nat.le_of_ble_eq_true hn) h

section
variable {P : Program} {fn : Func} {R : Ending → World → Prop} {f : Fr} {ds : List Deferred} {w : World}
theorem ret0 (h : fn.results = #[]) (hR : R (.returned (.tuple #[])) w) : RetOK P fn R f [] w := ⟨_, fun a _ => results_none h _ P w, hR⟩
theorem ret1 {t : Nat} {v : Value} (h : fn.results = #[.tmp t]) (hv : f t = v) (hR : R (.returned v) w) : RetOK P fn R f [] w :=
  ⟨_, fun a ha => by rw [results_tmp h, ha.2 t, hv], hR⟩
theorem ret2 {t u : Nat} {v x : Value} (h : fn.results = #[.tmp t, .tmp u]) (hv : f t = v) (hx : f u = x) (hR : R (.returned (.tuple #[v, x])) w) : RetOK P fn R f [] w :=
  ⟨_, fun a ha => by rw [results_tmp2 h, ha.2 t, ha.2 u, hv, hx], hR⟩
theorem RetOK.mark {r : Nat} (hr : w.heap[r]? = some (.deferred (some []))) (h : RetOK P fn R f ds (w.putObj r (.deferred none))) : RetOK P fn R f ({ target := .collected r, args := #[] } :: ds) w := ⟨r, rfl, hr, h⟩
end
end Go.Wk
