/- Part 1 of the texts that a law of the seat leans on: the ground of the walks, the facts of the program, its functions one by one. -/
import Derived.RangeFuncNested
import Derived.RangeFuncRecord
import Derived.Deep.Draws
import Derived.Below
import Derived.CallsIn
import Derived.RangeFuncLeaves
import Derived.Tactics
import Derived.TacticsIn
import Derived.WalkSpells
import Derived.WalkLawsBesides
import Derived.WalkKit
import Derived.OrdersHeld
import Derived.OrdersIn
import Derived.KernelRfl
import Derived.RangeFuncIn
import Derived.Test.YtpandioolpnihaaProg
import Derived.ChangeArms
import Derived.Laws.BytesString
import Derived.Sort.Walk0
import Derived.Maps.RangeRun
namespace Go.Wk
open Go

/-- Of the old blocks those outside M are as they were; the streams are as they were. -/
structure Ext (M : Nat → Prop) (w w' : World) : Prop where
  os : w'.os = w.os
  tape : w'.tape = w.tape
  output : w'.output = w.output
  size : w.heap.size ≤ w'.heap.size
  blk : ∀ k, k < w.heap.size → ¬ M k → w'.heap[k]? = w.heap[k]?

abbrev none' : Nat → Prop := fun _ => False

theorem Ext.refl (M : Nat → Prop) (w : World) : Ext M w w := ⟨rfl, rfl, rfl, Nat.le_refl _, fun _ _ _ => rfl⟩
theorem Ext.trans {M a b c} (h : Ext M a b) (k : Ext M b c) : Ext M a c :=
  ⟨k.os.trans h.os, k.tape.trans h.tape, k.output.trans h.output, Nat.le_trans h.size k.size, fun i hi hm => (k.blk i (Nat.lt_of_lt_of_le hi h.size) hm).trans (h.blk i hi hm)⟩
theorem Ext.mono {M M' : Nat → Prop} {a b} (h : Ext M a b) (hM : ∀ k, k < a.heap.size → M k → M' k) : Ext M' a b :=
  ⟨h.os, h.tape, h.output, h.size, fun i hi hm => h.blk i hi fun x => hm (hM i hi x)⟩
theorem Ext.below {a b} (h : Ext none' a b) : RowKit.Below a.heap.size a b := ⟨h.os, h.tape, h.output, h.size, fun k hk => h.blk k hk (fun h => h)⟩
/-- Two steps, of which the second may touch what the first has made. -/
theorem Ext.trans' {M M' : Nat → Prop} {a b c} (h : Ext M a b) (k : Ext M' b c) (hM : ∀ i, i < a.heap.size → M' i → M i) : Ext M a c :=
  ⟨k.os.trans h.os, k.tape.trans h.tape, k.output.trans h.output, Nat.le_trans h.size k.size, fun i hi hm => (k.blk i (Nat.lt_of_lt_of_le hi h.size) fun x => hm (hM i hi x)).trans (h.blk i hi hm)⟩

theorem Ext.drew (M : Nat → Prop) (w : World) (n : Nat) : Ext M w (w.drewN n) := ⟨rfl, rfl, rfl, Nat.le_refl _, fun _ _ _ => rfl⟩
theorem Ext.alloc (M : Nat → Prop) (w : World) (o : Obj) : Ext M w (w.alloc o) :=
  ⟨rfl, rfl, rfl, by rw [World.size_alloc]; omega, fun k hk _ => by show (w.heap.push o)[k]? = _; rw [Array.getElem?_push, if_neg (by omega)]⟩
theorem Ext.put (w : World) (b : Nat) (o : Obj) : Ext (fun k => k = b) w (w.putObj b o) :=
  ⟨rfl, rfl, rfl, by simp, fun k _ hM => World.putObj_heap_other hM⟩

/-- A part of what is held: exclusive or shared, the blocks it stands on, what it says. -/
structure Atom where
  excl : Bool
  F : Nat → Prop
  Pr : World → Prop

/-- What it says hangs on its blocks alone. -/
def Atom.stable (a : Atom) : Prop := ∀ w w' : World, w.heap.size ≤ w'.heap.size → w'.os = w.os → w'.tape = w.tape → w'.output = w.output → (∀ k, a.F k → k < w.heap.size → w'.heap[k]? = w.heap[k]?) → a.Pr w → a.Pr w'
def Atom.ok (w : World) (a : Atom) : Prop := a.Pr w ∧ (∀ k, a.F k → k < w.heap.size) ∧ a.stable
def Atom.apart (a b : Atom) : Prop := (a.excl = true ∨ b.excl = true) → ∀ k, a.F k → ¬ b.F k
theorem Atom.apart.symm {a b : Atom} (h : a.apart b) : b.apart a := fun e k hb ha => h e.symm k ha hb

structure Holds (w : World) (L : List Atom) : Prop where
  ok : ∀ a ∈ L, a.ok w
  apart : L.Pairwise Atom.apart

abbrev own (b : Nat) (o : Obj) : Atom := ⟨true, fun k => k = b, fun w => w.heap[b]? = some o⟩
/-- The blocks Z are as they were in w0 (all of them lie in w0). -/
abbrev shr (Z : Nat → Prop) (w0 : World) : Atom := ⟨false, Z, fun w => w0.heap.size ≤ w.heap.size ∧ w.os = w0.os ∧ w.tape = w0.tape ∧ w.output = w0.output ∧ ∀ k, Z k → w.heap[k]? = w0.heap[k]?⟩

theorem own_stable (b : Nat) (o : Obj) : (own b o).stable := by
  intro w w' hs _ _ _ h hp
  have hb : b < w.heap.size := by
    obtain ⟨h, _⟩ := Array.getElem?_eq_some_iff.1 hp; exact h
  exact (h b rfl hb).trans hp
theorem shr_stable {Z : Nat → Prop} {w0 : World} (hZ : ∀ k, Z k → k < w0.heap.size) : (shr Z w0).stable := by
  intro w w' hs h1 h2 h3 h hp
  obtain ⟨a, b, c, d, e⟩ := hp
  exact ⟨by omega, h1.trans b, h2.trans c, h3.trans d, fun k hk => (h k hk (Nat.lt_of_lt_of_le (hZ k hk) a)).trans (e k hk)⟩
theorem own_lt {w : World} {b : Nat} {o : Obj} (h : w.heap[b]? = some o) : b < w.heap.size := (Array.getElem?_eq_some_iff.1 h).1

/-- At a function's begin: all old blocks are shared. -/
theorem Holds.start (w : World) : Holds w [shr (fun k => k < w.heap.size) w] :=
  ⟨fun a ha => by
    simp only [List.mem_singleton] at ha; subst ha
    exact ⟨⟨Nat.le_refl _, rfl, rfl, rfl, fun _ _ => rfl⟩, fun _ h => h, shr_stable fun _ h => h⟩, List.pairwise_singleton _ _⟩

theorem Holds.nil (w : World) : Holds w [] := ⟨fun _ h => (by cases h), List.Pairwise.nil⟩

theorem Atom.ok.ext {a : Atom} {w w' : World} {M : Nat → Prop} (h : a.ok w) (e : Ext M w w') (hM : ∀ k, a.F k → ¬ M k) : a.ok w' :=
  ⟨h.2.2 w w' e.size e.os e.tape e.output (fun k hk hl => e.blk k hl (hM k hk)) h.1, fun k hk => Nat.lt_of_lt_of_le (h.2.1 k hk) e.size, h.2.2⟩

theorem Holds.ext {w w' : World} {L : List Atom} {M : Nat → Prop} (h : Holds w L) (e : Ext M w w') (hM : ∀ a ∈ L, ∀ k, a.F k → ¬ M k) : Holds w' L :=
  ⟨fun a ha => (h.ok a ha).ext e (hM a ha), h.apart⟩
theorem Holds.ext0 {w w' : World} {L : List Atom} (h : Holds w L) (e : Ext none' w w') : Holds w' L := h.ext e fun _ _ _ _ h => h
theorem Holds.drew {w : World} {L : List Atom} (n : Nat) (h : Holds w L) : Holds (w.drewN n) L := h.ext0 (Ext.drew _ _ _)

/-- A new atom, on blocks that no exclusive atom stands on. -/
theorem Holds.cons {w : World} {L : List Atom} {a : Atom} (h : Holds w L) (ha : a.ok w) (hap : ∀ b ∈ L, a.apart b) : Holds w (a :: L) :=
  ⟨fun b hb => by
    rcases List.mem_cons.1 hb with rfl | hb
    · exact ha
    · exact h.ok b hb, List.pairwise_cons.2 ⟨hap, h.apart⟩⟩
theorem Holds.tail {w : World} {L : List Atom} {a : Atom} (h : Holds w (a :: L)) : Holds w L := ⟨fun b hb => h.ok b (List.mem_cons_of_mem _ hb), (List.pairwise_cons.1 h.apart).2⟩
/-- A new atom on new blocks. -/
theorem Holds.new {w w' : World} {L : List Atom} {a : Atom} (h : Holds w L) (e : Ext none' w w') (ha : a.ok w') (hn : ∀ k, a.F k → w.heap.size ≤ k) : Holds w' (a :: L) :=
  (h.ext0 e).cons ha fun b hb _ k hk hbk => by have := hn k hk; have := (h.ok b hb).2.1 k hbk; omega
theorem Holds.alloc {w : World} {L : List Atom} (h : Holds w L) (o : Obj) : Holds (w.alloc o) (own w.heap.size o :: L) :=
  h.new (Ext.alloc _ _ _) ⟨World.alloc_heap_new w o, fun k hk => by simp only at hk; subst hk; rw [World.size_alloc]; omega, own_stable _ _⟩ fun k hk => by simp only at hk; omega

theorem Holds.get {w : World} {L : List Atom} (h : Holds w L) {i : Nat} {a : Atom} (hi : L[i]? = some a) : a.Pr w := (h.ok a (List.mem_of_getElem? hi)).1
theorem Holds.getOwn {w : World} {L : List Atom} (h : Holds w L) (i : Nat) {b : Nat} {o : Obj} (hi : L[i]? = some (own b o)) : w.heap[b]? = some o := h.get hi

theorem pairwise_set {L : List Atom} {i : Nat} {a' : Atom} (h : L.Pairwise Atom.apart) (hi : i < L.length) (hap : ∀ b ∈ L.eraseIdx i, a'.apart b) : (L.set i a').Pairwise Atom.apart := by
  induction L generalizing i with
  | nil => simp at hi
  | cons x L ih =>
    rw [List.pairwise_cons] at h
    cases i with
    | zero => simpa [List.pairwise_cons] using ⟨hap, h.2⟩
    | succ i =>
      simp only [List.set_cons_succ, List.pairwise_cons]
      refine ⟨fun b hb => ?_, ih h.2 (by simpa using hi) fun b hb => hap b (by simp [hb])⟩
      rcases List.mem_or_eq_of_mem_set hb with hb | rfl
      · exact h.1 b hb
      · exact (hap x (by simp)).symm

theorem getElem_apart {L : List Atom} (h : L.Pairwise Atom.apart) {i : Nat} {a : Atom} (hi : L[i]? = some a) : ∀ b ∈ L.eraseIdx i, a.apart b := by
  induction L generalizing i with
  | nil => simp at hi
  | cons x L ih =>
    rw [List.pairwise_cons] at h
    cases i with
    | zero => simp at hi; subst hi; simpa using h.1
    | succ i =>
      simp at hi
      intro b hb
      simp only [List.eraseIdx_cons_succ, List.mem_cons] at hb
      rcases hb with rfl | hb
      · exact (h.1 a (List.mem_of_getElem? hi)).symm
      · exact ih h.2 hi b hb

/-- THE STEP: what is done touches old blocks of one exclusive atom alone; that atom becomes another one, on its own blocks and new ones. -/
theorem Holds.step {w w' : World} {L : List Atom} (h : Holds w L) (i : Nat) {a a' : Atom} (hi : L[i]? = some a) (hx : a.excl = true) {M : Nat → Prop} (e : Ext M w w') (hM : ∀ k, k < w.heap.size → M k → a.F k) (ha' : a'.ok w')
    (hF : ∀ k, a'.F k → a.F k ∨ w.heap.size ≤ k) : Holds w' (L.set i a') := by
  have hlt : i < L.length := (List.getElem?_eq_some_iff.1 hi).1
  have hap := getElem_apart h.apart hi
  have hmem : ∀ b ∈ L.eraseIdx i, b ∈ L := fun b hb => List.mem_of_mem_eraseIdx hb
  refine ⟨fun b hb => ?_, pairwise_set h.apart hlt fun b hb _ k hk hbk => ?_⟩
  · rw [List.set_eq_take_append_cons_drop, if_pos hlt] at hb
    have hok : ∀ b, b ∈ L.eraseIdx i → b.ok w' := fun b hb => by
      have hb0 := h.ok b (hmem b hb)
      refine ⟨hb0.2.2 w w' e.size e.os e.tape e.output (fun k hk hl => e.blk k hl fun hm => hap b hb (.inl hx) k (hM k hl hm) hk) hb0.1, fun k hk => Nat.lt_of_lt_of_le (hb0.2.1 k hk) e.size, hb0.2.2⟩
    rw [List.eraseIdx_eq_take_drop_succ] at hok
    simp only [List.mem_append, List.mem_cons] at hb
    rcases hb with hb | rfl | hb
    · exact hok b (List.mem_append.2 (.inl hb))
    · exact ha'
    · exact hok b (List.mem_append.2 (.inr hb))
  · rcases hF k hk with hk | hk
    · exact hap b hb (.inl hx) k hk hbk
    · have := (h.ok b (hmem b hb)).2.1 k hbk; omega

theorem own_ok {w : World} {b : Nat} {o : Obj} (h : w.heap[b]? = some o) : (own b o).ok w := ⟨h, fun k hk => by simp only at hk; subst hk; exact own_lt h, own_stable _ _⟩

/-- A store into a block of one's own. -/
theorem Holds.put {w : World} {L : List Atom} (h : Holds w L) (i : Nat) {b : Nat} {o : Obj} (hi : L[i]? = some (own b o)) (o' : Obj) : Holds (w.putObj b o') (L.set i (own b o')) :=
  h.step i hi rfl (Ext.put w b o') (fun _ _ h => h) (own_ok (World.putObj_heap_same (own_lt (h.getOwn i hi)))) fun _ h => .inl h

/-- What is done is known by its old blocks: all that lie below n0 are as they were. -/
theorem Holds.ext_of {w0 w : World} {L : List Atom} (h : Holds w L) (i : Nat) (hi : L[i]? = some (shr (fun k => k < w0.heap.size) w0)) : Ext none' w0 w := by
  obtain ⟨a, b, c, d, e⟩ := h.get hi
  exact ⟨b, c, d, a, fun k hk _ => e k hk⟩

/-- Order and number of the atoms. -/
theorem Holds.perm {w : World} {L L' : List Atom} (h : Holds w L) (p : L.Perm L') : Holds w L' :=
  ⟨fun a ha => h.ok a (p.mem_iff.2 ha), (p.pairwise_iff (fun h => Atom.apart.symm h)).1 h.apart⟩
theorem Holds.sub {w : World} {L L' : List Atom} (h : Holds w L) (p : L'.Sublist L) : Holds w L' :=
  ⟨fun a ha => h.ok a (p.subset ha), h.apart.sublist p⟩

/-- A shared atom more: on blocks that lie there, and that no exclusive atom stands on. -/
theorem Holds.share {w : World} {L : List Atom} (h : Holds w L) (Z : Nat → Prop) (hZ : ∀ k, Z k → k < w.heap.size) (hx : ∀ a ∈ L, a.excl = true → ∀ k, Z k → ¬ a.F k) : Holds w (shr Z w :: L) :=
  h.cons ⟨⟨Nat.le_refl _, rfl, rfl, rfl, fun _ _ => rfl⟩, hZ, shr_stable hZ⟩ fun b hb e k hk => by
    rcases e with e | e
    · cases e
    · exact hx b hb e k hk
end Go.Wk

namespace Go.Wk
open Go
set_option linter.unusedVariables false

theorem nbeq_false {a b : Nat} (h : a ≠ b) : Nat.beq a b = false := by
  cases hb : Nat.beq a b with
  | false => rfl
  | true => exact absurd (Nat.eq_of_beq_eq_true hb) h

abbrev Fr := Nat → Value
def upd (f : Fr) (d : Nat) (v : Value) : Fr := fun t => cond (Nat.beq t d) v (f t)
def Fits (n : Nat) (f : Fr) (a : Act) : Prop := a.tmps.size = n ∧ ∀ t, a.tmps.getD t undef = f t
def ev (f : Fr) : Operand → Value
  | .tmp t => f t
  | .const v => v
  | .global g => .pointer (some ⟨g, 0, none⟩)
  | .func g => .func (.func g) #[] #[]

theorem upd_same (f : Fr) (d : Nat) (v : Value) : upd f d v d = v := by simp [upd]
theorem upd_ne (f : Fr) {d t : Nat} (v : Value) (h : t ≠ d) : upd f d v t = f t := by
  simp only [upd, nbeq_false h, cond_false]

theorem Fits.eval {n : Nat} {f : Fr} {a : Act} (h : Fits n f a) : a.eval = ev f := by
  funext x
  cases x with
  | tmp t => exact h.2 t
  | const v => rfl
  | global g => rfl
  | func g => rfl
theorem Fits.put {n : Nat} {f : Fr} {a : Act} (h : Fits n f a) {d : Nat} (hd : d < n) (v : Value) : Fits n (upd f d v) (a.put (some d) v) := by
  refine ⟨by simp [Act.put, h.1], fun t => ?_⟩
  by_cases ht : t = d
  · subst ht; rw [upd_same]; simp [Act.put, h.1, hd]
  · rw [upd_ne _ _ ht, ← h.2 t]; simp [Act.put, Array.getElem?_setIfInBounds_ne (Ne.symm ht)]
abbrev PQ := Exit → Fr → List Deferred → World → Prop
abbrev PK := Fr → List Deferred → World → Prop
def lift (n : Nat) (Q : PQ) : Exit → Act → World → Prop := fun e a w => ∃ f, Fits n f a ∧ Q e f a.defers w
def liftK (n : Nat) (K : PK) : Act → World → Prop := fun a w => ∃ f, Fits n f a ∧ K f a.defers w

/-- The fence is as wide as can be; l: the round of which loop the frame is. -/
def fe : Option Nat → Fence
  | none => Fence.wide
  | some l => Fence.wide.inRound l
theorem fe_fn (l : Option Nat) (f : FuncId) : (fe l).fn f := by cases l <;> trivial
theorem fe_depth (l : Option Nat) : (fe l).depth = none := by cases l <;> rfl
/-- THE JUDGEMENT: from the frame f, the deferred calls ds, the world w the code c comes to what Q takes. -/
def W (P : Program) (l : Option Nat) (n : Nat) (c : Code) (Q : PQ) : PK := fun f ds w => ∀ a, Fits n f a → a.defers = ds → c.wpIn (fe l) 0 P (lift n Q) a w

def thenQ (K : PK) (Q : PQ) : PQ
  | .normal, f, ds, w => K f ds w
  | e, f, ds, w => Q e f ds w
def blockQ (id : Nat) (Q : PQ) : PQ
  | .exit id', f, ds, w => cond (Nat.beq id' id) (Q .normal f ds w) (Q (.exit id') f ds w)
  | e, f, ds, w => Q e f ds w

section
variable {P : Program} {l : Option Nat} {n : Nat} {Q : PQ} {f : Fr} {ds : List Deferred} {w : World}

theorem W_mono {Q' : PQ} {c : Code} (h : W P l n c Q f ds w) (hq : ∀ e f ds w, Q e f ds w → Q' e f ds w) : W P l n c Q' f ds w :=
  fun a ha hd => wpIn_mono (h a ha hd) fun e a w ⟨f, hf, q⟩ => ⟨f, hf, hq _ _ _ _ q⟩
theorem W_skip (h : Q .normal f ds w) : W P l n .skip Q f ds w := fun _ ha hd => wpIn_skip ⟨f, ha, hd ▸ h⟩
theorem W_exit {i : Nat} (h : Q (.exit i) f ds w) : W P l n (.exit i) Q f ds w := fun _ ha hd => wpIn_exit ⟨f, ha, hd ▸ h⟩
theorem W_ret (h : Q .ret f ds w) : W P l n .ret Q f ds w := fun _ ha hd => wpIn_ret ⟨f, ha, hd ▸ h⟩
theorem W_seq {x y : Code} (h : W P l n x (thenQ (W P l n y Q) Q) f ds w) : W P l n (.seq x y) Q f ds w := fun a ha hd =>
  wpIn_seq (wpIn_mono (h a ha hd) fun e a w ⟨f, hf, q⟩ => by
    cases e with
    | normal => exact q a hf rfl
    | _ => exact ⟨f, hf, q⟩)
theorem W_cond {c : Operand} {x y : Code} {b : Bool} (hc : ev f c = .bool b) (hx : b = true → W P l n x Q f ds w) (hy : b = false → W P l n y Q f ds w) : W P l n (.cond c x y) Q f ds w := fun a ha hd =>
  wpIn_cond_split (by rw [ha.eval]; exact hc) (fun e => hx e a ha hd) (fun e => hy e a ha hd)
theorem W_condt {c : Operand} {x y : Code} (hc : ev f c = .bool true) (hx : W P l n x Q f ds w) : W P l n (.cond c x y) Q f ds w := W_cond hc (fun _ => hx) (by simp)
theorem W_condf {c : Operand} {x y : Code} (hc : ev f c = .bool false) (hy : W P l n y Q f ds w) : W P l n (.cond c x y) Q f ds w := W_cond hc (by simp) (fun _ => hy)
theorem W_block {i : Nat} {c : Code} (h : W P l n c (blockQ i Q) f ds w) : W P l n (.block i c) Q f ds w := fun a ha hd =>
  wpIn_block (wpIn_mono (h a ha hd) fun e a w ⟨f, hf, q⟩ => by
    cases e with
    | exit j =>
      simp only [blockQ] at q
      simp only [Exit.inBlock]
      by_cases e : j = i
      · subst e; rw [if_pos rfl]; rw [show Nat.beq j j = true from Nat.beq_refl j] at q; exact ⟨f, hf, q⟩
      · rw [if_neg e]; rw [nbeq_false e] at q; exact ⟨f, hf, q⟩
    | _ => exact ⟨f, hf, q⟩)

/-- A loop over a ghost that every round lowers (in the order of numbers). -/
theorem W_loopN {c : Code} (I : Nat → PK) (k₀ : Nat) (h₀ : I k₀ f ds w)
    (round : ∀ k f ds w, I k f ds w → W P l n c (thenQ (fun f' ds' w' => ∃ k', k' < k ∧ I k' f' ds' w') Q) f ds w) : W P l n (.loop c) Q f ds w := by
  -- by induction on the ghost: the loop unrolled
  intro a ha hd b k cs hro hb hr
  have key : ∀ j f ds w a, I j f ds w → Fits n f a → a.defers = ds →
      ∃ e a' w', lift n Q e a' w' ∧ ArrivesIn (Machine.fenced P (fe l)) P (lone (b.atR a (.code c :: .inLoop c :: k)) cs w) b k cs e a' w' := by
    intro j
    induction j using Nat.strongRecOn with
    | _ j ih =>
      intro f ds w a hI ha hd
      obtain ⟨e, a₁, w₁, ⟨f₁, hf₁, hq⟩, harr⟩ := round j f ds w hI a ha hd b (.inLoop c :: k) cs hro hb hr
      cases e with
      | normal =>
        obtain ⟨j', hlt, hI₁⟩ := hq
        obtain ⟨e₂, a₂, w₂, hq₂, harr₂⟩ := ih j' hlt f₁ _ w₁ a₁ hI₁ hf₁ rfl
        exact ⟨e₂, a₂, w₂, hq₂, .of_steps (StepsIn.trans harr (.one (fenced_calm hb hr rfl) stepR_inLoop)) harr₂⟩
      | exit id => exact ⟨_, a₁, w₁, ⟨f₁, hf₁, hq⟩, .pass (x := .inLoop c) rfl (fun _ _ => .inl (by simp)) harr⟩
      | goto id => exact ⟨_, a₁, w₁, ⟨f₁, hf₁, hq⟩, .pass (x := .inLoop c) rfl (fun _ _ => .inl (by simp)) harr⟩
      | ret => exact ⟨_, a₁, w₁, ⟨f₁, hf₁, hq⟩, .pass (x := .inLoop c) rfl (fun _ _ => .inl (by simp)) harr⟩
      | panic ch => exact ⟨_, a₁, w₁, ⟨f₁, hf₁, hq⟩, .pass (x := .inLoop c) rfl (fun _ _ => .inl (by simp)) harr⟩
      | outgrown => exact ⟨_, a₁, w₁, ⟨f₁, hf₁, hq⟩, .pass (x := .inLoop c) rfl (fun _ _ => .inl (by simp)) harr⟩
  obtain ⟨e, a', w', hq, harr⟩ := key k₀ f ds w a h₀ ha hd
  exact ⟨e, a', w', hq, .of_steps (.one (fenced_calm hb hr rfl) stepR_loop) harr⟩
end

def fr0 : List Value → Fr
  | [], _ => undef
  | a :: _, 0 => a
  | _ :: l, t + 1 => fr0 l t
theorem fr0_eq (l : List Value) (t : Nat) : fr0 l t = l.getD t undef := by
  induction l generalizing t with
  | nil => rfl
  | cons a l ih => cases t with
    | zero => rfl
    | succ t => simpa [fr0] using ih t

def RetOK (P : Program) (fn : Func) (R : Ending → World → Prop) (f : Fr) : List Deferred → World → Prop
  | [], w => ∃ v, (∀ a, Fits fn.ntmps f a → (results fn a.tmps).run P w = .ok v w) ∧ R (.returned v) w
  | d :: ds, w => ∃ r, d = { target := .collected r, args := #[] } ∧ w.heap[r]? = some (.deferred (some [])) ∧ RetOK P fn R f ds (w.putObj r (.deferred none))
def retQ (P : Program) (fn : Func) (R : Ending → World → Prop) : PQ
  | .normal, f, ds, w => RetOK P fn R f ds w
  | .ret, f, ds, w => RetOK P fn R f ds w
  | _, _, _, _ => False

theorem RetOK.leaves {P : Program} {fn : Func} {R : Ending → World → Prop} {f : Fr} {a : Act} (ha : Fits fn.ntmps f a) : ∀ (ds : List Deferred) (w : World), RetOK P fn R f ds w → LeavesInM (fe none) 0 P fn a.tmps R ds .returning w
  | [], w, ⟨v, hv, hR⟩ => ⟨v, hv a ha, hR⟩
  | d :: ds, w, ⟨r, hd, hr, h⟩ => ⟨by simp, .inl ⟨r, _, by rw [hd], run_takeDeferred hr, RetOK.leaves ha ds _ h⟩⟩

theorem calls_of_W {P : Program} {k : FuncId} {fn : Func} {c : Code} {args : List Value} {w : World} {R : Ending → World → Prop} (hf : P.funcs[k]? = some fn) (hb : fn.body = some c)
    (hn : args.length ≤ fn.ntmps) (h : W P none fn.ntmps c (retQ P fn R) (fr0 args) [] w) : Calls P k args.toArray w R := by
  refine callsIn_wide.1 (callsIn_of_wp_marks (F := Fence.wide) (n := 0) hf hb trivial (wpIn_mono (h _ ⟨?_, fun t => ?_⟩ rfl) ?_))
  · simp; omega
  · rw [fr0_eq]
    simp only [Array.getD_eq_getD_getElem?, List.size_toArray]
    by_cases ht : t < args.length
    · rw [Array.getElem?_append_left (by simpa using ht)]; simp [List.getD, ht]
    · rw [Array.getElem?_append_right (by simpa using ht)]
      simp only [List.size_toArray, Array.getElem?_replicate]
      have : args[t]? = none := by simp; omega
      split <;> simp [List.getD, this]
  · rintro e a w ⟨f, hf, q⟩
    cases e with
    | normal => exact RetOK.leaves hf _ _ q
    | ret => exact RetOK.leaves hf _ _ q
    | _ => exact q.elim

theorem calls_of_W' {P : Program} {k : FuncId} {fn : Func} {c : Code} {nt : Nat} {args : List Value} {w : World} {R : Ending → World → Prop} (hf : P.funcs[k]? = some fn) (hb : fn.body = some c) (hnt : fn.ntmps = nt)
    (hn : Nat.ble args.length nt = true) (h : W P none nt c (retQ P fn R) (fr0 args) [] w) : Calls P k args.toArray w R := by
  subst hnt; exact calls_of_W hf hb (Nat.le_of_ble_eq_true hn) h

section
variable {P : Program} {fn : Func} {R : Ending → World → Prop} {f : Fr} {ds : List Deferred} {w : World}
theorem ret0 (h : fn.results = #[]) (hR : R (.returned (.tuple #[])) w) : RetOK P fn R f [] w := ⟨_, fun a _ => results_none h _ P w, hR⟩
theorem ret1 {t : Nat} {v : Value} (h : fn.results = #[.tmp t]) (hv : f t = v) (hR : R (.returned v) w) : RetOK P fn R f [] w :=
  ⟨_, fun a ha => by rw [results_tmp h, ha.2 t, hv], hR⟩
theorem ret2 {t u : Nat} {v x : Value} (h : fn.results = #[.tmp t, .tmp u]) (hv : f t = v) (hx : f u = x) (hR : R (.returned (.tuple #[v, x])) w) : RetOK P fn R f [] w :=
  ⟨_, fun a ha => by rw [results_tmp2 h, ha.2 t, ha.2 u, hv, hx], hR⟩
theorem RetOK.mark {r : Nat} (hr : w.heap[r]? = some (.deferred (some []))) (h : RetOK P fn R f ds (w.putObj r (.deferred none))) : RetOK P fn R f ({ target := .collected r, args := #[] } :: ds) w := ⟨r, rfl, hr, h⟩
end
end Go.Wk

namespace Go.Wk
open Go
set_option linter.unusedVariables false
set_option linter.unusedSimpArgs false

theorem beq_dec (a b : Int) : (a == b) = decide (a = b) := by rw [Bool.eq_iff_iff]; simp

def updO (f : Fr) : Option Nat → Value → Fr
  | some d, v => upd f d v
  | none, _ => f
theorem Fits.putO {n : Nat} {f : Fr} {a : Act} (h : Fits n f a) {dst : Option Nat} (hd : ∀ d, dst = some d → d < n) (v : Value) : Fits n (updO f dst v) (a.put dst v) := by
  cases dst with
  | none => exact h
  | some d => exact h.put (hd d rfl) v

/-- What is left of a region, in the order of its text. -/
def OL (P : Program) (l : Option Nat) (n : Nat) (all : Array Oper) (Q : PQ) (ops : List Oper) : PK := fun f ds w => ∀ a, Fits n f a → a.defers = ds → wpListIn (fe l) 0 P all (lift n Q) ops a w
def ndefer : Op → Bool
  | .defer _ => false
  | _ => true
theorem ndefer_spec {o : Op} (h : ndefer o = true) (c : Call) : o ≠ .defer c := by rintro rfl; cases h

/-- One operation that is carried out, and does not panic. -/
def Op1 (P : Program) (n : Nat) (o : Oper) (f : Fr) (ds : List Deferred) (w : World) (K : PK) : Prop := ndefer o.op = true ∧ ∀ a, Fits n f a → a.defers = ds → ∀ Q, o.wp P a w (liftK n K) Q
/-- One operation that leaves a value, and touches no memory. -/
structure Yd (P : Program) (o : Oper) (f : Fr) (w : World) (v : Value) : Prop where
  nd : ndefer o.op = true
  run : (execOp (ev f) o).run P w = .ok (.value v) w

theorem rows_in {P : Program} {F : Fence} (hF : ∀ m : Machine, m.fenced P F) {row : String} {args : Array Value} {w : World} {R : Value → World → Prop} (h : Rows P row args w R) : RowsIn F 0 P row args w R :=
  fun c cs _ => let ⟨v, w', r, s⟩ := h c cs; ⟨v, w', r, (StepsIn.of_steps s).mono fun m _ => hF m⟩
theorem fe_fenced (P : Program) (l : Option Nat) (m : Machine) : m.fenced P (fe l) := by
  cases l with
  | none => exact fenced_wide P m
  | some l => exact fenced_wide P m
theorem calls_in {P : Program} {l : Option Nat} {g : FuncId} {args : Array Value} {w : World} {R : Ending → World → Prop} (hc : Calls P g args w R) : CallsIn (fe l) 0 P g args w R := by
  cases l with
  | none => exact callsIn_wide.2 hc
  | some l => exact CallsIn.inRound l (callsIn_wide.2 hc)
/-- From the plain word of an operation to the fenced one. -/
theorem wpIn_of_wp {P : Program} {l : Option Nat} {o : Oper} {a : Act} {w : World} {K : Act → World → Prop} {Q : Exit → Act → World → Prop} (hnd : ndefer o.op = true) (h : o.wp P a w K Q) : o.wpIn (fe l) 0 P a w K Q := by
  refine ⟨fun g _ => fe_fn l g, ?_⟩
  rw [Oper.semAt_eq _ _ _ (ndefer_spec hnd)]
  unfold Oper.wp at h
  revert h
  have hd : (fe l).depth.isSome = true → 1 ≤ 0 := fun h => by rw [fe_depth] at h; cases h
  cases hr : (execOp a.eval o).run P w with
  | ok v w' =>
    cases v with
    | enter g args => exact fun h => ⟨hd, calls_in h⟩
    | row row args => exact fun h => ⟨hd, rows_in (fe_fenced P l) h⟩
    | value v => exact fun h => h
    | skip => exact fun h => h
    | defer d => exact fun h => h
    | _ => exact fun h => h.elim
  | halt hh w' => cases hh <;> exact fun h => h

section
variable {P : Program} {l : Option Nat} {n : Nat} {Q : PQ} {K : PK} {f : Fr} {ds : List Deferred} {w : World} {all : Array Oper} {rest : List Oper} {o : Oper}

theorem Oper.wp_mono' {a : Act} {K K' : Act → World → Prop} {Q : Exit → Act → World → Prop} (h : ∀ a w, K a w → K' a w) (hh : ∀ Q, o.wp P a w K Q) : o.wp P a w K' Q := by
  have h1 := hh (fun _ _ _ => False)
  unfold Oper.wp at h1 ⊢
  revert h1
  cases hr : (execOp a.eval o).run P w with
  | ok v w' =>
    cases v with
    | value v => exact fun h1 => h _ _ h1
    | skip => exact fun h1 => h _ _ h1
    | defer d => exact fun h1 => h _ _ h1
    | enter g args =>
      exact fun h1 => Calls.mono h1 fun e w' r => by
        cases e with
        | returned v => exact h _ _ r
        | panicked c => exact r.elim
        | outgrown => obtain ⟨a0, w0, h0⟩ := r; exact h0.elim
    | row row args => exact fun h1 => Rows.mono h1 fun v w' r => h _ _ r
    | _ => exact fun h1 => h1.elim
  | halt hh w' => cases hh <;> exact fun h1 => h1.elim

theorem OL_nil (h : Q .normal f ds w) : OL P l n all Q [] f ds w := fun a ha hd => wpListIn_nil ⟨f, ha, hd ▸ h⟩
theorem OL_op (hw : ∀ a, Fits n f a → Region.wanted o (yielded all a.tmps) = true) (h : Op1 P n o f ds w (OL P l n all Q rest)) : OL P l n all Q (o :: rest) f ds w := fun a ha hd =>
  wpListIn_step fun K hK => by rw [if_pos (hw a ha)]; exact wpIn_of_wp h.1 (Oper.wp_mono' (fun a w ⟨f, hf, k⟩ => hK _ _ (k a hf rfl)) (h.2 a ha hd))
theorem wanted_none (hg : o.guard = none) (y : Nat → Option Bool) : Region.wanted o y = true := by simp [Region.wanted, hg]
/-- An operation with no guard. -/
theorem OL_c {dst : Option Nat} {op : Op} {ty : Nat} {p : String} {af : Array Edge} (h : Op1 P n ⟨dst, op, ty, p, af, none⟩ f ds w (OL P l n all Q rest)) : OL P l n all Q (⟨dst, op, ty, p, af, none⟩ :: rest) f ds w :=
  OL_op (fun a _ => wanted_none rfl _) h
theorem yielded_at {a : Act} {j d : Nat} {b : Bool} (ha : Fits n f a) (hj : (all[j]?).bind (·.dst) = some d) (hd : d < n) (hb : f d = .bool b) : yielded all a.tmps j = some b := by
  unfold yielded
  rw [hj]
  have : a.tmps[d]? = some (f d) := by
    rw [← ha.2 d, Array.getD_eq_getD_getElem?]
    rw [Array.getElem?_eq_getElem (by rw [ha.1]; exact hd)]; rfl
  simp only [Option.bind_some, this, hb]
/-- A guarded operation that is carried out; one that is passed over. -/
theorem OL_g {dst : Option Nat} {op : Op} {ty : Nat} {p : String} {af : Array Edge} {j d : Nat} {b : Bool} (hj : (all[j]?).bind (·.dst) = some d) (hd : d < n) (hb : f d = .bool b)
    (h : Op1 P n ⟨dst, op, ty, p, af, some (j, b)⟩ f ds w (OL P l n all Q rest)) : OL P l n all Q (⟨dst, op, ty, p, af, some (j, b)⟩ :: rest) f ds w :=
  OL_op (fun a ha => by simp [Region.wanted, yielded_at ha hj hd hb]) h
theorem OL_s {dst : Option Nat} {op : Op} {ty : Nat} {p : String} {af : Array Edge} {j d : Nat} {b b' : Bool} (hj : (all[j]?).bind (·.dst) = some d) (hd : d < n) (hb : f d = .bool b') (hne : (b' == b) = false) (hdst : ∀ d, dst = some d → d < n)
    (h : OL P l n all Q rest (updO f dst undef) ds w) : OL P l n all Q (⟨dst, op, ty, p, af, some (j, b)⟩ :: rest) f ds w := fun a ha hd' =>
  wpListIn_step fun K hK => by
    rw [if_neg (by simp only [Region.wanted, yielded_at ha hj hd hb]; cases b <;> cases b' <;> simp_all)]
    exact ⟨fun g _ => fe_fn l g, hK _ _ (h _ (ha.putO hdst _) (by cases dst <;> exact hd'))⟩
theorem W_region {id : Nat} {ops : List Oper} (h : OL P l n ops.toArray Q ops f ds w) : W P l n (.region id ops.toArray false) Q f ds w := fun a ha hd => wpIn_region_lit (h a ha hd)

/-- An operation that leaves a value and touches no memory: with no guard; with a guard that says yes. -/
theorem OL_y {op : Op} {ty : Nat} {p : String} {af : Array Edge} {d : Nat} {v : Value} (h : Yd P ⟨some d, op, ty, p, af, none⟩ f w v) (hn : d < n) (k : OL P l n all Q rest (upd f d v) ds w) : OL P l n all Q (⟨some d, op, ty, p, af, none⟩ :: rest) f ds w :=
  OL_c ⟨h.nd, fun a ha he Q => by unfold Oper.wp; rw [ha.eval, h.run]; exact ⟨_, ha.put hn v, by show OL P l n all _ rest _ a.defers _; rw [he]; exact k⟩⟩
theorem OL_yg {op : Op} {ty : Nat} {p : String} {af : Array Edge} {d : Nat} {v : Value} {j dj : Nat} {b : Bool} (hj : (all[j]?).bind (·.dst) = some dj) (hdj : dj < n) (hb : f dj = .bool b) (h : Yd P ⟨some d, op, ty, p, af, some (j, b)⟩ f w v) (hn : d < n)
    (k : OL P l n all Q rest (upd f d v) ds w) : OL P l n all Q (⟨some d, op, ty, p, af, some (j, b)⟩ :: rest) f ds w :=
  OL_g hj hdj hb ⟨h.nd, fun a ha he Q => by unfold Oper.wp; rw [ha.eval, h.run]; exact ⟨_, ha.put hn v, by show OL P l n all _ rest _ a.defers _; rw [he]; exact k⟩⟩

theorem Op1_val {d : Nat} {v : Value} {w' : World} (hnd : ndefer o.op = true) (hd : o.dst = some d) (hn : d < n) (hrun : (execOp (ev f) o).run P w = .ok (.value v) w') (k : K (upd f d v) ds w') : Op1 P n o f ds w K := ⟨hnd, fun a ha he Q => by
  unfold Oper.wp
  rw [ha.eval, hrun]
  exact ⟨_, by rw [hd]; exact ha.put hn v, by rw [hd]; show K _ a.defers _; rw [he]; exact k⟩⟩
theorem Op1_valO {v : Value} {w' : World} (hnd : ndefer o.op = true) (hn : ∀ d, o.dst = some d → d < n) (hrun : (execOp (ev f) o).run P w = .ok (.value v) w') (k : K (updO f o.dst v) ds w') : Op1 P n o f ds w K := ⟨hnd, fun a ha he Q => by
  unfold Oper.wp
  rw [ha.eval, hrun]
  refine ⟨_, ha.putO hn v, ?_⟩
  have : (a.put o.dst v).defers = ds := by cases o.dst <;> exact he
  rw [this]; exact k⟩
theorem Op1_skip {w' : World} (hnd : ndefer o.op = true) (hd : o.dst = none) (hrun : (execOp (ev f) o).run P w = .ok .skip w') (k : K f ds w') : Op1 P n o f ds w K := ⟨hnd, fun a ha he Q => by
  unfold Oper.wp
  rw [ha.eval, hrun]
  exact ⟨f, by rw [hd]; exact ha, by rw [hd]; show K _ a.defers _; rw [he]; exact k⟩⟩
theorem Op1_enter {g : FuncId} {args : Array Value} {w' : World} (hnd : ndefer o.op = true) (hn : ∀ d, o.dst = some d → d < n) (hrun : (execOp (ev f) o).run P w = .ok (.enter g args) w')
    (hc : Calls P g args w' fun e w'' => ∃ v, e = .returned v ∧ K (updO f o.dst v) ds w'') : Op1 P n o f ds w K := ⟨hnd, fun a ha he Q => by
  unfold Oper.wp
  rw [ha.eval, hrun]
  refine Calls.mono hc ?_
  rintro e w'' ⟨v, rfl, k⟩
  refine ⟨_, ha.putO hn v, ?_⟩
  have : (a.put o.dst v).defers = ds := by cases o.dst <;> exact he
  rw [this]; exact k⟩
/-- A call of yield: a round. -/
theorem OL_round {l' : Nat} {g : FuncId} {tmps : Array Value} {assign body : Code} {w' : World} (hnd : ndefer o.op = true) (hg : o.guard = none) (hn : ∀ d, o.dst = some d → d < n) (hrun : (execOp (ev f) o).run P w = .ok (.round l' g tmps assign body) w')
    (hc : RoundIn Fence.wide 0 P l' g tmps assign body w' fun e w'' => ∃ v, e = .returned v ∧ OL P l n all Q rest (updO f o.dst v) ds w'') : OL P l n all Q (o :: rest) f ds w := fun a ha he =>
  wpListIn_step fun K hK => by
    rw [if_pos (wanted_none hg _)]
    refine ⟨fun g _ => fe_fn l g, ?_⟩
    rw [Oper.semAt_eq _ _ _ (ndefer_spec hnd), ha.eval, hrun]
    refine ⟨fun h => (by rw [fe_depth] at h; cases h), ?_⟩
    have hc' : RoundIn (fe l) 0 P l' g tmps assign body w' fun e w'' => ∃ v, e = .returned v ∧ OL P l n all Q rest (updO f o.dst v) ds w'' := by
      cases l with
      | none => exact hc
      | some l => exact hc
    refine hc'.mono ?_
    rintro e w'' ⟨v, rfl, k⟩
    have : (a.put o.dst v).defers = ds := by cases o.dst <;> exact he
    exact hK _ _ (k _ (ha.putO hn v) this)
end

section
variable {P : Program} {f : Fr} {w : World} {d ty : Nat} {p : String} {af : Array Edge} {g : Option (Nat × Bool)}

theorem y_move {x : Operand} {v : Value} (hx : ev f x = v) : Yd P ⟨some d, .move x, ty, p, af, g⟩ f w (v) :=
  ⟨rfl, by simp [execOp, hx]⟩
theorem y_assign {x : Operand} {v : Value} (hx : ev f x = v) : Yd P ⟨some d, .assign x, ty, p, af, g⟩ f w (v) :=
  ⟨rfl, by simp [execOp, hx]⟩
theorem y_pick {c x y : Operand} {b : Bool} {v : Value} (hc : ev f c = .bool b) (hv : (cond b (ev f x) (ev f y)) = v) : Yd P ⟨some d, .pick c x y, ty, p, af, g⟩ f w (v) :=
  ⟨rfl, by subst hv; cases b <;> simp [execOp, hc, asBool, Result.andThen]⟩
theorem y_not {x : Operand} {t : Nat} {b : Bool} (hx : ev f x = .bool b) : Yd P ⟨some d, .unOp .not t x, ty, p, af, g⟩ f w ((.bool !b)) :=
  ⟨rfl, by simp [execOp, hx, Op.unary, Result.andThen]⟩
theorem y_extract {x : Operand} {i : Nat} {vs : Array Value} {v : Value} (hx : ev f x = .tuple vs) (hv : vs[i]? = some v) : Yd P ⟨some d, .extract x i, ty, p, af, g⟩ f w (v) :=
  ⟨rfl, by simp [execOp, hx, Instr.extract, hv, Result.andThen]⟩
theorem y_makeFunc {fn : Fn} {cs : Array Operand} {vs : List Value} (hv : cs.toList.map (ev f) = vs) : Yd P ⟨some d, .makeFunc fn #[] cs, ty, p, af, g⟩ f w (.func fn #[] vs.toArray) :=
  ⟨rfl, by
    have h : cs.map (ev f) = vs.toArray := by rw [← hv, ← Array.toList_map]
    simp [execOp, Instr.makeFunc, Result.andThen, h]⟩
theorem y_nilCheck {x : Operand} {v : Value} (hx : ev f x = v) (hv : ∃ a, v = .pointer (some a)) : Yd P ⟨some d, .nilCheck x, ty, p, af, g⟩ f w v := by
  obtain ⟨a, rfl⟩ := hv
  exact ⟨rfl, by simp [execOp, hx, Result.andThen]⟩

variable {x y : Operand} {a b : Int} {t t' : Nat} {kd : IntKind}
theorem y_lss (hx : ev f x = .int kd a) (hy : ev f y = .int kd b) : Yd P ⟨some d, .binOp .lss t x y t', ty, p, af, g⟩ f w (.bool (decide (a < b))) :=
  ⟨rfl, by simp [execOp, hx, hy, eqGuard, binOp, Op.intCmp, Result.andThen]⟩
theorem y_leq (hx : ev f x = .int kd a) (hy : ev f y = .int kd b) : Yd P ⟨some d, .binOp .leq t x y t', ty, p, af, g⟩ f w ((.bool (decide (a ≤ b)))) :=
  ⟨rfl, by simp [execOp, hx, hy, eqGuard, binOp, Op.intCmp, Result.andThen]⟩
theorem y_gtr (hx : ev f x = .int kd a) (hy : ev f y = .int kd b) : Yd P ⟨some d, .binOp .gtr t x y t', ty, p, af, g⟩ f w ((.bool (decide (b < a)))) :=
  ⟨rfl, by simp [execOp, hx, hy, eqGuard, binOp, Op.intCmp, Result.andThen]⟩
theorem y_geq (hx : ev f x = .int kd a) (hy : ev f y = .int kd b) : Yd P ⟨some d, .binOp .geq t x y t', ty, p, af, g⟩ f w ((.bool (decide (b ≤ a)))) :=
  ⟨rfl, by simp [execOp, hx, hy, eqGuard, binOp, Op.intCmp, Result.andThen]⟩
theorem y_eql (hx : ev f x = .int kd a) (hy : ev f y = .int kd b) : Yd P ⟨some d, .binOp .eql t x y t', ty, p, af, g⟩ f w ((.bool (decide (a = b)))) :=
  ⟨rfl, by simp [execOp, hx, hy, eqGuard, binOp, Op.intCmp, Result.andThen]; exact beq_dec a b⟩
theorem y_neq (hx : ev f x = .int kd a) (hy : ev f y = .int kd b) : Yd P ⟨some d, .binOp .neq t x y t', ty, p, af, g⟩ f w ((.bool (decide (a ≠ b)))) :=
  ⟨rfl, by simp [execOp, hx, hy, eqGuard, binOp, Op.intCmp, Result.andThen]; simp [bne, beq_dec]⟩
theorem y_addw (hx : ev f x = .int kd a) (hy : ev f y = .int kd b) : Yd P ⟨some d, .binOp .add t x y t', ty, p, af, g⟩ f w ((.int kd (kd.wrap (a + b)))) :=
  ⟨rfl, by simp [execOp, hx, hy, eqGuard, binOp, Op.intArith, Result.andThen]⟩
theorem y_subw (hx : ev f x = .int kd a) (hy : ev f y = .int kd b) : Yd P ⟨some d, .binOp .sub t x y t', ty, p, af, g⟩ f w ((.int kd (kd.wrap (a - b)))) :=
  ⟨rfl, by simp [execOp, hx, hy, eqGuard, binOp, Op.intArith, Result.andThen]⟩
end
end Go.Wk

namespace Go.Wk
open Go
set_option linter.unusedVariables false
set_option linter.unusedSimpArgs false

/-- What the table says of a type. -/
structure TI (P : Program) (t size bytes : Nat) (zero : Value) (d : TypeDesc) : Prop where
  u : P.underlying t = some d
  i : ∃ i, P.info? t = some i ∧ i.size = size ∧ i.zero = some zero ∧ i.bytes = bytes
def isAggD : TypeDesc → Bool
  | .struct _ | .array _ _ => true
  | _ => false

section
variable {P : Program} {w : World} {t size bytes : Nat} {zero : Value} {dd : TypeDesc}
theorem TI.run_underlying (h : TI P t size bytes zero dd) : (underlying t).run P w = .ok dd w := Go.run_underlying h.u w
theorem TI.run_size (h : TI P t size bytes zero dd) : (sizeOf t).run P w = .ok size w := by
  obtain ⟨i, hi, hs, -, -⟩ := h.i
  simp [sizeOf, typeInfo, hi, hs]
theorem TI.run_zero (h : TI P t size bytes zero dd) : (zeroValue t).run P w = .ok zero w := by
  obtain ⟨i, hi, -, hz, -⟩ := h.i
  simp [zeroValue, typeInfo, hi, hz]
theorem TI.run_isAgg (h : TI P t size bytes zero dd) : (isAgg t).run P w = .ok (isAggD dd) w := by
  simp only [isAgg, Sem.run_bind, h.run_underlying, Result.andThen]
  cases dd <;> rfl
end

/-- In w, from cell o of block b on, lie the cells cs. -/
def Cells (w : World) (b o : Nat) (cs : List Value) : Prop := ∃ (C : Array Value) (ty : TypeId) (fr : Nat × Nat), w.heap[b]? = some (.cells C ty fr) ∧ ∀ i, i < cs.length → C[o + i]? = cs[i]?
theorem Cells.cell {w : World} {b o : Nat} {cs : List Value} (h : Cells w b o cs) (i : Nat) {v : Value} (hv : cs[i]? = some v) : w.cell? ⟨b, o + i, none⟩ = some v := by
  obtain ⟨C, ty, fr, hb, hc⟩ := h
  have hi : i < cs.length := (List.getElem?_eq_some_iff.1 hv).1
  simp [World.cell?, hb, hc i hi, hv]
theorem Cells.one {w : World} {b o : Nat} {v : Value} (h : Cells w b o [v]) : w.cell? ⟨b, o, none⟩ = some v := h.cell 0 rfl
theorem Cells.of {w : World} {b : Nat} {C : Array Value} {ty : TypeId} {fr : Nat × Nat} (h : w.heap[b]? = some (.cells C ty fr)) {o : Nat} {cs : List Value} (hc : (C.toList.drop o).take cs.length = cs) : Cells w b o cs :=
  ⟨C, ty, fr, h, fun i hi => by
    have : ((C.toList.drop o).take cs.length)[i]? = cs[i]? := by rw [hc]
    rw [List.getElem?_take_of_lt hi, List.getElem?_drop] at this
    rw [← this]; simp⟩
theorem Cells.take {w : World} {b o : Nat} {xs cs : List Value} (h : Cells w b o cs) (k : Nat) (hx : (cs.drop k).take xs.length = xs) : Cells w b (o + k) xs := by
  obtain ⟨C, ty, fr, hb, hc⟩ := h
  refine ⟨C, ty, fr, hb, fun i hi => ?_⟩
  have e : ((cs.drop k).take xs.length)[i]? = xs[i]? := by rw [hx]
  rw [List.getElem?_take_of_lt hi, List.getElem?_drop] at e
  rw [← e, Nat.add_assoc]
  refine hc _ ?_
  have h1 : xs[i]? ≠ none := by simp [hi]
  rw [← e] at h1
  exact (List.getElem?_eq_some_iff.1 (Option.eq_some_iff_get_eq.2 ⟨Option.isSome_iff_ne_none.2 h1, rfl⟩)).1
theorem Cells.ext {w w' : World} {b o : Nat} {cs : List Value} (h : Cells w b o cs) (e : w'.heap[b]? = w.heap[b]?) : Cells w' b o cs := by
  obtain ⟨C, ty, fr, hb, hc⟩ := h
  exact ⟨C, ty, fr, e.trans hb, hc⟩
theorem Cells.lt {w : World} {b o : Nat} {cs : List Value} (h : Cells w b o cs) : b < w.heap.size := by obtain ⟨C, ty, fr, hb, _⟩ := h; exact own_lt hb
theorem Cells.unit {w : World} {b : Nat} {C : Array Value} {ty : TypeId} {fr : Nat × Nat} (h : w.heap[b]? = some (.cells C ty fr)) {o : Nat} {v : Value} (hv : C[o]? = some v) : Cells w b o [v] :=
  ⟨C, ty, fr, h, fun i hi => by obtain rfl : i = 0 := by simp at hi; omega
                                simpa using hv⟩

theorem run_loadCellsFrom {P : Program} {w : World} {b o : Nat} {cs : List Value} (h : Cells w b o cs) : ∀ (n i : Nat) (acc : Array Value), i + n = cs.length → (loadCellsFrom ⟨b, o, none⟩ i n acc).run P w = .ok (acc ++ (cs.drop i).toArray) w
  | 0, i, acc, hi => by
    have : cs.drop i = [] := by simp; omega
    simp [loadCellsFrom, this]
  | n + 1, i, acc, hi => by
    have hlt : i < cs.length := by omega
    have hc := h.cell i (List.getElem?_eq_getElem hlt)
    have ea : (⟨b, o, none⟩ : Addr).add i = ⟨b, o + i, none⟩ := by
      by_cases h0 : i = 0
      · subst h0; simp [Addr.add]
      · simp [Addr.add, h0]
    simp only [loadCellsFrom, ea, Sem.run_bind]
    have hl : (load ⟨b, o + i, none⟩).run P w = .ok cs[i] w := by simp [load, Sem.run, hc]
    rw [hl]
    simp only [Result.andThen]
    rw [run_loadCellsFrom h n (i + 1) _ (by omega)]
    congr 1
    rw [List.drop_eq_getElem_cons hlt]
    simp
theorem run_loadCells {P : Program} {w : World} {b o : Nat} {cs : List Value} (h : Cells w b o cs) {n : Nat} (hn : n = cs.length) : (loadCells ⟨b, o, none⟩ n).run P w = .ok cs.toArray w := by
  have := run_loadCellsFrom (P := P) h n 0 #[] (by omega)
  simpa [loadCells] using this

section
variable {P : Program} {n : Nat} {K : PK} {f : Fr} {ds : List Deferred} {w : World} {d ty : Nat} {p : String} {af : Array Edge} {g : Option (Nat × Bool)} {t size bytes : Nat} {zero : Value} {dd : TypeDesc} {x y : Operand} {L : List Atom}

theorem y_loadS (ti : TI P t size bytes zero dd) (hag : isAggD dd = false) {b o : Nat} {v : Value} (hx : ev f x = .pointer (some ⟨b, o, none⟩)) (hc : Cells w b o [v]) : Yd P ⟨some d, .load t x, ty, p, af, g⟩ f w v :=
  ⟨rfl, by simp [execOp, hx, Instr.loadAt, Instr.sureAddr, loadVar, ti.run_isAgg, hag, Result.andThen, load, Sem.run, hc.one]⟩
theorem y_loadA (ti : TI P t size bytes zero dd) (hag : isAggD dd = true) {b o : Nat} {cs : List Value} (hx : ev f x = .pointer (some ⟨b, o, none⟩)) (hc : Cells w b o cs) (hl : size = cs.length) : Yd P ⟨some d, .load t x, ty, p, af, g⟩ f w (.agg cs.toArray) :=
  ⟨rfl, by simp [execOp, hx, Instr.loadAt, Instr.sureAddr, loadVar, ti.run_isAgg, hag, Result.andThen, ti.run_size, run_loadCells hc hl]⟩

/-- A new variable of type t. -/
theorem op_alloc (H : Holds w L) (ti : TI P t size bytes zero dd) (hn : d < n) (k : ∀ b w', Holds w' (own b (.cells zero.cells t) :: L) → K (upd f d (.pointer (some ⟨b, 0, none⟩))) ds w') : Op1 P n ⟨some d, .alloc t, ty, p, af, g⟩ f ds w K :=
  Op1_val rfl rfl hn (w' := w.alloc (.cells zero.cells t)) (by simp [execOp, Instr.alloc, ti.run_zero, Result.andThen, newVar, newRow, run_newObj_alloc]) (k _ _ (H.alloc _))
theorem op_box (H : Holds w L) {v : Value} (hx : ev f x = v) (hn : d < n) (k : ∀ b w', Holds w' (own b (.cells v.cells t) :: L) → K (upd f d (.pointer (some ⟨b, 0, none⟩))) ds w') : Op1 P n ⟨some d, .box t x, ty, p, af, g⟩ f ds w K :=
  Op1_val rfl rfl hn (w' := w.alloc (.cells v.cells t)) (by simp [execOp, hx, Instr.box, Result.andThen, newVar, newRow, run_newObj_alloc]) (k _ _ (H.alloc _))

/-- vs laid over C from place o on. -/
def laid (C : Array Value) (o : Nat) : List Value → Array Value
  | [] => C
  | v :: r => laid (C.setIfInBounds o v) (o + 1) r
theorem laid_size (C : Array Value) (o : Nat) (vs : List Value) : (laid C o vs).size = C.size := by
  induction vs generalizing C o with
  | nil => rfl
  | cons v r ih => simp [laid, ih]
theorem run_storeCells {P : Program} {b o : Nat} {ty : TypeId} : ∀ (vs : List Value) (i : Nat) (w : World) (C : Array Value), w.heap[b]? = some (.cells C ty (0, 0)) → o + i + vs.length ≤ C.size → (∀ v ∈ vs, v.oneCell' = true) →
    (storeCells ⟨b, o, none⟩ vs i).run P w = .ok () (w.putObj b (.cells (laid C (o + i) vs) ty (0, 0)))
  | [], i, w, C, hb, _, _ => by
    have hh : w.putObj b (.cells C ty (0, 0)) = w := by
      simp only [World.putObj]
      have : w.heap.setIfInBounds b (.cells C ty (0, 0)) = w.heap := by
        apply Array.ext_getElem?
        intro j
        by_cases hj : b = j
        · subst hj; rw [Array.getElem?_setIfInBounds, if_pos rfl, if_pos (own_lt hb), hb]
        · rw [Array.getElem?_setIfInBounds_ne hj]
      rw [this]
    simp [storeCells, laid, hh]
  | v :: r, i, w, C, hb, hl, h1 => by
    have hlt : o + i < C.size := by simp at hl; omega
    have ea : (⟨b, o, none⟩ : Addr).add i = ⟨b, o + i, none⟩ := by
      by_cases h0 : i = 0
      · subst h0; simp [Addr.add]
      · simp [Addr.add, h0]
    have hset : w.setCell ⟨b, o + i, none⟩ v = w.putObj b (.cells (C.setIfInBounds (o + i) v) ty (0, 0)) := by
      simp only [World.setCell, World.putObj]
      congr 1
      apply Array.ext_getElem?
      intro j
      by_cases hj : b = j
      · subst hj; rw [Array.getElem?_modify, Array.getElem?_setIfInBounds, if_pos rfl, if_pos rfl, if_pos (own_lt hb), hb]; simp
      · rw [Array.getElem?_modify, Array.getElem?_setIfInBounds_ne hj]; simp [hj]
    have hst : (store ⟨b, o + i, none⟩ v).run P w = .ok () (w.putObj b (.cells (C.setIfInBounds (o + i) v) ty (0, 0))) := by
      have hc : w.cell? ⟨b, o + i, none⟩ = some C[o + i] := by simp [World.cell?, hb, hlt]
      have hf : w.frozen? ⟨b, o + i, none⟩ = false := by simp [World.frozen?, hb]
      have hv1 := h1 v (by simp)
      rw [← hset]
      cases v <;> first | (simp [Value.oneCell'] at hv1; done) | simp [store, Sem.run, hc, hf]
    simp only [storeCells, ea, Sem.run_bind, hst, Result.andThen]
    rw [run_storeCells r (i + 1) _ (C.setIfInBounds (o + i) v) (World.putObj_heap_same (own_lt hb)) (by simp at hl ⊢; omega) fun v hv => h1 v (by simp [hv])]
    congr 1
    simp only [World.putObj, laid, Nat.add_assoc]
    congr 1
    apply Array.ext_getElem?
    intro j
    by_cases hj : b = j
    · subst hj; simp [Array.getElem?_setIfInBounds]
    · rw [Array.getElem?_setIfInBounds_ne hj, Array.getElem?_setIfInBounds_ne hj, Array.getElem?_setIfInBounds_ne hj]

/-- A store into a block of one's own. -/
theorem op_store (H : Holds w L) (i : Nat) {b o : Nat} {C : Array Value} {e : TypeId} {v : Value} (hi : L[i]? = some (own b (.cells C e))) (ti : TI P t size bytes zero dd) (hx : ev f x = .pointer (some ⟨b, o, none⟩)) (hy : ev f y = v) (hs : v.cells.size = size) (hl : o + size ≤ C.size)
    (h1 : ∀ u ∈ v.cells.toList, u.oneCell' = true) (k : ∀ w', Holds w' (L.set i (own b (.cells (laid C o v.cells.toList) e))) → K f ds w') : Op1 P n ⟨none, .store t x y, ty, p, af, g⟩ f ds w K := by
  have hb := H.getOwn i hi
  have hst := run_storeCells (P := P) (o := o) v.cells.toList 0 w C hb (by simp; omega) h1
  simp only [Nat.add_zero] at hst
  refine Op1_skip rfl rfl (w' := w.putObj b (.cells (laid C o v.cells.toList) e)) ?_ (k _ (H.put i hi _))
  simp [execOp, hx, hy, Instr.storeAt, Instr.sureAddr, storeVar, ti.run_size, hs, Result.andThen, hst]

theorem y_fieldAddr {fs : Array Field} {fd : Field} {i : Nat} {size' bytes' : Nat} {zero' : Value} {dd' : TypeDesc} (ti : TI P t size bytes zero (.struct fs)) (hf : fs[i]? = some fd) (ti' : TI P fd.type size' bytes' zero' dd') (hpos : Nat.ble 1 size' = true)
    {b o : Nat} (hx : ev f x = .pointer (some ⟨b, o, none⟩))         : Yd P ⟨some d, .fieldAddr t x i, ty, p, af, g⟩ f w (.pointer (some ⟨b, o + fd.offset, none⟩)) := by
  have h0 : size' ≠ 0 := by have := Nat.le_of_ble_eq_true hpos; omega
  have ea : (⟨b, o, none⟩ : Addr).add fd.offset = ⟨b, o + fd.offset, none⟩ := by
    by_cases h0 : fd.offset = 0
    · simp [Addr.add, h0]
    · simp [Addr.add, h0]
  exact ⟨rfl, by simp [execOp, hx, Instr.fieldAt, ti.run_underlying, hf, Instr.sureAddr, fieldPlace, ti'.run_size, h0, Result.andThen, ea]⟩
theorem y_field {fs : Array Field} {fd : Field} {i : Nat} {size' bytes' : Nat} {zero' : Value} {dd' : TypeDesc} (ti : TI P t size bytes zero (.struct fs)) (hf : fs[i]? = some fd) (ti' : TI P fd.type size' bytes' zero' dd') (hag : isAggD dd' = false)
    {cs : Array Value} {v : Value} (hx : ev f x = .agg cs) (hv : cs[fd.offset]? = some v) : Yd P ⟨some d, .field t x i, ty, p, af, g⟩ f w v :=
  ⟨rfl, by simp [execOp, hx, Instr.field, ti.run_underlying, hf, part, ti'.run_isAgg, hag, asAgg, hv, Result.andThen]⟩
theorem y_indexAddr {e size' bytes' : Nat} {zero' : Value} {dd' : TypeDesc} (ti : TI P t size bytes zero (.slice e)) (ti' : TI P e size' bytes' zero' dd') {b o : Nat} {ln cap : Nat} {kd : IntKind} {i : Int} (hx : ev f x = .slice (some ⟨b, o, none⟩) ln cap) (hy : ev f y = .int kd i) (h0 : 0 ≤ i) (hlt : i < ln) :
    Yd P ⟨some d, .indexAddr t x y, ty, p, af, g⟩ f w (.pointer (some ⟨b, o + i.toNat * size', none⟩)) := by
  have ea : (⟨b, o, none⟩ : Addr).add (i.toNat * size') = ⟨b, o + i.toNat * size', none⟩ := by
    by_cases h0 : i.toNat * size' = 0
    · simp only [Addr.add, h0]; simp
    · simp only [Addr.add, h0]; simp
  exact ⟨rfl, by simp [execOp, hx, hy, Instr.indexAt, asIntOf, ti.run_underlying, h0, hlt, ti'.run_size, Result.andThen, ea]⟩

theorem y_len {tys : Array TypeId} {t0 : TypeId} {e : TypeId} (ht : tys[0]? = some t0) (ti : TI P t0 size bytes zero (.slice e)) {a : Option Addr} {ln cap : Nat} (hx : ev f x = .slice a ln cap) :
    Yd P ⟨some d, .call { callee := .builtin .len, args := #[x], argTypes := tys }, ty, p, af, g⟩ f w (.int .i64 ln) :=
  ⟨rfl, by simp [execOp, resolve, invoke, builtin, hx, Builtin.len_, ht, ti.run_underlying, goInt, Result.andThen]⟩

/-- The slice value v, n elements of type e (size cells each), owns the cells cs. -/
abbrev row (e size : Nat) (v : Value) (n : Nat) (cs : List Value) : Atom := ⟨true, fun k => v.ownBlock = some k, fun w => w.ownsRow 0 e size v n cs⟩
theorem row_stable (e size : Nat) (v : Value) (n : Nat) (cs : List Value) : (row e size v n cs).stable := by
  intro w w' hs _ _ _ h hp
  obtain ⟨h1, h2⟩ := hp
  refine ⟨h1, ?_⟩
  rcases h2 with h2 | ⟨g, cap, cur, hv, hg, hh, r⟩
  · exact .inl h2
  · exact .inr ⟨g, cap, cur, hv, hg, by rw [h g (by simp [hv, Value.ownBlock]) (own_lt hh)]; exact hh, r⟩
theorem row_ok {w : World} {e size : Nat} {v : Value} {n : Nat} {cs : List Value} (h : w.ownsRow 0 e size v n cs) : (row e size v n cs).ok w :=
  ⟨h, fun k hk => by
    rcases h.2 with ⟨hv, _⟩ | ⟨g, cap, cur, hv, hg, hh, r⟩
    · simp [hv, Value.ownBlock] at hk
    · simp [hv, Value.ownBlock] at hk; subst hk; exact own_lt hh, row_stable _ _ _ _ _⟩
theorem ownsRow_base {w : World} {base : Nat} {e size : Nat} {v : Value} {n : Nat} {cs : List Value} (h : w.ownsRow base e size v n cs) : w.ownsRow 0 e size v n cs := by
  obtain ⟨h1, h2⟩ := h
  refine ⟨h1, ?_⟩
  rcases h2 with h2 | ⟨g, cap, cur, hv, hg, r⟩
  · exact .inl h2
  · exact .inr ⟨g, cap, cur, hv, Nat.zero_le _, r⟩
theorem ownsRow_nil (w : World) (e size : Nat) : w.ownsRow 0 e size (.slice none 0 0) 0 [] := ⟨by simp, .inl ⟨rfl, rfl⟩⟩
/-- The nil slice is a row. -/
theorem Holds.rowNil {w : World} {L : List Atom} (h : Holds w L) (e size : Nat) : Holds w (row e size (.slice none 0 0) 0 [] :: L) :=
  h.cons (row_ok (ownsRow_nil w e size)) fun b _ _ k hk => by simp [Value.ownBlock] at hk
theorem ownsRow_slice {w : World} {base : Nat} {e size : Nat} {v : Value} {n : Nat} {cs : List Value} (h : w.ownsRow base e size v n cs) : ∃ a c, v = .slice a n c ∧ n ≤ c ∧ cs.length = n * size ∧ c ≤ maxLen := by
  rcases h.2 with ⟨hv, hn⟩ | ⟨g, cap, cur, hv, _, _, hc, hm, _⟩
  · subst hn; exact ⟨_, _, hv, Nat.le_refl _, h.1, Nat.zero_le _⟩
  · exact ⟨_, _, hv, hc, h.1, hm⟩
theorem ownsRow_cells {w : World} {base : Nat} {e size : Nat} {v : Value} {n : Nat} {cs : List Value} (h : w.ownsRow base e size v n cs) (hn : 0 < n) : ∃ b c, v = .slice (some ⟨b, 0, none⟩) n c ∧ n ≤ c ∧ Cells w b 0 cs := by
  rcases h.2 with ⟨hv, h0⟩ | ⟨g, cap, cur, hv, _, hh, hc, hm, hsz, ht⟩
  · omega
  · refine ⟨g, cap, hv, hc, Cells.of hh ?_⟩
    rw [List.drop_zero, h.1]; exact ht

/-- What is appended: m elements whose cells are news. -/
def Src (w : World) (xv : Value) (m : Nat) (news : List Value) : Prop := ∃ a c, xv = .slice a m c ∧ (a = none → m = 0 ∧ c = 0) ∧ (∀ A, a = some A → ∀ j u, news[j]? = some u → w.cell? (A.add j) = some u)
theorem Src.cells {w : World} {b o : Nat} {news : List Value} (h : Cells w b o news) (m c : Nat) : Src w (.slice (some ⟨b, o, none⟩) m c) m news :=
  ⟨_, _, rfl, fun h => (by cases h), fun A e j u hu => by
    injection e with e; subst e
    have ea : (⟨b, o, none⟩ : Addr).add j = ⟨b, o + j, none⟩ := by
      by_cases h0 : j = 0
      · subst h0; simp [Addr.add]
      · simp [Addr.add, h0]
    rw [ea]; exact h.cell j hu⟩

theorem run_append (te : TypeId) {e size bytes : Nat} {z : Value} {dd' : TypeDesc} (hu : P.underlying t = some (.slice e)) (ti : TI P e size bytes z dd') (hz : z.cells.size = size) (hpos : 0 < size) {v xv : Value} {m k : Nat} {cs news : List Value} (hown : w.ownsRow 0 e size v k cs)
    (hsrc : Src w xv m news) (hl : news.length = m * size) (h1 : ∀ u ∈ news, u.oneCell' = true) (hb : (k + m) * bytes ≤ 140737488355328) (h63 : k + m ≤ maxLen) :
    ∃ v' w', (Builtin.append_ #[t, t] te #[v, xv]).run P w = .ok v' w' ∧ w'.ownsRow 0 e size v' (k + m) (cs ++ news) ∧ Ext (fun i => v.ownBlock = some i) w w' ∧ (∀ i, v'.ownBlock = some i → v.ownBlock = some i ∨ w.heap.size ≤ i) := by
  obtain ⟨i, hi, hs, hz', hby⟩ := ti.i
  obtain ⟨a, c, rfl, hnone, hcell⟩ := hsrc
  cases a with
  | none =>
    obtain ⟨rfl, rfl⟩ := hnone rfl
    have hnews : news = [] := List.eq_nil_of_length_eq_zero (by simpa using hl)
    subst hnews
    exact ⟨v, w, run_append_owned_none w 0 t te e i size hu hi v k cs hown, by simpa using hown, Ext.refl _ _, fun i h => .inl h⟩
  | some A =>
    have ext_of : ∀ {w' : World} {r : Option Nat}, w.grownBy w' r → Ext (fun i => r = some i) w w' := fun hg => ⟨hg.os, hg.tape, hg.output, hg.size, fun j hj hm => hg.block j hj fun e => hm e.symm⟩
    rcases hown.2 with ⟨rfl, rfl⟩ | ⟨g', cap, cur, rfl, hbg, hh, hc, hm, hsz, htake⟩
    · have hown' : w.ownsRow w.heap.size e size (.slice none 0 0) 0 cs := ⟨hown.1, .inl ⟨rfl, rfl⟩⟩
      obtain ⟨v', w', hrun, ho, hg, _⟩ := run_append_own (P := P) w w.heap.size t te e i z size bytes hu hi hz' hs hby hz hpos (.slice none 0 0) 0 cs hown' A m c news hl (hcell A rfl) h1 h63 hb (Nat.le_refl _)
      refine ⟨v', w', hrun, ownsRow_base ho, ext_of hg, fun i hi => .inr ?_⟩
      rcases ho.2 with ⟨hv, _⟩ | ⟨g2, c2, cur2, hv, hb2, _⟩
      · simp [hv, Value.ownBlock] at hi
      · simp [hv, Value.ownBlock] at hi; omega
    · by_cases hroom : k + m ≤ cap
      · obtain ⟨w', hrun, ho, hg⟩ := run_append_fits (P := P) w 0 t te e i size hu hi hs g' k cap cs hown A m c news hl (hcell A rfl) h1 hroom
        exact ⟨_, w', hrun, ho, ext_of hg, fun i hi => .inl hi⟩
      · have hol : cs.length = k * size := hown.1
        have hcs : ∀ j u, cs[j]? = some u → w.cell? ((⟨g', 0, none⟩ : Addr).add j) = some u := fun j u hu => by
          have ea : (⟨g', 0, none⟩ : Addr).add j = ⟨g', j, none⟩ := by
            by_cases h0 : j = 0
            · subst h0; simp [Addr.add]
            · simp [Addr.add, h0]
          rw [ea]
          have hC : Cells w g' 0 cs := Cells.of hh (by rw [List.drop_zero, hol]; exact htake)
          have := hC.cell j hu
          simpa using this
        obtain ⟨v', w', hrun, ho, hg⟩ := run_append_arg_grows (P := P) w t te e i z size bytes hu hi hz' hs hby hz hpos ⟨g', 0, none⟩ k cap cs hol hcs A m c news hl (hcell A rfl) (by omega) h63 hb
        refine ⟨v', w', hrun, ownsRow_base ho, (ext_of hg).mono fun _ _ h => (by cases h), fun i hi => .inr ?_⟩
        rcases ho.2 with ⟨hv, _⟩ | ⟨g2, c2, cur2, hv, hb2, _⟩
        · simp [hv, Value.ownBlock] at hi
        · simp [hv, Value.ownBlock] at hi; omega

/-- append onto a row of one's own. -/
theorem op_append (H : Holds w L) (i : Nat) {tys : Array TypeId} {e size bytes size0 bytes0 : Nat} {z z0 : Value} {dd' : TypeDesc} {v xv : Value} {m k : Nat} {cs news : List Value} (hi : L[i]? = some (row e size v k cs)) (ht : tys = #[t, t]) (ti0 : TI P t size0 bytes0 z0 (.slice e)) (ti : TI P e size bytes z dd') (hz : z.cells.size = size) (hpos : Nat.ble 1 size = true)
    (hx : ev f x = v) (hy : ev f y = xv) (hsrc : Src w xv m news) (hl : news.length = m * size) (h1 : ∀ u ∈ news, u.oneCell' = true) (hb : (k + m) * bytes ≤ 140737488355328) (h63 : k + m ≤ maxLen) (hn : d < n)
    (kk : ∀ v' w', Holds w' (L.set i (row e size v' (k + m) (cs ++ news))) → K (upd f d v') ds w') : Op1 P n ⟨some d, .call { callee := .builtin .append, args := #[x, y], argTypes := tys }, ty, p, af, g⟩ f ds w K := by
  subst ht
  obtain ⟨v', w', hrun, ho, he, hfr⟩ := run_append (P := P) (w := w) ty ti0.u ti hz (Nat.le_of_ble_eq_true hpos) (H.get hi) hsrc hl h1 hb h63
  refine Op1_val rfl rfl hn (w' := w') ?_ (kk v' w' (H.step i hi rfl he (fun _ _ h => h) (row_ok ho) hfr))
  simp [execOp, resolve, invoke, builtin, hx, hy, hrun, Result.andThen]
end
end Go.Wk

namespace Go.Wk
open Go
set_option linter.unusedVariables false

def Keeps (Z : Nat → Prop) (w w' : World) : Prop := w.heap.size ≤ w'.heap.size ∧ ∀ k, Z k → k < w.heap.size → w'.heap[k]? = w.heap[k]?
theorem Keeps.refl (Z : Nat → Prop) (w : World) : Keeps Z w w := ⟨Nat.le_refl _, fun _ _ _ => rfl⟩
theorem Keeps.trans {Z a b c} (h : Keeps Z a b) (k : Keeps Z b c) : Keeps Z a c := ⟨Nat.le_trans h.1 k.1, fun i hz hi => (k.2 i hz (Nat.lt_of_lt_of_le hi h.1)).trans (h.2 i hz hi)⟩
theorem Ext.keeps {M Z : Nat → Prop} {a b} (h : Ext M a b) (hM : ∀ k, Z k → ¬ M k) : Keeps Z a b := ⟨h.size, fun k hz hk => h.blk k hk (hM k hz)⟩
theorem Ext.keeps0 {Z : Nat → Prop} {a b} (h : Ext none' a b) : Keeps Z a b := h.keeps fun _ _ h => h

/-- What 'sz' cells represent in a world, on the blocks Z alone. -/
structure Ty (α : Type) where
  sz : Nat
  R : (Nat → Prop) → World → List Value → α → Prop
  len : ∀ {Z w cs x}, R Z w cs x → cs.length = sz
  one : ∀ {Z w cs x}, R Z w cs x → ∀ u ∈ cs, u.oneCell' = true
  keeps : ∀ {Z w w' cs x}, R Z w cs x → Keeps Z w w' → R Z w' cs x
  mono : ∀ {Z Z' : Nat → Prop} {w cs x}, R Z w cs x → (∀ k, k < w.heap.size → Z k → Z' k) → R Z' w cs x

def tLit {α : Type} (enc : α → Value) (ok : α → Prop) (h1 : ∀ x, (enc x).oneCell' = true) : Ty α where
  sz := 1
  R _ _ cs x := cs = [enc x] ∧ ok x
  len := by rintro Z w cs x ⟨rfl, _⟩; rfl
  one := by rintro Z w cs x ⟨rfl, _⟩ u hu; simp at hu; subst hu; exact h1 x
  keeps := fun h _ => h
  mono := fun h _ => h
def InK (k : IntKind) (x : Int) : Prop := (Lit.int k x).wf = true
def tInt (k : IntKind) : Ty Int := tLit (Value.int k) (InK k) fun _ => rfl
def tBool : Ty Bool := tLit Value.bool (fun _ => True) fun _ => rfl

/-- What a slice value says: its elements' cells. 'by': an element's bytes (the reach). -/
def SlR {α : Type} (T : Ty α) (bytes : Nat) (Z : Nat → Prop) (w : World) (v : Value) (xs : List α) : Prop :=
  ∃ a c, v = .slice a xs.length c ∧ xs.length ≤ c ∧ (a = none → xs.length = 0 ∧ c = 0) ∧ xs.length * bytes ≤ 140737488351232 ∧ c ≤ maxLen ∧
    ∀ i x, xs[i]? = some x → ∃ b o cs, a = some ⟨b, o, none⟩ ∧ Z b ∧ Cells w b (o + i * T.sz) cs ∧ T.R Z w cs x
def tSlice {α : Type} (T : Ty α) (bytes : Nat) : Ty (List α) where
  sz := 1
  R Z w cs xs := ∃ v, cs = [v] ∧ SlR T bytes Z w v xs
  len := by rintro Z w cs x ⟨v, rfl, _⟩; rfl
  one := by rintro Z w cs x ⟨v, rfl, a, c, rfl, _⟩ u hu; simp at hu; subst hu; rfl
  keeps := by
    rintro Z w w' cs x ⟨v, rfl, a, c, rfl, h1, h2, h3, h4, h5⟩ k
    refine ⟨_, rfl, a, c, rfl, h1, h2, h3, h4, fun i x hx => ?_⟩
    obtain ⟨b, o, cs, e1, e2, e3, e4⟩ := h5 i x hx
    exact ⟨b, o, cs, e1, e2, e3.ext (k.2 b e2 e3.lt), T.keeps e4 k⟩
  mono := by
    rintro Z Z' w cs x ⟨v, rfl, a, c, rfl, h1, h2, h3, h4, h5⟩ k
    refine ⟨_, rfl, a, c, rfl, h1, h2, h3, h4, fun i x hx => ?_⟩
    obtain ⟨b, o, cs, e1, e2, e3, e4⟩ := h5 i x hx
    exact ⟨b, o, cs, e1, k b e3.lt e2, e3, T.mono e4 k⟩
def tPair {α β : Type} (A : Ty α) (B : Ty β) : Ty (α × β) where
  sz := A.sz + B.sz
  R Z w cs x := ∃ c1 c2, cs = c1 ++ c2 ∧ A.R Z w c1 x.1 ∧ B.R Z w c2 x.2
  len := by rintro Z w cs x ⟨c1, c2, rfl, h1, h2⟩; rw [List.length_append, A.len h1, B.len h2]
  one := by
    rintro Z w cs x ⟨c1, c2, rfl, h1, h2⟩ u hu
    rcases List.mem_append.1 hu with hu | hu
    · exact A.one h1 u hu
    · exact B.one h2 u hu
  keeps := by rintro Z w w' cs x ⟨c1, c2, rfl, h1, h2⟩ k; exact ⟨c1, c2, rfl, A.keeps h1 k, B.keeps h2 k⟩
  mono := by rintro Z Z' w cs x ⟨c1, c2, rfl, h1, h2⟩ k; exact ⟨c1, c2, rfl, A.mono h1 k, B.mono h2 k⟩
def tMap {α β : Type} (A : Ty α) (f : β → α) : Ty β where
  sz := A.sz
  R Z w cs x := A.R Z w cs (f x)
  len := A.len
  one := A.one
  keeps := A.keeps
  mono := A.mono

/-- A list of elements, cells one behind the other. -/
def Els {α : Type} (T : Ty α) (Z : Nat → Prop) (w : World) (cs : List Value) (xs : List α) : Prop := cs.length = xs.length * T.sz ∧ ∀ i x, xs[i]? = some x → T.R Z w ((cs.drop (i * T.sz)).take T.sz) x
theorem Els.nil {α : Type} (T : Ty α) (Z : Nat → Prop) (w : World) : Els T Z w [] [] := ⟨by simp, fun i x h => by simp at h⟩
theorem Els.snoc {α : Type} {T : Ty α} {Z : Nat → Prop} {w : World} {cs c : List Value} {xs : List α} {x : α} (h : Els T Z w cs xs) (hx : T.R Z w c x) : Els T Z w (cs ++ c) (xs ++ [x]) := by
  have hl := T.len hx
  refine ⟨by simp [h.1, hl, Nat.add_mul], fun i y hy => ?_⟩
  by_cases hi : i < xs.length
  · rw [List.getElem?_append_left hi] at hy
    have := h.2 i y hy
    have hb : i * T.sz + T.sz ≤ cs.length := by rw [h.1]; have := Nat.mul_le_mul_right T.sz (show i + 1 ≤ xs.length from hi); rw [Nat.add_mul] at this; omega
    rwa [List.drop_append_of_le_length (by omega), List.take_append_of_le_length (by simp; omega)]
  · rw [List.getElem?_append_right (by omega)] at hy
    have hi0 : i - xs.length = 0 := by
      have := (List.getElem?_eq_some_iff.1 hy).1
      simp at this; omega
    rw [hi0] at hy
    simp at hy; subst hy
    obtain rfl : i = xs.length := by omega
    rw [← h.1, List.drop_left, ← hl, List.take_length]; exact hx
theorem Els.append {α : Type} {T : Ty α} {Z : Nat → Prop} {w : World} {cs ds : List Value} {xs ys : List α} (h : Els T Z w cs xs) (h' : Els T Z w ds ys) : Els T Z w (cs ++ ds) (xs ++ ys) := by
  refine ⟨by simp [h.1, h'.1, Nat.add_mul], fun i y hy => ?_⟩
  by_cases hi : i < xs.length
  · rw [List.getElem?_append_left hi] at hy
    have := h.2 i y hy
    have hb : i * T.sz + T.sz ≤ cs.length := by rw [h.1]; have := Nat.mul_le_mul_right T.sz (show i + 1 ≤ xs.length from hi); rw [Nat.add_mul] at this; omega
    rwa [List.drop_append_of_le_length (by omega), List.take_append_of_le_length (by simp; omega)]
  · rw [List.getElem?_append_right (by omega)] at hy
    have := h'.2 _ y hy
    have e : i * T.sz = cs.length + (i - xs.length) * T.sz := by rw [h.1, ← Nat.add_mul]; congr 1; omega
    rw [e, ← List.drop_drop, List.drop_left]; exact this
theorem Els.keeps {α : Type} {T : Ty α} {Z : Nat → Prop} {w w' : World} {cs : List Value} {xs : List α} (h : Els T Z w cs xs) (k : Keeps Z w w') : Els T Z w' cs xs := ⟨h.1, fun i x hx => T.keeps (h.2 i x hx) k⟩
theorem Els.mono {α : Type} {T : Ty α} {Z Z' : Nat → Prop} {w : World} {cs : List Value} {xs : List α} (h : Els T Z w cs xs) (k : ∀ k, k < w.heap.size → Z k → Z' k) : Els T Z' w cs xs := ⟨h.1, fun i x hx => T.mono (h.2 i x hx) k⟩
theorem Els.one {α : Type} {T : Ty α} {Z : Nat → Prop} {w : World} {cs : List Value} {xs : List α} (h : Els T Z w cs xs) (hp : 0 < T.sz) : ∀ u ∈ cs, u.oneCell' = true := by
  intro u hu
  obtain ⟨j, hj, rfl⟩ := List.getElem_of_mem hu
  have hj' : j / T.sz < xs.length := by rw [Nat.div_lt_iff_lt_mul hp, ← h.1]; exact hj
  have hr := h.2 (j / T.sz) _ (List.getElem?_eq_getElem hj')
  refine T.one hr _ (List.mem_iff_getElem?.2 ⟨j % T.sz, ?_⟩)
  rw [List.getElem?_take_of_lt (Nat.mod_lt _ hp), List.getElem?_drop, Nat.mul_comm, Nat.div_add_mod, List.getElem?_eq_getElem hj]

/-- A row of one's own, read as data: its block is among Z. -/
theorem SlR.ofRow {α : Type} {T : Ty α} {bytes : Nat} {Z : Nat → Prop} {w : World} {e n base : Nat} {v : Value} {cs : List Value} {xs : List α} (h : w.ownsRow base e T.sz v n cs) (hp : 0 < T.sz) (he : Els T Z w cs xs) (hZ : ∀ k, v.ownBlock = some k → Z k)
    (hb : xs.length * bytes ≤ 140737488351232) : SlR T bytes Z w v xs := by
  have hn : n = xs.length := by
    have h1 := h.1; rw [he.1] at h1; exact (Nat.eq_of_mul_eq_mul_right hp h1).symm
  subst hn
  rcases h.2 with ⟨rfl, h0⟩ | ⟨g, cap, cur, rfl, _, hh, hc, hm, hsz, ht⟩
  · exact ⟨none, 0, by rw [h0], by omega, fun _ => ⟨h0, rfl⟩, hb, Nat.zero_le _, fun i x hx => by have := (List.getElem?_eq_some_iff.1 hx).1; omega⟩
  · refine ⟨_, cap, rfl, hc, fun h => (by cases h), hb, hm, fun i x hx => ?_⟩
    refine ⟨g, 0, (cs.drop (i * T.sz)).take T.sz, rfl, hZ g rfl, ?_, he.2 i x hx⟩
    have hC : Cells w g 0 cs := Cells.of hh (by rw [List.drop_zero, h.1]; exact ht)
    refine hC.take (i * T.sz) ?_
    rw [List.length_take, List.length_drop]
    have hi := (List.getElem?_eq_some_iff.1 hx).1
    have hb : i * T.sz + T.sz ≤ cs.length := by rw [he.1]; have := Nat.mul_le_mul_right T.sz (show i + 1 ≤ xs.length from hi); rw [Nat.add_mul] at this; omega
    rw [Nat.min_eq_left (by omega)]

theorem SlR.len {α : Type} {T : Ty α} {bytes : Nat} {Z : Nat → Prop} {w : World} {v : Value} {xs : List α} (h : SlR T bytes Z w v xs) : ∃ a c, v = .slice a xs.length c ∧ xs.length ≤ c ∧ c ≤ maxLen := by
  obtain ⟨a, c, h1, h2, _, _, h3, _⟩ := h; exact ⟨a, c, h1, h2, h3⟩
/-- An element of a slice: where it lies. -/
theorem SlR.at {α : Type} {T : Ty α} {bytes : Nat} {Z : Nat → Prop} {w : World} {a : Option Addr} {n c : Nat} {xs : List α} (h : SlR T bytes Z w (.slice a n c) xs) {i : Nat} {x : α} (hx : xs[i]? = some x) :
    ∃ b o cs, a = some ⟨b, o, none⟩ ∧ Z b ∧ Cells w b (o + i * T.sz) cs ∧ T.R Z w cs x := by
  obtain ⟨a', c', h1, _, _, _, _, h5⟩ := h
  injection h1 with e1 e2 e3; subst e1
  exact h5 i x hx
theorem SlR.keeps {α : Type} {T : Ty α} {bytes : Nat} {Z : Nat → Prop} {w w' : World} {v : Value} {xs : List α} (h : SlR T bytes Z w v xs) (k : Keeps Z w w') : SlR T bytes Z w' v xs := by
  obtain ⟨v', e, h⟩ := (tSlice T bytes).keeps (cs := [v]) ⟨v, rfl, h⟩ k
  injection e with e; subst e; exact h
theorem SlR.mono {α : Type} {T : Ty α} {bytes : Nat} {Z Z' : Nat → Prop} {w : World} {v : Value} {xs : List α} (h : SlR T bytes Z w v xs) (k : ∀ k, k < w.heap.size → Z k → Z' k) : SlR T bytes Z' w v xs := by
  obtain ⟨v', e, h⟩ := (tSlice T bytes).mono (cs := [v]) ⟨v, rfl, h⟩ k
  injection e with e; subst e; exact h
theorem SlR.nil {α : Type} (T : Ty α) (bytes : Nat) (Z : Nat → Prop) (w : World) : SlR T bytes Z w (.slice none 0 0) ([] : List α) :=
  ⟨none, 0, rfl, Nat.le_refl _, fun _ => ⟨rfl, rfl⟩, by simp, Nat.zero_le _, fun i x h => by simp at h⟩

/-- What is shared stays: data on shared blocks read as ever. -/
theorem Holds.keeps {w w0 : World} {L : List Atom} (h : Holds w L) {i : Nat} {Z : Nat → Prop} (hi : L[i]? = some (shr Z w0)) : Keeps Z w0 w := by
  obtain ⟨a, _, _, _, e⟩ := h.get hi
  exact ⟨a, fun k hz _ => e k hz⟩

theorem Holds.keepsAll {w w0 : World} {L : List Atom} (h : Holds w L) (i : Nat) (hi : L[i]? = some (shr (fun k => k < w0.heap.size) w0)) (Z : Nat → Prop) : Keeps Z w0 w := by
  obtain ⟨a, _, _, _, e⟩ := h.get hi
  exact ⟨a, fun k _ hk => e k hk⟩

section
variable {P : Program} {l : Option Nat} {n : Nat} {Q : PQ} {f : Fr} {ds : List Deferred} {w : World}
/-- The whole statement: BLOCK b (LOOP (i < len; body in its block; i++)). I k: what holds when k rounds are over. -/
theorem W_range {bid rid0 rid1 ti tn tc tu ty0 ty1 ty2 : Nat} {p0 p1 p2 : String} {e0 e1 e2 : Array Edge} {body : Code} {t0 t0' t1 t1' : Nat} {N : Nat} (hN : (N : Int) ≤ maxLen)
    (I : Nat → PK) (h0 : I 0 f ds w) (hi0 : f ti = .int .i64 0) (hn0 : f tn = .int .i64 N) (hc : tc < n) (hu : tu < n) (hti : ti < n) (hne1 : Nat.beq ti tc = false) (hne2 : Nat.beq tn tc = false)
    (hbody : ∀ k f ds w, k < N → I k f ds w → f ti = .int .i64 k → f tn = .int .i64 N → W P l n body (thenQ (fun f' ds' w' => f' ti = .int .i64 k ∧ f' tn = .int .i64 N ∧ I (k + 1) (upd (upd f' tu (.int .i64 ((k : Int) + 1))) ti (.int .i64 ((k : Int) + 1))) ds' w') (blockQ bid Q)) (upd f tc (.bool true)) ds w)
    (hne3 : Nat.beq tn tu = false) (hne4 : Nat.beq tn ti = false) (hdone : ∀ f ds w, I N f ds w → f ti = .int .i64 N → f tn = .int .i64 N → Q .normal (upd f tc (.bool false)) ds w) :
    W P l n (.block bid (.loop (.seq (.region rid0 #[⟨some tc, .binOp .lss t0 (.tmp ti) (.tmp tn) t0', ty0, p0, e0, none⟩] false) (.seq (.cond (.tmp tc) .skip (.exit bid)) (.seq body
      (.region rid1 #[⟨some tu, .binOp .add t1 (.tmp ti) (.const (.int .i64 1)) t1', ty1, p1, e1, none⟩, ⟨some ti, .move (.tmp tu), ty2, p2, e2, none⟩] false)))))) Q f ds w := by
  refine W_block (W_loopN (fun j f ds w => ∃ k, k + j = N ∧ I k f ds w ∧ f ti = .int .i64 k ∧ f tn = .int .i64 N) N ⟨0, by omega, h0, hi0, hn0⟩ ?_)
  rintro j f ds w ⟨k, hk, hI, hti', htn'⟩
  have hupd : ∀ v, upd f tc v ti = .int .i64 k := fun v => by simp only [upd, hne1, cond_false]; exact hti'
  have hupd' : ∀ v, upd f tc v tn = .int .i64 N := fun v => by simp only [upd, hne2, cond_false]; exact htn'
  refine W_seq (W_region (ops := [_]) (OL_y (y_lss hti' htn') hc (OL_nil ?_)))
  by_cases hlt : k < N
  · have hd : decide ((k : Int) < (N : Int)) = true := by simp; omega
    show W P l n _ _ _ _ _
    rw [hd]
    refine W_seq (W_condt (show upd f tc _ tc = _ from upd_same _ _ _) (W_skip ?_))
    show W P l n _ _ _ _ _
    refine W_seq (W_mono (hbody k f ds w hlt hI hti' htn') ?_)
    rintro e f' ds' w' q
    cases e with
    | normal =>
      obtain ⟨q1, q2, q3⟩ := q
      show W P l n _ _ _ _ _
      refine W_region (ops := [_, _]) (OL_y (y_addw (x := .tmp ti) (y := .const _) (kd := .i64) (a := k) (b := 1) q1 rfl) hu (OL_y (y_move (x := .tmp tu) (upd_same _ _ _)) hti (OL_nil ?_)))
      have hw : IntKind.i64.wrap ((k : Int) + 1) = (k : Int) + 1 := by
        simp only [maxLen] at hN
        exact IntWalk.i64_in _ (by omega)
      rw [hw]
      have hnn : ∀ a b, upd (upd f' tu a) ti b tn = .int .i64 N := fun a b => by simp only [upd, hne3, hne4, cond_false]; exact q2
      exact ⟨j - 1, by omega, k + 1, by omega, q3, by rw [upd_same]; simp, hnn _ _⟩
    | exit i => exact q
    | goto i => exact q
    | ret => exact q
    | panic c => exact q
    | outgrown => exact q
  · obtain rfl : k = N := by omega
    have hd : decide ((k : Int) < (k : Int)) = false := by simp
    show W P l n _ _ _ _ _
    rw [hd]
    refine W_seq (W_condf (show upd f tc _ tc = _ from upd_same _ _ _) (W_exit ?_))
    show cond (Nat.beq bid bid) _ _
    rw [Nat.beq_refl]
    exact hdone f ds w hI hti' htn'
end
end Go.Wk

namespace Go.Wk
open Go
set_option linter.unusedVariables false
set_option linter.unusedSimpArgs false

theorem laid_toList (C : Array Value) (o : Nat) (vs : List Value) (h : o + vs.length ≤ C.size) : (laid C o vs).toList = C.toList.take o ++ vs ++ C.toList.drop (o + vs.length) := by
  induction vs generalizing C o with
  | nil => simp [laid]
  | cons v r ih =>
    simp only [List.length_cons] at h
    rw [laid, ih _ _ (by simp; omega)]
    simp only [Array.toList_setIfInBounds, List.length_cons]
    rw [List.drop_set_of_lt (by omega)]
    have e1 : List.take (o + 1) (C.toList.set o v) = List.take o C.toList ++ [v] := by
      rw [List.take_set, List.take_add_one, List.set_append]
      have hl : (List.take o C.toList).length = o := by simp; omega
      rw [hl, if_neg (Nat.lt_irrefl _)]
      have : C.toList[o]? = some (C[o]'(by omega)) := by simp
      rw [this]; simp
    rw [e1, show o + (r.length + 1) = o + 1 + r.length from by omega]
    simp
theorem foldl_laid (vs : List Value) : ∀ (k off : Nat) (A : Array Value), (vs.zipIdx k).foldl (fun cs (x : Value × Nat) => cs.setIfInBounds (off + x.2) x.1) A = laid A (off + k) vs := by
  induction vs with
  | nil => intros; rfl
  | cons v r ih => intro k off A; simp only [List.zipIdx_cons, List.foldl_cons, laid]; rw [ih, Nat.add_assoc]
theorem foldl_laidA (vs : Array Value) (off : Nat) (A : Array Value) : vs.zipIdx.foldl (fun cs (x : Value × Nat) => cs.setIfInBounds (off + x.2) x.1) A = laid A off vs.toList := by
  rw [← Array.foldl_toList, Array.toList_zipIdx]
  exact foldl_laid vs.toList 0 off A

/-- What parts laid one behind the other, each of 'size' cells, come to. -/
theorem fill_parts (size : Nat) : ∀ (vs : List Value) (k : Nat) (A : Array Value), (∀ v ∈ vs, v.cells.size = size) → (k + vs.length) * size ≤ A.size →
    ∃ B, Instr.fill (fun i => some (i * size, size)) A ((vs.zipIdx k).map fun x => (x.2, x.1)) = some B ∧ B.toList = A.toList.take (k * size) ++ vs.flatMap (fun v => v.cells.toList) ++ A.toList.drop ((k + vs.length) * size)
  | [], k, A, _, h => ⟨A, rfl, by simp⟩
  | v :: r, k, A, hv, h => by
    have hs := hv v (by simp)
    have hm : (k + 1) * size ≤ A.size := Nat.le_trans (Nat.mul_le_mul_right _ (by simp only [List.length_cons]; omega)) h
    rw [Nat.add_mul, Nat.one_mul] at hm
    obtain ⟨B, h1, h2⟩ := fill_parts size r (k + 1) (laid A (k * size) v.cells.toList) (fun u hu => hv u (by simp [hu])) (by rw [laid_size]; simp only [List.length_cons] at h; rw [show k + 1 + r.length = k + (r.length + 1) from by omega]; exact h)
    refine ⟨B, ?_, ?_⟩
    · simp only [List.zipIdx_cons, List.map_cons, Instr.fill]
      rw [if_neg (by simp [hs]; omega)]
      rw [show (v.cells.zipIdx.foldl (fun cs x => match x with | (c, j) => cs.setIfInBounds (k * size + j) c) A) = laid A (k * size) v.cells.toList from foldl_laidA _ _ _]
      exact h1
    · rw [h2]
      have hl : k * size + v.cells.toList.length = (k + 1) * size := by rw [Array.length_toList, hs, Nat.add_mul, Nat.one_mul]
      have hle : k * size + v.cells.toList.length ≤ A.size := by rw [Array.length_toList, hs]; exact hm
      rw [laid_toList _ _ _ hle, hl]
      have e1 : (List.take (k * size) A.toList ++ v.cells.toList ++ List.drop ((k + 1) * size) A.toList).take ((k + 1) * size) = List.take (k * size) A.toList ++ v.cells.toList := by
        have hx : (List.take (k * size) A.toList ++ v.cells.toList).length = (k + 1) * size := by rw [List.length_append, List.length_take, ← hl]; simp; omega
        rw [← hx, List.take_left]
      have e2 : (List.take (k * size) A.toList ++ v.cells.toList ++ List.drop ((k + 1) * size) A.toList).drop ((k + 1 + r.length) * size) = A.toList.drop ((k + (v :: r).length) * size) := by
        have hx : (List.take (k * size) A.toList ++ v.cells.toList).length = (k + 1) * size := by rw [List.length_append, List.length_take, ← hl]; simp; omega
        rw [show (k + 1 + r.length) * size = (k + 1) * size + r.length * size from by rw [Nat.add_mul]]
        rw [← List.drop_drop, ← hx, List.drop_left, List.drop_drop, hx, ← Nat.add_mul]
        congr 2; simp only [List.length_cons]; omega
      rw [e1, e2]
      simp

section
variable {P : Program} {n : Nat} {K : PK} {f : Fr} {ds : List Deferred} {w : World} {d ty : Nat} {p : String} {af : Array Edge} {g : Option (Nat × Bool)} {t size bytes : Nat} {zero : Value} {dd : TypeDesc} {x y : Operand} {L : List Atom}

/-- A slice written out: a row of one's own. -/
theorem op_buildSlice (H : Holds w L) {e len size' bytes' : Nat} {z' : Value} {dd' : TypeDesc} {parts : Array (Nat × Operand)} (vs : List Value) (ti : TI P t size bytes zero (.slice e)) (ti' : TI P e size' bytes' z' dd') (hz : z'.cells.size = size')
    (hp' : (parts.toList.map fun x => (x.1, ev f x.2)) = vs.zipIdx.map fun x => (x.2, x.1)) (hlen : vs.length = len) (hs : ∀ v ∈ vs, v.cells.size = size') (hm : Nat.ble (len * size') 16777216 = true) (hpos : Nat.ble 1 size' = true) (hn : d < n)
    (k : ∀ b w', Holds w' (row e size' (.slice (some ⟨b, 0, none⟩) len len) len (vs.flatMap fun v => v.cells.toList) :: L) → K (upd f d (.slice (some ⟨b, 0, none⟩) len len)) ds w') : Op1 P n ⟨some d, .buildSlice t len parts, ty, p, af, g⟩ f ds w K := by
  subst hlen
  have hp : (parts.map fun x => (x.1, ev f x.2)).toList = vs.zipIdx.map fun x => (x.2, x.1) := by rw [← hp']; simp
  have hm' := Nat.le_of_ble_eq_true hm
  have hpos' := Nat.le_of_ble_eq_true hpos
  obtain ⟨B, hB, hBl⟩ := fill_parts size' vs 0 ((Array.range (vs.length * size')).map (z'.cells[· % z'.cells.size]!)) hs (by simp)
  have hBl' : B.toList = vs.flatMap fun v => v.cells.toList := by rw [hBl]; simp
  have hlB : (vs.flatMap fun v => v.cells.toList).length = vs.length * size' := by
    clear hBl hBl' hB hm hm' hp hp' k
    induction vs with
    | nil => simp
    | cons v r ih => simp only [List.flatMap_cons, List.length_append, List.length_cons]; rw [ih fun u hu => hs u (by simp [hu]), Array.length_toList, hs v (by simp), Nat.add_mul]; omega
  refine Op1_val rfl rfl hn (v := .slice (some ⟨w.heap.size, 0, none⟩) vs.length vs.length) (w' := w.alloc (.cells B e)) ?_ (k w.heap.size _ (H.new (Ext.alloc _ _ _) (row_ok ⟨hlB, .inr ⟨w.heap.size, vs.length, B, rfl, Nat.zero_le _, World.alloc_heap_new _ _, Nat.le_refl _, ?_, ?_, ?_⟩⟩) ?_))
  · have hz0 : (if vs.length * size' = 0 then pure #[] else do pure (← zeroValue e).cells : Sem (Array Value)).run P w = .ok (if vs.length * size' = 0 then #[] else z'.cells) w := by
      split
      · rfl
      · simp [ti'.run_zero, Result.andThen]
    have hfill : Instr.fill (fun i => some (i * size', size')) ((Array.range (vs.length * size')).map ((if vs.length * size' = 0 then #[] else z'.cells)[· % (if vs.length * size' = 0 then #[] else z'.cells).size]!)) (parts.map fun x => (x.1, ev f x.2)).toList = some B := by
      rw [hp, ← hB]
      by_cases h0 : vs.length * size' = 0
      · rw [h0]; have e0 : Array.range 0 = #[] := rfl
        rw [e0]; simp only [Array.map_empty]
      · simp only [h0, if_false]
    simp only [execOp, Instr.buildSlice, Sem.run_bind, ti.run_underlying, ti'.run_size, Result.andThen]
    rw [if_neg (by omega)]
    by_cases h0 : vs.length * size' = 0
    · rw [if_pos h0] at hfill ⊢
      simp only [Sem.run_bind, Sem.run_pure, Result.andThen, hfill, newRow, run_newObj_alloc]
    · rw [if_neg h0] at hfill ⊢
      simp only [Sem.run_bind, Sem.run_pure, Result.andThen, ti'.run_zero, hfill, newRow, run_newObj_alloc]
  · have : vs.length * 1 ≤ vs.length * size' := Nat.mul_le_mul_left _ hpos'
    simp only [maxLen]; omega
  · rw [← Array.length_toList, hBl', hlB]
  · rw [hBl', ← hlB, List.take_length]
  · intro j hj; simp [Value.ownBlock] at hj; omega

/-- A struct written out. -/
def Places (P : Program) (fs : Array Field) (pl : Array (Nat × Nat)) : Prop := ∀ w, (fs.mapM fun f => do pure (f.offset, ← sizeOf f.type) : Sem (Array (Nat × Nat))).run P w = .ok pl w
theorem y_build {fs : Array Field} {pl : Array (Nat × Nat)} {parts : Array (Nat × Operand)} {cells : Array Value} (ti : TI P t size bytes zero (.struct fs)) (hpl : Places P fs pl) (hf' : Instr.fill (pl[·]?) zero.cells (parts.toList.map fun x => (x.1, ev f x.2)) = some cells) :
    Yd P ⟨some d, .build t parts, ty, p, af, g⟩ f w (.agg cells) :=
  ⟨rfl, by
    have hf : Instr.fill (pl[·]?) zero.cells (parts.map fun x => (x.1, ev f x.2)).toList = some cells := by rw [← hf']; simp
    simp only [execOp, Instr.build, Sem.run_bind, ti.run_zero, ti.run_underlying, hpl w, hf, Result.andThen, Sem.run_pure]⟩

/-- Function k has a body: a call enters it. -/
def En (P : Program) (k : FuncId) : Prop := ∀ args w, (callFunc k args).run P w = .ok (.enter k args) w
theorem En.of {k : FuncId} {fn : Func} (hf : P.funcs[k]? = some fn) (h1 : (fn.name == "runtime.NumGoroutine") = false) (h2 : fn.body.isNone = false) : En P k := fun args w => by
  simp only [callFunc, Sem.run_bind, program, Sem.run, Result.andThen, hf, h1, h2]
  simp
theorem op_call (k : FuncId) {args : Array Operand} {tys : Array TypeId} {cap : Array Value} (en : En P k) (hx : ev f x = .func (.func k) #[] cap) (vs : List Value) (hv' : args.toList.map (ev f) ++ cap.toList = vs) (hn : d < n)
    (hc : Calls P k vs.toArray w fun e w' => ∃ v, e = .returned v ∧ K (upd f d v) ds w') : Op1 P n ⟨some d, .call { callee := .value x, args := args, argTypes := tys }, ty, p, af, g⟩ f ds w K := by
  have hv : args.map (ev f) ++ cap = vs.toArray := by rw [← hv']; simp
  exact Op1_enter rfl (fun _ h => by injection h with h; subst h; exact hn) (w' := w) (by simp [execOp, resolve, Deferred.ofValue, invoke, hx, hv, en vs.toArray w, Result.andThen]) hc
end

/-- A list of operations that leave values alone, in the world w: to a frame that K takes. -/
def QL (P : Program) (n : Nat) (all : Array Oper) : List Oper → Fr → World → (Fr → Prop) → Prop
  | [], f, _, K => K f
  | o :: rest, f, w, K => ∃ v, (∀ a, Fits n f a → (Region.wanted o (yielded all a.tmps) = true ∧ (execOp (ev f) o).run P w = .ok (.value v) w) ∨ (Region.wanted o (yielded all a.tmps) = false ∧ v = undef)) ∧ (∀ d, o.dst = some d → d < n) ∧ QL P n all rest (updO f o.dst v) w K

def okQ (md : Region.Mode) (ops : Array Oper) : Array Bool → List Nat → Bool
  | listed, [] => (Region.ready md ops listed).isEmpty
  | listed, i :: r => Region.free md ops listed i && (Region.ready md ops listed).contains i && okQ md ops (listed.setIfInBounds i true) r

section
variable {P : Program} {l : Option Nat} {n : Nat} {Q : PQ} {K : Fr → Prop} {f : Fr} {ds : List Deferred} {w : World} {all : Array Oper} {rest : List Oper} {o : Oper} {L : List Atom}

theorem QL_nil (h : K f) : QL P n all [] f w K := h
theorem QL_y {op : Op} {ty : Nat} {p : String} {af : Array Edge} {d : Nat} {v : Value} (h : Yd P ⟨some d, op, ty, p, af, none⟩ f w v) (hn : d < n) (k : QL P n all rest (upd f d v) w K) : QL P n all (⟨some d, op, ty, p, af, none⟩ :: rest) f w K :=
  ⟨v, fun a _ => .inl ⟨wanted_none rfl _, h.run⟩, fun _ e => by injection e with e; subst e; exact hn, k⟩
theorem QL_yg {op : Op} {ty : Nat} {p : String} {af : Array Edge} {d : Nat} {v : Value} {j dj : Nat} {b : Bool} (hj : (all[j]?).bind (·.dst) = some dj) (hdj : dj < n) (hb : f dj = .bool b) (h : Yd P ⟨some d, op, ty, p, af, some (j, b)⟩ f w v) (hn : d < n)
    (k : QL P n all rest (upd f d v) w K) : QL P n all (⟨some d, op, ty, p, af, some (j, b)⟩ :: rest) f w K :=
  ⟨v, fun a ha => .inl ⟨by simp [Region.wanted, yielded_at ha hj hdj hb], h.run⟩, fun _ e => by injection e with e; subst e; exact hn, k⟩
theorem QL_s {dst : Option Nat} {op : Op} {ty : Nat} {p : String} {af : Array Edge} {j dj : Nat} {b b' : Bool} (hj : (all[j]?).bind (·.dst) = some dj) (hdj : dj < n) (hb : f dj = .bool b') (hne : (b' == b) = false) (hdst : ∀ d, dst = some d → d < n)
    (k : QL P n all rest (updO f dst undef) w K) : QL P n all (⟨dst, op, ty, p, af, some (j, b)⟩ :: rest) f w K :=
  ⟨undef, fun a ha => .inr ⟨by simp only [Region.wanted, yielded_at ha hj hdj hb]; cases b <;> cases b' <;> simp_all, rfl⟩, hdst, k⟩

theorem wpAny_of_QL {ops : Array Oper} (hs : Region.noSelect ops = true) {Q' : Exit → Act → World → Prop} (hQ : ∀ c a w, ¬ Q' (.panic c) a w) : ∀ (ops' : List Oper) (k : Nat) (listed : Array Bool) (f : Fr) (a : Act) (fuel : Nat), (∀ j, ops'[j]? = ops[k + j]?) → okQ .any ops listed (List.range' k ops'.length) = true → ops'.length ≤ fuel →
    Fits n f a → QL P n ops ops' f w (fun f' => ∀ a', Fits n f' a' → a'.defers = a.defers → Q' .normal a' w) → wpAnyH P .any ops Q' (fun w' => w' = w) fuel listed a w
  | [], k, listed, f, a, fuel, _, hok, _, ha, h => wpAnyH_done (by simpa [okQ] using hok) (h a ha rfl) fuel
  | o :: r, k, listed, f, a, fuel, hops, hok, hfu, ha, h => by
    obtain ⟨v, hv, hd, h⟩ := h
    simp only [List.length_cons, List.range'_succ, okQ, Bool.and_eq_true] at hok
    obtain ⟨⟨h1, h2⟩, h3⟩ := hok
    obtain ⟨fuel, rfl⟩ : ∃ m, fuel = m + 1 := ⟨fuel - 1, by simp at hfu; omega⟩
    have hi : ops[k]? = some o := by have := hops 0; simpa using this.symm
    refine wpAnyH_take (v := v) hi hs h1 h2 (fun c a w h => (hQ _ _ _ h).elim) ?_ rfl ?_
    · rcases hv a ha with ⟨hw, hr⟩ | ⟨hw, hu⟩
      · exact .inl ⟨hw, fun w' e => by subst e; rw [ha.eval]; exact hr⟩
      · exact .inr ⟨hw, hu⟩
    · have hdef : (a.put o.dst v).defers = a.defers := by cases o.dst <;> rfl
      refine wpAny_of_QL hs hQ r (k + 1) _ (updO f o.dst v) _ fuel (fun j => by have := hops (j + 1); simpa [Nat.add_assoc, Nat.add_comm 1 j] using this) h3 (by simp at hfu; omega) (ha.putO hd v) ?_
      rw [hdef]; exact h

/-- The plain word of a drawn region, to the fenced one: where the end is no panic and no outgrowing. -/
theorem wpOpIn_of_wpOp {ops : Array Oper} {Q' : Exit → Act → World → Prop} (hout : ∀ a w, ¬ Q' .outgrown a w) {i : Nat} {Kk : Act → World → Prop} {a : Act} (hnd : ∀ (j : Nat) o, ops[j]? = some o → ndefer o.op = true) (h : wpOp P ops Q' i Kk a w) : wpOpIn (fe l) 0 P ops Q' i Kk a w := by
  unfold wpOp at h
  unfold wpOpIn
  cases hi : ops[i]? with
  | none => rw [hi] at h; exact h
  | some o =>
    rw [hi] at h
    simp only at h ⊢
    split at h
    · rename_i hw
      rw [if_pos hw]
      rcases h with h | ⟨_, a0, w0, h0⟩
      · exact wpIn_of_wp (hnd i o hi) h
      · exact (hout _ _ h0).elim
    · rename_i hw
      rw [if_neg hw]
      exact ⟨fun g _ => fe_fn l g, h⟩
theorem wpAnyIn_of_wpAny {ops : Array Oper} {Q' : Exit → Act → World → Prop} (hout : ∀ a w, ¬ Q' .outgrown a w) (hnd : ∀ (j : Nat) o, ops[j]? = some o → ndefer o.op = true) : ∀ (fuel : Nat) (listed : Array Bool) (a : Act) (w : World), wpAny P .any ops Q' fuel listed a w → wpAnyIn (fe l) 0 P .any ops Q' fuel listed a w
  | 0, _, _, _, h => h
  | fuel + 1, listed, a, w, h => ⟨h.1, fun i hi => wpOpIn_mono (fun a w h => wpAnyIn_of_wpAny hout hnd fuel _ a w h) (wpOpIn_of_wpOp hout hnd (h.2 i hi))⟩

def okD (ops : List Oper) : Bool := ops.all (fun o => ndefer o.op) && Region.noSelect ops.toArray
theorem okD_nd {ops : List Oper} (h : okD ops = true) (j : Nat) (o : Oper) (hj : ops.toArray[j]? = some o) : ndefer o.op = true := by
  simp only [okD, Bool.and_eq_true, List.all_eq_true] at h
  exact h.1 o (List.mem_of_getElem? (by simpa using hj))
def noPan (Q : Exit → Act → World → Prop) : Exit → Act → World → Prop
  | .panic _, _, _ => False
  | .outgrown, _, _ => False
  | e, a, w => Q e a w
/-- The region: from a world that differs from w in the draw alone. -/
theorem W_drawH {id : Nat} {ops : List Oper} (hm : P.follows .mixedOrders = true) (hok : okD ops = true) (S : World → Prop)
    (h : ∀ a, Fits n f a → a.defers = ds → wpAnyH P .any ops.toArray (noPan (lift n Q)) S ops.length (Array.replicate ops.length false) a (w.drewN 1)) : W P l n (.region id ops.toArray true) Q f ds w := fun a ha hd => by
  have h1 := wpAny_of_held _ _ _ _ (h a ha hd)
  have h2 := wpAnyIn_of_wpAny (l := l) (fun a w h => h) (okD_nd hok) _ _ _ _ h1
  refine wpIn_mono (wpIn_region_any (Q := noPan (lift n Q)) hm (by rw [List.size_toArray]; exact h2)) fun e a w q => ?_
  cases e with
  | panic c => exact q.elim
  | outgrown => exact q.elim
  | _ => exact q
/-- All operations leave values alone: in the order of the text. -/
theorem W_drawQ {id : Nat} {ops : List Oper} (H : Holds w L) (hm : P.follows .mixedOrders = true) (hok : okD ops = true) (hq : okQ .any ops.toArray (Array.replicate ops.length false) (List.range' 0 ops.length) = true)
    (h : ∀ w', Holds w' L → QL P n ops.toArray ops f w' (fun f' => Q .normal f' ds w')) : W P l n (.region id ops.toArray true) Q f ds w := by
  refine W_drawH hm hok (fun w' => w' = w.drewN 1) fun a ha hd => ?_
  simp only [okD, Bool.and_eq_true] at hok
  refine wpAny_of_QL hok.2 (fun c a w h => h) ops 0 _ f a _ (fun j => by simp) hq (Nat.le_refl _) ha ?_
  have := h _ (H.drew 1)
  revert this
  generalize w.drewN 1 = w1
  clear ha hq
  intro hh
  have key : ∀ (ops' : List Oper) (f : Fr), QL P n ops.toArray ops' f w1 (fun f' => Q .normal f' ds w1) → QL P n ops.toArray ops' f w1 (fun f' => ∀ a', Fits n f' a' → a'.defers = a.defers → noPan (lift n Q) .normal a' w1) := by
    intro ops'
    induction ops' with
    | nil => intro f h a' ha' hd'; exact ⟨f, ha', by rw [hd', hd]; exact h⟩
    | cons o r ih => rintro f ⟨v, h1, h2, h3⟩; exact ⟨v, h1, h2, ih _ h3⟩
  exact key _ _ hh
end
end Go.Wk

namespace Go.Wk
open Go
set_option linter.unusedVariables false
set_option linter.unusedSimpArgs false

theorem laid_full : ∀ (vs : List Value) (pre : List Value) (C : List Value), C.length = vs.length → laid (pre ++ C).toArray pre.length vs = (pre ++ vs).toArray
  | [], pre, C, h => by simp at h; subst h; rfl
  | v :: r, pre, [], h => by simp at h
  | v :: r, pre, c :: C, h => by
    simp only [laid]
    have e : (pre ++ c :: C).toArray.setIfInBounds pre.length v = (pre ++ [v] ++ C).toArray := by
      simp [List.setIfInBounds_toArray, List.set_append]
    rw [e]
    have := laid_full r (pre ++ [v]) C (by simpa using h)
    simp only [List.length_append, List.length_cons, List.length_nil] at this
    rw [this]; simp
theorem laid_all (C : Array Value) (vs : Array Value) (h : C.size = vs.size) : laid C 0 vs.toList = vs := by
  have := laid_full vs.toList [] C.toList (by simpa using h)
  simpa using this

section
variable {P : Program} {l : Option Nat} {n : Nat} {Q : PQ} {f : Fr} {ds : List Deferred} {w : World} {d t size bytes : Nat} {zero : Value} {dd : TypeDesc} {y : Operand} {L : List Atom} {all : Array Oper} {rest : List Oper} {ty1 ty2 : Nat} {p1 p2 : String} {a1 a2 : Array Edge}
/-- 'x := v' where x lies in memory: made, and filled. -/
theorem OL_var (H : Holds w L) (ti : TI P t size bytes zero dd) (hz : zero.cells.size = size) {v : Value} (hn : d < n) (hy : ∀ u, ev (upd f d u) y = v) (hs : v.cells.size = size) (h1 : ∀ u ∈ v.cells.toList, u.oneCell' = true)
    (k : ∀ b w', Holds w' (own b (.cells v.cells t) :: L) → OL P l n all Q rest (upd f d (.pointer (some ⟨b, 0, none⟩))) ds w') :
    OL P l n all Q (⟨some d, .alloc t, ty1, p1, a1, none⟩ :: ⟨none, .store t (.tmp d) y, ty2, p2, a2, none⟩ :: rest) f ds w := by
  refine OL_c (op_alloc H ti hn fun b w' H' => ?_)
  refine OL_c (op_store H' 0 rfl ti (upd_same _ _ _) (hy _) hs (by rw [hz]; omega) h1 fun w'' H'' => ?_)
  have e : laid zero.cells 0 v.cells.toList = v.cells := laid_all _ _ (by rw [hz, hs])
  rw [e] at H''
  exact k b w'' H''
theorem y_add64 {x y : Operand} {a b : Int} {t t' ty : Nat} {p : String} {af : Array Edge} {g : Option (Nat × Bool)} (hx : ev f x = .int .i64 a) (hy : ev f y = .int .i64 b) (h1 : -9223372036854775808 ≤ a + b) (h2 : a + b < 9223372036854775808) :
    Yd P ⟨some d, .binOp .add t x y t', ty, p, af, g⟩ f w (.int .i64 (a + b)) := by
  have := y_addw (P := P) (w := w) (d := d) (t := t) (t' := t') (ty := ty) (p := p) (af := af) (g := g) hx hy
  rwa [show IntKind.i64.wrap (a + b) = a + b from IntWalk.i64_in _ (by omega)] at this
theorem y_sub64 {x y : Operand} {a b : Int} {t t' ty : Nat} {p : String} {af : Array Edge} {g : Option (Nat × Bool)} (hx : ev f x = .int .i64 a) (hy : ev f y = .int .i64 b) (h1 : -9223372036854775808 ≤ a - b) (h2 : a - b < 9223372036854775808) :
    Yd P ⟨some d, .binOp .sub t x y t', ty, p, af, g⟩ f w (.int .i64 (a - b)) := by
  have := y_subw (P := P) (w := w) (d := d) (t := t) (t' := t') (ty := ty) (p := p) (af := af) (g := g) hx hy
  rwa [show IntKind.i64.wrap (a - b) = a - b from IntWalk.i64_in _ (by omega)] at this
end

/-- Data that stand on no memory. -/
def Ty.flat {α : Type} (T : Ty α) : Prop := ∀ {Z Z' : Nat → Prop} {w w' : World} {cs : List Value} {x : α}, T.R Z w cs x → T.R Z' w' cs x
theorem tInt_flat (k : IntKind) : (tInt k).flat := fun h => h
theorem Els.flat {α : Type} {T : Ty α} (hf : T.flat) {Z Z' : Nat → Prop} {w w' : World} {cs : List Value} {xs : List α} (h : Els T Z w cs xs) : Els T Z' w' cs xs := ⟨h.1, fun i x hx => hf (h.2 i x hx)⟩

/-- A row of one's own: what holds of it as a slice. -/
theorem Holds.rowLen {w : World} {L : List Atom} (h : Holds w L) (i : Nat) {e size : Nat} {v : Value} {n : Nat} {cs : List Value} (hi : L[i]? = some (row e size v n cs)) : ∃ a c, v = .slice a n c ∧ n ≤ c ∧ c ≤ maxLen := by
  obtain ⟨a, c, h1, h2, _, h3⟩ := ownsRow_slice (h.get hi); exact ⟨a, c, h1, h2, h3⟩
theorem Holds.getRow {w : World} {L : List Atom} (h : Holds w L) (i : Nat) {e size : Nat} {v : Value} {n : Nat} {cs : List Value} (hi : L[i]? = some (row e size v n cs)) : w.ownsRow 0 e size v n cs := h.get hi
/-- An exclusive atom lies beyond what was there at the begin. -/
theorem Holds.fresh {w : World} {L : List Atom} (h : Holds w L) (i j : Nat) {a : Atom} {n0 : Nat} {w0 : World} (hi : L[i]? = some a) (hj : L[j]? = some (shr (fun k => k < n0) w0)) (hx : a.excl = true := by rfl) : ∀ k, a.F k → n0 ≤ k := by
  intro k hk
  have hmem := List.mem_of_getElem? hj
  have hne : i ≠ j := by
    rintro rfl
    rw [hi] at hj; injection hj with hj; subst hj; cases hx
  have hap := getElem_apart h.apart hi (shr (fun k => k < n0) w0) (by
    rw [List.mem_eraseIdx_iff_getElem?]
    exact ⟨j, Ne.symm hne, hj⟩) (.inl hx) k hk
  exact Nat.le_of_not_lt hap

theorem Src.row {w : World} {e size : Nat} {v : Value} {n : Nat} {cs : List Value} (h : w.ownsRow 0 e size v n cs) : Src w v n cs := by
  rcases h.2 with ⟨rfl, rfl⟩ | ⟨g, cap, cur, rfl, _, hh, hc, hm, hsz, ht⟩
  · exact ⟨none, 0, rfl, fun _ => ⟨rfl, rfl⟩, fun A e => (by cases e)⟩
  · exact Src.cells (Cells.of hh (by rw [List.drop_zero, h.1]; exact ht)) n cap

/-- A function that writes into a row that came in: it starts with the row, and with all else. -/
theorem Holds.startRow {w : World} {e size : Nat} {v : Value} {n : Nat} {cs : List Value} (h : w.ownsRow 0 e size v n cs) : Holds w [row e size v n cs, shr (fun k => k < w.heap.size ∧ v.ownBlock ≠ some k) w] :=
  ((Holds.nil w).cons (a := shr (fun k => k < w.heap.size ∧ v.ownBlock ≠ some k) w) ⟨⟨Nat.le_refl _, rfl, rfl, rfl, fun _ _ => rfl⟩, fun _ h => h.1, shr_stable fun _ h => h.1⟩ (by simp)).cons (row_ok h) fun b hb _ k hk hF => by
    simp only [List.mem_singleton] at hb; subst hb; exact hF.2 hk
end Go.Wk

namespace Go.Wk
open Go
set_option linter.unusedVariables false
set_option linter.unusedSimpArgs false

/-- The blocks Z are as they were in w0; nobody else stands on them. -/
abbrev exc (Z : Nat → Prop) (w0 : World) : Atom := ⟨true, Z, fun w => w0.heap.size ≤ w.heap.size ∧ w.os = w0.os ∧ w.tape = w0.tape ∧ w.output = w0.output ∧ ∀ k, Z k → w.heap[k]? = w0.heap[k]?⟩
theorem exc_stable {Z : Nat → Prop} {w0 : World} (hZ : ∀ k, Z k → k < w0.heap.size) : (exc Z w0).stable := shr_stable (Z := Z) hZ
theorem exc_ok {Z : Nat → Prop} {w : World} (hZ : ∀ k, Z k → k < w.heap.size) : (exc Z w).ok w := ⟨⟨Nat.le_refl _, rfl, rfl, rfl, fun _ _ => rfl⟩, hZ, exc_stable hZ⟩

/-- A round's contract, where yield is called at v. -/
def YieldAt (P : Program) (l : Nat) (v : Value) (W : World) (R : Ending → World → Prop) : Prop :=
  ∃ fn tmps assign body, (Instr.yield l #[v]).run P W = .ok (.round l fn tmps assign body) W ∧ RoundIn Fence.wide 0 P l fn tmps assign body W R

/-- What the loop that ranges owes: J pre B: 'pre' has come, the loop stands on the blocks B (and reads blocks below n0). -/
structure Ranger {α : Type} (P : Program) (enc : α → Value) (xs : List α) (n0 : Nat) (l : Nat) (J Jx : List α → (Nat → Prop) → World → Prop) : Prop where
  stable : ∀ pre B w w', J pre B w → w.heap.size ≤ w'.heap.size → w'.os = w.os → w'.tape = w.tape → w'.output = w.output → (∀ k, k < w.heap.size → (B k ∨ k < n0) → w'.heap[k]? = w.heap[k]?) → J pre B w'
  stablex : ∀ pre B w w', Jx pre B w → w.heap.size ≤ w'.heap.size → w'.os = w.os → w'.tape = w.tape → w'.output = w.output → (∀ k, k < w.heap.size → (B k ∨ k < n0) → w'.heap[k]? = w.heap[k]?) → Jx pre B w'
  bnd : ∀ pre B w, J pre B w → n0 ≤ w.heap.size ∧ ∀ k, B k → k < w.heap.size
  bndx : ∀ pre B w, Jx pre B w → n0 ≤ w.heap.size ∧ ∀ k, B k → k < w.heap.size
  round : ∀ pre x B W, J pre B W → (pre ++ [x]) <+: xs → YieldAt P l (enc x) W fun e W' => ∃ B', Ext B W W' ∧ (∀ k, B' k → B k ∨ W.heap.size ≤ k) ∧
    ((e = .returned (.bool true) ∧ J (pre ++ [x]) B' W') ∨ (e = .returned (.bool false) ∧ Jx (pre ++ [x]) B' W'))

/-- A call of yield in an iterator's text. -/
theorem OL_yield {P : Program} {l : Option Nat} {n : Nat} {Q : PQ} {f : Fr} {ds : List Deferred} {w : World} {all : Array Oper} {rest : List Oper} {d ty : Nat} {p : String} {af : Array Edge} {x y : Operand} {tys : Array TypeId} {l' : Nat} {v : Value} {R : Ending → World → Prop}
    (h : YieldAt P l' v w R) (hx : ev f x = .func (.yield l') #[] #[]) (hy : ev f y = v) (hn : d < n)
    (k : ∀ e w', R e w' → ∃ u, e = .returned u ∧ OL P l n all Q rest (upd f d u) ds w') :
    OL P l n all Q (⟨some d, .call { callee := .value x, args := #[y], argTypes := tys }, ty, p, af, none⟩ :: rest) f ds w := by
  obtain ⟨fn, tmps, assign, body, h1, h2⟩ := h
  refine OL_round (l' := l') (g := fn) (tmps := tmps) (assign := assign) (body := body) rfl rfl (fun _ h => by injection h with h; subst h; exact hn) ?_ (h2.mono k)
  simp [execOp, resolve, Deferred.ofValue, invoke, hx, hy, h1, Result.andThen]

/-- The atoms an iterator starts with: what the loop stands on; all other old blocks. -/
abbrev aB (B B0 : Nat → Prop) (W0 : World) : Atom := exc (fun k => B k ∨ B0 k) W0
abbrev aZ (B0 : Nat → Prop) (w : World) : Atom := shr (fun k => k < w.heap.size ∧ ¬ B0 k) w
/-- The loop stood so when yield was last left. -/
structure ItInv (w W0 : World) (B0 B : Nat → Prop) : Prop where
  sub : ∀ k, B k → B0 k ∨ w.heap.size ≤ k
  base : ∀ k, k < w.heap.size → ¬ B0 k → W0.heap[k]? = w.heap[k]?
  le : w.heap.size ≤ W0.heap.size
  bnd : ∀ k, B k ∨ B0 k → k < W0.heap.size
section
variable {α : Type} {P : Program} {enc : α → Value} {xs : List α} {l : Nat} {J Jx : List α → (Nat → Prop) → World → Prop} {w W0 W : World} {B0 B : Nat → Prop} {L : List Atom} {pre : List α}
theorem Ranger.start (hR : Ranger P enc xs w.heap.size l J Jx) (hJ : J [] B w) : Holds w [aB B B w, aZ B w] ∧ ItInv w w B B := by
  have hb := (hR.bnd _ _ _ hJ).2
  refine ⟨(((Holds.nil w).cons (a := aZ B w) ⟨⟨Nat.le_refl _, rfl, rfl, rfl, fun _ _ => rfl⟩, fun k h => h.1, shr_stable fun k h => h.1⟩ (by simp)).cons (exc_ok fun k h => hb k (h.elim id id)) ?_), fun k h => .inl h, fun _ _ _ => rfl, Nat.le_refl _, fun k h => hb k (h.elim id id)⟩
  intro b hm _ k hk hF
  simp only [List.mem_singleton] at hm; subst hm
  exact hF.2 (hk.elim id id)
theorem ItInv.agree (hi : ItInv w W0 B0 B) (H : Holds W L) {i j : Nat} (h1 : L[i]? = some (aB B B0 W0)) (h2 : L[j]? = some (aZ B0 w)) : ∀ k, k < W0.heap.size → (B k ∨ k < w.heap.size) → W.heap[k]? = W0.heap[k]? := by
  obtain ⟨_, _, _, _, e1⟩ := H.get h1
  obtain ⟨_, _, _, _, e2⟩ := H.get h2
  intro k hk hor
  by_cases hB : B k ∨ B0 k
  · exact e1 k hB
  · have hkn : k < w.heap.size := hor.elim (fun h => (hB (.inl h)).elim) id
    exact (e2 k ⟨hkn, fun h => hB (.inr h)⟩).trans (hi.base k hkn fun h => hB (.inr h)).symm
theorem Ranger.at (hR : Ranger P enc xs w.heap.size l J Jx) (hJ : J pre B W0) (hi : ItInv w W0 B0 B) (H : Holds W L) {i j : Nat} (h1 : L[i]? = some (aB B B0 W0)) (h2 : L[j]? = some (aZ B0 w)) : J pre B W := by
  obtain ⟨a, b, c, d, _⟩ := H.get h1
  exact hR.stable pre B W0 W hJ a b c d (hi.agree H h1 h2)
theorem Ranger.atx (hR : Ranger P enc xs w.heap.size l J Jx) (hJ : Jx pre B W0) (hi : ItInv w W0 B0 B) (H : Holds W L) {i j : Nat} (h1 : L[i]? = some (aB B B0 W0)) (h2 : L[j]? = some (aZ B0 w)) : Jx pre B W := by
  obtain ⟨a, b, c, d, _⟩ := H.get h1
  exact hR.stablex pre B W0 W hJ a b c d (hi.agree H h1 h2)
theorem ItInv.ext (H : Holds W L) {j : Nat} (h2 : L[j]? = some (aZ B0 w)) : Ext B0 w W := by
  obtain ⟨a, b, c, d, e⟩ := H.get h2
  exact ⟨b, c, d, a, fun k hk hB => e k ⟨hk, hB⟩⟩
/-- A call of yield. -/
theorem Ranger.yield (hR : Ranger P enc xs w.heap.size l J Jx) (hJ : J pre B W0) (hi : ItInv w W0 B0 B) (H : Holds W L) (i j : Nat) (h1 : L[i]? = some (aB B B0 W0)) (h2 : L[j]? = some (aZ B0 w)) {x : α} (hx : (pre ++ [x]) <+: xs) :
    YieldAt P l (enc x) W fun e W' => (e = .returned (.bool true) ∧ ∃ B', J (pre ++ [x]) B' W' ∧ ItInv w W' B0 B' ∧ Holds W' (L.set i (aB B' B0 W'))) ∨ (e = .returned (.bool false) ∧ ∃ B', Jx (pre ++ [x]) B' W' ∧ ItInv w W' B0 B' ∧ Holds W' (L.set i (aB B' B0 W'))) := by
  obtain ⟨fn, tmps, assign, body, hy, hr⟩ := hR.round pre x B W (hR.at hJ hi H h1 h2) hx
  refine ⟨fn, tmps, assign, body, hy, hr.mono ?_⟩
  rintro e W' ⟨B', hE, hB', hor⟩
  have hlt : ∀ k, B k ∨ B0 k → k < W.heap.size := fun k hk => (H.ok _ (List.mem_of_getElem? h1)).2.1 k hk
  have key : (∀ k, B' k → k < W'.heap.size) → ItInv w W' B0 B' ∧ Holds W' (L.set i (aB B' B0 W')) := fun hb' => by
    have hb2 : ∀ k, B' k ∨ B0 k → k < W'.heap.size := fun k hk => hk.elim (hb' k) fun h => Nat.lt_of_lt_of_le (hlt k (.inr h)) hE.size
    have H' := H.step i h1 rfl (a' := aB B' B0 W') hE (fun k _ hB => .inl hB) (exc_ok hb2) (fun k hk => by
      rcases hk with hk | hk
      · rcases hB' k hk with h | h
        · exact .inl (.inl h)
        · exact .inr h
      · exact .inl (.inr hk))
    refine ⟨⟨fun k hk => ?_, fun k hk hn => ?_, ?_, hb2⟩, H'⟩
    · rcases hB' k hk with h | h
      · exact hi.sub k h
      · obtain ⟨a, _⟩ := H.get h2
        exact .inr (by omega)
    · by_cases hB : B k
      · rcases hi.sub k hB with h | h
        · exact (hn h).elim
        · omega
      · obtain ⟨a, _, _, _, e⟩ := H.get h2
        exact (hE.blk k (by omega) hB).trans (e k ⟨hk, hn⟩)
    · obtain ⟨a, _⟩ := H.get h2
      have := hE.size; omega
  rcases hor with ⟨he, hJ'⟩ | ⟨he, hJ'⟩
  · obtain ⟨k1, k2⟩ := key (hR.bnd _ _ _ hJ').2
    exact .inl ⟨he, B', hJ', k1, k2⟩
  · obtain ⟨k1, k2⟩ := key (hR.bndx _ _ _ hJ').2
    exact .inr ⟨he, B', hJ', k1, k2⟩
/-- The iterator's end: all have come; or the loop was left. -/
theorem Ranger.done (hR : Ranger P enc xs w.heap.size l J Jx) (hJ : J xs B W0) (hi : ItInv w W0 B0 B) (H : Holds W L) (i j : Nat) (h1 : L[i]? = some (aB B B0 W0)) (h2 : L[j]? = some (aZ B0 w)) :
    ∃ B', Ext B0 w W ∧ (∀ k, B' k → B0 k ∨ w.heap.size ≤ k) ∧ (J xs B' W ∨ ∃ pre, pre <+: xs ∧ Jx pre B' W) := ⟨B, ItInv.ext H h2, hi.sub, .inl (hR.at hJ hi H h1 h2)⟩
theorem Ranger.left (hR : Ranger P enc xs w.heap.size l J Jx) (hJ : Jx pre B W0) (hp : pre <+: xs) (hi : ItInv w W0 B0 B) (H : Holds W L) (i j : Nat) (h1 : L[i]? = some (aB B B0 W0)) (h2 : L[j]? = some (aZ B0 w)) :
    ∃ B', Ext B0 w W ∧ (∀ k, B' k → B0 k ∨ w.heap.size ≤ k) ∧ (J xs B' W ∨ ∃ pre, pre <+: xs ∧ Jx pre B' W) := ⟨B, ItInv.ext H h2, hi.sub, .inr ⟨pre, hp, hR.atx hJ hi H h1 h2⟩⟩
end

/-- The blocks that a bundle stands on, but for shared ones below n0. -/
def feet (n0 : Nat) (L : List Atom) (k : Nat) : Prop := ∃ a ∈ L, a.F k ∧ (a.excl = true ∨ n0 ≤ k)

theorem Holds.agree {w w' : World} {L : List Atom} (h : Holds w L) {n0 : Nat} (hs : w.heap.size ≤ w'.heap.size) (h1 : w'.os = w.os) (h2 : w'.tape = w.tape) (h3 : w'.output = w.output)
    (hk : ∀ k, k < w.heap.size → (feet n0 L k ∨ k < n0) → w'.heap[k]? = w.heap[k]?) : Holds w' L :=
  ⟨fun a ha => by
    obtain ⟨p, b, s⟩ := h.ok a ha
    refine ⟨s w w' hs h1 h2 h3 (fun k hF hl => hk k hl ?_) p, fun k hF => Nat.lt_of_lt_of_le (b k hF) hs, s⟩
    by_cases hx : a.excl = true
    · exact .inl ⟨a, ha, hF, .inl hx⟩
    · by_cases hn : k < n0
      · exact .inr hn
      · exact .inl ⟨a, ha, hF, .inr (by omega)⟩, h.apart⟩

inductive Leave where | ret | exit (id : Nat) | goto (l : Nat)
def Leave.code : Leave → Code
  | .ret => .ret
  | .exit i => .exit i
  | .goto i => .goto i
def Leave.out : Leave → Exit
  | .ret => .ret
  | .exit i => .exit i
  | .goto i => .goto i

/-- How a round's body is left: on (Ls' holds what is asked), or out of the loop. -/
def bodyQ {α : Type} (aL aD aO : Atom) (I : List α → List Atom → Prop) (Ix : Leave → List α → List Atom → Prop) (pre : List α) : PQ
  | .normal, _, _, W => ∃ Ls, I pre Ls ∧ Holds W (aL :: aD :: aO :: Ls)
  | .ret, _, _, W => ∃ Ls, Ix .ret pre Ls ∧ Holds W (aL :: aD :: aO :: Ls)
  | .exit i, _, _, W => ∃ Ls, Ix (.exit i) pre Ls ∧ Holds W (aL :: aD :: aO :: Ls)
  | .goto i, _, _, W => ∃ Ls, Ix (.goto i) pre Ls ∧ Holds W (aL :: aD :: aO :: Ls)
  | _, _, _, _ => False

section
variable {P : Program} {n : Nat} {Q : PQ} {f : Fr} {ds : List Deferred} {w : World} {L : List Atom}

theorem fits_param {a : Act} {tp : Nat} (ha : Fits n f a) (htp : tp < n) (v : Value) : Fits n (upd f tp v) { tmps := a.tmps.setIfInBounds tp v, defers := [] } := by
  have := ha.put htp v
  exact ⟨this.1, this.2⟩

end
end Go.Wk

namespace Go.Wk
open Go
set_option linter.unusedVariables false
set_option linter.unusedSimpArgs false
set_option linter.unusedSectionVars false

theorem sameBits_int (n : Nat) (k : IntKind) (a : Int) : Instr.sameBits n (.int k a) (.int k a) = true := by cases n <;> simp [Instr.sameBits]
theorem bytes_beq (a b : ByteArray) : (a == b) = decide (a = b) := by
  obtain ⟨a⟩ := a
  obtain ⟨b⟩ := b
  rw [Bool.eq_iff_iff, decide_eq_true_iff, ByteArray.mk.injEq]
  show (a == b) = true ↔ _
  exact beq_iff_eq
theorem sameBits_str (n : Nat) (a : ByteArray) : Instr.sameBits n (.string a) (.string a) = true := by cases n <;> simp [Instr.sameBits, bytes_beq]
theorem eraseIdx_map' {α β : Type} (f : α → β) : ∀ (l : List α) (j : Nat), (l.map f).eraseIdx j = (l.eraseIdx j).map f
  | [], _ => by simp
  | x :: l, 0 => by simp
  | x :: l, j + 1 => by simp [eraseIdx_map' f l j]
theorem checkKey_int {P : Program} {t : TypeId} {k : IntKind} (h : P.underlying t = some (.int k)) (e : Bool) (n : Nat) (a : Int) (w : World) : (Instr.checkKey e (n + 1) t (.int k a)).run P w = .ok () w := by
  simp only [Instr.checkKey, Sem.run_bind, run_underlying h, Result.andThen]; rfl
theorem checkKey_str {P : Program} {t : TypeId} (h : P.underlying t = some .string) (e : Bool) (n : Nat) (a : ByteArray) (w : World) : (Instr.checkKey e (n + 1) t (.string a)).run P w = .ok () w := by
  simp only [Instr.checkKey, Sem.run_bind, run_underlying h, Result.andThen]; rfl

/-- The keys of a map: how they are written; two are compared at once. -/
structure KeyOK (P : Program) (t : TypeId) {κ : Type} [DecidableEq κ] (K : κ → Value) : Prop where
  same : ∃ d, P.underlying t = some d ∧ ∀ a b, Instr.sameNow d (K a) (K b) = some (decide (a = b))
  chk : ∀ e a w, (Instr.checkKey e 10000 t (K a)).run P w = .ok () w
  bits : ∀ a, Instr.sameBits 10000 (K a) (K a) = true
theorem KeyOK.int {P : Program} {t : TypeId} {k : IntKind} (h : P.underlying t = some (.int k)) : KeyOK P t (Value.int k) :=
  ⟨⟨_, h, fun a b => by simp [Instr.sameNow, beq_dec]⟩, fun e a w => checkKey_int h e 9999 a w, fun a => sameBits_int _ _ _⟩
theorem KeyOK.str {P : Program} {t : TypeId} (h : P.underlying t = some .string) : KeyOK P t Value.string :=
  ⟨⟨_, h, fun a b => by
    simp only [Instr.sameNow, bytes_beq]⟩, fun e a w => checkKey_str h e 9999 a w, fun a => sameBits_str _ _⟩

section
variable {κ : Type} [DecidableEq κ]
def mget (m : List (κ × Value)) (k : κ) : Option Value := (m.find? fun x => decide (x.1 = k)).map (·.2)
def mset (m : List (κ × Value)) (k : κ) (v : Value) : List (κ × Value) := if k ∈ m.map (·.1) then m.map (fun x => if x.1 = k then (k, v) else x) else m ++ [(k, v)]
def mdel (m : List (κ × Value)) (k : κ) : List (κ × Value) := m.filter fun x => decide (x.1 ≠ k)

/-- The object is a map that reads as m. -/
def MapObj (K : κ → Value) (m : List (κ × Value)) (o : Obj) : Prop := ∃ es clock, o = .map es clock ∧ es.toList.map (fun e => (e.key, e.val)) = m.map (fun x => (K x.1, x.2)) ∧ (m.map (·.1)).Nodup ∧
  es.toList.Pairwise (fun a b => a.born < b.born) ∧ ∀ e ∈ es.toList, e.born < clock
abbrev mp (K : κ → Value) (b : Nat) (m : List (κ × Value)) : Atom := ⟨true, fun k => k = b, fun w => ∃ o, w.heap[b]? = some o ∧ MapObj K m o⟩
theorem mp_stable (K : κ → Value) (b : Nat) (m : List (κ × Value)) : (mp K b m).stable := by
  rintro w w' hs _ _ _ h ⟨o, hp, ho⟩
  exact ⟨o, (h b rfl (own_lt hp)).trans hp, ho⟩
theorem mp_ok {w : World} {K : κ → Value} {b : Nat} {m : List (κ × Value)} {o : Obj} (h : w.heap[b]? = some o) (ho : MapObj K m o) : (mp K b m).ok w := ⟨⟨o, h, ho⟩, fun k hk => by simp only at hk; subst hk; exact own_lt h, mp_stable _ _ _⟩

/-- Where a key stands. -/
theorem findNow_eq {P : Program} {t : TypeId} {K : κ → Value} {d : TypeDesc} (hd : ∀ a b, Instr.sameNow d (K a) (K b) = some (decide (a = b))) (k : κ) : ∀ (es : List MapEntry) (m : List (κ × Value)) (i : Nat), es.map (fun e => (e.key, e.val)) = m.map (fun x => (K x.1, x.2)) →
    Instr.findNow d (K k) es i = some ((m.findIdx? fun x => decide (x.1 = k)).bind fun j => (m[j]?).map fun x => (i + j, x.2))
  | [], m, i, h => by
    cases m with
    | nil => rfl
    | cons x m => simp at h
  | e :: es, m, i, h => by
    cases m with
    | nil => simp at h
    | cons x m =>
      simp only [List.map_cons, List.cons.injEq, Prod.mk.injEq] at h
      obtain ⟨⟨h1, h2⟩, h3⟩ := h
      simp only [Instr.findNow, h1, hd, List.findIdx?_cons]
      by_cases hx : x.1 = k
      · subst hx; simp [h2]
      · have hk : ¬ k = x.1 := fun e => hx e.symm
        simp only [hx, hk, decide_false]
        rw [findNow_eq (P := P) (t := t) hd k es m (i + 1) h3]
        simp only [Bool.false_eq_true, if_false]
        cases hf : m.findIdx? fun x => decide (x.1 = k) with
        | none => simp
        | some j => simp [Nat.add_assoc, Nat.add_comm 1 j]
theorem run_findKey {P : Program} {t : TypeId} {K : κ → Value} (hk : KeyOK P t K) (k : κ) {es : List MapEntry} {m : List (κ × Value)} (h : es.map (fun e => (e.key, e.val)) = m.map (fun x => (K x.1, x.2))) (w : World) :
    (Instr.findKey t (K k) es).run P w = .ok ((m.findIdx? fun x => decide (x.1 = k)).bind fun j => (m[j]?).map fun x => (j, x.2)) w := by
  obtain ⟨d, hd, hs⟩ := hk.same
  simp only [Instr.findKey, Sem.run_bind, run_underlying hd, Result.andThen]
  rw [findNow_eq (P := P) (t := t) hs k es m 0 h]
  simp
theorem mget_idx (m : List (κ × Value)) (k : κ) : mget m k = ((m.findIdx? fun x => decide (x.1 = k)).bind fun j => m[j]?).map (·.2) := by
  unfold mget
  congr 1
  induction m with
  | nil => rfl
  | cons x m ih =>
    simp only [List.find?_cons, List.findIdx?_cons]
    by_cases hx : x.1 = k
    · simp [hx]
    · simp only [hx, decide_false, Bool.false_eq_true, if_false]
      rw [ih]
      cases m.findIdx? fun x => decide (x.1 = k) <;> simp
theorem findIdx_mem {m : List (κ × Value)} {k : κ} : (m.findIdx? fun x => decide (x.1 = k)) = none ↔ k ∉ m.map (·.1) := by
  rw [List.findIdx?_eq_none_iff]
  simp only [decide_eq_false_iff_not, List.mem_map, not_exists, not_and]
theorem modify_key {m : List (κ × Value)} {k : κ} {j : Nat} (hn : (m.map (·.1)).Nodup) (hj : (m.findIdx? fun x => decide (x.1 = k)) = some j) (v : Value) : m.set j (k, v) = m.map (fun x => if x.1 = k then (k, v) else x) := by
  induction m generalizing j with
  | nil => simp at hj
  | cons x m ih =>
    simp only [List.map_cons, List.nodup_cons] at hn
    simp only [List.findIdx?_cons] at hj
    by_cases hx : x.1 = k
    · simp only [hx, decide_true, if_true, Option.some.injEq] at hj
      subst hj
      simp only [List.set_cons_zero, List.map_cons, hx, if_true]
      congr 1
      symm
      rw [List.map_congr_left (g := id)]
      · simp
      · intro y hy
        have : y.1 ≠ k := by rintro rfl; exact hn.1 (hx ▸ List.mem_map.2 ⟨y, hy, rfl⟩)
        simp [this]
    · simp only [hx, decide_false, Bool.false_eq_true, if_false, Option.map_eq_some_iff] at hj
      obtain ⟨i, hi, rfl⟩ := hj
      simp only [List.set_cons_succ, List.map_cons, hx, if_false]
      rw [ih hn.2 hi]
theorem erase_key {m : List (κ × Value)} {k : κ} {j : Nat} (hn : (m.map (·.1)).Nodup) (hj : (m.findIdx? fun x => decide (x.1 = k)) = some j) : m.eraseIdx j = mdel m k := by
  induction m generalizing j with
  | nil => simp at hj
  | cons x m ih =>
    simp only [List.map_cons, List.nodup_cons] at hn
    simp only [List.findIdx?_cons] at hj
    by_cases hx : x.1 = k
    · simp only [hx, decide_true, if_true, Option.some.injEq] at hj
      subst hj
      simp only [List.eraseIdx_cons_zero, mdel, List.filter_cons, hx, ne_eq, not_true, decide_false, Bool.false_eq_true, if_false]
      symm
      rw [List.filter_eq_self]
      intro y hy
      have : y.1 ≠ k := by rintro rfl; exact hn.1 (hx ▸ List.mem_map.2 ⟨y, hy, rfl⟩)
      simp [this]
    · simp only [hx, decide_false, Bool.false_eq_true, if_false, Option.map_eq_some_iff] at hj
      obtain ⟨i, hi, rfl⟩ := hj
      simp only [List.eraseIdx_cons_succ, mdel, List.filter_cons, hx, ne_eq, not_false_iff, decide_true, if_true]
      congr 1
      exact ih hn.2 hi
end

section
variable {κ : Type} [DecidableEq κ] {P : Program} {n : Nat} {PKk : PK} {f : Fr} {ds : List Deferred} {w : World} {d ty : Nat} {p : String} {af : Array Edge} {g : Option (Nat × Bool)} {t kt et size bytes size' bytes' : Nat} {zero zero' : Value} {dd : TypeDesc} {x y z : Operand} {L : List Atom} {K : κ → Value} {b : Nat} {m : List (κ × Value)} {k : κ}

theorem Holds.map (H : Holds w L) (i : Nat) (hi : L[i]? = some (mp K b m)) : ∃ es clock, w.heap[b]? = some (.map es clock) ∧ es.toList.map (fun e => (e.key, e.val)) = m.map (fun x => (K x.1, x.2)) ∧ (m.map (·.1)).Nodup ∧
    es.toList.Pairwise (fun a b => a.born < b.born) ∧ ∀ e ∈ es.toList, e.born < clock := by
  obtain ⟨o, ho, es, clock, rfl, h⟩ := H.get hi
  exact ⟨es, clock, ho, h⟩
theorem op_makeMap (K : κ → Value) (H : Holds w L) (hn : d < n) (k : ∀ b w', Holds w' (mp K b [] :: L) → PKk (upd f d (.map (some b))) ds w') : Op1 P n ⟨some d, .makeMap t none, ty, p, af, g⟩ f ds w PKk := by
  refine Op1_val rfl rfl hn (w' := w.alloc (.map #[] 0)) (v := .map (some w.heap.size)) (by simp [execOp, Instr.makeMap, Result.andThen, run_newObj_alloc]) (k _ _ (H.new (Ext.alloc _ _ _) (mp_ok (World.alloc_heap_new _ _) ⟨#[], 0, rfl, rfl, by simp, by simp, by simp⟩) ?_))
  intro j hj; simp only at hj; omega
theorem run_getObj_map {es : Array MapEntry} {c : Nat} (h : w.heap[b]? = some (.map es c)) : (getObj b).run P w = .ok (.map es c) w := by simp [getObj, Sem.run, h]
theorem run_setObj_map {es : Array MapEntry} {c : Nat} (o : Obj) (h : w.heap[b]? = some (.map es c)) : (setObj b o).run P w = .ok () (w.putObj b o) := by simp [setObj, Sem.run, h, World.putObj]

theorem run_lookup (H : Holds w L) (i : Nat) (hi : L[i]? = some (mp K b m)) (tm : TI P t size bytes zero (.map kt et)) (te : TI P et size' bytes' zero' dd) (hk : KeyOK P kt K) (ok : Bool) :
    (Instr.lookup t (.map (some b)) (K k) ok).run P w = .ok (if ok then .tuple #[(mget m k).getD zero', .bool (mget m k).isSome] else (mget m k).getD zero') w := by
  obtain ⟨es, c, hb, he, hnd, -, -⟩ := H.map i hi
  simp only [Instr.lookup, Sem.run_bind, tm.run_underlying, Result.andThen, run_getObj_map hb, Sem.run_pure, hk.chk, run_findKey hk k he]
  rw [mget_idx]
  cases hf : m.findIdx? fun x => decide (x.1 = k) with
  | none =>
    simp only [Option.bind_none, Option.map_none, Sem.run_bind, te.run_zero, Result.andThen, Sem.run_pure]
    cases ok <;> simp
  | some j =>
    have hj : j < m.length := (List.findIdx?_eq_some_iff_getElem.1 hf).1
    simp only [Option.bind_some, List.getElem?_eq_getElem hj, Option.map_some, Sem.run_pure, Result.andThen]
    cases ok <;> simp
/-- m[k]. -/
theorem y_lookup (H : Holds w L) (i : Nat) (hi : L[i]? = some (mp K b m)) (tm : TI P t size bytes zero (.map kt et)) (te : TI P et size' bytes' zero' dd) (hk : KeyOK P kt K) (hx : ev f x = .map (some b)) (hy : ev f y = K k) :
    Yd P ⟨some d, .lookup t x y false, ty, p, af, g⟩ f w ((mget m k).getD zero') :=
  ⟨rfl, by simp only [execOp, hx, hy, Sem.run_bind, run_lookup H i hi tm te hk false, Result.andThen]; rfl⟩
/-- v, ok := m[k]. -/
theorem y_lookupOk (H : Holds w L) (i : Nat) (hi : L[i]? = some (mp K b m)) (tm : TI P t size bytes zero (.map kt et)) (te : TI P et size' bytes' zero' dd) (hk : KeyOK P kt K) (hx : ev f x = .map (some b)) (hy : ev f y = K k) :
    Yd P ⟨some d, .lookup t x y true, ty, p, af, g⟩ f w (.tuple #[(mget m k).getD zero', .bool (mget m k).isSome]) :=
  ⟨rfl, by simp only [execOp, hx, hy, Sem.run_bind, run_lookup H i hi tm te hk true, Result.andThen]; rfl⟩

theorem run_keyThatStays (hk : KeyOK P kt K) : (Instr.keyThatStays (K k) (K k)).run P w = .ok (K k) w := by simp [Instr.keyThatStays, hk.bits]
/-- m[k] = v. -/
theorem op_mapUpdate (H : Holds w L) (i : Nat) (hi : L[i]? = some (mp K b m)) (tm : TI P t size bytes zero (.map kt et)) (hk : KeyOK P kt K) {v : Value} (hx : ev f x = .map (some b)) (hy : ev f y = K k) (hz : ev f z = v)
    (kk : ∀ w', Holds w' (L.set i (mp K b (mset m k v))) → PKk f ds w') : Op1 P n ⟨none, .mapUpdate t x y z, ty, p, af, g⟩ f ds w PKk := by
  obtain ⟨es, c, hb, he, hnd, hpw, hcl⟩ := H.map i hi
  have hlen : es.size = m.length := by have := congrArg List.length he; simpa using this
  cases hf : m.findIdx? fun x => decide (x.1 = k) with
  | none =>
    have hnin := findIdx_mem.1 hf
    have hset : mset m k v = m ++ [(k, v)] := by simp only [mset, if_neg hnin]
    refine Op1_skip rfl rfl (w' := w.putObj b (.map (es.push { key := K k, val := v, born := c }) (c + 1))) ?_ (kk _ (H.step i hi rfl (Ext.put w b _) (fun _ _ h => h) (mp_ok (World.putObj_heap_same (own_lt hb)) ⟨_, _, rfl, ?_, ?_, ?_, ?_⟩) fun _ h => .inl h))
    · simp only [execOp, hx, hy, hz, Instr.mapUpdate, Sem.run_bind, tm.run_underlying, Result.andThen, run_getObj_map hb, hk.chk, run_findKey hk k he, hf, Option.bind_none, run_setObj_map _ hb]
      rfl
    · rw [hset]; simp [he]
    · rw [hset]; simp only [List.map_append, List.map_cons, List.map_nil]; rw [List.nodup_append]
      exact ⟨hnd, by simp, fun a ha b' hb' => by simp at hb'; subst hb'; rintro rfl; exact hnin ha⟩
    · simp only [Array.toList_push, List.pairwise_append]
      exact ⟨hpw, by simp, fun a ha b' hb' => by simp at hb'; subst hb'; exact hcl a ha⟩
    · intro e hm
      simp only [Array.toList_push, List.mem_append, List.mem_singleton] at hm
      rcases hm with hm | rfl
      · have := hcl e hm; omega
      · simp
  | some j =>
    obtain ⟨hj, hjk, -⟩ := List.findIdx?_eq_some_iff_getElem.1 hf
    have hjk' : m[j].1 = k := of_decide_eq_true hjk
    have hin : k ∈ m.map (·.1) := List.mem_map.2 ⟨m[j], List.getElem_mem hj, hjk'⟩
    have hset : mset m k v = m.set j (k, v) := by simp only [mset, if_pos hin, modify_key hnd hf]
    have hje : j < es.size := by omega
    have hkey : es[j].key = K k := by
      have := congrArg (·[j]?) he
      simp [hj, hje] at this
      rw [this.1, hjk']
    refine Op1_skip rfl rfl (w' := w.putObj b (.map (es.modify j fun e => { e with key := K k, val := v }) c)) ?_ (kk _ (H.step i hi rfl (Ext.put w b _) (fun _ _ h => h) (mp_ok (World.putObj_heap_same (own_lt hb)) ⟨_, _, rfl, ?_, ?_, ?_, ?_⟩) fun _ h => .inl h))
    · have hst : (Instr.keyThatStays (((es[j]?).map (·.key)).getD (K k)) (K k)).run P w = .ok (K k) w := by
        rw [Array.getElem?_eq_getElem hje]; simp only [Option.map_some, Option.getD_some, hkey]; exact run_keyThatStays hk
      simp only [execOp, hx, hy, hz, Instr.mapUpdate, Sem.run_bind, tm.run_underlying, Result.andThen, run_getObj_map hb, hk.chk, run_findKey hk k he, hf, Option.bind_some, List.getElem?_eq_getElem hj, Option.map_some, hst, run_setObj_map _ hb]
      rfl
    · rw [hset]
      apply List.ext_getElem?
      intro i'
      simp only [List.getElem?_map, List.getElem?_set, Array.getElem?_toList, Array.getElem?_modify]
      have hi' := congrArg (·[i']?) he
      simp only [List.getElem?_map, Array.getElem?_toList] at hi'
      by_cases e : j = i'
      · subst e; simp [hj, hje]
      · simp only [e, if_false, hi']
    · rw [hset]
      have : (m.set j (k, v)).map (·.1) = m.map (·.1) := by
        rw [List.map_set]
        apply List.ext_getElem?
        intro i'
        rw [List.getElem?_set]
        by_cases e : j = i'
        · subst e; simp [hj, hjk']
        · simp [e]
      rw [this]; exact hnd
    · have hbn : (es.modify j fun e => { e with key := K k, val := v }).toList.map (·.born) = es.toList.map (·.born) := by
        apply List.ext_getElem?
        intro i'
        simp only [List.getElem?_map, Array.getElem?_toList, Array.getElem?_modify]
        by_cases e : j = i'
        · subst e; simp [hje]
        · simp [e]
      have h1 : (es.toList.map (·.born)).Pairwise (· < ·) := List.pairwise_map.2 hpw
      rw [← hbn] at h1
      exact List.pairwise_map.1 h1
    · intro e hm
      obtain ⟨i', hi', rfl⟩ := List.getElem_of_mem hm
      simp only [Array.getElem_toList, Array.getElem_modify]
      have hl : i' < es.size := by simpa using hi'
      have := hcl es[i'] (by simp)
      split <;> exact this
/-- delete(m, k). -/
theorem op_delete (H : Holds w L) (i : Nat) (hi : L[i]? = some (mp K b m)) {tys : Array TypeId} (ht : tys[0]? = some t) (tm : TI P t size bytes zero (.map kt et)) (hk : KeyOK P kt K) {dst : Option Nat} (hd : ∀ d, dst = some d → d < n) (hx : ev f x = .map (some b)) (hy : ev f y = K k)
    (kk : ∀ w', Holds w' (L.set i (mp K b (mdel m k))) → PKk (updO f dst (.tuple #[])) ds w') : Op1 P n ⟨dst, .call { callee := .builtin .delete, args := #[x, y], argTypes := tys }, ty, p, af, g⟩ f ds w PKk := by
  obtain ⟨es, c, hb, he, hnd, hpw, hcl⟩ := H.map i hi
  have hlen : es.size = m.length := by have := congrArg List.length he; simpa using this
  cases hf : m.findIdx? fun x => decide (x.1 = k) with
  | none =>
    have hnin := findIdx_mem.1 hf
    have hset : mdel m k = m := by
      unfold mdel; rw [List.filter_eq_self]; intro u hu
      simp only [decide_eq_true_eq]; rintro rfl; exact hnin (List.mem_map.2 ⟨u, hu, rfl⟩)
    refine Op1_valO rfl hd (v := .tuple #[]) (w' := w.putObj b (.map es c)) ?_ (kk _ (H.step i hi rfl (Ext.put w b _) (fun _ _ h => h) (mp_ok (World.putObj_heap_same (own_lt hb)) ⟨es, c, rfl, by rw [hset]; exact he, by rw [hset]; exact hnd, hpw, hcl⟩) fun _ h => .inl h))
    simp only [execOp, resolve, invoke, builtin, Sem.run_bind, Sem.run_pure, Result.andThen, List.map_toArray, List.map_cons, List.map_nil, hx, hy, Builtin.delete_, ht, tm.run_underlying, List.getElem?_toArray, List.getElem?_cons_zero, List.getElem?_cons_succ]
    simp [run_getObj_map hb, hk.chk, run_findKey hk k he, hf, run_setObj_map _ hb, Result.andThen, tm.run_underlying]
  | some j =>
    obtain ⟨hj, hjk, -⟩ := List.findIdx?_eq_some_iff_getElem.1 hf
    have hje : j < es.size := by omega
    refine Op1_valO rfl hd (v := .tuple #[]) (w' := w.putObj b (.map (es.eraseIdxIfInBounds j) c)) ?_ (kk _ (H.step i hi rfl (Ext.put w b _) (fun _ _ h => h) (mp_ok (World.putObj_heap_same (own_lt hb)) ⟨_, c, rfl, ?_, ?_, ?_, ?_⟩) fun _ h => .inl h))
    · simp only [execOp, resolve, invoke, builtin, Sem.run_bind, Sem.run_pure, Result.andThen, List.map_toArray, List.map_cons, List.map_nil, hx, hy, Builtin.delete_, ht, tm.run_underlying, List.getElem?_toArray, List.getElem?_cons_zero, List.getElem?_cons_succ]
      simp [run_getObj_map hb, hk.chk, run_findKey hk k he, hf, run_setObj_map _ hb, Result.andThen, tm.run_underlying, List.getElem?_eq_getElem hj]
    · have e1 : (es.eraseIdxIfInBounds j).toList = es.toList.eraseIdx j := by simp [Array.eraseIdxIfInBounds, hje]
      rw [e1, ← eraseIdx_map', he, ← erase_key hnd hf, eraseIdx_map']
    · rw [← erase_key hnd hf, ← eraseIdx_map']
      exact hnd.sublist (List.eraseIdx_sublist _ _)
    · have e1 : (es.eraseIdxIfInBounds j).toList = es.toList.eraseIdx j := by simp [Array.eraseIdxIfInBounds, hje]
      rw [e1]; exact hpw.sublist (List.eraseIdx_sublist _ _)
    · have e1 : (es.eraseIdxIfInBounds j).toList = es.toList.eraseIdx j := by simp [Array.eraseIdxIfInBounds, hje]
      rw [e1]; intro e hm; exact hcl e (List.mem_of_mem_eraseIdx hm)
end

section
variable {κ : Type} [DecidableEq κ]
theorem mset_keys (m : List (κ × Value)) (k : κ) (v : Value) : (mset m k v).map (·.1) = if k ∈ m.map (·.1) then m.map (·.1) else m.map (·.1) ++ [k] := by
  unfold mset
  split
  · rw [List.map_map]
    apply List.map_congr_left
    intro x hx
    simp only [Function.comp]
    split
    · rename_i h; exact h.symm
    · rfl
  · simp
theorem mget_mset_same (m : List (κ × Value)) (k : κ) (v : Value) : mget (mset m k v) k = some v := by
  unfold mset
  split
  · rename_i h
    unfold mget
    induction m with
    | nil => simp at h
    | cons x m ih =>
      simp only [List.map_cons, List.find?_cons]
      by_cases hx : x.1 = k
      · simp [hx]
      · simp only [hx, if_false, decide_false]
        simp only [List.map_cons, List.mem_cons] at h
        exact ih (h.resolve_left fun e => hx e.symm)
  · rename_i h
    unfold mget
    rw [List.find?_append, List.find?_eq_none.2]
    · simp
    · intro x hx; simp only [decide_eq_true_eq]; rintro rfl; exact h (List.mem_map.2 ⟨x, hx, rfl⟩)
theorem mget_map_ne {k k' : κ} (v : Value) (h : k' ≠ k) (m : List (κ × Value)) : mget (m.map (fun x => if x.1 = k then (k, v) else x)) k' = mget m k' := by
  unfold mget
  congr 1
  induction m with
  | nil => rfl
  | cons x m ih =>
    simp only [List.map_cons, List.find?_cons]
    by_cases hx : x.1 = k
    · have h1 : ¬ x.1 = k' := fun e => h (e.symm.trans hx)
      simp only [hx, if_true, Ne.symm h, decide_false]
      exact ih
    · simp only [hx, if_false]
      by_cases hx' : x.1 = k'
      · simp only [hx', decide_true]
      · simp only [hx', decide_false]; exact ih
theorem mget_mset_ne (m : List (κ × Value)) {k k' : κ} (v : Value) (h : k' ≠ k) : mget (mset m k v) k' = mget m k' := by
  unfold mset
  split
  · exact mget_map_ne v h m
  · unfold mget
    rw [List.find?_append]
    cases hf : List.find? (fun x => decide (x.1 = k')) m with
    | some y => simp
    | none => simp [Ne.symm h]
theorem mget_none {m : List (κ × Value)} {k : κ} : mget m k = none ↔ k ∉ m.map (·.1) := by
  unfold mget
  rw [Option.map_eq_none_iff, List.find?_eq_none]
  simp only [decide_eq_true_eq, List.mem_map, not_exists, not_and]
end
end Go.Wk

namespace Go.Wk
open Go
set_option linter.unusedVariables false
set_option linter.unusedSimpArgs false

theorem add_spot {b o k : Nat} : (⟨b, o, none⟩ : Addr).add k = ⟨b, o + k, none⟩ := by
  by_cases h0 : k = 0
  · subst h0; simp [Addr.add]
  · simp [Addr.add, h0]
/-- The address of a cut. -/
def cutA (a : Option Addr) (m lo size : Nat) : Option Addr := if m = lo then a else a.map (·.add (lo * size))
theorem cutA_some (b o m lo size : Nat) : cutA (some ⟨b, o, none⟩) m lo size = some ⟨b, o + (if m = lo then 0 else lo * size), none⟩ := by
  unfold cutA; split
  · rename_i h; simp [h]
  · rename_i h; simp [h, add_spot]
theorem cutA_none (m lo size : Nat) : cutA none m lo size = none := by unfold cutA; split <;> rfl

section
variable {P : Program} {n : Nat} {K : PK} {f : Fr} {ds : List Deferred} {w : World} {d ty : Nat} {p : String} {af : Array Edge} {g : Option (Nat × Bool)} {t size bytes e size' bytes' : Nat} {zero zero' : Value} {dd : TypeDesc} {x y z u : Operand} {L : List Atom} {a : Option Addr} {ln cap : Nat} {lo hi mx : Int} {k1 k2 k3 : IntKind}

/-- xs[lo:] -/
theorem y_sliceL (ti : TI P t size bytes zero (.slice e)) (te : TI P e size' bytes' zero' dd) (hx : ev f x = .slice a ln cap) (hy : ev f y = .int k1 lo) (h0 : 0 ≤ lo) (h1 : lo ≤ ln) :
    Yd P ⟨some d, .slice t x (some y) none none, ty, p, af, g⟩ f w (.slice (cutA a cap lo.toNat size') (ln - lo.toNat) (cap - lo.toNat)) :=
  ⟨rfl, by
    have hcond : (0 ≤ lo ∧ lo ≤ (ln : Int)) := ⟨h0, h1⟩
    simp only [execOp, hx, Option.map_some, Option.map_none, hy, Instr.sliceAt, Sem.run_bind, ti.run_underlying, Result.andThen, Instr.slice, Instr.sliceBounds, Instr.sliceBound, asIntOf, Sem.run_pure, if_pos hcond, te.run_size, Option.isSome_none, Bool.false_eq_true, if_false]
    rfl⟩
/-- xs[:hi] -/
theorem y_sliceH (ti : TI P t size bytes zero (.slice e)) (te : TI P e size' bytes' zero' dd) (hx : ev f x = .slice a ln cap) (hy : ev f y = .int k1 hi) (h0 : 0 ≤ hi) (h1 : hi ≤ cap) :
    Yd P ⟨some d, .slice t x none (some y) none, ty, p, af, g⟩ f w (.slice (cutA a cap 0 size') hi.toNat cap) :=
  ⟨rfl, by
    have hcond : (0 ≤ hi ∧ hi ≤ (cap : Int)) := ⟨h0, h1⟩
    simp only [execOp, hx, Option.map_some, Option.map_none, hy, Instr.sliceAt, Sem.run_bind, ti.run_underlying, Result.andThen, Instr.slice, Instr.sliceBounds, Instr.sliceBound, asIntOf, Sem.run_pure, if_pos hcond, te.run_size, if_true]
    rfl⟩
/-- xs[:hi:mx] -/
theorem y_sliceHM (ti : TI P t size bytes zero (.slice e)) (te : TI P e size' bytes' zero' dd) (hx : ev f x = .slice a ln cap) (hy : ev f y = .int k1 hi) (hz : ev f z = .int k2 mx) (h0 : 0 ≤ hi) (h1 : hi ≤ mx) (h2 : mx ≤ cap) :
    Yd P ⟨some d, .slice t x none (some y) (some z), ty, p, af, g⟩ f w (.slice (cutA a mx.toNat 0 size') hi.toNat mx.toNat) :=
  ⟨rfl, by
    have hcond : (0 ≤ mx ∧ mx ≤ (cap : Int)) := ⟨by omega, h2⟩
    have hcond2 : (0 ≤ hi ∧ hi ≤ (mx.toNat : Int)) := ⟨h0, by omega⟩
    simp only [execOp, hx, Option.map_some, Option.map_none, hy, hz, Instr.sliceAt, Sem.run_bind, ti.run_underlying, Result.andThen, Instr.slice, Instr.sliceBounds, Instr.sliceBound, asIntOf, Sem.run_pure, if_pos hcond, if_pos hcond2, te.run_size, if_true]
    rfl⟩
end

/-- The slice value v, n elements, owns its block, in which it may begin anywhere; its cells are cs. -/
def GRow (w : World) (e size : Nat) (v : Value) (n : Nat) (cs : List Value) : Prop := cs.length = n * size ∧
  ((v = .slice none 0 0 ∧ n = 0) ∨ ∃ g off cap cur, v = .slice (some ⟨g, off, none⟩) n cap ∧ w.heap[g]? = some (.cells cur e (0, 0)) ∧ n ≤ cap ∧ cap ≤ maxLen ∧ off + cap * size ≤ cur.size ∧ (cur.toList.drop off).take (n * size) = cs)
abbrev grow (e size : Nat) (v : Value) (n : Nat) (cs : List Value) : Atom := ⟨true, fun k => v.ownBlock = some k, fun w => GRow w e size v n cs⟩
theorem GRow.of {w : World} {base e size : Nat} {v : Value} {n : Nat} {cs : List Value} (h : w.ownsRow base e size v n cs) : GRow w e size v n cs := by
  obtain ⟨h1, h2⟩ := h
  refine ⟨h1, ?_⟩
  rcases h2 with h2 | ⟨g, cap, cur, hv, hg, hh, hc, hm, hsz, ht⟩
  · exact .inl h2
  · exact .inr ⟨g, 0, cap, cur, hv, hh, hc, hm, by omega, by rw [List.drop_zero]; exact ht⟩
theorem GRow.slice {w : World} {e size : Nat} {v : Value} {n : Nat} {cs : List Value} (h : GRow w e size v n cs) : ∃ a c, v = .slice a n c ∧ n ≤ c ∧ c ≤ maxLen := by
  rcases h.2 with ⟨hv, hn⟩ | ⟨g, off, cap, cur, hv, hh, hc, hm, _⟩
  · subst hn; exact ⟨_, _, hv, Nat.le_refl _, Nat.zero_le _⟩
  · exact ⟨_, _, hv, hc, hm⟩
theorem GRow.cells {w : World} {e size : Nat} {v : Value} {n : Nat} {cs : List Value} (h : GRow w e size v n cs) (hn : 0 < n) : ∃ b o c, v = .slice (some ⟨b, o, none⟩) n c ∧ Cells w b o cs := by
  rcases h.2 with ⟨hv, h0⟩ | ⟨g, off, cap, cur, hv, hh, hc, hm, hsz, ht⟩
  · omega
  · exact ⟨g, off, cap, hv, Cells.of hh (by rw [h.1]; exact ht)⟩
/-- v[lo:] of such a row. -/
theorem GRow.cut {w : World} {e size : Nat} {a : Option Addr} {n c : Nat} {cs : List Value} (h : GRow w e size (.slice a n c) n cs) (lo : Nat) (hlo : lo ≤ n) : GRow w e size (.slice (cutA a c lo size) (n - lo) (c - lo)) (n - lo) (cs.drop (lo * size)) ∧
    (∀ k, (Value.slice (cutA a c lo size) (n - lo) (c - lo)).ownBlock = some k → (Value.slice a n c).ownBlock = some k) := by
  have hl : (cs.drop (lo * size)).length = (n - lo) * size := by rw [List.length_drop, h.1, Nat.sub_mul]
  rcases h.2 with ⟨hv, h0⟩ | ⟨g, off, cap, cur, hv, hh, hc, hm, hsz, ht⟩
  · injection hv with h1 h2 h3; subst h1 h2 h3
    obtain rfl : lo = 0 := by omega
    rw [cutA_none]
    exact ⟨⟨hl, .inl ⟨rfl, rfl⟩⟩, fun k hk => hk⟩
  · injection hv with h1 h2 h3; subst h1 h3
    rw [cutA_some]
    refine ⟨⟨hl, .inr ⟨g, _, c - lo, cur, rfl, hh, by omega, by omega, ?_, ?_⟩⟩, fun k hk => by simpa [Value.ownBlock] using hk⟩
    · rw [Nat.sub_mul]
      split
      · rename_i hcl; subst hcl; omega
      · have : lo * size ≤ c * size := Nat.mul_le_mul_right _ (by omega)
        omega
    · rw [← ht]
      split
      · rename_i hcl
        have hln : lo = n := by omega
        subst hln; simp
      · rw [← List.drop_drop, List.drop_take, ← Nat.sub_mul]

section
variable {P : Program} {n : Nat} {K : PK} {f : Fr} {ds : List Deferred} {w : World} {d ty : Nat} {p : String} {af : Array Edge} {g : Option (Nat × Bool)} {t : Nat} {x y : Operand} {L : List Atom}
theorem Els.drop {α : Type} {T : Ty α} {Z : Nat → Prop} {w : World} {cs : List Value} {xs : List α} (h : Els T Z w cs xs) (k : Nat) (hk : k ≤ xs.length) : Els T Z w (cs.drop (k * T.sz)) (xs.drop k) := by
  refine ⟨by rw [List.length_drop, h.1, List.length_drop, Nat.sub_mul], fun i x hx => ?_⟩
  rw [List.getElem?_drop] at hx
  have := h.2 _ x hx
  rwa [Nat.add_mul, ← List.drop_drop] at this
end
end Go.Wk

namespace Go.Wk
open Go
set_option linter.unusedVariables false
set_option linter.unusedSimpArgs false

section
variable {P : Program} {fn : Func} {R : Ending → World → Prop} {f : Fr} {w : World} {size bytes size' bytes' : Nat} {zero zero' : Value} {dd dd' : TypeDesc}
theorem run_loadVarA {t b o : Nat} {cs : List Value} (ti : TI P t size bytes zero dd) (hag : isAggD dd = true) (hc : Cells w b o cs) (hl : size = cs.length) : (loadVar t ⟨b, o, none⟩).run P w = .ok (.agg cs.toArray) w := by
  simp [loadVar, ti.run_isAgg, hag, Result.andThen, ti.run_size, run_loadCells hc hl]
/-- One result, in memory. -/
theorem ret1c {a t b o : Nat} {v : Value} (h : fn.results = #[.cell a t]) (hf : f a = .pointer (some ⟨b, o, none⟩)) (hl : (loadVar t ⟨b, o, none⟩).run P w = .ok v w) (hR : R (.returned v) w) : RetOK P fn R f [] w :=
  ⟨_, fun ac ha => by
    have e : ac.tmps.getD a undef = .pointer (some ⟨b, o, none⟩) := by rw [ha.2 a, hf]
    simp only [results, h, List.mapM_toArray, List.mapM_cons, List.mapM_nil, e, asAddr, Sem.run_bind, Sem.run_pure, Result.andThen, hl, pure_bind]
    simp [Result.andThen, hl], hR⟩
/-- One in memory, one in a temporary. -/
theorem ret2ct {a t b o u : Nat} {v v' : Value} (h : fn.results = #[.cell a t, .tmp u]) (hf : f a = .pointer (some ⟨b, o, none⟩)) (hl : (loadVar t ⟨b, o, none⟩).run P w = .ok v w)
    (hu : f u = v') (hR : R (.returned (.tuple #[v, v'])) w) : RetOK P fn R f [] w :=
  ⟨_, fun ac ha => by
    have e : ac.tmps.getD a undef = .pointer (some ⟨b, o, none⟩) := by rw [ha.2 a, hf]
    have e' : ac.tmps.getD u undef = v' := by rw [ha.2 u, hu]
    simp only [results, h, List.mapM_toArray, List.mapM_cons, List.mapM_nil, e, e', asAddr, Sem.run_bind, Sem.run_pure, Result.andThen, hl, pure_bind]
    simp [Result.andThen, hl], hR⟩
end
end Go.Wk

namespace Go.Wk
open Go
set_option linter.unusedVariables false
set_option linter.unusedSimpArgs false

/-- What has come up has all it waits for behind it. -/
def ClosedL (ops : Array Oper) (listed : Array Bool) : Prop := ∀ d o, ops[d]? = some o → listed.getD d false = true → ∀ e ∈ o.after, Region.binds .any e = true → listed.getD e.on false = true
def reachB (ops : Array Oper) : Nat → Nat → Nat → Bool
  | 0, _, _ => false
  | k + 1, d, i => match ops[d]? with
    | none => false
    | some o => o.after.any fun e => Region.binds .any e && (e.on == i || reachB ops k e.on i)
theorem reach_listed {ops : Array Oper} {listed : Array Bool} (hc : ClosedL ops listed) {i : Nat} : ∀ k d, reachB ops k d i = true → listed.getD d false = true → listed.getD i false = true
  | 0, _, h, _ => by simp [reachB] at h
  | k + 1, d, h, hd => by
    simp only [reachB] at h
    cases ho : ops[d]? with
    | none => rw [ho] at h; simp at h
    | some o =>
      rw [ho] at h
      obtain ⟨e, he, hb⟩ := Array.any_eq_true'.1 h
      simp only [Bool.and_eq_true, Bool.or_eq_true, beq_iff_eq] at hb
      have h1 := hc d o ho hd e he hb.1
      rcases hb.2 with h2 | h2
      · rw [← h2]; exact h1
      · exact reach_listed hc k e.on h2 h1
theorem ready_deps {ops : Array Oper} {listed : Array Bool} {i : Nat} (h : i ∈ Region.ready .any ops listed) : ∃ o, ops[i]? = some o ∧ ∀ e ∈ o.after, Region.binds .any e = true → listed.getD e.on false = true := by
  obtain ⟨_, o, ho, ha⟩ := mem_ready.1 h
  exact ⟨o, ho, ha⟩
theorem ClosedL.set {ops : Array Oper} {listed : Array Bool} (hc : ClosedL ops listed) {i : Nat} (hi : i ∈ Region.ready .any ops listed) : ClosedL ops (listed.setIfInBounds i true) := by
  intro d o ho hd e he hb
  obtain ⟨oi, hoi, hdep⟩ := ready_deps hi
  have up : ∀ j, listed.getD j false = true → (listed.setIfInBounds i true).getD j false = true := fun j => getD_set_true
  by_cases hdi : i = d
  · subst hdi
    rw [hoi] at ho; injection ho with ho; subst ho
    exact up _ (hdep e he hb)
  · rw [getD_set_ne false hdi] at hd
    exact up _ (hc d o ho hd e he hb)
theorem ClosedL.start (ops : Array Oper) (k : Nat) : ClosedL ops (Array.replicate k false) := by
  intro d o _ hd
  rw [Array.getD_eq_getD_getElem?] at hd
  rw [Array.getElem?_replicate] at hd
  split at hd <;> simp at hd

section
variable {P : Program} {ops : Array Oper} {Q : Exit → Act → World → Prop} {S : Array Bool → World → Prop}
def wpAnyS (P : Program) (ops : Array Oper) (Q : Exit → Act → World → Prop) (S : Array Bool → World → Prop) : Nat → Array Bool → Act → World → Prop
  | 0, listed, a, w => Region.ready .any ops listed = [] ∧ Q .normal a w
  | fuel + 1, listed, a, w =>
    (Region.ready .any ops listed = [] → Q .normal a w) ∧
    ∀ i ∈ Region.ready .any ops listed, wpOp P ops Q i (fun a' w' => S (listed.setIfInBounds i true) w' ∧ wpAnyS P ops Q S fuel (listed.setIfInBounds i true) a' w') a w
theorem wpAny_of_S : ∀ (fuel : Nat) (listed : Array Bool) (a : Act) (w : World), wpAnyS P ops Q S fuel listed a w → wpAny P .any ops Q fuel listed a w
  | 0, _, _, _, h => h
  | fuel + 1, _, _, _, h => ⟨h.1, fun i hi => wpOp_mono (fun a' w' h' => wpAny_of_S fuel _ a' w' h'.2) (h.2 i hi)⟩

theorem wpAnyS_first {i : Nat} {oi : Oper} {v : Value} (hi : ops[i]? = some oi) (hsel : ∀ (j : Nat) (o : Oper) cs b, ops[j]? = some o → o.op ≠ .select cs b)
    (hQ : ∀ c a w, Q (.panic c) (a.put oi.dst v) w → Q (.panic c) a w) (hm : ∀ listed w, S (listed.setIfInBounds i true) w ↔ S listed w) :
    ∀ (fuel : Nat) (listed : Array Bool) (a : Act) (w : World), ClosedL ops listed →
      (∀ j oj, ops[j]? = some oj → j ≠ i → listed.getD j true = false → (∀ e ∈ oj.after, Region.binds .any e = true → e.on ≠ i) → oi.apart ops oj = true) →
      i ∈ Region.ready .any ops listed → YieldsIf P ops (fun w => ∃ l', ClosedL ops l' ∧ l'.getD i true = false ∧ S l' w) oi v a → S listed w →
      wpAnyS P ops Q S fuel (listed.setIfInBounds i true) (a.put oi.dst v) w → wpAnyS P ops Q S (fuel + 1) listed a w := by
  intro fuel
  induction fuel with
  | zero =>
    intro listed a w hcl _ hr hy hS H
    refine ⟨fun h => (by rw [h] at hr; cases hr), fun j hj => ?_⟩
    by_cases hji : j = i
    · subst hji; exact hy.wpOp hi ⟨listed, hcl, (mem_ready.1 hr).1, hS⟩ ⟨(hm _ _).2 hS, H⟩
    · have := ready_mono hj hji
      rw [H.1] at this
      cases this
  | succ fuel ih =>
    intro listed a w hcl hfree hr hy hS H
    refine ⟨fun h => (by rw [h] at hr; cases hr), fun j hj => ?_⟩
    by_cases hji : j = i
    · subst hji; exact hy.wpOp hi ⟨listed, hcl, (mem_ready.1 hr).1, hS⟩ ⟨(hm _ _).2 hS, H⟩
    · have h1 := H.2 j (ready_mono hj hji)
      obtain ⟨hjun, oj, hoj, hall⟩ := mem_ready.1 hj
      have hnot : ∀ e ∈ oj.after, Region.binds .any e = true → e.on ≠ i := fun e he hb heq => by
        have h1 := hall e he hb
        have h0 := (mem_ready.1 hr).1
        rw [heq] at h1
        rcases Nat.lt_or_ge i listed.size with h' | h'
        · simp [h'] at h0 h1; rw [h0] at h1; cases h1
        · simp [Array.getElem?_eq_none h'] at h1
      have h2 := wpOp_putIf hoj (hfree j oj hoj hji hjun hnot) (fun cs b => hsel i oi cs b hi) (fun cs b => hsel j oj cs b hoj) hQ hy h1
      have hfree' : ∀ k ok, ops[k]? = some ok → k ≠ i → (listed.setIfInBounds j true).getD k true = false →
          (∀ e ∈ ok.after, Region.binds .any e = true → e.on ≠ i) → oi.apart ops ok = true := fun k ok hk hki hun hno => by
        refine hfree k ok hk hki ?_ hno
        by_cases hjk : j = k
        · subst hjk; exact hjun
        · rw [getD_set_ne true hjk] at hun; exact hun
      refine wpOp_mono (fun a' w' h3 => ?_) h2
      have hS' : S (listed.setIfInBounds j true) w' := by
        have := h3.2.1
        rw [Array.setIfInBounds_comm _ _ (Ne.symm hji)] at this
        exact (hm _ _).1 this
      refine ⟨hS', ih (listed.setIfInBounds j true) a' w' (hcl.set hj) hfree' (ready_mono hr (Ne.symm hji)) h3.1 hS' ?_⟩
      rw [Array.setIfInBounds_comm _ _ hji]
      exact h3.2.2
end

/-- As long as none of 'bs' has come up, S0 holds. -/
def Sx (bs : List Nat) (S0 : World → Prop) (listed : Array Bool) (w : World) : Prop := (∀ d ∈ bs, listed.getD d false = false) → S0 w
theorem Sx_set {bs : List Nat} {S0 : World → Prop} {i : Nat} (hi : i ∉ bs) (listed : Array Bool) (w : World) : Sx bs S0 (listed.setIfInBounds i true) w ↔ Sx bs S0 listed w := by
  have e : ∀ d ∈ bs, (listed.setIfInBounds i true).getD d false = listed.getD d false := fun d hd => getD_set_ne false (by rintro rfl; exact hi hd)
  exact ⟨fun h hb => h fun d hd => by rw [e d hd]; exact hb d hd, fun h hb => h fun d hd => by rw [← e d hd]; exact hb d hd⟩

/-- The region's state: 'listed' have come up; the rest is to be shown. -/
def DA (P : Program) (n : Nat) (ops : List Oper) (bs : List Nat) (S0 : World → Prop) (Q : PQ) (fuel : Nat) (listed : List Bool) : PK := fun f ds w =>
  ClosedL ops.toArray listed.toArray → ∀ a, Fits n f a → a.defers = ds → wpAnyS P ops.toArray (noPan (lift n Q)) (Sx bs S0) fuel listed.toArray a w

section
variable {P : Program} {l : Option Nat} {n : Nat} {Q : PQ} {f : Fr} {ds : List Deferred} {w : World} {ops : List Oper} {bs : List Nat} {S0 : World → Prop} {fuel : Nat} {listed : List Bool} {L : List Atom}

/-- The begin. -/
theorem W_drawD {id : Nat} (H : Holds w L) (hm : P.follows .mixedOrders = true) (hok : okD ops = true) (bs : List Nat) (S0 : World → World → Prop)
    (h : ∀ w', Holds w' L → Ext none' w w' → DA P n ops bs (S0 w') Q ops.length (List.replicate ops.length false) f ds w') : W P l n (.region id ops.toArray true) Q f ds w := fun a ha hd => by
  have h0 := h _ (H.drew 1) (Ext.drew _ _ _) (by rw [List.toArray_replicate]; exact ClosedL.start _ _) a ha hd
  rw [List.toArray_replicate] at h0
  have h1 := wpAny_of_S _ _ _ _ h0
  have h2 := wpAnyIn_of_wpAny (l := l) (fun a w h => h) (okD_nd hok) _ _ _ _ h1
  refine wpIn_mono (wpIn_region_any (Q := noPan (lift n Q)) hm (by rw [List.size_toArray]; exact h2)) fun e a w q => ?_
  cases e with
  | panic c => exact q.elim
  | outgrown => exact q.elim
  | _ => exact q

def okT (ops : List Oper) (listed : List Bool) (i : Nat) : Bool := Region.noSelect ops.toArray && Region.free .any ops.toArray listed.toArray i && (Region.ready .any ops.toArray listed.toArray).contains i
/-- One of those that leave values alone: it leans on S0, and comes up before the breaking ones; or on no world at all. -/
theorem DA_q (i : Nat) {o : Oper} {v : Value} (hi : ops[i]? = some o) (hok : okT ops listed i = true) (hb : bs.contains i = false) (hw : ∀ a, Fits n f a → Region.wanted o (yielded ops.toArray a.tmps) = true)
    (hy : (bs.all (fun d => reachB ops.toArray ops.length d i) = true ∧ ∀ w', S0 w' → (execOp (ev f) o).run P w' = .ok (.value v) w') ∨ ∀ w', (execOp (ev f) o).run P w' = .ok (.value v) w') (hS : Sx bs S0 listed.toArray w) (hd : ∀ d, o.dst = some d → d < n)
    (k : Sx bs S0 (listed.set i true).toArray w → DA P n ops bs S0 Q fuel (listed.set i true) (updO f o.dst v) ds w) : DA P n ops bs S0 Q (fuel + 1) listed f ds w := fun hc a ha he => by
  simp only [okT, Bool.and_eq_true] at hok
  obtain ⟨⟨h1, h2⟩, h3⟩ := hok
  have hi' : ops.toArray[i]? = some o := by simpa using hi
  have hr : i ∈ Region.ready .any ops.toArray listed.toArray := by simpa using h3
  have hnb : i ∉ bs := fun h => by rw [List.contains_eq_mem, decide_eq_false_iff_not] at hb; exact hb h
  have hset : (listed.set i true).toArray = listed.toArray.setIfInBounds i true := by simp
  have hS2 : Sx bs S0 (listed.set i true).toArray w := by rw [hset]; exact (Sx_set hnb _ _).2 hS
  refine wpAnyS_first hi' (Region.noSelect_spec h1) (fun c a w h => h.elim) (Sx_set hnb) fuel _ a w hc (Region.free_spec hi' h2) hr ?_ hS ?_ (v := v)
  · refine .inl ⟨hw a ha, fun w' ⟨l', hcl, hun, hSl⟩ => ?_⟩
    rw [ha.eval]
    rcases hy with ⟨hreach, hy⟩ | hy
    · refine hy w' (hSl fun d hdb => ?_)
      have hrd : reachB ops.toArray ops.length d i = true := List.all_eq_true.1 hreach d hdb
      cases hdl : l'.getD d false with
      | false => rfl
      | true =>
        have := reach_listed hcl _ d hrd hdl
        rcases Nat.lt_or_ge i l'.size with h' | h'
        · simp [h'] at hun this; rw [hun] at this; cases this
        · simp [Array.getElem?_eq_none h'] at this
    · exact hy w'
  · have := k hS2 (by rw [hset]; exact hc.set hr) _ (ha.putO hd v) (by cases o.dst <;> exact he)
    rw [hset] at this; exact this
/-- It leans on S0. -/
theorem DA_y (i : Nat) {op : Op} {ty : Nat} {p : String} {af : Array Edge} {d : Nat} {v : Value} (hi : ops[i]? = some ⟨some d, op, ty, p, af, none⟩) (hok : okT ops listed i = true) (hb : bs.contains i = false) (hreach : bs.all (fun d => reachB ops.toArray ops.length d i) = true)
    (hy : ∀ w', S0 w' → Yd P ⟨some d, op, ty, p, af, none⟩ f w' v) (hS : Sx bs S0 listed.toArray w) (hd : d < n) (k : Sx bs S0 (listed.set i true).toArray w → DA P n ops bs S0 Q fuel (listed.set i true) (upd f d v) ds w) : DA P n ops bs S0 Q (fuel + 1) listed f ds w :=
  DA_q i hi hok hb (fun a _ => wanted_none rfl _) (.inl ⟨hreach, fun w' h => (hy w' h).run⟩) hS (fun _ e => by injection e with e; subst e; exact hd) k
/-- It leans on no world. -/
theorem DA_p (i : Nat) {op : Op} {ty : Nat} {p : String} {af : Array Edge} {d : Nat} {v : Value} (hi : ops[i]? = some ⟨some d, op, ty, p, af, none⟩) (hok : okT ops listed i = true) (hb : bs.contains i = false)
    (hy : ∀ w', Yd P ⟨some d, op, ty, p, af, none⟩ f w' v) (hS : Sx bs S0 listed.toArray w) (hd : d < n) (k : Sx bs S0 (listed.set i true).toArray w → DA P n ops bs S0 Q fuel (listed.set i true) (upd f d v) ds w) : DA P n ops bs S0 Q (fuel + 1) listed f ds w :=
  DA_q i hi hok hb (fun a _ => wanted_none rfl _) (.inr fun w' => (hy w').run) hS (fun _ e => by injection e with e; subst e; exact hd) k
/-- All that may come up now: each is carried out, and leaves S0 unless it is one of those that break it. -/
theorem DA_all (rs : List Nat) (hr : Region.ready .any ops.toArray listed.toArray = rs) (hne : rs ≠ []) (h : ∀ i ∈ rs, ∃ o, ops[i]? = some o ∧ (∀ a, Fits n f a → Region.wanted o (yielded ops.toArray a.tmps) = true) ∧
      Op1 P n o f ds w fun f' ds' w' => Sx bs S0 (listed.set i true).toArray w' ∧ DA P n ops bs S0 Q fuel (listed.set i true) f' ds' w') : DA P n ops bs S0 Q (fuel + 1) listed f ds w := fun hc a ha he => by
  refine ⟨fun h0 => absurd (hr ▸ h0) hne, fun i hi => ?_⟩
  obtain ⟨o, ho, hw, hop⟩ := h i (hr ▸ hi)
  have ho' : ops.toArray[i]? = some o := by simpa using ho
  have hset : (listed.set i true).toArray = listed.toArray.setIfInBounds i true := by simp
  unfold wpOp
  rw [ho']
  simp only
  rw [if_pos (hw a ha)]
  refine .inl (Oper.wp_mono' (fun a' w' ⟨f', hf', hS, k⟩ => ?_) (hop.2 a ha he))
  rw [← hset]
  exact ⟨hS, k (by rw [hset]; exact hc.set hi) a' hf' rfl⟩
theorem DA_one (i : Nat) {dst : Option Nat} {op : Op} {ty : Nat} {p : String} {af : Array Edge} (hr : Region.ready .any ops.toArray listed.toArray = [i]) (hi : ops[i]? = some ⟨dst, op, ty, p, af, none⟩)
    (h : Op1 P n ⟨dst, op, ty, p, af, none⟩ f ds w fun f' ds' w' => Sx bs S0 (listed.set i true).toArray w' ∧ DA P n ops bs S0 Q fuel (listed.set i true) f' ds' w') : DA P n ops bs S0 Q (fuel + 1) listed f ds w :=
  DA_all [i] hr (by simp) fun j hj => by
    simp only [List.mem_singleton] at hj; subst hj
    exact ⟨_, hi, fun a _ => wanted_none rfl _, h⟩
theorem DA_two (i j : Nat) {dst dst' : Option Nat} {op op' : Op} {ty ty' : Nat} {p p' : String} {af af' : Array Edge} (hr : Region.ready .any ops.toArray listed.toArray = [i, j]) (hi : ops[i]? = some ⟨dst, op, ty, p, af, none⟩) (hj : ops[j]? = some ⟨dst', op', ty', p', af', none⟩)
    (h : Op1 P n ⟨dst, op, ty, p, af, none⟩ f ds w fun f' ds' w' => Sx bs S0 (listed.set i true).toArray w' ∧ DA P n ops bs S0 Q fuel (listed.set i true) f' ds' w')
    (h' : Op1 P n ⟨dst', op', ty', p', af', none⟩ f ds w fun f' ds' w' => Sx bs S0 (listed.set j true).toArray w' ∧ DA P n ops bs S0 Q fuel (listed.set j true) f' ds' w') : DA P n ops bs S0 Q (fuel + 1) listed f ds w :=
  DA_all [i, j] hr (by simp) fun k hk => by
    simp only [List.mem_cons, List.not_mem_nil, or_false] at hk
    rcases hk with rfl | rfl
    · exact ⟨_, hi, fun a _ => wanted_none rfl _, h⟩
    · exact ⟨_, hj, fun a _ => wanted_none rfl _, h'⟩
theorem DA_done (hr : Region.ready .any ops.toArray listed.toArray = []) (h : Q .normal f ds w) : DA P n ops bs S0 Q fuel listed f ds w := fun _ a ha he => by
  cases fuel with
  | zero => exact ⟨hr, f, ha, he ▸ h⟩
  | succ k => exact ⟨fun _ => ⟨f, ha, he ▸ h⟩, by rw [hr]; simp⟩
end
end Go.Wk

namespace Go.Wk
open Go
set_option linter.unusedVariables false

/-- What a call has made. -/
theorem Holds.addNew {w w1 : World} {L : List Atom} (H : Holds w L) (e : Ext none' w w1) : Holds w1 (shr (fun k => w.heap.size ≤ k ∧ k < w1.heap.size) w1 :: L) :=
  H.new e ⟨⟨Nat.le_refl _, rfl, rfl, rfl, fun _ _ => rfl⟩, fun _ h => h.2, shr_stable fun _ h => h.2⟩ fun _ h => h.1
theorem Holds.keepsNew {w w1 : World} {L : List Atom} (H : Holds w L) {n0 : Nat} (i : Nat) (hi : L[i]? = some (shr (fun k => n0 ≤ k ∧ k < w1.heap.size) w1)) : Keeps (fun k => n0 ≤ k) w1 w := by
  obtain ⟨a, _, _, _, e⟩ := H.get hi
  exact ⟨a, fun k hz hk => e k ⟨hz, hk⟩⟩
/-- A cut: behind c (where it ends normally) A holds; the rest goes on from A. -/
theorem W_cut {P : Program} {l : Option Nat} {n : Nat} {c : Code} {K : PK} {Q : PQ} {f : Fr} {ds : List Deferred} {w : World} (A : PK) (h : W P l n c (thenQ A Q) f ds w) (k : ∀ f ds w, A f ds w → K f ds w) : W P l n c (thenQ K Q) f ds w :=
  W_mono h fun e f ds w q => by
    cases e with
    | normal => exact k _ _ _ q
    | _ => exact q
end Go.Wk

namespace Go.Proofs.Ytpandioolpnihaa
open Go Go.Wk
set_option linter.unusedVariables false

theorem ti0 : TI Try.prog 0 1 0 (Go.Value.tuple #[]) (Go.TypeDesc.tuple #[]) := ⟨Try.underlying0, Try.t0, by kernel_rfl, rfl, rfl, rfl⟩
theorem ti3 : TI Try.prog 3 1 8 (Go.Value.int Go.IntKind.i64 0) (Go.TypeDesc.int Go.IntKind.i64) := ⟨Try.underlying3, Try.t3, by kernel_rfl, rfl, rfl, rfl⟩
theorem ti4 : TI Try.prog 4 1 1 (Go.Value.bool false) Go.TypeDesc.bool := ⟨Try.underlying4, Try.t4, by kernel_rfl, rfl, rfl, rfl⟩
theorem ti5 : TI Try.prog 5 1 1 (Go.Value.int Go.IntKind.u8 0) (Go.TypeDesc.int Go.IntKind.u8) := ⟨Try.underlying5, Try.t5, by kernel_rfl, rfl, rfl, rfl⟩
theorem ti9 : TI Try.prog 9 1 16 (Go.Value.string { data := #[] }) Go.TypeDesc.string := ⟨Try.underlying9, Try.t9, by kernel_rfl, rfl, rfl, rfl⟩
theorem ti23 : TI Try.prog 23 1 24 (Go.Value.slice none 0 0) (Go.TypeDesc.slice 5) := ⟨Try.underlying23, Try.t23, by kernel_rfl, rfl, rfl, rfl⟩
theorem ti24 : TI Try.prog 24 1 8 (Go.Value.int Go.IntKind.u64 0) (Go.TypeDesc.int Go.IntKind.u64) := ⟨Try.underlying24, Try.t24, by kernel_rfl, rfl, rfl, rfl⟩
theorem ti26 : TI Try.prog 26 1 8 (Go.Value.pointer none) (Go.TypeDesc.pointer 98) := ⟨Try.underlying26, Try.t26, by kernel_rfl, rfl, rfl, rfl⟩
theorem ti30 : TI Try.prog 30 1 24 (Go.Value.slice none 0 0) (Go.TypeDesc.slice 23) := ⟨Try.underlying30, Try.t30, by kernel_rfl, rfl, rfl, rfl⟩
theorem ti32 : TI Try.prog 32 5 72 (Go.Value.agg #[(Go.Value.int Go.IntKind.u64 0), (Go.Value.int Go.IntKind.u64 0), (Go.Value.bool false), (Go.Value.slice none 0 0), (Go.Value.slice none 0 0)]) (Go.TypeDesc.struct #[{ name := "Ts", type := 24, offset := 0, embedded := false, tag := "", pkgPath := "", byteOffset := 0 }, { name := "Txn", type := 24, offset := 1, embedded := false, tag := "", pkgPath := "", byteOffset := 8 }, { name := "Dead", type := 4, offset := 2, embedded := false, tag := "", pkgPath := "", byteOffset := 16 }, { name := "Val", type := 23, offset := 3, embedded := false, tag := "", pkgPath := "", byteOffset := 24 }, { name := "Keys", type := 30, offset := 4, embedded := false, tag := "", pkgPath := "", byteOffset := 48 }]) := ⟨Try.underlying32, Try.t32, by kernel_rfl, rfl, rfl, rfl⟩
theorem pl32 : Places Try.prog #[{ name := "Ts", type := 24, offset := 0, embedded := false, tag := "", pkgPath := "", byteOffset := 0 }, { name := "Txn", type := 24, offset := 1, embedded := false, tag := "", pkgPath := "", byteOffset := 8 }, { name := "Dead", type := 4, offset := 2, embedded := false, tag := "", pkgPath := "", byteOffset := 16 }, { name := "Val", type := 23, offset := 3, embedded := false, tag := "", pkgPath := "", byteOffset := 24 }, { name := "Keys", type := 30, offset := 4, embedded := false, tag := "", pkgPath := "", byteOffset := 48 }] #[(0, 1), (1, 1), (2, 1), (3, 1), (4, 1)] := fun w => by kernel_rfl
theorem ti49 : TI Try.prog 49 1 24 (Go.Value.slice none 0 0) (Go.TypeDesc.slice 55) := ⟨Try.underlying49, Try.t49, by kernel_rfl, rfl, rfl, rfl⟩
theorem ti53 : TI Try.prog 53 1 24 (Go.Value.slice none 0 0) (Go.TypeDesc.slice 32) := ⟨Try.underlying53, Try.t53, by kernel_rfl, rfl, rfl, rfl⟩
theorem ti55 : TI Try.prog 55 7 120 (Go.Value.agg #[(Go.Value.slice none 0 0), (Go.Value.slice none 0 0), (Go.Value.int Go.IntKind.u64 0), (Go.Value.int Go.IntKind.u64 0), (Go.Value.bool false), (Go.Value.slice none 0 0), (Go.Value.slice none 0 0)]) (Go.TypeDesc.struct #[{ name := "Key", type := 23, offset := 0, embedded := false, tag := "", pkgPath := "", byteOffset := 0 }, { name := "Versions", type := 53, offset := 1, embedded := false, tag := "", pkgPath := "", byteOffset := 24 }, { name := "Intent", type := 32, offset := 2, embedded := false, tag := "", pkgPath := "", byteOffset := 48 }]) := ⟨Try.underlying55, Try.t55, by kernel_rfl, rfl, rfl, rfl⟩
theorem pl55 : Places Try.prog #[{ name := "Key", type := 23, offset := 0, embedded := false, tag := "", pkgPath := "", byteOffset := 0 }, { name := "Versions", type := 53, offset := 1, embedded := false, tag := "", pkgPath := "", byteOffset := 24 }, { name := "Intent", type := 32, offset := 2, embedded := false, tag := "", pkgPath := "", byteOffset := 48 }] #[(0, 1), (1, 1), (2, 5)] := fun w => by kernel_rfl
theorem ti57 : TI Try.prog 57 1 24 (Go.Value.slice none 0 0) (Go.TypeDesc.slice 78) := ⟨Try.underlying57, Try.t57, by kernel_rfl, rfl, rfl, rfl⟩
theorem ti62 : TI Try.prog 62 1 24 (Go.Value.slice none 0 0) (Go.TypeDesc.slice 145) := ⟨Try.underlying62, Try.t62, by kernel_rfl, rfl, rfl, rfl⟩
theorem ti64 : TI Try.prog 64 1 24 (Go.Value.agg #[(Go.Value.slice none 0 0)]) (Go.TypeDesc.struct #[{ name := "l", type := 62, offset := 0, embedded := false, tag := "", pkgPath := "plenum/plenumref15", byteOffset := 0 }]) := ⟨Try.underlying64, Try.t64, by kernel_rfl, rfl, rfl, rfl⟩
theorem ti66 : TI Try.prog 66 1 24 (Go.Value.agg #[(Go.Value.slice none 0 0)]) (Go.TypeDesc.struct #[{ name := "Cells", type := 49, offset := 0, embedded := false, tag := "", pkgPath := "", byteOffset := 0 }]) := ⟨Try.underlying66, Try.t66, by kernel_rfl, rfl, rfl, rfl⟩
theorem ti68 : TI Try.prog 68 2 48 (Go.Value.agg #[(Go.Value.slice none 0 0), (Go.Value.slice none 0 0)]) (Go.TypeDesc.struct #[{ name := "Again", type := 64, offset := 0, embedded := false, tag := "", pkgPath := "", byteOffset := 0 }, { name := "S", type := 66, offset := 1, embedded := false, tag := "", pkgPath := "", byteOffset := 24 }]) := ⟨Try.underlying68, Try.t68, by kernel_rfl, rfl, rfl, rfl⟩
theorem pl68 : Places Try.prog #[{ name := "Again", type := 64, offset := 0, embedded := false, tag := "", pkgPath := "", byteOffset := 0 }, { name := "S", type := 66, offset := 1, embedded := false, tag := "", pkgPath := "", byteOffset := 24 }] #[(0, 1), (1, 1)] := fun w => by kernel_rfl
theorem ti70 : TI Try.prog 70 5 72 (Go.Value.agg #[(Go.Value.int Go.IntKind.u64 0), (Go.Value.int Go.IntKind.i64 0), (Go.Value.int Go.IntKind.i64 0), (Go.Value.slice none 0 0), (Go.Value.slice none 0 0)]) (Go.TypeDesc.struct #[{ name := "Txn", type := 24, offset := 0, embedded := false, tag := "", pkgPath := "", byteOffset := 0 }, { name := "Level", type := 3, offset := 1, embedded := false, tag := "", pkgPath := "", byteOffset := 8 }, { name := "Mode", type := 3, offset := 2, embedded := false, tag := "", pkgPath := "", byteOffset := 16 }, { name := "Lo", type := 23, offset := 3, embedded := false, tag := "", pkgPath := "", byteOffset := 24 }, { name := "Hi", type := 23, offset := 4, embedded := false, tag := "", pkgPath := "", byteOffset := 48 }]) := ⟨Try.underlying70, Try.t70, by kernel_rfl, rfl, rfl, rfl⟩
theorem ti71 : TI Try.prog 71 1 24 (Go.Value.slice none 0 0) (Go.TypeDesc.slice 24) := ⟨Try.underlying71, Try.t71, by kernel_rfl, rfl, rfl, rfl⟩
theorem ti72 : TI Try.prog 72 1 24 (Go.Value.slice none 0 0) (Go.TypeDesc.slice 89) := ⟨Try.underlying72, Try.t72, by kernel_rfl, rfl, rfl, rfl⟩
theorem ti73 : TI Try.prog 73 1 24 (Go.Value.slice none 0 0) (Go.TypeDesc.slice 120) := ⟨Try.underlying73, Try.t73, by kernel_rfl, rfl, rfl, rfl⟩
theorem ti74 : TI Try.prog 74 1 24 (Go.Value.slice none 0 0) (Go.TypeDesc.slice 3) := ⟨Try.underlying74, Try.t74, by kernel_rfl, rfl, rfl, rfl⟩
theorem ti76 : TI Try.prog 76 5 80 (Go.Value.agg #[(Go.Value.int Go.IntKind.i64 0), (Go.Value.string { data := #[] }), (Go.Value.slice none 0 0), (Go.Value.int Go.IntKind.i64 0), (Go.Value.slice none 0 0)]) (Go.TypeDesc.struct #[{ name := "Id", type := 2, offset := 0, embedded := false, tag := "", pkgPath := "", byteOffset := 0 }, { name := "Name", type := 9, offset := 1, embedded := false, tag := "", pkgPath := "", byteOffset := 8 }, { name := "Cols", type := 73, offset := 2, embedded := false, tag := "", pkgPath := "", byteOffset := 24 }, { name := "Key", type := 3, offset := 3, embedded := false, tag := "", pkgPath := "", byteOffset := 48 }, { name := "Indexes", type := 74, offset := 4, embedded := false, tag := "", pkgPath := "", byteOffset := 56 }]) := ⟨Try.underlying76, Try.t76, by kernel_rfl, rfl, rfl, rfl⟩
theorem ti78 : TI Try.prog 78 21 320 (Go.Value.agg #[(Go.Value.int Go.IntKind.u64 0), (Go.Value.int Go.IntKind.u64 0), (Go.Value.int Go.IntKind.i64 0), (Go.Value.int Go.IntKind.u64 0), (Go.Value.int Go.IntKind.u64 0), (Go.Value.bool false), (Go.Value.int Go.IntKind.u64 0), (Go.Value.int Go.IntKind.i64 0), (Go.Value.int Go.IntKind.i64 0), (Go.Value.slice none 0 0), (Go.Value.slice none 0 0), (Go.Value.slice none 0 0), (Go.Value.slice none 0 0), (Go.Value.slice none 0 0), (Go.Value.slice none 0 0), (Go.Value.slice none 0 0), (Go.Value.int Go.IntKind.i64 0), (Go.Value.string { data := #[] }), (Go.Value.slice none 0 0), (Go.Value.int Go.IntKind.i64 0), (Go.Value.slice none 0 0)]) (Go.TypeDesc.struct #[{ name := "Client", type := 24, offset := 0, embedded := false, tag := "", pkgPath := "", byteOffset := 0 }, { name := "Seq", type := 24, offset := 1, embedded := false, tag := "", pkgPath := "", byteOffset := 8 }, { name := "Kind", type := 3, offset := 2, embedded := false, tag := "", pkgPath := "", byteOffset := 16 }, { name := "Txn", type := 24, offset := 3, embedded := false, tag := "", pkgPath := "", byteOffset := 24 }, { name := "Ts", type := 24, offset := 4, embedded := false, tag := "", pkgPath := "", byteOffset := 32 }, { name := "Flag", type := 4, offset := 5, embedded := false, tag := "", pkgPath := "", byteOffset := 40 }, { name := "Lock", type := 70, offset := 6, embedded := false, tag := "", pkgPath := "", byteOffset := 48 }, { name := "Lo", type := 23, offset := 11, embedded := false, tag := "", pkgPath := "", byteOffset := 120 }, { name := "Hi", type := 23, offset := 12, embedded := false, tag := "", pkgPath := "", byteOffset := 144 }, { name := "Txns", type := 71, offset := 13, embedded := false, tag := "", pkgPath := "", byteOffset := 168 }, { name := "Writes", type := 72, offset := 14, embedded := false, tag := "", pkgPath := "", byteOffset := 192 }, { name := "Keys", type := 30, offset := 15, embedded := false, tag := "", pkgPath := "", byteOffset := 216 }, { name := "Table", type := 76, offset := 16, embedded := false, tag := "", pkgPath := "", byteOffset := 240 }]) := ⟨Try.underlying78, Try.t78, by kernel_rfl, rfl, rfl, rfl⟩
theorem ti80 : TI Try.prog 80 1 8 (Go.Value.int Go.IntKind.i64 0) (Go.TypeDesc.int Go.IntKind.i64) := ⟨Try.underlying80, Try.t80, by kernel_rfl, rfl, rfl, rfl⟩
theorem ti81 : TI Try.prog 81 1 24 (Go.Value.slice none 0 0) (Go.TypeDesc.slice 125) := ⟨Try.underlying81, Try.t81, by kernel_rfl, rfl, rfl, rfl⟩
theorem ti82 : TI Try.prog 82 1 24 (Go.Value.slice none 0 0) (Go.TypeDesc.slice 76) := ⟨Try.underlying82, Try.t82, by kernel_rfl, rfl, rfl, rfl⟩
theorem ti84 : TI Try.prog 84 7 104 (Go.Value.agg #[(Go.Value.int Go.IntKind.i64 0), (Go.Value.int Go.IntKind.u64 0), (Go.Value.int Go.IntKind.u64 0), (Go.Value.bool false), (Go.Value.slice none 0 0), (Go.Value.slice none 0 0), (Go.Value.slice none 0 0)]) (Go.TypeDesc.struct #[{ name := "Err", type := 80, offset := 0, embedded := false, tag := "", pkgPath := "", byteOffset := 0 }, { name := "Txn", type := 24, offset := 1, embedded := false, tag := "", pkgPath := "", byteOffset := 8 }, { name := "Ts", type := 24, offset := 2, embedded := false, tag := "", pkgPath := "", byteOffset := 16 }, { name := "Flag", type := 4, offset := 3, embedded := false, tag := "", pkgPath := "", byteOffset := 24 }, { name := "States", type := 81, offset := 4, embedded := false, tag := "", pkgPath := "", byteOffset := 32 }, { name := "Cells", type := 49, offset := 5, embedded := false, tag := "", pkgPath := "", byteOffset := 56 }, { name := "Tables", type := 82, offset := 6, embedded := false, tag := "", pkgPath := "", byteOffset := 80 }]) := ⟨Try.underlying84, Try.t84, by kernel_rfl, rfl, rfl, rfl⟩
theorem pl84 : Places Try.prog #[{ name := "Err", type := 80, offset := 0, embedded := false, tag := "", pkgPath := "", byteOffset := 0 }, { name := "Txn", type := 24, offset := 1, embedded := false, tag := "", pkgPath := "", byteOffset := 8 }, { name := "Ts", type := 24, offset := 2, embedded := false, tag := "", pkgPath := "", byteOffset := 16 }, { name := "Flag", type := 4, offset := 3, embedded := false, tag := "", pkgPath := "", byteOffset := 24 }, { name := "States", type := 81, offset := 4, embedded := false, tag := "", pkgPath := "", byteOffset := 32 }, { name := "Cells", type := 49, offset := 5, embedded := false, tag := "", pkgPath := "", byteOffset := 56 }, { name := "Tables", type := 82, offset := 6, embedded := false, tag := "", pkgPath := "", byteOffset := 80 }] #[(0, 1), (1, 1), (2, 1), (3, 1), (4, 1), (5, 1), (6, 1)] := fun w => by kernel_rfl
theorem ti89 : TI Try.prog 89 3 56 (Go.Value.agg #[(Go.Value.slice none 0 0), (Go.Value.bool false), (Go.Value.slice none 0 0)]) (Go.TypeDesc.struct #[{ name := "Key", type := 23, offset := 0, embedded := false, tag := "", pkgPath := "", byteOffset := 0 }, { name := "Dead", type := 4, offset := 1, embedded := false, tag := "", pkgPath := "", byteOffset := 24 }, { name := "Val", type := 23, offset := 2, embedded := false, tag := "", pkgPath := "", byteOffset := 32 }]) := ⟨Try.underlying89, Try.t89, by kernel_rfl, rfl, rfl, rfl⟩
theorem ti95 : TI Try.prog 95 1 8 (Go.Value.map none) (Go.TypeDesc.map 9 53) := ⟨Try.underlying95, Try.t95, by kernel_rfl, rfl, rfl, rfl⟩
theorem ti96 : TI Try.prog 96 1 8 (Go.Value.map none) (Go.TypeDesc.map 9 32) := ⟨Try.underlying96, Try.t96, by kernel_rfl, rfl, rfl, rfl⟩
theorem ti98 : TI Try.prog 98 2 16 (Go.Value.agg #[(Go.Value.map none), (Go.Value.map none)]) (Go.TypeDesc.struct #[{ name := "versions", type := 95, offset := 0, embedded := false, tag := "", pkgPath := "plenum/mvcc", byteOffset := 0 }, { name := "intents", type := 96, offset := 1, embedded := false, tag := "", pkgPath := "plenum/mvcc", byteOffset := 8 }]) := ⟨Try.underlying98, Try.t98, by kernel_rfl, rfl, rfl, rfl⟩
theorem pl98 : Places Try.prog #[{ name := "versions", type := 95, offset := 0, embedded := false, tag := "", pkgPath := "plenum/mvcc", byteOffset := 0 }, { name := "intents", type := 96, offset := 1, embedded := false, tag := "", pkgPath := "plenum/mvcc", byteOffset := 8 }] #[(0, 1), (1, 1)] := fun w => by kernel_rfl
theorem ti104 : TI Try.prog 104 1 24 (Go.Value.slice none 0 0) (Go.TypeDesc.slice 9) := ⟨Try.underlying104, Try.t104, by kernel_rfl, rfl, rfl, rfl⟩
theorem ti110 : TI Try.prog 110 1 8 (Go.Value.map none) (Go.TypeDesc.map 9 4) := ⟨Try.underlying110, Try.t110, by kernel_rfl, rfl, rfl, rfl⟩
theorem ti118 : TI Try.prog 118 2 48 (Go.Value.agg #[(Go.Value.slice none 0 0), (Go.Value.slice none 0 0)]) (Go.TypeDesc.struct #[{ name := "Lo", type := 23, offset := 0, embedded := false, tag := "", pkgPath := "", byteOffset := 0 }, { name := "Hi", type := 23, offset := 1, embedded := false, tag := "", pkgPath := "", byteOffset := 24 }]) := ⟨Try.underlying118, Try.t118, by kernel_rfl, rfl, rfl, rfl⟩
theorem pl118 : Places Try.prog #[{ name := "Lo", type := 23, offset := 0, embedded := false, tag := "", pkgPath := "", byteOffset := 0 }, { name := "Hi", type := 23, offset := 1, embedded := false, tag := "", pkgPath := "", byteOffset := 24 }] #[(0, 1), (1, 1)] := fun w => by kernel_rfl
theorem ti120 : TI Try.prog 120 3 32 (Go.Value.agg #[(Go.Value.string { data := #[] }), (Go.Value.int Go.IntKind.i64 0), (Go.Value.bool false)]) (Go.TypeDesc.struct #[{ name := "Name", type := 9, offset := 0, embedded := false, tag := "", pkgPath := "", byteOffset := 0 }, { name := "Kind", type := 3, offset := 1, embedded := false, tag := "", pkgPath := "", byteOffset := 16 }, { name := "NotNull", type := 4, offset := 2, embedded := false, tag := "", pkgPath := "", byteOffset := 24 }]) := ⟨Try.underlying120, Try.t120, by kernel_rfl, rfl, rfl, rfl⟩
theorem ti121 : TI Try.prog 121 1 8 (Go.Value.map none) (Go.TypeDesc.map 24 128) := ⟨Try.underlying121, Try.t121, by kernel_rfl, rfl, rfl, rfl⟩
theorem ti123 : TI Try.prog 123 2 16 (Go.Value.agg #[(Go.Value.pointer none), (Go.Value.map none)]) (Go.TypeDesc.struct #[{ name := "s", type := 26, offset := 0, embedded := false, tag := "", pkgPath := "plenum/shard", byteOffset := 0 }, { name := "last", type := 121, offset := 1, embedded := false, tag := "", pkgPath := "plenum/shard", byteOffset := 8 }]) := ⟨Try.underlying123, Try.t123, by kernel_rfl, rfl, rfl, rfl⟩
theorem pl123 : Places Try.prog #[{ name := "s", type := 26, offset := 0, embedded := false, tag := "", pkgPath := "plenum/shard", byteOffset := 0 }, { name := "last", type := 121, offset := 1, embedded := false, tag := "", pkgPath := "plenum/shard", byteOffset := 8 }] #[(0, 1), (1, 1)] := fun w => by kernel_rfl
theorem ti128 : TI Try.prog 128 8 112 (Go.Value.agg #[(Go.Value.int Go.IntKind.u64 0), (Go.Value.int Go.IntKind.i64 0), (Go.Value.int Go.IntKind.u64 0), (Go.Value.int Go.IntKind.u64 0), (Go.Value.bool false), (Go.Value.slice none 0 0), (Go.Value.slice none 0 0), (Go.Value.slice none 0 0)]) (Go.TypeDesc.struct #[{ name := "seq", type := 24, offset := 0, embedded := false, tag := "", pkgPath := "plenum/shard", byteOffset := 0 }, { name := "r", type := 84, offset := 1, embedded := false, tag := "", pkgPath := "plenum/shard", byteOffset := 8 }]) := ⟨Try.underlying128, Try.t128, by kernel_rfl, rfl, rfl, rfl⟩
theorem pl128 : Places Try.prog #[{ name := "seq", type := 24, offset := 0, embedded := false, tag := "", pkgPath := "plenum/shard", byteOffset := 0 }, { name := "r", type := 84, offset := 1, embedded := false, tag := "", pkgPath := "plenum/shard", byteOffset := 8 }] #[(0, 1), (1, 7)] := fun w => by kernel_rfl
theorem ti145 : TI Try.prog 145 9 120 (Go.Value.agg #[(Go.Value.int Go.IntKind.u64 0), (Go.Value.int Go.IntKind.u64 0), (Go.Value.int Go.IntKind.i64 0), (Go.Value.int Go.IntKind.u64 0), (Go.Value.int Go.IntKind.u64 0), (Go.Value.bool false), (Go.Value.slice none 0 0), (Go.Value.slice none 0 0), (Go.Value.slice none 0 0)]) (Go.TypeDesc.struct #[{ name := "client", type := 24, offset := 0, embedded := false, tag := "", pkgPath := "plenum/plenumref15", byteOffset := 0 }, { name := "seq", type := 24, offset := 1, embedded := false, tag := "", pkgPath := "plenum/plenumref15", byteOffset := 8 }, { name := "r", type := 84, offset := 2, embedded := false, tag := "", pkgPath := "plenum/plenumref15", byteOffset := 16 }]) := ⟨Try.underlying145, Try.t145, by kernel_rfl, rfl, rfl, rfl⟩
theorem pl145 : Places Try.prog #[{ name := "client", type := 24, offset := 0, embedded := false, tag := "", pkgPath := "plenum/plenumref15", byteOffset := 0 }, { name := "seq", type := 24, offset := 1, embedded := false, tag := "", pkgPath := "plenum/plenumref15", byteOffset := 8 }, { name := "r", type := 84, offset := 2, embedded := false, tag := "", pkgPath := "plenum/plenumref15", byteOffset := 16 }] #[(0, 1), (1, 1), (2, 7)] := fun w => by kernel_rfl
theorem en15 : En Try.prog 15 := En.of Try.func15 (by kernel_rfl) rfl
theorem en16 : En Try.prog 16 := En.of Try.func16 (by kernel_rfl) rfl
theorem en17 : En Try.prog 17 := En.of Try.func17 (by kernel_rfl) rfl
theorem en18 : En Try.prog 18 := En.of Try.func18 (by kernel_rfl) rfl
theorem en20 : En Try.prog 20 := En.of Try.func20 (by kernel_rfl) rfl
theorem en21 : En Try.prog 21 := En.of Try.func21 (by kernel_rfl) rfl
theorem en23 : En Try.prog 23 := En.of Try.func23 (by kernel_rfl) rfl
theorem en24 : En Try.prog 24 := En.of Try.func24 (by kernel_rfl) rfl
theorem en25 : En Try.prog 25 := En.of Try.func25 (by kernel_rfl) rfl
theorem en26 : En Try.prog 26 := En.of Try.func26 (by kernel_rfl) rfl
theorem en27 : En Try.prog 27 := En.of Try.func27 (by kernel_rfl) rfl
theorem en28 : En Try.prog 28 := En.of Try.func28 (by kernel_rfl) rfl
theorem en29 : En Try.prog 29 := En.of Try.func29 (by kernel_rfl) rfl
theorem en30 : En Try.prog 30 := En.of Try.func30 (by kernel_rfl) rfl
theorem en31 : En Try.prog 31 := En.of Try.func31 (by kernel_rfl) rfl
theorem en32 : En Try.prog 32 := En.of Try.func32 (by kernel_rfl) rfl
theorem en33 : En Try.prog 33 := En.of Try.func33 (by kernel_rfl) rfl
theorem en34 : En Try.prog 34 := En.of Try.func34 (by kernel_rfl) rfl
theorem en35 : En Try.prog 35 := En.of Try.func35 (by kernel_rfl) rfl
theorem en36 : En Try.prog 36 := En.of Try.func36 (by kernel_rfl) rfl
theorem en37 : En Try.prog 37 := En.of Try.func37 (by kernel_rfl) rfl
theorem en38 : En Try.prog 38 := En.of Try.func38 (by kernel_rfl) rfl
theorem en39 : En Try.prog 39 := En.of Try.func39 (by kernel_rfl) rfl
theorem en40 : En Try.prog 40 := En.of Try.func40 (by kernel_rfl) rfl
theorem en41 : En Try.prog 41 := En.of Try.func41 (by kernel_rfl) rfl
theorem en42 : En Try.prog 42 := En.of Try.func42 (by kernel_rfl) rfl
theorem en43 : En Try.prog 43 := En.of Try.func43 (by kernel_rfl) rfl
theorem en44 : En Try.prog 44 := En.of Try.func44 (by kernel_rfl) rfl
theorem en45 : En Try.prog 45 := En.of Try.func45 (by kernel_rfl) rfl
theorem en46 : En Try.prog 46 := En.of Try.func46 (by kernel_rfl) rfl
theorem en47 : En Try.prog 47 := En.of Try.func47 (by kernel_rfl) rfl
theorem en48 : En Try.prog 48 := En.of Try.func48 (by kernel_rfl) rfl
theorem en49 : En Try.prog 49 := En.of Try.func49 (by kernel_rfl) rfl
theorem en50 : En Try.prog 50 := En.of Try.func50 (by kernel_rfl) rfl
theorem en51 : En Try.prog 51 := En.of Try.func51 (by kernel_rfl) rfl
theorem en52 : En Try.prog 52 := En.of Try.func52 (by kernel_rfl) rfl
theorem en53 : En Try.prog 53 := En.of Try.func53 (by kernel_rfl) rfl
theorem en54 : En Try.prog 54 := En.of Try.func54 (by kernel_rfl) rfl
theorem en55 : En Try.prog 55 := En.of Try.func55 (by kernel_rfl) rfl
theorem en56 : En Try.prog 56 := En.of Try.func56 (by kernel_rfl) rfl
theorem en57 : En Try.prog 57 := En.of Try.func57 (by kernel_rfl) rfl
theorem en58 : En Try.prog 58 := En.of Try.func58 (by kernel_rfl) rfl
theorem en59 : En Try.prog 59 := En.of Try.func59 (by kernel_rfl) rfl
theorem en60 : En Try.prog 60 := En.of Try.func60 (by kernel_rfl) rfl
theorem en61 : En Try.prog 61 := En.of Try.func61 (by kernel_rfl) rfl
theorem en62 : En Try.prog 62 := En.of Try.func62 (by kernel_rfl) rfl
theorem en63 : En Try.prog 63 := En.of Try.func63 (by kernel_rfl) rfl
theorem en64 : En Try.prog 64 := En.of Try.func64 (by kernel_rfl) rfl
theorem en65 : En Try.prog 65 := En.of Try.func65 (by kernel_rfl) rfl
theorem en66 : En Try.prog 66 := En.of Try.func66 (by kernel_rfl) rfl
theorem en67 : En Try.prog 67 := En.of Try.func67 (by kernel_rfl) rfl
theorem en68 : En Try.prog 68 := En.of Try.func68 (by kernel_rfl) rfl
theorem en69 : En Try.prog 69 := En.of Try.func69 (by kernel_rfl) rfl
theorem en70 : En Try.prog 70 := En.of Try.func70 (by kernel_rfl) rfl
theorem en71 : En Try.prog 71 := En.of Try.func71 (by kernel_rfl) rfl
theorem en74 : En Try.prog 74 := En.of Try.func74 (by kernel_rfl) rfl
theorem en75 : En Try.prog 75 := En.of Try.func75 (by kernel_rfl) rfl
theorem en76 : En Try.prog 76 := En.of Try.func76 (by kernel_rfl) rfl
theorem en77 : En Try.prog 77 := En.of Try.func77 (by kernel_rfl) rfl
theorem en78 : En Try.prog 78 := En.of Try.func78 (by kernel_rfl) rfl
theorem en79 : En Try.prog 79 := En.of Try.func79 (by kernel_rfl) rfl
theorem en80 : En Try.prog 80 := En.of Try.func80 (by kernel_rfl) rfl
theorem en85 : En Try.prog 85 := En.of Try.func85 (by kernel_rfl) rfl
theorem en98 : En Try.prog 98 := En.of Try.func98 (by kernel_rfl) rfl
theorem mixed : Try.prog.follows .mixedOrders = true := by kernel_rfl
end Go.Proofs.Ytpandioolpnihaa

namespace Go.Wk
open Go
set_option linter.unusedVariables false

def Opens {α : Type} (P : Program) (w : World) (t : TypeId) (T : Ty α) : Prop :=
  ∀ (H : Type) (enc : TypeId × Value → H) (fuel : Nat) (cs : List Value) (x : DataW H × List MemPlace), DataW.trod enc P w 0 (fun _ => true) true fuel t cs = some x → (x.1.weights P t).all (· ≤ reachBytes) = true → ∃ y, T.R (fun _ => True) w cs y

def OpensF {α : Type} (P : Program) (w : World) (fs : List Field) (off : Nat) (T : Ty α) : Prop :=
  ∀ (H : Type) (enc : TypeId × Value → H) (fuel : Nat) (cs : List Value) (xs : List (DataW H × List MemPlace)), (∀ (i : Nat) (f : Field), fs[i]? = some f → DataW.trod enc P w 0 (fun _ => true) true fuel f.type ((cs.drop f.offset).take (P.cellsOf f.type)) = xs[i]?) → xs.length = fs.length →
    (DataW.weightsEach P (fs.map (·.type)) (xs.map (·.1))).all (· ≤ reachBytes) = true → ∃ y, T.R (fun _ => True) w ((cs.drop off).take T.sz) y

section
variable {α β : Type} {P : Program} {w : World} {t : TypeId}

theorem opens_int {k : IntKind} (ht : P.underlying t = some (.int k)) : Opens P w t (tInt k) := by
  intro H enc fuel cs x h _
  obtain ⟨n, rfl, _, hw⟩ := DataW.trod_int ht h
  exact ⟨n, rfl, hw⟩
theorem opens_bool (ht : P.underlying t = some .bool) : Opens P w t tBool := by
  intro H enc fuel cs x h _
  obtain ⟨b, rfl, _⟩ := DataW.trod_bool ht h
  exact ⟨b, rfl, trivial⟩
def StrOk (s : ByteArray) : Prop := s.size ≤ 140737488351232
def tStr : Ty ByteArray := tLit Value.string StrOk fun _ => rfl
theorem opens_str (ht : P.underlying t = some .string) : Opens P w t tStr := by
  intro H enc fuel cs x h hw
  obtain ⟨s, rfl, rfl, _⟩ := DataW.trod_string ht h
  refine ⟨s, rfl, ?_⟩
  simp only [DataW.weights, List.all_cons, List.all_nil, Bool.and_true, decide_eq_true_eq, Array.length_toList] at hw
  exact hw

theorem weightsAll_mem {H : Type} {e : TypeId} {p : Nat → Bool} : ∀ {ds : List (DataW H)} {d : DataW H}, d ∈ ds → (DataW.weightsAll P e ds).all p = true → (d.weights P e).all p = true
  | [], d, h, _ => by simp at h
  | d0 :: ds, d, h, hw => by
    rw [DataW.weightsAll, List.all_append, Bool.and_eq_true] at hw
    rcases List.mem_cons.1 h with rfl | h
    · exact hw.1
    · exact weightsAll_mem h hw.2

theorem list_of_each {R : Nat → α → Prop} : ∀ (n : Nat), (∀ i, i < n → ∃ x, R i x) → ∃ xs : List α, xs.length = n ∧ ∀ i x, xs[i]? = some x → R i x
  | 0, _ => ⟨[], rfl, fun i x h => by simp at h⟩
  | n + 1, h => by
    obtain ⟨xs, hl, hx⟩ := list_of_each n fun i hi => h i (by omega)
    obtain ⟨y, hy⟩ := h n (by omega)
    refine ⟨xs ++ [y], by simp [hl], fun i x hi => ?_⟩
    by_cases hlt : i < xs.length
    · exact hx i x (by rwa [List.getElem?_append_left hlt] at hi)
    · have hi' := (List.getElem?_eq_some_iff.1 hi).1
      simp at hi'
      obtain rfl : i = n := by omega
      rw [List.getElem?_append_right (by omega), hl] at hi
      simp at hi; subst hi; exact hy

theorem cells_of_cells? {b o n : Nat} {cs : List Value} (hn : 0 < n) (h : w.cells? 0 ⟨b, o, none⟩ n = some cs) : Cells w b o cs := by
  obtain ⟨_, hl, hc⟩ := World.cells?_some h
  have hadd : ∀ i, (⟨b, o, none⟩ : Addr).add i = ⟨b, o + i, none⟩ := fun i => by
    by_cases h0 : i = 0
    · subst h0; rfl
    · simp [Addr.add, h0]
  have h0 := hc 0 hn
  have h1 : ∃ v, cs[0]? = some v := ⟨_, List.getElem?_eq_getElem (by omega)⟩
  obtain ⟨v, hv⟩ := h1
  rw [hadd, hv] at h0
  unfold World.cell? at h0
  split at h0
  · rename_i C ty fr hb
    refine ⟨C, ty, fr, hb, fun i hi => ?_⟩
    have := hc i (by omega)
    rw [hadd] at this
    simp only [World.cell?, hb] at this
    simpa using this
  · cases h0

theorem opens_slice {e : TypeId} {bytes : Nat} {T : Ty α} (ht : P.underlying t = some (.slice e)) (hc : P.cellsOf e = T.sz) (hb : P.bytesOf e = bytes) (hp : 0 < T.sz) (he : Opens P w e T) : Opens P w t (tSlice T bytes) := by
  intro H enc fuel cs x h hw
  rcases DataW.trod_slice ht h with ⟨rfl, _⟩ | ⟨a, len, cap, elems, rest, n, _, rfl, rfl, _, hl, hm, hlen, hel, _, _⟩
  · exact ⟨[], _, rfl, SlR.nil _ _ _ _⟩
  · rw [DataW.weights, ht] at hw
    simp only [List.length_map, List.all_cons, List.all_append, Bool.and_eq_true, decide_eq_true_eq, hb] at hw
    obtain ⟨hw1, hw2, _⟩ := hw
    obtain ⟨b, o, sp⟩ := a
    have key : ∀ i, i < len → ∃ x, sp = none ∧ ∃ cs, Cells w b (o + i * T.sz) cs ∧ T.R (fun _ => True) w cs x := by
      intro i hi
      have hsp : sp = none := by
        have h0 := hel 0 (by omega)
        rw [List.getElem?_eq_getElem (by omega), Option.bind_eq_some_iff] at h0
        obtain ⟨cs', hcs, _⟩ := h0
        have h2 := World.cells?_some hcs
        have h1 := h2.2.2 0 (by omega)
        rw [Nat.zero_mul, List.getElem?_eq_getElem (by omega)] at h1
        simp only [Addr.add, if_true, World.cell?] at h1
        split at h1
        · cases sp with
          | none => rfl
          | some _ => simp at h1
        · cases h1
      subst hsp
      have h0 := hel i hi
      rw [List.getElem?_eq_getElem (by omega), Option.bind_eq_some_iff] at h0
      obtain ⟨cs', hcs, hy⟩ := h0
      have hadd : (⟨b, o, none⟩ : Addr).add (i * P.cellsOf e) = ⟨b, o + i * T.sz, none⟩ := by
        rw [hc]
        by_cases h0 : i * T.sz = 0
        · simp [Addr.add, h0]
        · simp [Addr.add, h0]
      rw [hadd, hc] at hcs
      obtain ⟨x, hx⟩ := he H enc n cs' _ hy (weightsAll_mem (List.mem_map.2 ⟨_, List.getElem_mem _, rfl⟩) hw2)
      exact ⟨x, rfl, cs', cells_of_cells? hp hcs, hx⟩
    obtain ⟨xs, hxl, hx⟩ := list_of_each len key
    refine ⟨xs, _, rfl, some ⟨b, o, sp⟩, cap, by rw [hxl], by omega, fun h => (by cases h), ?_, hm, fun i x hi => ?_⟩
    · have h1 : xs.length * bytes ≤ (elems.length + rest.length) * bytes := Nat.mul_le_mul_right _ (by omega)
      have h2 : (elems.length + rest.length) * bytes ≤ 140737488351232 := hw1
      omega
    · obtain ⟨rfl, cs', h1, h2⟩ := hx i x hi
      exact ⟨b, o, cs', rfl, trivial, h1, h2⟩

theorem opensF_one {f : Field} {off : Nat} {T : Ty α} (ho : f.offset = off) (hc : P.cellsOf f.type = T.sz) (h : Opens P w f.type T) : OpensF P w [f] off T := by
  intro H enc fuel cs xs hx hl hw
  match xs, hl with
  | [x0], _ =>
    have h0 := hx 0 f rfl
    simp only [List.map_cons, List.map_nil, DataW.weightsEach, List.append_nil] at hw
    rw [ho, hc] at h0
    exact h H enc fuel _ x0 h0 hw
theorem opensF_cons {f : Field} {fs : List Field} {off : Nat} {A : Ty α} {B : Ty β} (ho : f.offset = off) (hc : P.cellsOf f.type = A.sz) (h : Opens P w f.type A) (k : OpensF P w fs (off + A.sz) B) : OpensF P w (f :: fs) off (tPair A B) := by
  intro H enc fuel cs xs hx hl hw
  match xs, hl with
  | x0 :: xs, hl =>
    have h0 := hx 0 f rfl
    simp only [List.map_cons, DataW.weightsEach, List.all_append, Bool.and_eq_true] at hw
    rw [ho, hc] at h0
    obtain ⟨y0, hy0⟩ := h H enc fuel _ x0 h0 hw.1
    obtain ⟨y1, hy1⟩ := k H enc fuel cs xs (fun i g hi => hx (i + 1) g hi) (by simpa using hl) hw.2
    refine ⟨(y0, y1), _, _, ?_, hy0, hy1⟩
    show (cs.drop off).take (A.sz + B.sz) = _
    rw [List.take_add, List.drop_drop]
theorem opens_struct {fs : Array Field} {T : Ty α} (ht : P.underlying t = some (.struct fs)) (hc : P.cellsOf t = T.sz) (h : OpensF P w fs.toList 0 T) : Opens P w t T := by
  intro H enc fuel cs x hx hw
  obtain ⟨xs, n, _, rfl, hl, hxl, hf⟩ := DataW.trod_struct ht hx
  rw [DataW.weights, ht] at hw
  obtain ⟨y, hy⟩ := h H enc n cs xs (fun i f hi => hf i f (by simpa using hi)) (by simpa using hxl) hw
  refine ⟨y, ?_⟩
  rwa [List.drop_zero, ← hc, ← hl, List.take_length] at hy
theorem opens_map {T : Ty α} {f : β → α} (g : α → β) (hg : ∀ a, f (g a) = a) (h : Opens P w t T) : Opens P w t (tMap T f) := by
  intro H enc fuel cs x hx hw
  obtain ⟨y, hy⟩ := h H enc fuel cs x hx hw
  exact ⟨g y, by show T.R _ w cs (f (g y)); rwa [hg]⟩

/-- A parameter. -/
theorem Opens.arg {T : Ty α} (h : Opens P w t T) {H : Type} {enc : TypeId × Value → H} {v : Value} {d : DataW H} {ps : List MemPlace} (ht : DataW.Trod enc P w 0 (fun _ => true) true t v d ps) (hw : (d.weights P t).all (· ≤ reachBytes) = true) : ∃ y, T.R (fun _ => True) w v.cells.toList y := by
  obtain ⟨fuel, hf⟩ := ht
  exact h H enc fuel _ _ hf hw
theorem Opens.slice {T : Ty α} {bytes : Nat} (h : Opens P w t (tSlice T bytes)) {H : Type} {enc : TypeId × Value → H} {a : Option Addr} {n c : Nat} {d : DataW H} {ps : List MemPlace} (ht : DataW.Trod enc P w 0 (fun _ => true) true t (.slice a n c) d ps) (hw : (d.weights P t).all (· ≤ reachBytes) = true) : ∃ xs, SlR T bytes (fun _ => True) w (.slice a n c) xs := by
  obtain ⟨xs, v, e, hv⟩ := h.arg ht hw
  obtain rfl : Value.slice a n c = v := by simpa [Value.cells] using e
  exact ⟨xs, hv⟩
end
end Go.Wk

namespace Go.Wk
open Go
set_option linter.unusedVariables false
section
variable {P : Program} {f : Fr} {w : World} {d t t' ty : Nat} {p : String} {af : Array Edge} {g : Option (Nat × Bool)} {x y : Operand}
theorem run_isNil {e : TypeId} {a : Option Addr} (ht : P.underlying t = some (.pointer e)) (hp : a = none ∨ ∃ x, a = some x) : (Op.equal t (.pointer a) (.pointer none)).run P w = .ok a.isNone w := by
  unfold Op.equal
  rw [show Op.maxDepth = 9999 + 1 from rfl, Op.equalIn]
  simp only [Sem.run_bind, run_underlying ht, Result.andThen]
  rcases hp with rfl | ⟨x, rfl⟩
  · rfl
  · rfl
theorem y_neqB {a b : Bool} (ht : P.underlying t = some .bool) (hx : ev f x = .bool a) (hy : ev f y = .bool b) : Yd P ⟨some d, .binOp .neq t x y t', ty, p, af, g⟩ f w (.bool (a != b)) :=
  ⟨rfl, by simp [execOp, hx, hy, eqGuard, binOp, run_equal_bool w t a b ht, bne]⟩
theorem y_eqlB {a b : Bool} (ht : P.underlying t = some .bool) (hx : ev f x = .bool a) (hy : ev f y = .bool b) : Yd P ⟨some d, .binOp .eql t x y t', ty, p, af, g⟩ f w (.bool (a == b)) :=
  ⟨rfl, by simp [execOp, hx, hy, eqGuard, binOp, run_equal_bool w t a b ht]⟩
end
theorem SlR.reach {α : Type} {T : Ty α} {bytes : Nat} {Z : Nat → Prop} {w : World} {v : Value} {xs : List α} (h : SlR T bytes Z w v xs) : xs.length * bytes ≤ 140737488351232 := by
  obtain ⟨_, _, _, _, _, h, _⟩ := h; exact h
theorem SlR.len1 {α : Type} {T : Ty α} {bytes : Nat} {Z : Nat → Prop} {w : World} {v : Value} {xs : List α} (h : SlR T bytes Z w v xs) (hb : 0 < bytes) : xs.length ≤ 140737488351232 :=
  Nat.le_trans (Nat.le_mul_of_pos_right _ hb) h.reach
end Go.Wk

namespace Go.Wk
open Go
set_option linter.unusedVariables false

section
variable {P : Program} {l : Option Nat} {n : Nat} {K : PK} {f : Fr} {ds : List Deferred} {w : World} {L : List Atom} {d t ty size bytes : Nat} {zero : Value} {dd : TypeDesc} {p : String} {af : Array Edge} {g : Option (Nat × Bool)} {x y : Operand}

theorem rowCell {w : World} {e sz m : Nat} {v : Value} {cs : List Value} (h : w.ownsRow 0 e sz v m cs) {b o : Nat} {u : Value} (hv : v.ownBlock = some b) (hc : cs[o]? = some u) : Cells w b o [u] := by
  rcases h.2 with ⟨rfl, _⟩ | ⟨g', cap, cur, rfl, _, hh, hcc, hm, hsz, ht⟩
  · simp [Value.ownBlock] at hv
  · have hbg : g' = b := by simpa [Value.ownBlock] using hv
    subst hbg
    refine Cells.unit hh ?_
    have hl := (List.getElem?_eq_some_iff.1 hc).1
    rw [← ht, List.getElem?_take_of_lt (by rw [← h.1]; exact hl), Array.getElem?_toList] at hc
    exact hc
/-- One cell of a row of one's own is written. -/
theorem op_storeRow (H : Holds w L) (i : Nat) {e sz m : Nat} {v : Value} {cs : List Value} (hi : L[i]? = some (row e sz v m cs)) {b o : Nat} (hv : v.ownBlock = some b) (ti : TI P t 1 bytes zero dd) {u : Value} (hx : ev f x = .pointer (some ⟨b, o, none⟩)) (hy : ev f y = u)
    (hu : u.cells = #[u]) (ho : o < cs.length) (h1 : u.oneCell' = true) (k : ∀ w', Holds w' (L.set i (row e sz v m (cs.set o u))) → K f ds w') : Op1 P n ⟨none, .store t x y, ty, p, af, g⟩ f ds w K := by
  obtain ⟨hl, hor⟩ := H.get hi
  rcases hor with ⟨rfl, rfl⟩ | ⟨g', cap, cur, rfl, hb0, hh, hc, hm, hsz, ht⟩
  · simp [Value.ownBlock] at hv
  · have hbg : g' = b := by simpa [Value.ownBlock] using hv
    subst hbg
    have hlen : m * sz ≤ cap * sz := Nat.mul_le_mul_right _ hc
    have hcl : cs.length ≤ cur.size := by omega
    have hst := run_storeCells (P := P) (o := o) u.cells.toList 0 w cur hh (by rw [hu]; simp; omega) (by rw [hu]; simpa using h1)
    simp only [Nat.add_zero] at hst
    have hlaid : laid cur o u.cells.toList = cur.setIfInBounds o u := by rw [hu]; rfl
    refine Op1_skip rfl rfl (w' := w.putObj g' (.cells (laid cur o u.cells.toList) e)) ?_ (k _ (H.step i hi rfl (Ext.put w g' _) (fun k _ hk => by subst hk; simp [Value.ownBlock]) (row_ok ⟨by rw [List.length_set]; exact hl, .inr ⟨g', cap, _, rfl, hb0, World.putObj_heap_same (own_lt hh), hc, hm, by rw [hlaid]; simpa using hsz, ?_⟩⟩) fun _ h => .inl h))
    · simp [execOp, hx, hy, Instr.storeAt, Instr.sureAddr, storeVar, ti.run_size, hu, Result.andThen]
      rw [hu] at hst; simp at hst; rw [hst]
    · rw [hlaid, Array.toList_setIfInBounds, List.take_set, ht]
end

section
variable {P : Program} {n : Nat} {Q : PQ} {f : Fr} {ds : List Deferred} {w : World} {ops : List Oper} {bs : List Nat} {S0 : World → Prop} {fuel : Nat} {listed : List Bool}
theorem Op1.imp {o : Oper} {K K' : PK} (h : Op1 P n o f ds w K) (hk : ∀ f ds w, K f ds w → K' f ds w) : Op1 P n o f ds w K' := ⟨h.1, fun a ha he _ => Oper.wp_mono' (fun a w hh => by obtain ⟨f', h1, h2⟩ := hh; exact ⟨f', h1, hk _ _ _ h2⟩) (h.2 a ha he)⟩
/-- Two effects, in either order. -/
theorem DA_pair (i j : Nat) {dst dst' : Option Nat} {op op' : Op} {ty ty' : Nat} {p p' : String} {af af' : Array Edge} (hr : Region.ready .any ops.toArray listed.toArray = [i, j]) (hri : Region.ready .any ops.toArray (listed.set i true).toArray = [j]) (hrj : Region.ready .any ops.toArray (listed.set j true).toArray = [i])
    (hne : i ≠ j) (hi : ops[i]? = some ⟨dst, op, ty, p, af, none⟩) (hj : ops[j]? = some ⟨dst', op', ty', p', af', none⟩) (A : PK)
    (h : Op1 P n ⟨dst, op, ty, p, af, none⟩ f ds w fun f1 ds1 w1 => Sx bs S0 (listed.set i true).toArray w1 ∧ Op1 P n ⟨dst', op', ty', p', af', none⟩ f1 ds1 w1 fun f2 ds2 w2 => Sx bs S0 ((listed.set i true).set j true).toArray w2 ∧ A f2 ds2 w2)
    (h' : Op1 P n ⟨dst', op', ty', p', af', none⟩ f ds w fun f1 ds1 w1 => Sx bs S0 (listed.set j true).toArray w1 ∧ Op1 P n ⟨dst, op, ty, p, af, none⟩ f1 ds1 w1 fun f2 ds2 w2 => Sx bs S0 ((listed.set i true).set j true).toArray w2 ∧ A f2 ds2 w2)
    (k : ∀ f ds w, Sx bs S0 ((listed.set i true).set j true).toArray w → A f ds w → DA P n ops bs S0 Q fuel ((listed.set i true).set j true) f ds w) : DA P n ops bs S0 Q (fuel + 1 + 1) listed f ds w := by
  refine DA_two i j hr hi hj (h.imp ?_) (h'.imp ?_)
  · rintro f1 ds1 w1 ⟨hs, h2⟩
    exact ⟨hs, DA_one j hri hj (h2.imp fun f2 ds2 w2 ⟨hs2, ha⟩ => ⟨hs2, k _ _ _ hs2 ha⟩)⟩
  · rintro f1 ds1 w1 ⟨hs, h2⟩
    refine ⟨hs, DA_one i hrj hi (h2.imp fun f2 ds2 w2 ⟨hs2, ha⟩ => ?_)⟩
    rw [List.set_comm _ _ (Ne.symm hne)]
    exact ⟨hs2, k _ _ _ hs2 ha⟩
end

section
variable {α : Type}
theorem Cells.append {w : World} {b o : Nat} {c1 c2 : List Value} (h1 : Cells w b o c1) (h2 : Cells w b (o + c1.length) c2) : Cells w b o (c1 ++ c2) := by
  obtain ⟨C, ty, fr, hb, hc⟩ := h1
  obtain ⟨C', ty', fr', hb', hc'⟩ := h2
  rw [hb] at hb'; injection hb' with hb'; injection hb' with e1 e2 e3; subst e1 e2 e3
  refine ⟨C, ty, fr, hb, fun i hi => ?_⟩
  by_cases h : i < c1.length
  · rw [List.getElem?_append_left h]; exact hc i h
  · rw [List.getElem?_append_right (by omega)]
    have := hc' (i - c1.length) (by simp at hi; omega)
    rwa [show o + c1.length + (i - c1.length) = o + i by omega] at this
/-- What an append reads of a slice. -/
theorem SlR.src {T : Ty α} {bytes : Nat} {Z : Nat → Prop} {w : World} {v : Value} {xs : List α} (h : SlR T bytes Z w v xs) : ∃ news, (∀ w', Keeps Z w w' → Src w' v xs.length news) ∧ Els T Z w news xs := by
  obtain ⟨a, c, rfl, h1, h2, h3, h4, h5⟩ := h
  by_cases hx : xs = []
  · subst hx
    exact ⟨[], fun _ _ => ⟨a, c, rfl, h2, fun A e j u hu => by simp at hu⟩, Els.nil _ _ _⟩
  · obtain ⟨x0, hx0⟩ : ∃ x, xs[0]? = some x := ⟨xs[0]'(List.length_pos_iff.2 hx), List.getElem?_eq_getElem _⟩
    obtain ⟨b, o, _, rfl, hz0, hc0, _⟩ := h5 0 x0 hx0
    have key : ∀ k, k ≤ xs.length → ∃ news, Els T Z w news (xs.take k) ∧ Cells w b o news := by
      intro k
      induction k with
      | zero => intro _; exact ⟨[], by simpa using Els.nil T Z w, by obtain ⟨C, ty, fr, hb, _⟩ := hc0; exact ⟨C, ty, fr, hb, fun i hi => by simp at hi⟩⟩
      | succ k ih =>
        intro hk
        obtain ⟨news, he, hc⟩ := ih (by omega)
        obtain ⟨x, hxk⟩ : ∃ x, xs[k]? = some x := ⟨xs[k]'(by omega), List.getElem?_eq_getElem _⟩
        obtain ⟨b', o', cs, e, _, hcs, hr⟩ := h5 k x hxk
        injection e with e; injection e with e1 e2 _; subst e1 e2
        refine ⟨news ++ cs, by rw [List.take_add_one, hxk]; exact he.snoc hr, hc.append ?_⟩
        rw [he.1, List.length_take, Nat.min_eq_left (by omega)]; exact hcs
    obtain ⟨news, he, hc⟩ := key xs.length (Nat.le_refl _)
    rw [List.take_length] at he
    exact ⟨news, fun w' k => Src.cells (hc.ext (k.2 b hz0 hc.lt)) _ _, he⟩
theorem cutA_zero (a : Option Addr) (m size : Nat) : cutA a m 0 size = a := by
  unfold cutA; split
  · rfl
  · cases a with
    | none => rfl
    | some a => simp [Addr.add]
/-- A slice's begin. -/
theorem SlR.take {T : Ty α} {bytes : Nat} {Z : Nat → Prop} {w : World} {a : Option Addr} {n c : Nat} {xs : List α} (h : SlR T bytes Z w (.slice a n c) xs) (k : Nat) (hk : k ≤ xs.length) (m size : Nat) : SlR T bytes Z w (.slice (cutA a m 0 size) k c) (xs.take k) := by
  rw [cutA_zero]
  obtain ⟨a', c', e, h1, h2, h3, h4, h5⟩ := h
  injection e with e1 e2 e3; subst e1 e3
  have hl : (xs.take k).length = k := by rw [List.length_take]; omega
  refine ⟨a, c, by rw [hl], by omega, fun h => ⟨by have := (h2 h).1; omega, (h2 h).2⟩, by rw [hl]; exact Nat.le_trans (Nat.mul_le_mul_right _ hk) h3, h4, fun i x hx => h5 i x ?_⟩
  rw [List.getElem?_take] at hx
  split at hx
  · exact hx
  · cases hx
theorem flat_get {g : α → List Value} {m : Nat} (hg : ∀ x, (g x).length = m) : ∀ (l : List α) (i c : Nat), c < m → (l.flatMap g)[i * m + c]? = (l[i]?).bind fun x => (g x)[c]?
  | [], i, c, _ => by simp
  | x :: l, 0, c, hc => by
    rw [List.flatMap_cons, List.getElem?_append_left (by rw [hg]; omega)]; simp
  | x :: l, i + 1, c, hc => by
    rw [List.flatMap_cons, List.getElem?_append_right (by rw [hg, Nat.add_mul]; omega), hg, show (i + 1) * m + c - m = i * m + c by rw [Nat.add_mul]; omega, flat_get hg l i c hc]; simp
theorem flat_len {g : α → List Value} {m : Nat} (hg : ∀ x, (g x).length = m) : ∀ (l : List α), (l.flatMap g).length = l.length * m
  | [] => by simp
  | x :: l => by rw [List.flatMap_cons, List.length_append, hg, flat_len hg l, List.length_cons, Nat.add_mul]; omega
theorem flat_set {g : α → List Value} {m : Nat} (hg : ∀ x, (g x).length = m) : ∀ (l : List α) (i c : Nat) (x x' : α) (v : Value), c < m → l[i]? = some x → g x' = (g x).set c v → (l.flatMap g).set (i * m + c) v = (l.set i x').flatMap g
  | [], i, c, x, x', v, _, h, _ => by simp at h
  | y :: l, 0, c, x, x', v, hc, h, hx => by
    simp at h; subst h
    rw [List.flatMap_cons, List.set_append_left _ _ (by rw [hg]; omega), List.set_cons_zero, List.flatMap_cons, hx]; simp
  | y :: l, i + 1, c, x, x', v, hc, h, hx => by
    simp at h
    rw [List.flatMap_cons, List.set_append_right _ _ (by rw [hg, Nat.add_mul]; omega), hg, show (i + 1) * m + c - m = i * m + c by rw [Nat.add_mul]; omega, flat_set hg l i c x x' v hc h hx, List.set_cons_succ, List.flatMap_cons]
end
end Go.Wk

namespace Go.Wk
open Go
set_option linter.unusedVariables false

/-- Bytes as a string. -/
def kb (k : List Int) : ByteArray := ⟨(k.map fun i => UInt8.ofNat i.toNat).toArray⟩
theorem kb_fold (k : List Int) : k.foldl (fun r n => r.push (UInt8.ofNat n.toNat)) ByteArray.empty = kb k := by
  have : ∀ (k : List Int) (s : ByteArray), k.foldl (fun r n => r.push (UInt8.ofNat n.toNat)) s = ⟨s.data ++ (k.map fun i => UInt8.ofNat i.toNat).toArray⟩ := by
    intro k
    induction k with
    | nil => intro s; simp
    | cons a k ih => intro s; rw [List.foldl_cons, ih]; simp [ByteArray.push]
  rw [this]; simp [kb, ByteArray.empty, ByteArray.emptyWithCapacity]; rfl
theorem inK_u8 {a : Int} (h : InK .u8 a) : 0 ≤ a ∧ a < 256 := by
  unfold InK Lit.wf at h
  rw [Bool.and_eq_true, decide_eq_true_iff, decide_eq_true_iff] at h
  have h1 : IntKind.u8.min = 0 := rfl
  have h2 : IntKind.u8.max = 255 := rfl
  omega
theorem u8_inj {a b : Int} (ha : InK .u8 a) (hb : InK .u8 b) (h : UInt8.ofNat a.toNat = UInt8.ofNat b.toNat) : a = b := by
  have ha' := inK_u8 ha
  have hb' := inK_u8 hb
  have := congrArg UInt8.toNat h
  simp at this
  omega
theorem kb_inj : ∀ {a b : List Int}, (∀ x ∈ a, InK .u8 x) → (∀ x ∈ b, InK .u8 x) → kb a = kb b → a = b := by
  intro a b ha hb h
  have h1 : (a.map fun i => UInt8.ofNat i.toNat) = (b.map fun i => UInt8.ofNat i.toNat) := by
    have := congrArg (fun s => s.data.toList) h
    simpa [kb] using this
  clear h
  induction a generalizing b with
  | nil => cases b with
    | nil => rfl
    | cons y b => simp at h1
  | cons x a ih => cases b with
    | nil => simp at h1
    | cons y b =>
      simp only [List.map_cons, List.cons.injEq] at h1
      rw [u8_inj (ha x (by simp)) (hb y (by simp)) h1.1, ih (fun x hx => ha x (by simp [hx])) (fun x hx => hb x (by simp [hx])) h1.2]

section
variable {P : Program} {f : Fr} {w : World} {d t t' ty : Nat} {p : String} {af : Array Edge} {g : Option (Nat × Bool)} {x y : Operand} {Z : Nat → Prop}
theorem SlR.row {α : Type} {T : Ty α} {bytes : Nat} {v : Value} {xs : List α} (h : SlR T bytes Z w v xs) (hx : xs ≠ []) : ∃ b o c news, v = .slice (some ⟨b, o, none⟩) xs.length c ∧ Z b ∧ Cells w b o news ∧ Els T Z w news xs := by
  obtain ⟨a, c, rfl, h1, h2, h3, h4, h5⟩ := h
  obtain ⟨x0, hx0⟩ : ∃ x, xs[0]? = some x := ⟨xs[0]'(List.length_pos_iff.2 hx), List.getElem?_eq_getElem _⟩
  obtain ⟨b, o, _, rfl, hz0, hc0, _⟩ := h5 0 x0 hx0
  have key : ∀ k, k ≤ xs.length → ∃ news, Els T Z w news (xs.take k) ∧ Cells w b o news := by
    intro k
    induction k with
    | zero => intro _; exact ⟨[], by simpa using Els.nil T Z w, by obtain ⟨C, ty, fr, hb, _⟩ := hc0; exact ⟨C, ty, fr, hb, fun i hi => by simp at hi⟩⟩
    | succ k ih =>
      intro hk
      obtain ⟨news, he, hc⟩ := ih (by omega)
      obtain ⟨x, hxk⟩ : ∃ x, xs[k]? = some x := ⟨xs[k]'(by omega), List.getElem?_eq_getElem _⟩
      obtain ⟨b', o', cs, e, _, hcs, hr⟩ := h5 k x hxk
      injection e with e; injection e with e1 e2 _; subst e1 e2
      refine ⟨news ++ cs, by rw [List.take_add_one, hxk]; exact he.snoc hr, hc.append ?_⟩
      rw [he.1, List.length_take, Nat.min_eq_left (by omega)]; exact hcs
  obtain ⟨news, he, hc⟩ := key xs.length (Nat.le_refl _)
  rw [List.take_length] at he
  exact ⟨b, o, c, news, rfl, hz0, hc, he⟩
theorem Els.ints {k : IntKind} {cs : List Value} {xs : List Int} (h : Els (tInt k) Z w cs xs) : cs = xs.map (Value.int k) := by
  apply List.ext_getElem?
  intro i
  have hl : cs.length = xs.length := by have := h.1; simpa [tInt, tLit] using this
  rw [List.getElem?_map]
  by_cases hi : i < xs.length
  · obtain ⟨h1, _⟩ := h.2 i xs[i] (List.getElem?_eq_getElem hi)
    have h2 : ((cs.drop (i * 1)).take 1)[0]? = some (Value.int k xs[i]) := by
      have : (cs.drop (i * 1)).take 1 = [Value.int k xs[i]] := h1
      rw [this]; rfl
    rw [List.getElem?_take_of_lt (by omega), List.getElem?_drop] at h2
    rw [List.getElem?_eq_getElem hi]; simpa using h2
  · rw [List.getElem?_eq_none (by omega), List.getElem?_eq_none (by omega)]; rfl
theorem SlR.allIn {k : IntKind} {bytes : Nat} {v : Value} {xs : List Int} (h : SlR (tInt k) bytes Z w v xs) : ∀ x ∈ xs, InK k x := fun x hx => by
  obtain ⟨i, hi⟩ := List.getElem?_of_mem hx
  obtain ⟨a, c, rfl, _, _⟩ := h.len
  obtain ⟨_, _, _, _, _, _, _, h2⟩ := h.at hi
  exact h2
/-- string(bytes) -/
theorem y_toStr {e : TypeId} {k : List Int} {bytes : Nat} {v : Value} (hs : P.underlying t = some (.slice e)) (he : P.underlying e = some (.int .u8)) (hd : P.underlying t' = some .string) (hx : ev f x = v) (h : SlR (tInt .u8) bytes Z w v k) :
    Yd P ⟨some d, .convert t t' x, ty, p, af, g⟩ f w (.string (kb k)) := by
  refine ⟨rfl, ?_⟩
  obtain ⟨a, c, rfl, h1, h2, _⟩ := id h
  have hr : (Conv.bytesToString (.slice a k.length c)).run P w = .ok (.string (kb k)) w := by
    by_cases hk : k = []
    · subst hk
      cases a with
      | none => rfl
      | some a => simp [Conv.bytesToString, loadCells, loadCellsFrom]; rfl
    · obtain ⟨b, o, c', news, hv, _, hc, hE⟩ := h.row hk
      injection hv with hv _ _; subst hv
      have hn := hE.ints
      rw [← kb_fold]
      exact run_bytesToString w _ _ _ k (by rw [run_loadCells hc (by rw [hn, List.length_map]), hn])
  simp only [execOp, hx, Sem.run_bind, run_convert_bytes_string w t t' e a k.length c hs he hd, hr, Result.andThen, Sem.run_pure]
theorem bytes_toList_inj {a b : ByteArray} (h : a.toList = b.toList) : a = b := by
  rw [ByteArray.toList_eq, ByteArray.toList_eq] at h
  obtain ⟨a⟩ := a; obtain ⟨b⟩ := b
  simp only [ByteArray.mk.injEq]
  exact Array.toList_inj.1 h
theorem y_neqS {a b : ByteArray} (hx : ev f x = .string a) (hy : ev f y = .string b) : Yd P ⟨some d, .binOp .neq t x y t', ty, p, af, g⟩ f w (.bool (decide (a ≠ b))) :=
  ⟨rfl, by
    have : (!(a.toList == b.toList)) = decide (a ≠ b) := by
      rw [Bool.eq_iff_iff, decide_eq_true_iff]
      simp only [Bool.not_eq_true', beq_eq_false_iff_ne]
      exact ⟨fun h e => h (by rw [e]), fun h e => h (bytes_toList_inj e)⟩
    simp [execOp, hx, hy, eqGuard, binOp, Op.stringOp]
    simpa using this⟩
theorem y_eqlS {a b : ByteArray} (hx : ev f x = .string a) (hy : ev f y = .string b) : Yd P ⟨some d, .binOp .eql t x y t', ty, p, af, g⟩ f w (.bool (decide (a = b))) :=
  ⟨rfl, by
    have : (a.toList == b.toList) = decide (a = b) := by
      rw [Bool.eq_iff_iff, decide_eq_true_iff]
      simp only [beq_iff_eq]
      exact ⟨fun h => bytes_toList_inj h, fun h => by rw [h]⟩
    simp [execOp, hx, hy, eqGuard, binOp, Op.stringOp]
    simpa using this⟩
end
end Go.Wk

namespace Go.Wk
open Go
set_option linter.unusedVariables false
section
variable {P : Program} {l : Option Nat} {n : Nat} {Q : PQ} {f : Fr} {ds : List Deferred} {w : World} {ops : List Oper} {bs : List Nat} {S0 : World → Prop} {fuel : Nat} {listed : List Bool}
theorem DA_yg (i : Nat) {op : Op} {ty : Nat} {p : String} {af : Array Edge} {d : Nat} {v : Value} {j dj : Nat} {b : Bool} (hi : ops[i]? = some ⟨some d, op, ty, p, af, some (j, b)⟩) (hj : (ops.toArray[j]?).bind (·.dst) = some dj) (hdj : dj < n) (hbv : f dj = .bool b) (hok : okT ops listed i = true) (hb : bs.contains i = false) (hreach : bs.all (fun d => reachB ops.toArray ops.length d i) = true)
    (hy : ∀ w', S0 w' → Yd P ⟨some d, op, ty, p, af, some (j, b)⟩ f w' v) (hS : Sx bs S0 listed.toArray w) (hd : d < n) (k : Sx bs S0 (listed.set i true).toArray w → DA P n ops bs S0 Q fuel (listed.set i true) (upd f d v) ds w) : DA P n ops bs S0 Q (fuel + 1) listed f ds w :=
  DA_q i hi hok hb (fun a ha => by simp [Region.wanted, yielded_at ha hj hdj hbv]) (.inl ⟨hreach, fun w' h => (hy w' h).run⟩) hS (fun _ e => by injection e with e; subst e; exact hd) k
theorem DA_pg (i : Nat) {op : Op} {ty : Nat} {p : String} {af : Array Edge} {d : Nat} {v : Value} {j dj : Nat} {b : Bool} (hi : ops[i]? = some ⟨some d, op, ty, p, af, some (j, b)⟩) (hj : (ops.toArray[j]?).bind (·.dst) = some dj) (hdj : dj < n) (hbv : f dj = .bool b) (hok : okT ops listed i = true) (hb : bs.contains i = false)
    (hy : ∀ w', Yd P ⟨some d, op, ty, p, af, some (j, b)⟩ f w' v) (hS : Sx bs S0 listed.toArray w) (hd : d < n) (k : Sx bs S0 (listed.set i true).toArray w → DA P n ops bs S0 Q fuel (listed.set i true) (upd f d v) ds w) : DA P n ops bs S0 Q (fuel + 1) listed f ds w :=
  DA_q i hi hok hb (fun a ha => by simp [Region.wanted, yielded_at ha hj hdj hbv]) (.inr fun w' => (hy w').run) hS (fun _ e => by injection e with e; subst e; exact hd) k
theorem DA_oneg (i : Nat) {dst : Option Nat} {op : Op} {ty : Nat} {p : String} {af : Array Edge} {j dj : Nat} {b : Bool} (hr : Region.ready .any ops.toArray listed.toArray = [i]) (hi : ops[i]? = some ⟨dst, op, ty, p, af, some (j, b)⟩) (hj : (ops.toArray[j]?).bind (·.dst) = some dj) (hdj : dj < n) (hbv : f dj = .bool b)
    (h : Op1 P n ⟨dst, op, ty, p, af, some (j, b)⟩ f ds w fun f' ds' w' => Sx bs S0 (listed.set i true).toArray w' ∧ DA P n ops bs S0 Q fuel (listed.set i true) f' ds' w') : DA P n ops bs S0 Q (fuel + 1) listed f ds w :=
  DA_all [i] hr (by simp) fun k hk => by
    simp only [List.mem_singleton] at hk; subst hk
    exact ⟨_, hi, fun a ha => by simp [Region.wanted, yielded_at ha hj hdj hbv], h⟩
end
end Go.Wk

namespace Go.Wk
open Go
set_option linter.unusedVariables false
section
variable {P : Program} {f : Fr} {w : World} {d t t' ty : Nat} {p : String} {af : Array Edge} {g : Option (Nat × Bool)} {x y : Operand} {k : IntKind} {a b : Int}
theorem y_eqlT (h : a = b) (hx : ev f x = .int k a) (hy : ev f y = .int k b) : Yd P ⟨some d, .binOp .eql t x y t', ty, p, af, g⟩ f w (.bool true) := by
  have := y_eql (P := P) (w := w) (d := d) (t := t) (t' := t') (ty := ty) (p := p) (af := af) (g := g) hx hy; rwa [decide_eq_true h] at this
theorem y_eqlF (h : ¬ a = b) (hx : ev f x = .int k a) (hy : ev f y = .int k b) : Yd P ⟨some d, .binOp .eql t x y t', ty, p, af, g⟩ f w (.bool false) := by
  have := y_eql (P := P) (w := w) (d := d) (t := t) (t' := t') (ty := ty) (p := p) (af := af) (g := g) hx hy; rwa [decide_eq_false h] at this
theorem y_neqT (h : a ≠ b) (hx : ev f x = .int k a) (hy : ev f y = .int k b) : Yd P ⟨some d, .binOp .neq t x y t', ty, p, af, g⟩ f w (.bool true) := by
  have := y_neq (P := P) (w := w) (d := d) (t := t) (t' := t') (ty := ty) (p := p) (af := af) (g := g) hx hy; rwa [decide_eq_true h] at this
theorem y_neqF (h : a = b) (hx : ev f x = .int k a) (hy : ev f y = .int k b) : Yd P ⟨some d, .binOp .neq t x y t', ty, p, af, g⟩ f w (.bool false) := by
  have := y_neq (P := P) (w := w) (d := d) (t := t) (t' := t') (ty := ty) (p := p) (af := af) (g := g) hx hy; rwa [decide_eq_false (fun hn : a ≠ b => hn h)] at this
theorem y_lssT (h : a < b) (hx : ev f x = .int k a) (hy : ev f y = .int k b) : Yd P ⟨some d, .binOp .lss t x y t', ty, p, af, g⟩ f w (.bool true) := by
  have := y_lss (P := P) (w := w) (d := d) (t := t) (t' := t') (ty := ty) (p := p) (af := af) (g := g) hx hy; rwa [decide_eq_true h] at this
theorem y_lssF (h : ¬ a < b) (hx : ev f x = .int k a) (hy : ev f y = .int k b) : Yd P ⟨some d, .binOp .lss t x y t', ty, p, af, g⟩ f w (.bool false) := by
  have := y_lss (P := P) (w := w) (d := d) (t := t) (t' := t') (ty := ty) (p := p) (af := af) (g := g) hx hy; rwa [decide_eq_false h] at this
theorem y_leqT (h : a ≤ b) (hx : ev f x = .int k a) (hy : ev f y = .int k b) : Yd P ⟨some d, .binOp .leq t x y t', ty, p, af, g⟩ f w (.bool true) := by
  have := y_leq (P := P) (w := w) (d := d) (t := t) (t' := t') (ty := ty) (p := p) (af := af) (g := g) hx hy; rwa [decide_eq_true h] at this
theorem y_leqF (h : ¬ a ≤ b) (hx : ev f x = .int k a) (hy : ev f y = .int k b) : Yd P ⟨some d, .binOp .leq t x y t', ty, p, af, g⟩ f w (.bool false) := by
  have := y_leq (P := P) (w := w) (d := d) (t := t) (t' := t') (ty := ty) (p := p) (af := af) (g := g) hx hy; rwa [decide_eq_false h] at this
theorem y_gtrT (h : a > b) (hx : ev f x = .int k a) (hy : ev f y = .int k b) : Yd P ⟨some d, .binOp .gtr t x y t', ty, p, af, g⟩ f w (.bool true) := by
  have := y_gtr (P := P) (w := w) (d := d) (t := t) (t' := t') (ty := ty) (p := p) (af := af) (g := g) hx hy; rwa [decide_eq_true h] at this
theorem y_gtrF (h : ¬ a > b) (hx : ev f x = .int k a) (hy : ev f y = .int k b) : Yd P ⟨some d, .binOp .gtr t x y t', ty, p, af, g⟩ f w (.bool false) := by
  have := y_gtr (P := P) (w := w) (d := d) (t := t) (t' := t') (ty := ty) (p := p) (af := af) (g := g) hx hy; rwa [decide_eq_false h] at this
theorem y_geqT (h : a ≥ b) (hx : ev f x = .int k a) (hy : ev f y = .int k b) : Yd P ⟨some d, .binOp .geq t x y t', ty, p, af, g⟩ f w (.bool true) := by
  have := y_geq (P := P) (w := w) (d := d) (t := t) (t' := t') (ty := ty) (p := p) (af := af) (g := g) hx hy; rwa [decide_eq_true h] at this
theorem y_geqF (h : ¬ a ≥ b) (hx : ev f x = .int k a) (hy : ev f y = .int k b) : Yd P ⟨some d, .binOp .geq t x y t', ty, p, af, g⟩ f w (.bool false) := by
  have := y_geq (P := P) (w := w) (d := d) (t := t) (t' := t') (ty := ty) (p := p) (af := af) (g := g) hx hy; rwa [decide_eq_false h] at this
end
section
variable {P : Program} {l : Option Nat} {n : Nat} {Q : PQ} {K : Fr → Prop} {f : Fr} {ds : List Deferred} {w : World} {all : Array Oper} {rest : List Oper}
/-- The guard itself was passed over. -/
theorem yielded_undef {a : Act} {j d : Nat} (ha : Fits n f a) (hj : (all[j]?).bind (·.dst) = some d) (hd : d < n) (hb : f d = undef) : yielded all a.tmps j = none := by
  unfold yielded
  rw [hj]
  have : a.tmps[d]? = some (f d) := by
    rw [← ha.2 d, Array.getD_eq_getD_getElem?]
    rw [Array.getElem?_eq_getElem (by rw [ha.1]; exact hd)]; rfl
  simp only [Option.bind_some, this, hb]
  rfl
theorem OL_u {dst : Option Nat} {op : Op} {ty : Nat} {p : String} {af : Array Edge} {j d : Nat} {b : Bool} (hj : (all[j]?).bind (·.dst) = some d) (hd : d < n) (hb : f d = undef) (hdst : ∀ d, dst = some d → d < n)
    (h : OL P l n all Q rest (updO f dst undef) ds w) : OL P l n all Q (⟨dst, op, ty, p, af, some (j, b)⟩ :: rest) f ds w := fun a ha hd' =>
  wpListIn_step fun K hK => by
    rw [if_neg (by simp only [Region.wanted, yielded_undef ha hj hd hb]; simp)]
    exact ⟨fun g _ => fe_fn l g, hK _ _ (h _ (ha.putO hdst _) (by cases dst <;> exact hd'))⟩
end
end Go.Wk

namespace Go.Wk
open Go
set_option linter.unusedVariables false
set_option linter.unusedSimpArgs false

section
variable {P : Program} {f : Fr} {w : World} {d t t' ty : Nat} {p : String} {af : Array Edge} {g : Option (Nat × Bool)} {x y : Operand} {a b : Int} {k k' : IntKind}
theorem y_add64' (c : Int) (hx : ev f x = .int .i64 a) (hy : ev f y = .int .i64 b) (h : a + b = c) (h1 : -9223372036854775808 ≤ c) (h2 : c < 9223372036854775808) : Yd P ⟨some d, .binOp .add t x y t', ty, p, af, g⟩ f w (.int .i64 c) := by
  subst h; exact y_add64 hx hy h1 h2
theorem y_sub64' (c : Int) (hx : ev f x = .int .i64 a) (hy : ev f y = .int .i64 b) (h : a - b = c) (h1 : -9223372036854775808 ≤ c) (h2 : c < 9223372036854775808) : Yd P ⟨some d, .binOp .sub t x y t', ty, p, af, g⟩ f w (.int .i64 c) := by
  subst h; exact y_sub64 hx hy h1 h2
/-- A conversion between kinds of numbers. -/
theorem y_conv (c : Int) (hs : (P.underlying t).isSome = true) (hd : P.underlying t' = some (.int k')) (hx : ev f x = .int k a) (h : k'.wrap a = c) : Yd P ⟨some d, .convert t t' x, ty, p, af, g⟩ f w (.int k' c) := by
  subst h
  have hk : P.intKind t' = k' := by simp [Program.intKind, hd]
  have := run_convert_int (P := P) w t t' k a hs (by rw [hk]; exact hd)
  rw [hk] at this
  exact ⟨rfl, by simp only [execOp, hx, Sem.run_bind, this, Result.andThen, Sem.run_pure]⟩
theorem y_shr1 (c : Int) (hx : ev f x = .int k a) (hy : ev f y = .int k' 1) (hb : 1 ≤ k.bits) (h : a.fdiv 2 = c) : Yd P ⟨some d, .binOp .shr t x y t', ty, p, af, g⟩ f w (.int k c) := by
  subst h
  refine ⟨rfl, ?_⟩
  have e : min (Int.toNat 1) k.bits = 1 := by show min 1 k.bits = 1; omega
  have hs : (Op.shift .shr k a k' 1).run P w = .ok (.int k (a.fdiv 2)) w := by
    unfold Op.shift
    rw [if_neg (by decide)]
    simp only [e]
    rfl
  simp [execOp, hx, hy, eqGuard, binOp, Result.andThen, hs]
end
theorem wrap_u64 {a : Int} (h0 : 0 ≤ a) (h1 : a < 18446744073709551616) : IntKind.u64.wrap a = a := by
  show IntKind.wrap .u64 a = a
  unfold IntKind.wrap
  simp [IntKind.signed, IntKind.bits]
  omega
theorem wrap_i64 {a : Int} (h0 : -9223372036854775808 ≤ a) (h1 : a < 9223372036854775808) : IntKind.i64.wrap a = a := IntWalk.i64_in _ (by omega)

section
variable {P : Program} {n : Nat} {K : PK} {f : Fr} {ds : List Deferred} {w : World} {L : List Atom} {d t ty size bytes : Nat} {zero : Value} {dd : TypeDesc} {p : String} {af : Array Edge} {g : Option (Nat × Bool)} {x y : Operand}
theorem rowCells {w : World} {e sz m : Nat} {v : Value} {cs : List Value} (h : w.ownsRow 0 e sz v m cs) {b o : Nat} (hv : v.ownBlock = some b) {us : List Value} (hc : (cs.drop o).take us.length = us) : Cells w b o us := by
  rcases h.2 with ⟨rfl, _⟩ | ⟨g', cap, cur, rfl, _, hh, hcc, hm, hsz, ht⟩
  · simp [Value.ownBlock] at hv
  · have hbg : g' = b := by simpa [Value.ownBlock] using hv
    subst hbg
    have hC : Cells w g' 0 cs := Cells.of hh (by rw [List.drop_zero, h.1]; exact ht)
    have := hC.take o hc
    rwa [Nat.zero_add] at this
theorem flat_at {α : Type} {g : α → List Value} {m : Nat} (hg : ∀ x, (g x).length = m) {l : List α} {i : Nat} {x : α} (hi : l[i]? = some x) : ((l.flatMap g).drop (i * m)).take (g x).length = g x := by
  apply List.ext_getElem?
  intro c
  rw [hg]
  by_cases hc : c < m
  · rw [List.getElem?_take_of_lt hc, List.getElem?_drop, flat_get hg l i c hc, hi]; rfl
  · rw [List.getElem?_eq_none (by simp; omega), List.getElem?_eq_none (by rw [hg]; omega)]
/-- An element of a row that lies there element by element. -/
theorem rowElAt {α : Type} {g : α → List Value} {m : Nat} (hg : ∀ x, (g x).length = m) {w : World} {e n : Nat} {v : Value} {l : List α} (h : w.ownsRow 0 e m v n (l.flatMap g)) {b : Nat} (hv : v.ownBlock = some b) {i : Nat} {x : α} (hi : l[i]? = some x) : Cells w b (0 + i * m) (g x) := by
  rw [Nat.zero_add]; exact rowCells h hv (flat_at hg hi)
theorem flat_setEl {α : Type} {g : α → List Value} {m : Nat} (hg : ∀ x, (g x).length = m) : ∀ (l : List α) (i : Nat) (x : α), i < l.length → (l.flatMap g).take (i * m) ++ g x ++ (l.flatMap g).drop (i * m + m) = (l.set i x).flatMap g
  | [], i, x, h => by simp at h
  | y :: l, 0, x, h => by
    have : (g y).length = m := hg y
    simp [List.drop_append, ← this]
  | y :: l, i + 1, x, h => by
    have e1 : (i + 1) * m = (g y).length + i * m := by rw [hg, Nat.add_mul]; omega
    rw [List.flatMap_cons, List.set_cons_succ, List.flatMap_cons, e1, List.take_length_add_append, Nat.add_assoc, List.drop_length_add_append, List.append_assoc, List.append_assoc, ← flat_setEl hg l i x (by simpa using h)]
    simp
/-- Many cells of a row of one's own are written at once. -/
theorem op_storeRowA (H : Holds w L) (i : Nat) {e sz m : Nat} {v : Value} {cs : List Value} (hi : L[i]? = some (row e sz v m cs)) {b o : Nat} (hv : v.ownBlock = some b) (ti : TI P t size bytes zero dd) {u : Value} (hx : ev f x = .pointer (some ⟨b, o, none⟩)) (hy : ev f y = u)
    (hu : u.cells.size = size) (ho : o + size ≤ cs.length) (h1 : ∀ c ∈ u.cells.toList, c.oneCell' = true) (k : ∀ w', Holds w' (L.set i (row e sz v m (cs.take o ++ u.cells.toList ++ cs.drop (o + size)))) → K f ds w') : Op1 P n ⟨none, .store t x y, ty, p, af, g⟩ f ds w K := by
  obtain ⟨hl, hor⟩ := H.get hi
  rcases hor with ⟨rfl, rfl⟩ | ⟨g', cap, cur, rfl, hb0, hh, hc, hm, hsz, ht⟩
  · simp [Value.ownBlock] at hv
  · have hbg : g' = b := by simpa [Value.ownBlock] using hv
    subst hbg
    have hlen : m * sz ≤ cap * sz := Nat.mul_le_mul_right _ hc
    have hcl : cs.length ≤ cur.size := by omega
    have hul : u.cells.toList.length = size := by simpa using hu
    have hst := run_storeCells (P := P) (o := o) u.cells.toList 0 w cur hh (by rw [hul]; omega) h1
    simp only [Nat.add_zero] at hst
    have hlaid := laid_toList cur o u.cells.toList (by rw [hul]; omega)
    refine Op1_skip rfl rfl (w' := w.putObj g' (.cells (laid cur o u.cells.toList) e)) ?_ (k _ (H.step i hi rfl (Ext.put w g' _) (fun k _ hk => by subst hk; simp [Value.ownBlock]) (row_ok ⟨?_, .inr ⟨g', cap, _, rfl, hb0, World.putObj_heap_same (own_lt hh), hc, hm, by rw [laid_size]; exact hsz, ?_⟩⟩) fun _ h => .inl h))
    · simp [execOp, hx, hy, Instr.storeAt, Instr.sureAddr, storeVar, ti.run_size, hu, Result.andThen, hst]
    · simp only [List.length_append, List.length_take, List.length_drop, hul]; omega
    · rw [hlaid, hul]
      have e1 : m * sz = cs.length := hl.symm
      rw [e1] at ht ⊢
      rw [← ht]
      simp only [List.take_append, List.length_append, List.length_take, Array.length_toList, hul, List.take_take, List.length_drop]
      have h2 : min o cur.size = o := by omega
      have h3 : min cs.length cur.size = cs.length := by omega
      simp only [h2, h3]
      have h4 : min cs.length o = o := by omega
      have h5 : min o cs.length = o := by omega
      rw [h4, List.take_of_length_le (l := u.cells.toList) (by rw [hul]; omega), h5, List.drop_take, show cs.length - (o + size) = cs.length - (o + size) from rfl]
end
end Go.Wk

namespace Go.Wk
open Go
set_option linter.unusedVariables false
set_option linter.unusedSimpArgs false
set_option linter.unusedSectionVars false

/-- A range over the map 'es' under way: nothing was laid into it since; 'left' is still to come. -/
structure Rng {κ : Type} (K : κ → Value) (es : Array MapEntry) (since : Nat) (seen : Array Nat) (left : List (κ × Value)) : Prop where
  old : ∀ x ∈ es.toList, x.born < since
  born : es.toList.Pairwise fun a b => a.born < b.born
  left : (leftOf es seen).toList.map (fun e => (e.key, e.val)) = left.map (fun x => (K x.1, x.2))

theorem born_nodup {es : List MapEntry} (h : es.Pairwise fun a b => a.born < b.born) : (es.map (·.born)).Nodup := by
  rw [List.nodup_iff_pairwise_ne, List.pairwise_map]
  exact h.imp fun h => Nat.ne_of_lt h
theorem leftOf_push {es : Array MapEntry} {seen : Array Nat} (hb : es.toList.Pairwise fun a b => a.born < b.born) {A B : List MapEntry} {e : MapEntry} (h : (leftOf es seen).toList = A ++ e :: B) : (leftOf es (seen.push e.born)).toList = A ++ B := by
  have e1 : (leftOf es (seen.push e.born)).toList = (leftOf es seen).toList.filter fun x => !decide (x.born = e.born) := by
    unfold leftOf
    rw [Array.toList_filter, Array.toList_filter, List.filter_filter]
    apply List.filter_congr
    intro x _
    rw [Array.contains_push]
    by_cases hx : x.born = e.born
    · simp [hx]
    · simp [hx]
  have hp : (leftOf es seen).toList.Pairwise fun a b => a.born < b.born := by unfold leftOf; rw [Array.toList_filter]; exact hb.sublist List.filter_sublist
  rw [e1, h, List.filter_append, List.filter_cons]
  rw [h, List.pairwise_append] at hp
  have hA : A.filter (fun x => !decide (x.born = e.born)) = A := List.filter_eq_self.2 fun x hx => by
    have := hp.2.2 x hx e (by simp); simp; omega
  have hB : B.filter (fun x => !decide (x.born = e.born)) = B := List.filter_eq_self.2 fun x hx => by
    have := (List.pairwise_cons.1 hp.2.1).1 x hx; simp; omega
  rw [hA, hB]; simp
theorem map_split {α β γ : Type} {f : α → γ} {g : β → γ} : ∀ {A : List α} {e : α} {B : List α} {l : List β}, (A ++ e :: B).map f = l.map g → ∃ pre x post, l = pre ++ x :: post ∧ A.map f = pre.map g ∧ f e = g x ∧ B.map f = post.map g
  | [], e, B, [], h => by simp at h
  | [], e, B, y :: l, h => by
    simp only [List.nil_append, List.map_cons, List.cons.injEq] at h
    exact ⟨[], y, l, rfl, rfl, h.1, h.2⟩
  | a :: A, e, B, [], h => by simp at h
  | a :: A, e, B, y :: l, h => by
    simp only [List.cons_append, List.map_cons, List.cons.injEq] at h
    obtain ⟨pre, x, post, rfl, h1, h2, h3⟩ := map_split h.2
    exact ⟨y :: pre, x, post, rfl, by simp [h.1, h1], h2, h3⟩

section
variable {κ : Type} {P : Program} {n : Nat} {KK : PK} {f : Fr} {ds : List Deferred} {w : World} {d ty : Nat} {p : String} {af : Array Edge} {g : Option (Nat × Bool)} {t size bytes kt et : Nat} {zero : Value} {x y : Operand} {L : List Atom} {K : κ → Value} {es : Array MapEntry} {clock : Nat}

/-- 'range m' -/
theorem op_range {b : Nat} {m : List (κ × Value)} (H : Holds w L) (hb : w.heap[b]? = some (.map es clock)) (hm : MapObj K m (.map es clock)) (tm : TI P t size bytes zero (.map kt et)) (hx : ev f x = .map (some b)) (hn : d < n)
    (k : ∀ r w', Ext none' w w' → Holds w' (own r (.mapIter (some b) clock #[] clock) :: L) → Rng K es clock #[] m → KK (upd f d (.pointer (some ⟨r, 0, none⟩))) ds w') : Op1 P n ⟨some d, .range t x, ty, p, af, g⟩ f ds w KK := by
  refine Op1_val rfl rfl hn (w' := w.alloc (.mapIter (some b) clock #[] clock)) ?_ (k _ _ (Ext.alloc _ _ _) (H.alloc _) ?_)
  · simp only [execOp, hx, Instr.range, Sem.run_bind, tm.run_underlying, Result.andThen, run_getObj_map hb, Sem.run_pure, run_newObj_alloc]
  · obtain ⟨es', c', he, h1, h2, h3, h4⟩ := hm
    cases he
    refine ⟨h4, h3, ?_⟩
    have e : leftOf es #[] = es := by unfold leftOf; rw [Array.filter_eq_self]; intro x _; simp
    rw [e]; exact h1

theorem heap_of_drew {w w1 : World} (h : w1 = w ∨ w1 = w.drew) : w1.heap = w.heap ∧ w1.os = w.os ∧ w1.tape = w.tape ∧ w1.output = w.output := by
  rcases h with rfl | rfl
  · exact ⟨rfl, rfl, rfl, rfl⟩
  · exact ⟨rfl, rfl, rfl, rfl⟩
theorem ext_setBlock {w w1 : World} {r : Nat} {o : Obj} (h : w1 = w ∨ w1 = w.drew) : Ext (fun k => k = r) w (ChangeMaps.setBlock w1 r o) := by
  obtain ⟨h1, h2, h3, h4⟩ := heap_of_drew h
  refine ⟨h2, h3, h4, ?_, fun k hk hM => ?_⟩
  · simp [ChangeMaps.setBlock, h1]
  · simp only [ChangeMaps.setBlock, h1]
    rw [Array.getElem?_setIfInBounds_ne (Ne.symm hM)]
theorem setBlock_at {w w1 : World} {r : Nat} {o : Obj} (h : w1 = w ∨ w1 = w.drew) (hr : r < w.heap.size) : (ChangeMaps.setBlock w1 r o).heap[r]? = some o := by
  obtain ⟨h1, -⟩ := heap_of_drew h
  simp [ChangeMaps.setBlock, h1, hr]

/-- A step: nothing is left, or one that is left. -/
theorem op_next {b r since c0 : Nat} {seen : Array Nat} {left : List (κ × Value)} (H : Holds w L) (i : Nat) (hi : L[i]? = some (own r (.mapIter (some b) since seen c0))) (hb : w.heap[b]? = some (.map es clock)) (hr : Rng K es since seen left) (hsc : since ≤ c0) (hx : ev f x = .pointer (some ⟨r, 0, none⟩)) (hn : d < n)
    (k0 : left = [] → KK (upd f d (.tuple #[.bool false])) ds w)
    (k1 : ∀ e pre u post w', left = pre ++ u :: post → e ∈ es.toList → e.key = K u.1 → e.val = u.2 → Ext (fun k => k = r) w w' → Holds w' (L.set i (own r (.mapIter (some b) since (seen.push e.born) clock))) → Rng K es since (seen.push e.born) (pre ++ post) → KK (upd f d (.tuple #[.bool true, K u.1, u.2])) ds w') :
    Op1 P n ⟨some d, .next x false, ty, p, af, g⟩ f ds w KK := by
  have hr0 := H.getOwn i hi
  rcases run_next_at (P := P) w ty r b since c0 seen es clock hr0 hb hr.old hsc with ⟨h0, hrun⟩ | ⟨e, he, w1, hw1, hrun⟩
  · refine Op1_val rfl rfl hn (w' := w) ?_ (k0 ?_)
    · simp only [execOp, hx, Sem.run_bind, hrun, Result.andThen, Sem.run_pure]
    · have := hr.left
      have h1 : (leftOf es seen).toList = [] := List.eq_nil_of_length_eq_zero (by simpa using h0)
      rw [h1] at this
      simpa using this.symm
  · obtain ⟨A, B, hAB⟩ := List.append_of_mem he
    have hl := hr.left
    rw [hAB] at hl
    obtain ⟨pre, u, post, rfl, h1, h2, h3⟩ := map_split hl
    obtain ⟨h2k, h2v⟩ : e.key = K u.1 ∧ e.val = u.2 := by simpa using h2
    have hmem : e ∈ es.toList := by
      have : e ∈ (leftOf es seen).toList := he
      unfold leftOf at this; rw [Array.toList_filter] at this; exact (List.mem_filter.1 this).1
    refine Op1_val rfl rfl hn (w' := ChangeMaps.setBlock w1 r (.mapIter (some b) since (seen.push e.born) clock)) ?_ (k1 e pre u post _ rfl hmem h2k h2v (ext_setBlock hw1) (H.step i hi rfl (ext_setBlock hw1) (fun _ _ h => h) (own_ok (setBlock_at hw1 (own_lt hr0))) fun _ h => .inl h) ⟨hr.old, hr.born, ?_⟩)
    · simp only [execOp, hx, Sem.run_bind, hrun, Result.andThen, Sem.run_pure, h2k, h2v]
    · rw [leftOf_push hr.born hAB]; simp [h1, h3]
/-- The entry of the step. -/
theorem y_entry {b r since : Nat} {seen : Array Nat} {e : MapEntry} {u v : Value} (hr0 : w.heap[r]? = some (.mapIter (some b) since (seen.push e.born) clock)) (hb : w.heap[b]? = some (.map es clock)) (he : e ∈ es.toList) (hbn : es.toList.Pairwise fun a b => a.born < b.born) (hu : e.key = u) (hv : e.val = v) (hx : ev f x = .pointer (some ⟨r, 0, none⟩)) :
    Yd P ⟨some d, .entry x, ty, p, af, g⟩ f w (.tuple #[u, v]) :=
  ⟨rfl, by
    have := run_entry_at (P := P) w r b since seen es clock e hr0 hb he (born_nodup hbn)
    rw [hu, hv] at this
    simp only [execOp, hx, Sem.run_bind, this, Result.andThen, Sem.run_pure]⟩
variable [DecidableEq κ]
/-- A map of one's own, laid open; and shut again. -/
theorem Holds.mpOpen {b : Nat} {m : List (κ × Value)} (H : Holds w L) (i : Nat) (hi : L[i]? = some (mp K b m)) : ∃ es clock, MapObj K m (.map es clock) ∧ Holds w (L.set i (own b (.map es clock))) := by
  obtain ⟨o, ho, es, clock, rfl, h⟩ := H.get hi
  exact ⟨es, clock, ⟨es, clock, rfl, h⟩, H.step i hi rfl (Ext.refl none' w) (fun _ _ h => h.elim) (own_ok ho) fun _ h => .inl h⟩
end
end Go.Wk

namespace Go.Wk
open Go
set_option linter.unusedVariables false
set_option linter.unusedSimpArgs false

/-- What the loop that ranges owes: J pre B: 'pre' has come, the loop stands on the blocks B (and reads blocks below n0). -/
structure RangerQ {α : Type} (P : Program) (enc : α → Value) (Qp : List α → Prop) (n0 : Nat) (l : Nat) (J Jx : List α → (Nat → Prop) → World → Prop) : Prop where
  stable : ∀ pre B w w', J pre B w → w.heap.size ≤ w'.heap.size → w'.os = w.os → w'.tape = w.tape → w'.output = w.output → (∀ k, k < w.heap.size → (B k ∨ k < n0) → w'.heap[k]? = w.heap[k]?) → J pre B w'
  stablex : ∀ pre B w w', Jx pre B w → w.heap.size ≤ w'.heap.size → w'.os = w.os → w'.tape = w.tape → w'.output = w.output → (∀ k, k < w.heap.size → (B k ∨ k < n0) → w'.heap[k]? = w.heap[k]?) → Jx pre B w'
  bnd : ∀ pre B w, J pre B w → n0 ≤ w.heap.size ∧ ∀ k, B k → k < w.heap.size
  bndx : ∀ pre B w, Jx pre B w → n0 ≤ w.heap.size ∧ ∀ k, B k → k < w.heap.size
  round : ∀ pre x B W, J pre B W → Qp (pre ++ [x]) → YieldAt P l (enc x) W fun e W' => ∃ B', Ext B W W' ∧ (∀ k, B' k → B k ∨ W.heap.size ≤ k) ∧
    ((e = .returned (.bool true) ∧ J (pre ++ [x]) B' W') ∨ (e = .returned (.bool false) ∧ Jx (pre ++ [x]) B' W'))

/-- What an iterator owes: function k with what it has captured hands over the list xs; it reads the blocks Z alone. -/
def IterQ {α : Type} (P : Program) (k : FuncId) (cap : List Value) (enc : α → Value) (Qp Ee : List α → Prop) (Z : Nat → Prop) (w : World) : Prop :=
  ∀ l B J Jx, RangerQ P enc Qp w.heap.size l J Jx → J [] B w → (∀ k, Z k → ¬ B k) →
    Calls P k (.func (.yield l) #[] #[] :: cap).toArray w fun e w' => (∃ v, e = .returned v) ∧ ∃ B', Ext B w w' ∧ (∀ k, B' k → B k ∨ w.heap.size ≤ k) ∧ ((∃ xs, Ee xs ∧ J xs B' w') ∨ ∃ pre, Qp pre ∧ Jx pre B' w')

section
variable {α : Type} {P : Program} {enc : α → Value} {Qp Ee : List α → Prop} {l : Nat} {J Jx : List α → (Nat → Prop) → World → Prop} {w W0 W : World} {B0 B : Nat → Prop} {L : List Atom} {pre : List α}
theorem RangerQ.start (hR : RangerQ P enc Qp w.heap.size l J Jx) (hJ : J [] B w) : Holds w [aB B B w, aZ B w] ∧ ItInv w w B B := by
  have hb := (hR.bnd _ _ _ hJ).2
  refine ⟨(((Holds.nil w).cons (a := aZ B w) ⟨⟨Nat.le_refl _, rfl, rfl, rfl, fun _ _ => rfl⟩, fun k h => h.1, shr_stable fun k h => h.1⟩ (by simp)).cons (exc_ok fun k h => hb k (h.elim id id)) ?_), fun k h => .inl h, fun _ _ _ => rfl, Nat.le_refl _, fun k h => hb k (h.elim id id)⟩
  intro b hm _ k hk hF
  simp only [List.mem_singleton] at hm; subst hm
  exact hF.2 (hk.elim id id)
theorem RangerQ.at (hR : RangerQ P enc Qp w.heap.size l J Jx) (hJ : J pre B W0) (hi : ItInv w W0 B0 B) (H : Holds W L) {i j : Nat} (h1 : L[i]? = some (aB B B0 W0)) (h2 : L[j]? = some (aZ B0 w)) : J pre B W := by
  obtain ⟨a, b, c, d, _⟩ := H.get h1
  exact hR.stable pre B W0 W hJ a b c d (hi.agree H h1 h2)
theorem RangerQ.atx (hR : RangerQ P enc Qp w.heap.size l J Jx) (hJ : Jx pre B W0) (hi : ItInv w W0 B0 B) (H : Holds W L) {i j : Nat} (h1 : L[i]? = some (aB B B0 W0)) (h2 : L[j]? = some (aZ B0 w)) : Jx pre B W := by
  obtain ⟨a, b, c, d, _⟩ := H.get h1
  exact hR.stablex pre B W0 W hJ a b c d (hi.agree H h1 h2)
/-- A call of yield. -/
theorem RangerQ.yield (hR : RangerQ P enc Qp w.heap.size l J Jx) (hJ : J pre B W0) (hi : ItInv w W0 B0 B) (H : Holds W L) (i j : Nat) (h1 : L[i]? = some (aB B B0 W0)) (h2 : L[j]? = some (aZ B0 w)) {x : α} (hx : Qp (pre ++ [x])) :
    YieldAt P l (enc x) W fun e W' => (e = .returned (.bool true) ∧ ∃ B', J (pre ++ [x]) B' W' ∧ ItInv w W' B0 B' ∧ Holds W' (L.set i (aB B' B0 W'))) ∨ (e = .returned (.bool false) ∧ ∃ B', Jx (pre ++ [x]) B' W' ∧ ItInv w W' B0 B' ∧ Holds W' (L.set i (aB B' B0 W'))) := by
  obtain ⟨fn, tmps, assign, body, hy, hr⟩ := hR.round pre x B W (hR.at hJ hi H h1 h2) hx
  refine ⟨fn, tmps, assign, body, hy, hr.mono ?_⟩
  rintro e W' ⟨B', hE, hB', hor⟩
  have hlt : ∀ k, B k ∨ B0 k → k < W.heap.size := fun k hk => (H.ok _ (List.mem_of_getElem? h1)).2.1 k hk
  have key : (∀ k, B' k → k < W'.heap.size) → ItInv w W' B0 B' ∧ Holds W' (L.set i (aB B' B0 W')) := fun hb' => by
    have hb2 : ∀ k, B' k ∨ B0 k → k < W'.heap.size := fun k hk => hk.elim (hb' k) fun h => Nat.lt_of_lt_of_le (hlt k (.inr h)) hE.size
    have H' := H.step i h1 rfl (a' := aB B' B0 W') hE (fun k _ hB => .inl hB) (exc_ok hb2) (fun k hk => by
      rcases hk with hk | hk
      · rcases hB' k hk with h | h
        · exact .inl (.inl h)
        · exact .inr h
      · exact .inl (.inr hk))
    refine ⟨⟨fun k hk => ?_, fun k hk hn => ?_, ?_, hb2⟩, H'⟩
    · rcases hB' k hk with h | h
      · exact hi.sub k h
      · obtain ⟨a, _⟩ := H.get h2
        exact .inr (by omega)
    · by_cases hB : B k
      · rcases hi.sub k hB with h | h
        · exact (hn h).elim
        · omega
      · obtain ⟨a, _, _, _, e⟩ := H.get h2
        exact (hE.blk k (by omega) hB).trans (e k ⟨hk, hn⟩)
    · obtain ⟨a, _⟩ := H.get h2
      have := hE.size; omega
  rcases hor with ⟨he, hJ'⟩ | ⟨he, hJ'⟩
  · obtain ⟨k1, k2⟩ := key (hR.bnd _ _ _ hJ').2
    exact .inl ⟨he, B', hJ', k1, k2⟩
  · obtain ⟨k1, k2⟩ := key (hR.bndx _ _ _ hJ').2
    exact .inr ⟨he, B', hJ', k1, k2⟩
/-- The iterator's end: all have come; or the loop was left. -/
theorem RangerQ.done (hR : RangerQ P enc Qp w.heap.size l J Jx) {xs : List α} (hxs : Ee xs) (hJ : J xs B W0) (hi : ItInv w W0 B0 B) (H : Holds W L) (i j : Nat) (h1 : L[i]? = some (aB B B0 W0)) (h2 : L[j]? = some (aZ B0 w)) :
    ∃ B', Ext B0 w W ∧ (∀ k, B' k → B0 k ∨ w.heap.size ≤ k) ∧ ((∃ xs, Ee xs ∧ J xs B' W) ∨ ∃ pre, Qp pre ∧ Jx pre B' W) := ⟨B, ItInv.ext H h2, hi.sub, .inl ⟨xs, hxs, hR.at hJ hi H h1 h2⟩⟩
theorem RangerQ.left (hR : RangerQ P enc Qp w.heap.size l J Jx) (hJ : Jx pre B W0) (hp : Qp pre) (hi : ItInv w W0 B0 B) (H : Holds W L) (i j : Nat) (h1 : L[i]? = some (aB B B0 W0)) (h2 : L[j]? = some (aZ B0 w)) :
    ∃ B', Ext B0 w W ∧ (∀ k, B' k → B0 k ∨ w.heap.size ≤ k) ∧ ((∃ xs, Ee xs ∧ J xs B' W) ∨ ∃ pre, Qp pre ∧ Jx pre B' W) := ⟨B, ItInv.ext H h2, hi.sub, .inr ⟨pre, hp, hR.atx hJ hi H h1 h2⟩⟩
end

section
variable {P : Program} {n : Nat} {Q : PQ} {f : Fr} {ds : List Deferred} {w : World} {L : List Atom}

/-- **THE RULE** for 'for x := range g { .. }' that stands in no other such loop. -/
theorem W_rangeFuncQ {α : Type} {g : Operand} {tp : Nat} {assign body : Code} {k : FuncId} {cap : Array Value} (enc : α → Value) (Qp Ee : List α → Prop) (Z : Nat → Prop) (I : List α → List Atom → Prop) (Ix : Leave → List α → List Atom → Prop)
    (hg : ev f g = .func (.func k) #[] cap) (en : En P k) (htp : tp < n) (H : Holds w L) (hI0 : I [] L)
    (hsh : ∀ pre Ls, I pre Ls → ∀ a ∈ Ls, a.excl = false → ∀ k, a.F k → k < w.heap.size) (hshx : ∀ e pre Ls, Ix e pre Ls → ∀ a ∈ Ls, a.excl = false → ∀ k, a.F k → k < w.heap.size)
    (hZ : ∀ k, Z k → k < w.heap.size ∧ ∀ a ∈ L, a.excl = true → ¬ a.F k)
    (it : ∀ w', Ext none' w w' → IterQ P k cap.toList enc Qp Ee Z w')
    (hbody : ∀ l aL aL' aD aO pre x Ls Wd, I pre Ls → Qp (pre ++ [x]) → Holds Wd (aL :: aD :: aO :: Ls) →
      W P (some l) n assign (thenQ (fun f1 ds1 W1 => ∃ Ls1, Holds W1 (aL :: aD :: aO :: Ls1) ∧ ∀ W2, Holds W2 (aL' :: aD :: aO :: Ls1) → W P (some l) n body (bodyQ aL' aD aO I Ix (pre ++ [x])) f1 ds1 W2) (fun _ _ _ _ => False)) (upd f tp (enc x)) [] Wd)
    (hdone : ∀ D xs Ls W, Ee xs → I xs Ls → Holds W (own D (.deferred (some [])) :: Ls) → Q .normal f ({ target := .collected D, args := #[] } :: ds) W)
    (hexit : ∀ D pre Ls W e, Qp pre → Ix e pre Ls → Holds W (own D (.deferred (some [])) :: Ls) → Q e.out f ({ target := .collected D, args := #[] } :: ds) W) :
    W P none n (.rangeFunc g #[tp] assign body) Q f ds w := fun a ha hd => by
  refine wpIn_rangeFunc fun fn _ => ?_
  let D := w.heap.size
  let l := w.heap.size + 1
  let rec0 (st : LoopState) (j : Option Code) : Loop := { state := st, pending := j, fn, tmps := a.tmps, params := #[tp], assign, body, defers := D }
  let w1 := (w.alloc (.deferred (some []))).alloc (.loop (rec0 .ready none))
  have e1 : Ext none' w w1 := (Ext.alloc _ _ _).trans (Ext.alloc _ _ _)
  have hs1 : w1.heap.size = w.heap.size + 2 := by show ((w.alloc _).alloc _).heap.size = _; simp [World.size_alloc]
  have H1 : Holds w1 (own l (.loop (rec0 .ready none)) :: own D (.deferred (some [])) :: L) := by
    have := (H.alloc (.deferred (some []))).alloc (.loop (rec0 .ready none))
    rw [World.size_alloc] at this; exact this
  -- what the loop stands on
  let J (pre : List α) (B : Nat → Prop) (W : World) : Prop := ∃ Ls, I pre Ls ∧ Holds W (own l (.loop (rec0 .ready none)) :: own D (.deferred (some [])) :: Ls) ∧ (w1.heap.size ≤ W.heap.size) ∧ ∀ k, B k ↔ feet w1.heap.size (own l (.loop (rec0 .ready none)) :: own D (.deferred (some [])) :: Ls) k
  let Jx (pre : List α) (B : Nat → Prop) (W : World) : Prop := ∃ e Ls, Ix e pre Ls ∧ Holds W (own l (.loop (rec0 .done (some e.code))) :: own D (.deferred (some [])) :: Ls) ∧ (w1.heap.size ≤ W.heap.size) ∧ ∀ k, B k ↔ feet w1.heap.size (own l (.loop (rec0 .done (some e.code))) :: own D (.deferred (some [])) :: Ls) k
  have hrg : RangerQ P enc Qp w1.heap.size l J Jx := by
    refine ⟨?_, ?_, ?_, ?_, ?_⟩
    · rintro pre B W W' ⟨Ls, h1, h2, h3, h4⟩ hs ho ht hou hk
      exact ⟨Ls, h1, h2.agree (n0 := w1.heap.size) hs ho ht hou fun k hl hf => hk k hl (hf.imp (h4 k).2 id), by omega, h4⟩
    · rintro pre B W W' ⟨e, Ls, h1, h2, h3, h4⟩ hs ho ht hou hk
      exact ⟨e, Ls, h1, h2.agree (n0 := w1.heap.size) hs ho ht hou fun k hl hf => hk k hl (hf.imp (h4 k).2 id), by omega, h4⟩
    · rintro pre B W ⟨Ls, h1, h2, h3, h4⟩
      exact ⟨h3, fun k hk => by obtain ⟨a, ha, hF, _⟩ := (h4 k).1 hk; exact (h2.ok a ha).2.1 k hF⟩
    · rintro pre B W ⟨e, Ls, h1, h2, h3, h4⟩
      exact ⟨h3, fun k hk => by obtain ⟨a, ha, hF, _⟩ := (h4 k).1 hk; exact (h2.ok a ha).2.1 k hF⟩
    · rintro pre x B W ⟨Ls, h1, h2, h3, h4⟩ hpre
      have hrec := h2.getOwn 0 rfl
      refine ⟨fn, a.tmps.setIfInBounds tp (enc x), assign, body, ?_, ?_⟩
      · rw [run_yield hrec (by simp [rec0])]; simp [rec0]
      -- what lies beside the loop stays
      let aO : Atom := shr (fun k => k < W.heap.size ∧ ¬ B k) W
      have h2O : Holds W (own l (.loop (rec0 .ready none)) :: own D (.deferred (some [])) :: aO :: Ls) := by
        have h := h2.share (fun k => k < W.heap.size ∧ ¬ B k) (fun k h => h.1) (fun b hb hx k hk hF => hk.2 ((h4 k).2 ⟨b, hb, hF, .inl hx⟩))
        exact h.perm (by
          refine List.Perm.trans (List.Perm.swap _ _ _) (List.Perm.cons _ ?_)
          exact List.Perm.swap _ _ _)
      have hb := hbody l (own l (.loop (rec0 .ready none))) (own l (.loop (rec0 .busy none))) (own D (.deferred (some []))) aO pre x Ls W h1 hpre h2O
      refine roundIn_of_wpIn trivial ?_
      have hfe : Fence.wide.inRound l = fe (some l) := rfl
      rw [hfe]
      refine wpIn_mono (hb _ (fits_param ha htp (enc x)) rfl) ?_
      rintro e a1 W1 ⟨f1, hf1, q⟩
      cases e with
      | normal =>
        obtain ⟨Ls1, hL1, hW2⟩ := q
        have hr1 := hL1.getOwn 0 rfl
        refine ⟨_, run_beginRound hr1 rfl, ?_⟩
        have hL2 := hL1.put 0 rfl (.loop (rec0 .busy none))
        refine wpIn_mono (hW2 _ hL2 a1 hf1 rfl) ?_
        -- the round's end
        have fin : ∀ (Ls2 : List Atom) (W3 : World) (st : LoopState) (j : Option Code), (∀ a ∈ Ls2, a.excl = false → ∀ k, a.F k → k < w.heap.size) → Holds W3 (own l (.loop (rec0 .busy none)) :: own D (.deferred (some [])) :: aO :: Ls2) →
            Ext B W (W3.putObj l (.loop (rec0 st j))) ∧ (∀ k, feet w1.heap.size (own l (.loop (rec0 st j)) :: own D (.deferred (some [])) :: Ls2) k → B k ∨ W.heap.size ≤ k) ∧
            Holds (W3.putObj l (.loop (rec0 st j))) (own l (.loop (rec0 st j)) :: own D (.deferred (some [])) :: Ls2) ∧ w1.heap.size ≤ (W3.putObj l (.loop (rec0 st j))).heap.size := by
          intro Ls2 W3 st j hs2 hH3
          have hH4 := hH3.put 0 rfl (.loop (rec0 st j))
          have hO := hH4.get (i := 2) rfl
          obtain ⟨o1, o2, o3, o4, o5⟩ := hO
          refine ⟨⟨o2, o3, o4, o1, fun k hk hB => o5 k ⟨hk, hB⟩⟩, ?_, hH4.sub (List.Sublist.cons_cons _ (List.Sublist.cons_cons _ (List.Sublist.cons _ (List.Sublist.refl _)))), by omega⟩
          rintro k ⟨b, hb, hF, hor⟩
          by_cases hk : W.heap.size ≤ k
          · exact .inr hk
          · refine .inl (Classical.byContradiction fun hB => ?_)
            have hap := getElem_apart hH4.apart (i := 2) (a := aO) rfl
            have hb' : b ∈ (own l (.loop (rec0 st j)) :: own D (.deferred (some [])) :: aO :: Ls2).eraseIdx 2 := by
              simp only [List.eraseIdx_cons_succ, List.eraseIdx_cons_zero]; exact hb
            by_cases hbx : b.excl = true
            · exact hap b hb' (.inr hbx) k ⟨by omega, hB⟩ hF
            · rcases hor with hor | hor
              · exact hbx hor
              · have hbm : b ∈ Ls2 := by
                  simp only [List.mem_cons] at hb
                  rcases hb with rfl | rfl | hb
                  · exact absurd rfl hbx
                  · exact absurd rfl hbx
                  · exact hb
                have := hs2 b hbm (by simpa using hbx) k hF
                omega
        rintro e2 a2 W3 ⟨f3, hf3, q3⟩
        cases e2 with
        | normal =>
          obtain ⟨Ls2, hI2, hH3⟩ := q3
          obtain ⟨g1, g2, g3, g4⟩ := fin Ls2 W3 .ready none (hsh _ _ hI2) hH3
          exact ⟨_, _, run_endRound none (hH3.getOwn 0 rfl), _, g1, g2, .inl ⟨rfl, Ls2, hI2, g3, g4, fun k => Iff.rfl⟩⟩
        | ret =>
          obtain ⟨Ls2, hI2, hH3⟩ := q3
          obtain ⟨g1, g2, g3, g4⟩ := fin Ls2 W3 .done (some .ret) (hshx _ _ _ hI2) hH3
          exact ⟨_, _, run_endRound (some .ret) (hH3.getOwn 0 rfl), _, g1, g2, .inr ⟨rfl, .ret, Ls2, hI2, g3, g4, fun k => Iff.rfl⟩⟩
        | exit i =>
          obtain ⟨Ls2, hI2, hH3⟩ := q3
          obtain ⟨g1, g2, g3, g4⟩ := fin Ls2 W3 .done (some (.exit i)) (hshx _ _ _ hI2) hH3
          exact ⟨_, _, run_endRound (some (.exit i)) (hH3.getOwn 0 rfl), _, g1, g2, .inr ⟨rfl, .exit i, Ls2, hI2, g3, g4, fun k => Iff.rfl⟩⟩
        | goto i =>
          obtain ⟨Ls2, hI2, hH3⟩ := q3
          obtain ⟨g1, g2, g3, g4⟩ := fin Ls2 W3 .done (some (.goto i)) (hshx _ _ _ hI2) hH3
          exact ⟨_, _, run_endRound (some (.goto i)) (hH3.getOwn 0 rfl), _, g1, g2, .inr ⟨rfl, .goto i, Ls2, hI2, g3, g4, fun k => Iff.rfl⟩⟩
        | panic c => exact q3.elim
        | outgrown => exact q3.elim
      | exit i => exact q.elim
      | goto i => exact q.elim
      | ret => exact q.elim
      | panic c => exact q.elim
      | outgrown => exact q.elim
  have hJ0 : J [] (fun k => feet w1.heap.size (own l (.loop (rec0 .ready none)) :: own D (.deferred (some [])) :: L) k) w1 := ⟨L, hI0, H1, Nat.le_refl _, fun k => Iff.rfl⟩
  have hcall := it w1 e1 l _ J Jx hrg hJ0 (by
    rintro k hk ⟨b, hb, hF, hor⟩
    obtain ⟨hk1, hk2⟩ := hZ k hk
    simp only [List.mem_cons] at hb
    rcases hb with rfl | rfl | hb
    · simp only at hF; omega
    · simp only at hF; omega
    · rcases hor with hor | hor
      · exact hk2 b hb hor hF
      · omega)
  refine ⟨l, [{ target := .collected D, args := #[] }], w1, { target := .fn (.func k) cap, args := #[.func (.yield l) #[] #[]] }, w1, k, (.func (.yield l) #[] #[] :: cap.toList).toArray, w1, ?_, ?_, fun _ _ => trivial, ?_, fun h => (by cases h), ?_⟩
  · exact run_enterLoop_outer fn a.tmps #[tp] assign body
  · have hg' : a.eval g = .func (.func k) #[] cap := by rw [ha.eval]; exact hg
    have hm : (#[Operand.const (.func (.yield l) #[] #[])] : Array Operand).map a.eval = #[.func (.yield l) #[] #[]] := by simp; rfl
    simp only [resolve, rangeCall, hg', hm, Deferred.ofValue]
    rfl
  · have := en (#[.func (.yield l) #[] #[]] ++ cap) w1
    simp only [invoke]
    rw [this]; congr 2
    simp
  · refine (callsIn_wide.2 hcall).mono ?_
    rintro e w3 ⟨⟨v, rfl⟩, B', hE, hB', hJ⟩
    have hrec : ∀ st j (Ls : List Atom) W, Holds W (own l (.loop (rec0 st j)) :: own D (.deferred (some [])) :: Ls) → st ≠ .busy → (Instr.endLoop l).run P W = .ok j (W.putObj l (.loop (rec0 .exhausted j))) := fun st j Ls W hH hst => run_endLoop (hH.getOwn 0 rfl) hst
    have hfd : Fits n f { tmps := a.tmps, defers := [{ target := .collected D, args := #[] }] ++ a.defers } := ⟨ha.1, ha.2⟩
    rcases hJ with ⟨xs, hxs, Ls, hI, hH, _, _⟩ | ⟨pre, hpre, e, Ls, hI, hH, _, _⟩
    · refine ⟨none, _, hrec _ _ _ _ hH (by simp), f, hfd, ?_⟩
      have := (hH.put 0 rfl (.loop (rec0 .exhausted none))).tail
      have hq := hdone D xs Ls _ hxs hI this
      simpa [hd] using hq
    · refine ⟨some e.code, _, hrec _ _ _ _ hH (by simp), ?_⟩
      have hH' := (hH.put 0 rfl (.loop (rec0 .exhausted (some e.code)))).tail
      have hq := hexit D pre Ls _ e hpre hI hH'
      cases e with
      | ret => exact wpIn_ret ⟨f, hfd, by simpa [hd, Leave.out] using hq⟩
      | exit i => exact wpIn_exit ⟨f, hfd, by simpa [hd, Leave.out] using hq⟩
      | goto i => exact wpIn_goto ⟨f, hfd, by simpa [hd, Leave.out] using hq⟩
end
end Go.Wk
