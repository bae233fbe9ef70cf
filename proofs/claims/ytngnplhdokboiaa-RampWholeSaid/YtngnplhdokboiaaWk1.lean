/- THE GROUND OF THE WALKS, 1: worlds that grow, and a bundle of what is held of a world (exclusive parts and shared parts, each with the blocks that it stands on). Plain lemmas over the model; no program in sight. -/
import Derived.RangeFuncNested
import Derived.RangeFuncRecord
import Derived.Deep.Draws
import Derived.Below
namespace Go.Wk
open Go

/-- Of the old blocks those outside M are as they were; the streams are as they were. -/
structure Ext (M : Nat → Prop) (w w' : World) : Prop where
  os : w'.os = w.os
  tape : w'.tape = w.tape
  output : w'.output = w.output
  size : w.heap.size ≤ w'.heap.size
  blk : ∀ k, k < w.heap.size → ¬ M k → w'.heap[k]? = w.heap[k]?

abbrev none' : Nat → Prop := fun _ => False

theorem Ext.refl (M : Nat → Prop) (w : World) : Ext M w w := ⟨rfl, rfl, rfl, Nat.le_refl _, fun _ _ _ => rfl⟩
theorem Ext.trans {M a b c} (h : Ext M a b) (k : Ext M b c) : Ext M a c :=
  ⟨k.os.trans h.os, k.tape.trans h.tape, k.output.trans h.output, Nat.le_trans h.size k.size, fun i hi hm => (k.blk i (Nat.lt_of_lt_of_le hi h.size) hm).trans (h.blk i hi hm)⟩
theorem Ext.mono {M M' : Nat → Prop} {a b} (h : Ext M a b) (hM : ∀ k, k < a.heap.size → M k → M' k) : Ext M' a b :=
  ⟨h.os, h.tape, h.output, h.size, fun i hi hm => h.blk i hi fun x => hm (hM i hi x)⟩
theorem Ext.below {a b} (h : Ext none' a b) : RowKit.Below a.heap.size a b := ⟨h.os, h.tape, h.output, h.size, fun k hk => h.blk k hk (fun h => h)⟩
theorem Ext.of_below {a b} (h : RowKit.Below a.heap.size a b) : Ext none' a b := ⟨h.os, h.tape, h.output, h.size, fun k hk _ => h.block k hk⟩
/-- Two steps, of which the second may touch what the first has made. -/
theorem Ext.trans' {M M' : Nat → Prop} {a b c} (h : Ext M a b) (k : Ext M' b c) (hM : ∀ i, i < a.heap.size → M' i → M i) : Ext M a c :=
  ⟨k.os.trans h.os, k.tape.trans h.tape, k.output.trans h.output, Nat.le_trans h.size k.size, fun i hi hm => (k.blk i (Nat.lt_of_lt_of_le hi h.size) fun x => hm (hM i hi x)).trans (h.blk i hi hm)⟩

theorem Ext.drew (M : Nat → Prop) (w : World) (n : Nat) : Ext M w (w.drewN n) := ⟨rfl, rfl, rfl, Nat.le_refl _, fun _ _ _ => rfl⟩
theorem Ext.alloc (M : Nat → Prop) (w : World) (o : Obj) : Ext M w (w.alloc o) :=
  ⟨rfl, rfl, rfl, by rw [World.size_alloc]; omega, fun k hk _ => by show (w.heap.push o)[k]? = _; rw [Array.getElem?_push, if_neg (by omega)]⟩
theorem Ext.put (w : World) (b : Nat) (o : Obj) : Ext (fun k => k = b) w (w.putObj b o) :=
  ⟨rfl, rfl, rfl, by simp, fun k _ hM => World.putObj_heap_other hM⟩

/-- A part of what is held: exclusive or shared, the blocks it stands on, what it says. -/
structure Atom where
  excl : Bool
  F : Nat → Prop
  Pr : World → Prop

/-- What it says hangs on its blocks alone. -/
def Atom.stable (a : Atom) : Prop := ∀ w w' : World, w.heap.size ≤ w'.heap.size → w'.os = w.os → w'.tape = w.tape → w'.output = w.output → (∀ k, a.F k → k < w.heap.size → w'.heap[k]? = w.heap[k]?) → a.Pr w → a.Pr w'
def Atom.ok (w : World) (a : Atom) : Prop := a.Pr w ∧ (∀ k, a.F k → k < w.heap.size) ∧ a.stable
def Atom.apart (a b : Atom) : Prop := (a.excl = true ∨ b.excl = true) → ∀ k, a.F k → ¬ b.F k
theorem Atom.apart.symm {a b : Atom} (h : a.apart b) : b.apart a := fun e k hb ha => h e.symm k ha hb

structure Holds (w : World) (L : List Atom) : Prop where
  ok : ∀ a ∈ L, a.ok w
  apart : L.Pairwise Atom.apart

abbrev own (b : Nat) (o : Obj) : Atom := ⟨true, fun k => k = b, fun w => w.heap[b]? = some o⟩
/-- The blocks Z are as they were in w0 (all of them lie in w0). -/
abbrev shr (Z : Nat → Prop) (w0 : World) : Atom := ⟨false, Z, fun w => w0.heap.size ≤ w.heap.size ∧ w.os = w0.os ∧ w.tape = w0.tape ∧ w.output = w0.output ∧ ∀ k, Z k → w.heap[k]? = w0.heap[k]?⟩

theorem own_stable (b : Nat) (o : Obj) : (own b o).stable := by
  intro w w' hs _ _ _ h hp
  have hb : b < w.heap.size := by
    obtain ⟨h, _⟩ := Array.getElem?_eq_some_iff.1 hp; exact h
  exact (h b rfl hb).trans hp
theorem shr_stable {Z : Nat → Prop} {w0 : World} (hZ : ∀ k, Z k → k < w0.heap.size) : (shr Z w0).stable := by
  intro w w' hs h1 h2 h3 h hp
  obtain ⟨a, b, c, d, e⟩ := hp
  exact ⟨by omega, h1.trans b, h2.trans c, h3.trans d, fun k hk => (h k hk (Nat.lt_of_lt_of_le (hZ k hk) a)).trans (e k hk)⟩
theorem own_lt {w : World} {b : Nat} {o : Obj} (h : w.heap[b]? = some o) : b < w.heap.size := (Array.getElem?_eq_some_iff.1 h).1

/-- At a function's begin: all old blocks are shared. -/
theorem Holds.start (w : World) : Holds w [shr (fun k => k < w.heap.size) w] :=
  ⟨fun a ha => by
    simp only [List.mem_singleton] at ha; subst ha
    exact ⟨⟨Nat.le_refl _, rfl, rfl, rfl, fun _ _ => rfl⟩, fun _ h => h, shr_stable fun _ h => h⟩, List.pairwise_singleton _ _⟩

theorem Holds.nil (w : World) : Holds w [] := ⟨fun _ h => (by cases h), List.Pairwise.nil⟩

theorem Atom.ok.ext {a : Atom} {w w' : World} {M : Nat → Prop} (h : a.ok w) (e : Ext M w w') (hM : ∀ k, a.F k → ¬ M k) : a.ok w' :=
  ⟨h.2.2 w w' e.size e.os e.tape e.output (fun k hk hl => e.blk k hl (hM k hk)) h.1, fun k hk => Nat.lt_of_lt_of_le (h.2.1 k hk) e.size, h.2.2⟩

theorem Holds.ext {w w' : World} {L : List Atom} {M : Nat → Prop} (h : Holds w L) (e : Ext M w w') (hM : ∀ a ∈ L, ∀ k, a.F k → ¬ M k) : Holds w' L :=
  ⟨fun a ha => (h.ok a ha).ext e (hM a ha), h.apart⟩
theorem Holds.ext0 {w w' : World} {L : List Atom} (h : Holds w L) (e : Ext none' w w') : Holds w' L := h.ext e fun _ _ _ _ h => h
theorem Holds.drew {w : World} {L : List Atom} (n : Nat) (h : Holds w L) : Holds (w.drewN n) L := h.ext0 (Ext.drew _ _ _)

/-- A new atom, on blocks that no exclusive atom stands on. -/
theorem Holds.cons {w : World} {L : List Atom} {a : Atom} (h : Holds w L) (ha : a.ok w) (hap : ∀ b ∈ L, a.apart b) : Holds w (a :: L) :=
  ⟨fun b hb => by
    rcases List.mem_cons.1 hb with rfl | hb
    · exact ha
    · exact h.ok b hb, List.pairwise_cons.2 ⟨hap, h.apart⟩⟩
theorem Holds.tail {w : World} {L : List Atom} {a : Atom} (h : Holds w (a :: L)) : Holds w L := ⟨fun b hb => h.ok b (List.mem_cons_of_mem _ hb), (List.pairwise_cons.1 h.apart).2⟩
/-- A new atom on new blocks. -/
theorem Holds.new {w w' : World} {L : List Atom} {a : Atom} (h : Holds w L) (e : Ext none' w w') (ha : a.ok w') (hn : ∀ k, a.F k → w.heap.size ≤ k) : Holds w' (a :: L) :=
  (h.ext0 e).cons ha fun b hb _ k hk hbk => by have := hn k hk; have := (h.ok b hb).2.1 k hbk; omega
theorem Holds.alloc {w : World} {L : List Atom} (h : Holds w L) (o : Obj) : Holds (w.alloc o) (own w.heap.size o :: L) :=
  h.new (Ext.alloc _ _ _) ⟨World.alloc_heap_new w o, fun k hk => by simp only at hk; subst hk; rw [World.size_alloc]; omega, own_stable _ _⟩ fun k hk => by simp only at hk; omega

theorem Holds.get {w : World} {L : List Atom} (h : Holds w L) {i : Nat} {a : Atom} (hi : L[i]? = some a) : a.Pr w := (h.ok a (List.mem_of_getElem? hi)).1
theorem Holds.getOwn {w : World} {L : List Atom} (h : Holds w L) (i : Nat) {b : Nat} {o : Obj} (hi : L[i]? = some (own b o)) : w.heap[b]? = some o := h.get hi

theorem pairwise_set {L : List Atom} {i : Nat} {a' : Atom} (h : L.Pairwise Atom.apart) (hi : i < L.length) (hap : ∀ b ∈ L.eraseIdx i, a'.apart b) : (L.set i a').Pairwise Atom.apart := by
  induction L generalizing i with
  | nil => simp at hi
  | cons x L ih =>
    rw [List.pairwise_cons] at h
    cases i with
    | zero => simpa [List.pairwise_cons] using ⟨hap, h.2⟩
    | succ i =>
      simp only [List.set_cons_succ, List.pairwise_cons]
      refine ⟨fun b hb => ?_, ih h.2 (by simpa using hi) fun b hb => hap b (by simp [hb])⟩
      rcases List.mem_or_eq_of_mem_set hb with hb | rfl
      · exact h.1 b hb
      · exact (hap x (by simp)).symm

theorem getElem_apart {L : List Atom} (h : L.Pairwise Atom.apart) {i : Nat} {a : Atom} (hi : L[i]? = some a) : ∀ b ∈ L.eraseIdx i, a.apart b := by
  induction L generalizing i with
  | nil => simp at hi
  | cons x L ih =>
    rw [List.pairwise_cons] at h
    cases i with
    | zero => simp at hi; subst hi; simpa using h.1
    | succ i =>
      simp at hi
      intro b hb
      simp only [List.eraseIdx_cons_succ, List.mem_cons] at hb
      rcases hb with rfl | hb
      · exact (h.1 a (List.mem_of_getElem? hi)).symm
      · exact ih h.2 hi b hb

/-- THE STEP: what is done touches old blocks of one exclusive atom alone; that atom becomes another one, on its own blocks and new ones. -/
theorem Holds.step {w w' : World} {L : List Atom} (h : Holds w L) (i : Nat) {a a' : Atom} (hi : L[i]? = some a) (hx : a.excl = true) {M : Nat → Prop} (e : Ext M w w') (hM : ∀ k, k < w.heap.size → M k → a.F k) (ha' : a'.ok w')
    (hF : ∀ k, a'.F k → a.F k ∨ w.heap.size ≤ k) : Holds w' (L.set i a') := by
  have hlt : i < L.length := (List.getElem?_eq_some_iff.1 hi).1
  have hap := getElem_apart h.apart hi
  have hmem : ∀ b ∈ L.eraseIdx i, b ∈ L := fun b hb => List.mem_of_mem_eraseIdx hb
  refine ⟨fun b hb => ?_, pairwise_set h.apart hlt fun b hb _ k hk hbk => ?_⟩
  · rw [List.set_eq_take_append_cons_drop, if_pos hlt] at hb
    have hok : ∀ b, b ∈ L.eraseIdx i → b.ok w' := fun b hb => by
      have hb0 := h.ok b (hmem b hb)
      refine ⟨hb0.2.2 w w' e.size e.os e.tape e.output (fun k hk hl => e.blk k hl fun hm => hap b hb (.inl hx) k (hM k hl hm) hk) hb0.1, fun k hk => Nat.lt_of_lt_of_le (hb0.2.1 k hk) e.size, hb0.2.2⟩
    rw [List.eraseIdx_eq_take_drop_succ] at hok
    simp only [List.mem_append, List.mem_cons] at hb
    rcases hb with hb | rfl | hb
    · exact hok b (List.mem_append.2 (.inl hb))
    · exact ha'
    · exact hok b (List.mem_append.2 (.inr hb))
  · rcases hF k hk with hk | hk
    · exact hap b hb (.inl hx) k hk hbk
    · have := (h.ok b (hmem b hb)).2.1 k hbk; omega

theorem own_ok {w : World} {b : Nat} {o : Obj} (h : w.heap[b]? = some o) : (own b o).ok w := ⟨h, fun k hk => by simp only at hk; subst hk; exact own_lt h, own_stable _ _⟩

/-- A store into a block of one's own. -/
theorem Holds.put {w : World} {L : List Atom} (h : Holds w L) (i : Nat) {b : Nat} {o : Obj} (hi : L[i]? = some (own b o)) (o' : Obj) : Holds (w.putObj b o') (L.set i (own b o')) :=
  h.step i hi rfl (Ext.put w b o') (fun _ _ h => h) (own_ok (World.putObj_heap_same (own_lt (h.getOwn i hi)))) fun _ h => .inl h

/-- What is done is known by its old blocks: all that lie below n0 are as they were. -/
theorem Holds.ext_of {w0 w : World} {L : List Atom} (h : Holds w L) (i : Nat) (hi : L[i]? = some (shr (fun k => k < w0.heap.size) w0)) : Ext none' w0 w := by
  obtain ⟨a, b, c, d, e⟩ := h.get hi
  exact ⟨b, c, d, a, fun k hk _ => e k hk⟩

/-- Order and number of the atoms. -/
theorem Holds.perm {w : World} {L L' : List Atom} (h : Holds w L) (p : L.Perm L') : Holds w L' :=
  ⟨fun a ha => h.ok a (p.mem_iff.2 ha), (p.pairwise_iff (fun h => Atom.apart.symm h)).1 h.apart⟩
theorem Holds.sub {w : World} {L L' : List Atom} (h : Holds w L) (p : L'.Sublist L) : Holds w L' :=
  ⟨fun a ha => h.ok a (p.subset ha), h.apart.sublist p⟩

/-- A shared atom more: on blocks that lie there, and that no exclusive atom stands on. -/
theorem Holds.share {w : World} {L : List Atom} (h : Holds w L) (Z : Nat → Prop) (hZ : ∀ k, Z k → k < w.heap.size) (hx : ∀ a ∈ L, a.excl = true → ∀ k, Z k → ¬ a.F k) : Holds w (shr Z w :: L) :=
  h.cons ⟨⟨Nat.le_refl _, rfl, rfl, rfl, fun _ _ => rfl⟩, hZ, shr_stable hZ⟩ fun b hb e k hk => by
    rcases e with e | e
    · cases e
    · exact hx b hb e k hk
end Go.Wk
