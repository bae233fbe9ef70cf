/- THE GROUND OF THE WALKS, 8: a range over a function: what an iterator owes, the rule for the caller, the rule for a call of yield. -/
import Derived.Test.YtngnplhdokboiaaWk7
import Derived.RangeFuncIn
import Derived.RangeFuncRecord
namespace Go.Wk
open Go
set_option linter.unusedVariables false
set_option linter.unusedSimpArgs false

/-- The blocks Z are as they were in w0; nobody else stands on them. -/
abbrev exc (Z : Nat → Prop) (w0 : World) : Atom := ⟨true, Z, fun w => w0.heap.size ≤ w.heap.size ∧ w.os = w0.os ∧ w.tape = w0.tape ∧ w.output = w0.output ∧ ∀ k, Z k → w.heap[k]? = w0.heap[k]?⟩
theorem exc_stable {Z : Nat → Prop} {w0 : World} (hZ : ∀ k, Z k → k < w0.heap.size) : (exc Z w0).stable := shr_stable (Z := Z) hZ
theorem exc_ok {Z : Nat → Prop} {w : World} (hZ : ∀ k, Z k → k < w.heap.size) : (exc Z w).ok w := ⟨⟨Nat.le_refl _, rfl, rfl, rfl, fun _ _ => rfl⟩, hZ, exc_stable hZ⟩

/-- A round's contract, where yield is called at v. -/
def YieldAt (P : Program) (l : Nat) (v : Value) (W : World) (R : Ending → World → Prop) : Prop :=
  ∃ fn tmps assign body, (Instr.yield l #[v]).run P W = .ok (.round l fn tmps assign body) W ∧ RoundIn Fence.wide 0 P l fn tmps assign body W R

/-- What the loop that ranges owes: J pre B: 'pre' has come, the loop stands on the blocks B (and reads blocks below n0). -/
structure Ranger {α : Type} (P : Program) (enc : α → Value) (xs : List α) (n0 : Nat) (l : Nat) (J Jx : List α → (Nat → Prop) → World → Prop) : Prop where
  stable : ∀ pre B w w', J pre B w → w.heap.size ≤ w'.heap.size → w'.os = w.os → w'.tape = w.tape → w'.output = w.output → (∀ k, k < w.heap.size → (B k ∨ k < n0) → w'.heap[k]? = w.heap[k]?) → J pre B w'
  stablex : ∀ pre B w w', Jx pre B w → w.heap.size ≤ w'.heap.size → w'.os = w.os → w'.tape = w.tape → w'.output = w.output → (∀ k, k < w.heap.size → (B k ∨ k < n0) → w'.heap[k]? = w.heap[k]?) → Jx pre B w'
  bnd : ∀ pre B w, J pre B w → n0 ≤ w.heap.size ∧ ∀ k, B k → k < w.heap.size
  bndx : ∀ pre B w, Jx pre B w → n0 ≤ w.heap.size ∧ ∀ k, B k → k < w.heap.size
  round : ∀ pre x B W, J pre B W → (pre ++ [x]) <+: xs → YieldAt P l (enc x) W fun e W' => ∃ B', Ext B W W' ∧ (∀ k, B' k → B k ∨ W.heap.size ≤ k) ∧
    ((e = .returned (.bool true) ∧ J (pre ++ [x]) B' W') ∨ (e = .returned (.bool false) ∧ Jx (pre ++ [x]) B' W'))

/-- What an iterator owes: function k with what it has captured hands over the list xs; it reads the blocks Z alone. -/
def Iter {α : Type} (P : Program) (k : FuncId) (cap : List Value) (enc : α → Value) (xs : List α) (Z : Nat → Prop) (w : World) : Prop :=
  ∀ l B J Jx, Ranger P enc xs w.heap.size l J Jx → J [] B w → (∀ k, Z k → ¬ B k) →
    Calls P k (.func (.yield l) #[] #[] :: cap).toArray w fun e w' => (∃ v, e = .returned v) ∧ ∃ B', Ext B w w' ∧ (∀ k, B' k → B k ∨ w.heap.size ≤ k) ∧ (J xs B' w' ∨ ∃ pre, pre <+: xs ∧ Jx pre B' w')

/-- A call of yield in an iterator's text. -/
theorem OL_yield {P : Program} {l : Option Nat} {n : Nat} {Q : PQ} {f : Fr} {ds : List Deferred} {w : World} {all : Array Oper} {rest : List Oper} {d ty : Nat} {p : String} {af : Array Edge} {x y : Operand} {tys : Array TypeId} {l' : Nat} {v : Value} {R : Ending → World → Prop}
    (h : YieldAt P l' v w R) (hx : ev f x = .func (.yield l') #[] #[]) (hy : ev f y = v) (hn : d < n)
    (k : ∀ e w', R e w' → ∃ u, e = .returned u ∧ OL P l n all Q rest (upd f d u) ds w') :
    OL P l n all Q (⟨some d, .call { callee := .value x, args := #[y], argTypes := tys }, ty, p, af, none⟩ :: rest) f ds w := by
  obtain ⟨fn, tmps, assign, body, h1, h2⟩ := h
  refine OL_round (l' := l') (g := fn) (tmps := tmps) (assign := assign) (body := body) rfl rfl (fun _ h => by injection h with h; subst h; exact hn) ?_ (h2.mono k)
  simp [execOp, resolve, Deferred.ofValue, invoke, hx, hy, h1, Result.andThen]

/-! ### An iterator's own text -/
/-- The atoms an iterator starts with: what the loop stands on; all other old blocks. -/
abbrev aB (B B0 : Nat → Prop) (W0 : World) : Atom := exc (fun k => B k ∨ B0 k) W0
abbrev aZ (B0 : Nat → Prop) (w : World) : Atom := shr (fun k => k < w.heap.size ∧ ¬ B0 k) w
/-- The loop stood so when yield was last left. -/
structure ItInv (w W0 : World) (B0 B : Nat → Prop) : Prop where
  sub : ∀ k, B k → B0 k ∨ w.heap.size ≤ k
  base : ∀ k, k < w.heap.size → ¬ B0 k → W0.heap[k]? = w.heap[k]?
  le : w.heap.size ≤ W0.heap.size
  bnd : ∀ k, B k ∨ B0 k → k < W0.heap.size
section
variable {α : Type} {P : Program} {enc : α → Value} {xs : List α} {l : Nat} {J Jx : List α → (Nat → Prop) → World → Prop} {w W0 W : World} {B0 B : Nat → Prop} {L : List Atom} {pre : List α}
theorem Ranger.start (hR : Ranger P enc xs w.heap.size l J Jx) (hJ : J [] B w) : Holds w [aB B B w, aZ B w] ∧ ItInv w w B B := by
  have hb := (hR.bnd _ _ _ hJ).2
  refine ⟨(((Holds.nil w).cons (a := aZ B w) ⟨⟨Nat.le_refl _, rfl, rfl, rfl, fun _ _ => rfl⟩, fun k h => h.1, shr_stable fun k h => h.1⟩ (by simp)).cons (exc_ok fun k h => hb k (h.elim id id)) ?_), fun k h => .inl h, fun _ _ _ => rfl, Nat.le_refl _, fun k h => hb k (h.elim id id)⟩
  intro b hm _ k hk hF
  simp only [List.mem_singleton] at hm; subst hm
  exact hF.2 (hk.elim id id)
theorem ItInv.agree (hi : ItInv w W0 B0 B) (H : Holds W L) {i j : Nat} (h1 : L[i]? = some (aB B B0 W0)) (h2 : L[j]? = some (aZ B0 w)) : ∀ k, k < W0.heap.size → (B k ∨ k < w.heap.size) → W.heap[k]? = W0.heap[k]? := by
  obtain ⟨_, _, _, _, e1⟩ := H.get h1
  obtain ⟨_, _, _, _, e2⟩ := H.get h2
  intro k hk hor
  by_cases hB : B k ∨ B0 k
  · exact e1 k hB
  · have hkn : k < w.heap.size := hor.elim (fun h => (hB (.inl h)).elim) id
    exact (e2 k ⟨hkn, fun h => hB (.inr h)⟩).trans (hi.base k hkn fun h => hB (.inr h)).symm
theorem Ranger.at (hR : Ranger P enc xs w.heap.size l J Jx) (hJ : J pre B W0) (hi : ItInv w W0 B0 B) (H : Holds W L) {i j : Nat} (h1 : L[i]? = some (aB B B0 W0)) (h2 : L[j]? = some (aZ B0 w)) : J pre B W := by
  obtain ⟨a, b, c, d, _⟩ := H.get h1
  exact hR.stable pre B W0 W hJ a b c d (hi.agree H h1 h2)
theorem Ranger.atx (hR : Ranger P enc xs w.heap.size l J Jx) (hJ : Jx pre B W0) (hi : ItInv w W0 B0 B) (H : Holds W L) {i j : Nat} (h1 : L[i]? = some (aB B B0 W0)) (h2 : L[j]? = some (aZ B0 w)) : Jx pre B W := by
  obtain ⟨a, b, c, d, _⟩ := H.get h1
  exact hR.stablex pre B W0 W hJ a b c d (hi.agree H h1 h2)
theorem ItInv.ext (H : Holds W L) {j : Nat} (h2 : L[j]? = some (aZ B0 w)) : Ext B0 w W := by
  obtain ⟨a, b, c, d, e⟩ := H.get h2
  exact ⟨b, c, d, a, fun k hk hB => e k ⟨hk, hB⟩⟩
/-- A call of yield. -/
theorem Ranger.yield (hR : Ranger P enc xs w.heap.size l J Jx) (hJ : J pre B W0) (hi : ItInv w W0 B0 B) (H : Holds W L) (i j : Nat) (h1 : L[i]? = some (aB B B0 W0)) (h2 : L[j]? = some (aZ B0 w)) {x : α} (hx : (pre ++ [x]) <+: xs) :
    YieldAt P l (enc x) W fun e W' => (e = .returned (.bool true) ∧ ∃ B', J (pre ++ [x]) B' W' ∧ ItInv w W' B0 B' ∧ Holds W' (L.set i (aB B' B0 W'))) ∨ (e = .returned (.bool false) ∧ ∃ B', Jx (pre ++ [x]) B' W' ∧ ItInv w W' B0 B' ∧ Holds W' (L.set i (aB B' B0 W'))) := by
  obtain ⟨fn, tmps, assign, body, hy, hr⟩ := hR.round pre x B W (hR.at hJ hi H h1 h2) hx
  refine ⟨fn, tmps, assign, body, hy, hr.mono ?_⟩
  rintro e W' ⟨B', hE, hB', hor⟩
  have hlt : ∀ k, B k ∨ B0 k → k < W.heap.size := fun k hk => (H.ok _ (List.mem_of_getElem? h1)).2.1 k hk
  have key : (∀ k, B' k → k < W'.heap.size) → ItInv w W' B0 B' ∧ Holds W' (L.set i (aB B' B0 W')) := fun hb' => by
    have hb2 : ∀ k, B' k ∨ B0 k → k < W'.heap.size := fun k hk => hk.elim (hb' k) fun h => Nat.lt_of_lt_of_le (hlt k (.inr h)) hE.size
    have H' := H.step i h1 rfl (a' := aB B' B0 W') hE (fun k _ hB => .inl hB) (exc_ok hb2) (fun k hk => by
      rcases hk with hk | hk
      · rcases hB' k hk with h | h
        · exact .inl (.inl h)
        · exact .inr h
      · exact .inl (.inr hk))
    refine ⟨⟨fun k hk => ?_, fun k hk hn => ?_, ?_, hb2⟩, H'⟩
    · rcases hB' k hk with h | h
      · exact hi.sub k h
      · obtain ⟨a, _⟩ := H.get h2
        exact .inr (by omega)
    · by_cases hB : B k
      · rcases hi.sub k hB with h | h
        · exact (hn h).elim
        · omega
      · obtain ⟨a, _, _, _, e⟩ := H.get h2
        exact (hE.blk k (by omega) hB).trans (e k ⟨hk, hn⟩)
    · obtain ⟨a, _⟩ := H.get h2
      have := hE.size; omega
  rcases hor with ⟨he, hJ'⟩ | ⟨he, hJ'⟩
  · obtain ⟨k1, k2⟩ := key (hR.bnd _ _ _ hJ').2
    exact .inl ⟨he, B', hJ', k1, k2⟩
  · obtain ⟨k1, k2⟩ := key (hR.bndx _ _ _ hJ').2
    exact .inr ⟨he, B', hJ', k1, k2⟩
/-- The iterator's end: all have come; or the loop was left. -/
theorem Ranger.done (hR : Ranger P enc xs w.heap.size l J Jx) (hJ : J xs B W0) (hi : ItInv w W0 B0 B) (H : Holds W L) (i j : Nat) (h1 : L[i]? = some (aB B B0 W0)) (h2 : L[j]? = some (aZ B0 w)) :
    ∃ B', Ext B0 w W ∧ (∀ k, B' k → B0 k ∨ w.heap.size ≤ k) ∧ (J xs B' W ∨ ∃ pre, pre <+: xs ∧ Jx pre B' W) := ⟨B, ItInv.ext H h2, hi.sub, .inl (hR.at hJ hi H h1 h2)⟩
theorem Ranger.left (hR : Ranger P enc xs w.heap.size l J Jx) (hJ : Jx pre B W0) (hp : pre <+: xs) (hi : ItInv w W0 B0 B) (H : Holds W L) (i j : Nat) (h1 : L[i]? = some (aB B B0 W0)) (h2 : L[j]? = some (aZ B0 w)) :
    ∃ B', Ext B0 w W ∧ (∀ k, B' k → B0 k ∨ w.heap.size ≤ k) ∧ (J xs B' W ∨ ∃ pre, pre <+: xs ∧ Jx pre B' W) := ⟨B, ItInv.ext H h2, hi.sub, .inr ⟨pre, hp, hR.atx hJ hi H h1 h2⟩⟩
end

/-- The blocks that a bundle stands on, but for shared ones below n0. -/
def feet (n0 : Nat) (L : List Atom) (k : Nat) : Prop := ∃ a ∈ L, a.F k ∧ (a.excl = true ∨ n0 ≤ k)

theorem Holds.agree {w w' : World} {L : List Atom} (h : Holds w L) {n0 : Nat} (hs : w.heap.size ≤ w'.heap.size) (h1 : w'.os = w.os) (h2 : w'.tape = w.tape) (h3 : w'.output = w.output)
    (hk : ∀ k, k < w.heap.size → (feet n0 L k ∨ k < n0) → w'.heap[k]? = w.heap[k]?) : Holds w' L :=
  ⟨fun a ha => by
    obtain ⟨p, b, s⟩ := h.ok a ha
    refine ⟨s w w' hs h1 h2 h3 (fun k hF hl => hk k hl ?_) p, fun k hF => Nat.lt_of_lt_of_le (b k hF) hs, s⟩
    by_cases hx : a.excl = true
    · exact .inl ⟨a, ha, hF, .inl hx⟩
    · by_cases hn : k < n0
      · exact .inr hn
      · exact .inl ⟨a, ha, hF, .inr (by omega)⟩, h.apart⟩

inductive Leave where | ret | exit (id : Nat) | goto (l : Nat)
def Leave.code : Leave → Code
  | .ret => .ret
  | .exit i => .exit i
  | .goto i => .goto i
def Leave.out : Leave → Exit
  | .ret => .ret
  | .exit i => .exit i
  | .goto i => .goto i

/-- How a round's body is left: on (Ls' holds what is asked), or out of the loop. -/
def bodyQ {α : Type} (aL aD aO : Atom) (I : List α → List Atom → Prop) (Ix : Leave → List α → List Atom → Prop) (pre : List α) : PQ
  | .normal, _, _, W => ∃ Ls, I pre Ls ∧ Holds W (aL :: aD :: aO :: Ls)
  | .ret, _, _, W => ∃ Ls, Ix .ret pre Ls ∧ Holds W (aL :: aD :: aO :: Ls)
  | .exit i, _, _, W => ∃ Ls, Ix (.exit i) pre Ls ∧ Holds W (aL :: aD :: aO :: Ls)
  | .goto i, _, _, W => ∃ Ls, Ix (.goto i) pre Ls ∧ Holds W (aL :: aD :: aO :: Ls)
  | _, _, _, _ => False

section
variable {P : Program} {n : Nat} {Q : PQ} {f : Fr} {ds : List Deferred} {w : World} {L : List Atom}

theorem fits_param {a : Act} {tp : Nat} (ha : Fits n f a) (htp : tp < n) (v : Value) : Fits n (upd f tp v) { tmps := a.tmps.setIfInBounds tp v, defers := [] } := by
  have := ha.put htp v
  exact ⟨this.1, this.2⟩

/-- **THE RULE** for 'for x := range g { .. }' that stands in no other such loop. -/
theorem W_rangeFunc {α : Type} {g : Operand} {tp : Nat} {assign body : Code} {k : FuncId} {cap : Array Value} (enc : α → Value) (xs : List α) (Z : Nat → Prop) (I : List α → List Atom → Prop) (Ix : Leave → List α → List Atom → Prop)
    (hg : ev f g = .func (.func k) #[] cap) (en : En P k) (htp : tp < n) (H : Holds w L) (hI0 : I [] L)
    (hsh : ∀ pre Ls, I pre Ls → ∀ a ∈ Ls, a.excl = false → ∀ k, a.F k → k < w.heap.size) (hshx : ∀ e pre Ls, Ix e pre Ls → ∀ a ∈ Ls, a.excl = false → ∀ k, a.F k → k < w.heap.size)
    (hZ : ∀ k, Z k → k < w.heap.size ∧ ∀ a ∈ L, a.excl = true → ¬ a.F k)
    (it : ∀ w', Ext none' w w' → Iter P k cap.toList enc xs Z w')
    (hbody : ∀ l aL aL' aD aO pre x Ls Wd, I pre Ls → (pre ++ [x]) <+: xs → Holds Wd (aL :: aD :: aO :: Ls) →
      W P (some l) n assign (thenQ (fun f1 ds1 W1 => ∃ Ls1, Holds W1 (aL :: aD :: aO :: Ls1) ∧ ∀ W2, Holds W2 (aL' :: aD :: aO :: Ls1) → W P (some l) n body (bodyQ aL' aD aO I Ix (pre ++ [x])) f1 ds1 W2) (fun _ _ _ _ => False)) (upd f tp (enc x)) [] Wd)
    (hdone : ∀ D Ls W, I xs Ls → Holds W (own D (.deferred (some [])) :: Ls) → Q .normal f ({ target := .collected D, args := #[] } :: ds) W)
    (hexit : ∀ D pre Ls W e, pre <+: xs → Ix e pre Ls → Holds W (own D (.deferred (some [])) :: Ls) → Q e.out f ({ target := .collected D, args := #[] } :: ds) W) :
    W P none n (.rangeFunc g #[tp] assign body) Q f ds w := fun a ha hd => by
  refine wpIn_rangeFunc fun fn _ => ?_
  let D := w.heap.size
  let l := w.heap.size + 1
  let rec0 (st : LoopState) (j : Option Code) : Loop := { state := st, pending := j, fn, tmps := a.tmps, params := #[tp], assign, body, defers := D }
  let w1 := (w.alloc (.deferred (some []))).alloc (.loop (rec0 .ready none))
  have e1 : Ext none' w w1 := (Ext.alloc _ _ _).trans (Ext.alloc _ _ _)
  have hs1 : w1.heap.size = w.heap.size + 2 := by show ((w.alloc _).alloc _).heap.size = _; simp [World.size_alloc]
  have H1 : Holds w1 (own l (.loop (rec0 .ready none)) :: own D (.deferred (some [])) :: L) := by
    have := (H.alloc (.deferred (some []))).alloc (.loop (rec0 .ready none))
    rw [World.size_alloc] at this; exact this
  -- what the loop stands on
  let J (pre : List α) (B : Nat → Prop) (W : World) : Prop := ∃ Ls, I pre Ls ∧ Holds W (own l (.loop (rec0 .ready none)) :: own D (.deferred (some [])) :: Ls) ∧ (w1.heap.size ≤ W.heap.size) ∧ ∀ k, B k ↔ feet w1.heap.size (own l (.loop (rec0 .ready none)) :: own D (.deferred (some [])) :: Ls) k
  let Jx (pre : List α) (B : Nat → Prop) (W : World) : Prop := ∃ e Ls, Ix e pre Ls ∧ Holds W (own l (.loop (rec0 .done (some e.code))) :: own D (.deferred (some [])) :: Ls) ∧ (w1.heap.size ≤ W.heap.size) ∧ ∀ k, B k ↔ feet w1.heap.size (own l (.loop (rec0 .done (some e.code))) :: own D (.deferred (some [])) :: Ls) k
  have hrg : Ranger P enc xs w1.heap.size l J Jx := by
    refine ⟨?_, ?_, ?_, ?_, ?_⟩
    · rintro pre B W W' ⟨Ls, h1, h2, h3, h4⟩ hs ho ht hou hk
      exact ⟨Ls, h1, h2.agree (n0 := w1.heap.size) hs ho ht hou fun k hl hf => hk k hl (hf.imp (h4 k).2 id), by omega, h4⟩
    · rintro pre B W W' ⟨e, Ls, h1, h2, h3, h4⟩ hs ho ht hou hk
      exact ⟨e, Ls, h1, h2.agree (n0 := w1.heap.size) hs ho ht hou fun k hl hf => hk k hl (hf.imp (h4 k).2 id), by omega, h4⟩
    · rintro pre B W ⟨Ls, h1, h2, h3, h4⟩
      exact ⟨h3, fun k hk => by obtain ⟨a, ha, hF, _⟩ := (h4 k).1 hk; exact (h2.ok a ha).2.1 k hF⟩
    · rintro pre B W ⟨e, Ls, h1, h2, h3, h4⟩
      exact ⟨h3, fun k hk => by obtain ⟨a, ha, hF, _⟩ := (h4 k).1 hk; exact (h2.ok a ha).2.1 k hF⟩
    · rintro pre x B W ⟨Ls, h1, h2, h3, h4⟩ hpre
      have hrec := h2.getOwn 0 rfl
      refine ⟨fn, a.tmps.setIfInBounds tp (enc x), assign, body, ?_, ?_⟩
      · rw [run_yield hrec (by simp [rec0])]; simp [rec0]
      -- what lies beside the loop stays
      let aO : Atom := shr (fun k => k < W.heap.size ∧ ¬ B k) W
      have h2O : Holds W (own l (.loop (rec0 .ready none)) :: own D (.deferred (some [])) :: aO :: Ls) := by
        have h := h2.share (fun k => k < W.heap.size ∧ ¬ B k) (fun k h => h.1) (fun b hb hx k hk hF => hk.2 ((h4 k).2 ⟨b, hb, hF, .inl hx⟩))
        exact h.perm (by
          refine List.Perm.trans (List.Perm.swap _ _ _) (List.Perm.cons _ ?_)
          exact List.Perm.swap _ _ _)
      have hb := hbody l (own l (.loop (rec0 .ready none))) (own l (.loop (rec0 .busy none))) (own D (.deferred (some []))) aO pre x Ls W h1 hpre h2O
      refine roundIn_of_wpIn trivial ?_
      have hfe : Fence.wide.inRound l = fe (some l) := rfl
      rw [hfe]
      refine wpIn_mono (hb _ (fits_param ha htp (enc x)) rfl) ?_
      rintro e a1 W1 ⟨f1, hf1, q⟩
      cases e with
      | normal =>
        obtain ⟨Ls1, hL1, hW2⟩ := q
        have hr1 := hL1.getOwn 0 rfl
        refine ⟨_, run_beginRound hr1 rfl, ?_⟩
        have hL2 := hL1.put 0 rfl (.loop (rec0 .busy none))
        refine wpIn_mono (hW2 _ hL2 a1 hf1 rfl) ?_
        -- the round's end
        have fin : ∀ (Ls2 : List Atom) (W3 : World) (st : LoopState) (j : Option Code), (∀ a ∈ Ls2, a.excl = false → ∀ k, a.F k → k < w.heap.size) → Holds W3 (own l (.loop (rec0 .busy none)) :: own D (.deferred (some [])) :: aO :: Ls2) →
            Ext B W (W3.putObj l (.loop (rec0 st j))) ∧ (∀ k, feet w1.heap.size (own l (.loop (rec0 st j)) :: own D (.deferred (some [])) :: Ls2) k → B k ∨ W.heap.size ≤ k) ∧
            Holds (W3.putObj l (.loop (rec0 st j))) (own l (.loop (rec0 st j)) :: own D (.deferred (some [])) :: Ls2) ∧ w1.heap.size ≤ (W3.putObj l (.loop (rec0 st j))).heap.size := by
          intro Ls2 W3 st j hs2 hH3
          have hH4 := hH3.put 0 rfl (.loop (rec0 st j))
          have hO := hH4.get (i := 2) rfl
          obtain ⟨o1, o2, o3, o4, o5⟩ := hO
          refine ⟨⟨o2, o3, o4, o1, fun k hk hB => o5 k ⟨hk, hB⟩⟩, ?_, hH4.sub (List.Sublist.cons_cons _ (List.Sublist.cons_cons _ (List.Sublist.cons _ (List.Sublist.refl _)))), by omega⟩
          rintro k ⟨b, hb, hF, hor⟩
          by_cases hk : W.heap.size ≤ k
          · exact .inr hk
          · refine .inl (Classical.byContradiction fun hB => ?_)
            have hap := getElem_apart hH4.apart (i := 2) (a := aO) rfl
            have hb' : b ∈ (own l (.loop (rec0 st j)) :: own D (.deferred (some [])) :: aO :: Ls2).eraseIdx 2 := by
              simp only [List.eraseIdx_cons_succ, List.eraseIdx_cons_zero]; exact hb
            by_cases hbx : b.excl = true
            · exact hap b hb' (.inr hbx) k ⟨by omega, hB⟩ hF
            · rcases hor with hor | hor
              · exact hbx hor
              · have hbm : b ∈ Ls2 := by
                  simp only [List.mem_cons] at hb
                  rcases hb with rfl | rfl | hb
                  · exact absurd rfl hbx
                  · exact absurd rfl hbx
                  · exact hb
                have := hs2 b hbm (by simpa using hbx) k hF
                omega
        rintro e2 a2 W3 ⟨f3, hf3, q3⟩
        cases e2 with
        | normal =>
          obtain ⟨Ls2, hI2, hH3⟩ := q3
          obtain ⟨g1, g2, g3, g4⟩ := fin Ls2 W3 .ready none (hsh _ _ hI2) hH3
          exact ⟨_, _, run_endRound none (hH3.getOwn 0 rfl), _, g1, g2, .inl ⟨rfl, Ls2, hI2, g3, g4, fun k => Iff.rfl⟩⟩
        | ret =>
          obtain ⟨Ls2, hI2, hH3⟩ := q3
          obtain ⟨g1, g2, g3, g4⟩ := fin Ls2 W3 .done (some .ret) (hshx _ _ _ hI2) hH3
          exact ⟨_, _, run_endRound (some .ret) (hH3.getOwn 0 rfl), _, g1, g2, .inr ⟨rfl, .ret, Ls2, hI2, g3, g4, fun k => Iff.rfl⟩⟩
        | exit i =>
          obtain ⟨Ls2, hI2, hH3⟩ := q3
          obtain ⟨g1, g2, g3, g4⟩ := fin Ls2 W3 .done (some (.exit i)) (hshx _ _ _ hI2) hH3
          exact ⟨_, _, run_endRound (some (.exit i)) (hH3.getOwn 0 rfl), _, g1, g2, .inr ⟨rfl, .exit i, Ls2, hI2, g3, g4, fun k => Iff.rfl⟩⟩
        | goto i =>
          obtain ⟨Ls2, hI2, hH3⟩ := q3
          obtain ⟨g1, g2, g3, g4⟩ := fin Ls2 W3 .done (some (.goto i)) (hshx _ _ _ hI2) hH3
          exact ⟨_, _, run_endRound (some (.goto i)) (hH3.getOwn 0 rfl), _, g1, g2, .inr ⟨rfl, .goto i, Ls2, hI2, g3, g4, fun k => Iff.rfl⟩⟩
        | panic c => exact q3.elim
        | outgrown => exact q3.elim
      | exit i => exact q.elim
      | goto i => exact q.elim
      | ret => exact q.elim
      | panic c => exact q.elim
      | outgrown => exact q.elim
  have hJ0 : J [] (fun k => feet w1.heap.size (own l (.loop (rec0 .ready none)) :: own D (.deferred (some [])) :: L) k) w1 := ⟨L, hI0, H1, Nat.le_refl _, fun k => Iff.rfl⟩
  have hcall := it w1 e1 l _ J Jx hrg hJ0 (by
    rintro k hk ⟨b, hb, hF, hor⟩
    obtain ⟨hk1, hk2⟩ := hZ k hk
    simp only [List.mem_cons] at hb
    rcases hb with rfl | rfl | hb
    · simp only at hF; omega
    · simp only at hF; omega
    · rcases hor with hor | hor
      · exact hk2 b hb hor hF
      · omega)
  refine ⟨l, [{ target := .collected D, args := #[] }], w1, { target := .fn (.func k) cap, args := #[.func (.yield l) #[] #[]] }, w1, k, (.func (.yield l) #[] #[] :: cap.toList).toArray, w1, ?_, ?_, fun _ _ => trivial, ?_, fun h => (by cases h), ?_⟩
  · exact run_enterLoop_outer fn a.tmps #[tp] assign body
  · have hg' : a.eval g = .func (.func k) #[] cap := by rw [ha.eval]; exact hg
    have hm : (#[Operand.const (.func (.yield l) #[] #[])] : Array Operand).map a.eval = #[.func (.yield l) #[] #[]] := by simp; rfl
    simp only [resolve, rangeCall, hg', hm, Deferred.ofValue]
    rfl
  · have := en (#[.func (.yield l) #[] #[]] ++ cap) w1
    simp only [invoke]
    rw [this]; congr 2
    simp
  · refine (callsIn_wide.2 hcall).mono ?_
    rintro e w3 ⟨⟨v, rfl⟩, B', hE, hB', hJ⟩
    have hrec : ∀ st j (Ls : List Atom) W, Holds W (own l (.loop (rec0 st j)) :: own D (.deferred (some [])) :: Ls) → st ≠ .busy → (Instr.endLoop l).run P W = .ok j (W.putObj l (.loop (rec0 .exhausted j))) := fun st j Ls W hH hst => run_endLoop (hH.getOwn 0 rfl) hst
    have hfd : Fits n f { tmps := a.tmps, defers := [{ target := .collected D, args := #[] }] ++ a.defers } := ⟨ha.1, ha.2⟩
    rcases hJ with ⟨Ls, hI, hH, _, _⟩ | ⟨pre, hpre, e, Ls, hI, hH, _, _⟩
    · refine ⟨none, _, hrec _ _ _ _ hH (by simp), f, hfd, ?_⟩
      have := (hH.put 0 rfl (.loop (rec0 .exhausted none))).tail
      have hq := hdone D Ls _ hI this
      simpa [hd] using hq
    · refine ⟨some e.code, _, hrec _ _ _ _ hH (by simp), ?_⟩
      have hH' := (hH.put 0 rfl (.loop (rec0 .exhausted (some e.code)))).tail
      have hq := hexit D pre Ls _ e hpre hI hH'
      cases e with
      | ret => exact wpIn_ret ⟨f, hfd, by simpa [hd, Leave.out] using hq⟩
      | exit i => exact wpIn_exit ⟨f, hfd, by simpa [hd, Leave.out] using hq⟩
      | goto i => exact wpIn_goto ⟨f, hfd, by simpa [hd, Leave.out] using hq⟩
end
end Go.Wk
