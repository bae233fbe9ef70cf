/- Part 2 of the texts that a law of the seat leans on: the ground of the walks, the facts of the program, its functions one by one. -/
import Derived.Test.YtpandioolpnihaaDoe1
import Derived.Laws.IdiomStrings
import Derived.Scope
import Derived.Lib.BytesEntry
import Derived.Laws.Externs
import Derived.Lib.Overlaps
import Derived.Lib.AppendZerosOnto
import Derived.Shelf.SortM.Plain
import Derived.Shelf.SortM.SortNone
import Derived.Ground.SlgmProg
import Derived.Shelf.SlGeneric
import Derived.Test.YtpandioolpnihaaProg
import Derived.Sort.OwnSorted
import Derived.Sort.KeysCollected
namespace Go.Wk
open Go
set_option linter.unusedVariables false
set_option linter.unusedSimpArgs false

/-- An exclusive part goes into a shared one. -/
theorem Holds.pool {w w0 : World} {L : List Atom} {a : Atom} {Z : Nat → Prop} (H : Holds w (a :: L)) (hx : a.excl = true) (j : Nat) (hj : L[j]? = some (shr Z w0)) : Holds w (L.set j (shr (fun k => Z k ∨ a.F k) w)) := by
  have hlt : j < L.length := (List.getElem?_eq_some_iff.1 hj).1
  have hT := H.tail
  have hap := getElem_apart hT.apart hj
  have hha := (List.pairwise_cons.1 H.apart).1
  have hZ := (hT.ok _ (List.mem_of_getElem? hj)).2.1
  have hA := (H.ok a (by simp)).2.1
  have hb : ∀ k, (Z k ∨ a.F k) → k < w.heap.size := fun k hk => hk.elim (hZ k) (hA k)
  refine ⟨fun b hm => ?_, pairwise_set hT.apart hlt fun b hm e k hk hbk => ?_⟩
  · rcases List.mem_or_eq_of_mem_set hm with hm | rfl
    · exact hT.ok b hm
    · exact ⟨⟨Nat.le_refl _, rfl, rfl, rfl, fun _ _ => rfl⟩, hb, shr_stable hb⟩
  · rcases hk with hk | hk
    · exact hap b hm e k hk hbk
    · rcases e with e | e
      · cases e
      · exact hha b (List.mem_of_mem_eraseIdx hm) (.inr e) k hk hbk
/-- A shared part that is empty. -/
theorem Holds.emptyPool {w : World} {L : List Atom} (H : Holds w L) : Holds w (shr none' w :: L) := H.share none' (fun _ h => h.elim) fun _ _ _ _ h => h.elim

/-- Bytes as numbers. -/
def unkb (b : ByteArray) : List Int := b.data.toList.map fun u => (u.toNat : Int)
theorem unkb_in (b : ByteArray) : ∀ x ∈ unkb b, InK .u8 x := by
  intro x hx
  unfold unkb at hx
  obtain ⟨u, _, rfl⟩ := List.mem_map.1 hx
  have := u.toNat_lt
  unfold InK Lit.wf
  rw [Bool.and_eq_true, decide_eq_true_iff, decide_eq_true_iff]
  have h1 : IntKind.u8.min = 0 := rfl
  have h2 : IntKind.u8.max = 255 := rfl
  omega
theorem kb_unkb (b : ByteArray) : kb (unkb b) = b := by
  obtain ⟨⟨l⟩⟩ := b
  unfold kb unkb
  congr 1
  rw [List.map_map]
  have e : ((fun i : Int => UInt8.ofNat i.toNat) ∘ fun u : UInt8 => (u.toNat : Int)) = id := funext fun u => by simp
  rw [e, List.map_id]
theorem unkb_kb {k : List Int} (h : ∀ x ∈ k, InK .u8 x) : unkb (kb k) = k := kb_inj (unkb_in _) h (kb_unkb _)
theorem unkb_len (b : ByteArray) : (unkb b).length = b.size := by
  unfold unkb; rw [List.length_map]; rfl
theorem kb_size (k : List Int) : (kb k).size = k.length := by
  show ((k.map fun i => UInt8.ofNat i.toNat).toArray).size = _
  rw [List.size_toArray, List.length_map]

theorem SlR_bytes {Z : Nat → Prop} {w : World} {b : Nat} {e : TypeId} {fr : Nat × Nat} {s : ByteArray} {cap : Nat} (h : w.heap[b]? = some (.cells (bytesRow s cap) e fr)) (hZ : Z b) (h1 : s.size ≤ cap) (h2 : cap ≤ maxLen) (h3 : s.size ≤ 140737488351232) :
    SlR (tInt .u8) 1 Z w (.slice (some ⟨b, 0, none⟩) s.size cap) (unkb s) := by
  refine ⟨_, cap, by rw [unkb_len], by rw [unkb_len]; exact h1, fun h => (by cases h), by rw [unkb_len]; omega, h2, fun i x hx => ?_⟩
  have hin := unkb_in s x (List.mem_of_getElem? hx)
  refine ⟨b, 0, [.int .u8 x], rfl, hZ, Cells.unit h ?_, rfl, hin⟩
  unfold unkb at hx
  rw [List.getElem?_map, Option.map_eq_some_iff] at hx
  obtain ⟨u, hu, rfl⟩ := hx
  have hl := (List.getElem?_eq_some_iff.1 hu).1
  unfold bytesRow
  show (_ ++ _)[0 + i * 1]? = _
  rw [Nat.zero_add, Nat.mul_one, Array.getElem?_append_left (by simpa using hl), Array.getElem?_map]
  rw [Array.getElem?_toList] at hu
  rw [hu]; rfl

section
variable {P : Program} {n : Nat} {K : PK} {f : Fr} {ds : List Deferred} {w : World} {L : List Atom} {d t t' ty : Nat} {p : String} {af : Array Edge} {g : Option (Nat × Bool)} {x y : Operand}
/-- []byte(s) -/
theorem op_toBytes (H : Holds w L) {e : TypeId} {s : ByteArray} (hs : P.underlying t = some .string) (hd : P.underlying t' = some (.slice e)) (he : P.underlying e = some (.int .u8)) (hx : ev f x = .string s) (hsz : s.size ≤ 140737488351232) (hn : d < n)
    (k : ∀ b cap w', s.size ≤ cap → cap ≤ maxLen → Holds w' (own b (.cells (bytesRow s cap) e ((bytesRow s cap).size, (bytesRow s cap).size + 1)) :: L) → K (upd f d (.slice (some ⟨b, 0, none⟩) s.size cap)) ds w') : Op1 P n ⟨some d, .convert t t' x, ty, p, af, g⟩ f ds w K := by
  have hr := run_bytes_of_string (P := P) w t t' e s hs hd he
  have hE : Ext none' w w.drew := ⟨rfl, rfl, rfl, Nat.le_refl _, fun _ _ _ => rfl⟩
  have hM : s.size ≤ maxLen := by simp only [maxLen]; omega
  refine Op1_val rfl rfl hn ?_ (k w.heap.size (grownCap w s.size 0 e) _ (grownCap_ge _ _ _ _) (grownCap_le_maxLen _ _ _ _ hM) ((H.ext0 hE).alloc _))
  simp only [execOp, hx, Sem.run_bind, hr, Result.andThen, Sem.run_pure]

/-- append onto a slice that is full: a new row. -/
theorem op_appendNew (H : Holds w L) {tys : Array TypeId} {e size bytes size0 bytes0 : Nat} {z z0 : Value} {dd' : TypeDesc} {v xv : Value} {m k : Nat} {cs news : List Value} (ht : tys = #[t, t]) (htt : ty = t) (ti0 : TI P t size0 bytes0 z0 (.slice e)) (ti : TI P e size bytes z dd') (hz : z.cells.size = size) (hpos : Nat.ble 1 size = true)
    (hx : ev f x = v) (hy : ev f y = xv) (hv : ∃ a, v = .slice a k k) (hold : Src w v k cs) (hcl : cs.length = k * size) (hsrc : Src w xv m news) (hl : news.length = m * size) (h1 : ∀ u ∈ news, u.oneCell' = true) (hm : 0 < m) (hb : (k + m) * bytes ≤ 140737488355328) (h63 : k + m ≤ maxLen) (hn : d < n)
    (kk : ∀ v' w', Holds w' (row e size v' (k + m) (cs ++ news) :: L) → K (upd f d v') ds w') : Op1 P n ⟨some d, .call { callee := .builtin .append, args := #[x, y], argTypes := tys }, ty, p, af, g⟩ f ds w K := by
  subst ht htt
  obtain ⟨i, hi, hs, hz', hby⟩ := ti.i
  have hpos' := Nat.le_of_ble_eq_true hpos
  obtain ⟨a0, rfl⟩ := hv
  obtain ⟨ax, cx, rfl, hxn, hxc⟩ := hsrc
  obtain ⟨a1, c1, e1, hon, hoc⟩ := hold
  injection e1 with e1 _ e2; subst e1 e2
  cases ax with
  | none => have := (hxn rfl).1; omega
  | some A =>
    have key : ∃ v' w', (Builtin.append_ #[ty, ty] ty #[.slice a0 k k, .slice (some A) m cx]).run P w = .ok v' w' ∧ w'.ownsRow w.heap.size e size v' (k + m) (cs ++ news) ∧ Ext none' w w' := by
      cases a0 with
      | none =>
        obtain ⟨rfl, _⟩ := hon rfl
        obtain rfl : cs = [] := List.eq_nil_of_length_eq_zero (by simpa using hcl)
        have hown' : w.ownsRow w.heap.size e size (.slice none 0 0) 0 [] := ⟨by simp, .inl ⟨rfl, rfl⟩⟩
        obtain ⟨v', w', hrun, ho, hg, _⟩ := run_append_own (P := P) w w.heap.size ty ty e i z size bytes ti0.u hi hz' hs hby hz hpos' (.slice none 0 0) 0 [] hown' A m cx news hl (hxc A rfl) h1 h63 hb (Nat.le_refl _)
        exact ⟨v', w', hrun, ho, hg.os, hg.tape, hg.output, hg.size, fun j hj _ => hg.block j hj (by simp [Value.ownBlock])⟩
      | some B =>
        obtain ⟨v', w', hrun, ho, hg⟩ := run_append_arg_grows (P := P) w ty ty e i z size bytes ti0.u hi hz' hs hby hz hpos' B k k cs hcl (hoc B rfl) A m cx news hl (hxc A rfl) (by omega) h63 hb
        exact ⟨v', w', hrun, ho, hg.os, hg.tape, hg.output, hg.size, fun j hj _ => hg.block j hj (by simp)⟩
    obtain ⟨v', w', hrun, ho, hE⟩ := key
    refine Op1_val rfl rfl hn (w' := w') ?_ (kk v' w' (H.new hE (row_ok (ownsRow_base ho)) fun j hj => ?_))
    · simp [execOp, resolve, invoke, builtin, hx, hy, hrun, Result.andThen]
    · rcases ho.2 with ⟨hv, _⟩ | ⟨g2, c2, cur2, hv, hb2, _⟩
      · subst hv; simp [Value.ownBlock] at hj
      · subst hv; simp [Value.ownBlock] at hj; omega
end

theorem Src.dropRow {w : World} {e size : Nat} {a : Option Addr} {n c : Nat} {cs : List Value} (h : w.ownsRow 0 e size (.slice a n c) n cs) (i : Nat) (hi : i ≤ n) : Src w (.slice (cutA a c i size) (n - i) (c - i)) (n - i) (cs.drop (i * size)) := by
  rcases h.2 with ⟨hv, h0⟩ | ⟨g', cap, cur, hv, _, hh, hc, hm, hsz, ht⟩
  · injection hv with h1 h2 h3; subst h1 h2 h3
    rw [cutA_none]
    exact ⟨none, _, rfl, fun _ => ⟨by omega, by omega⟩, fun A e => (by cases e)⟩
  · injection hv with h1 h2 h3; subst h1 h3
    rw [cutA_some]
    have hC : Cells w g' 0 cs := Cells.of hh (by rw [List.drop_zero, h.1]; exact ht)
    by_cases hci : c = i
    · subst hci
      obtain rfl : n = c := by omega
      have e0 : cs.drop (n * size) = [] := List.drop_of_length_le (by rw [h.1]; exact Nat.le_refl _)
      rw [if_pos rfl, e0]
      exact ⟨_, _, rfl, fun h => (by cases h), fun A e j u hu => by simp at hu⟩
    · rw [if_neg hci]
      exact Src.cells (hC.take (i * size) (by rw [List.take_of_length_le (Nat.le_refl _)])) _ _
theorem Src.takeRow {w : World} {e size : Nat} {a : Option Addr} {n c : Nat} {cs : List Value} (h : w.ownsRow 0 e size (.slice a n c) n cs) (i : Nat) (hi : i ≤ n) : Src w (.slice (cutA a i 0 size) i i) i (cs.take (i * size)) := by
  rw [cutA_zero]
  rcases h.2 with ⟨hv, h0⟩ | ⟨g', cap, cur, hv, _, hh, hc, hm, hsz, ht⟩
  · injection hv with h1 h2 h3; subst h1 h2 h3
    exact ⟨none, _, rfl, fun _ => ⟨by omega, by omega⟩, fun A e => (by cases e)⟩
  · injection hv with h1 h2 h3; subst h1 h3
    have hC : Cells w g' 0 cs := Cells.of hh (by rw [List.drop_zero, h.1]; exact ht)
    have hl : i * size ≤ cs.length := by rw [h.1]; exact Nat.mul_le_mul_right _ hi
    exact Src.cells (hC.take 0 (by rw [List.drop_zero, List.length_take, Nat.min_eq_left hl])) _ _

theorem Els.take {α : Type} {T : Ty α} {Z : Nat → Prop} {w : World} {cs : List Value} {xs : List α} (h : Els T Z w cs xs) (k : Nat) (hk : k ≤ xs.length) : Els T Z w (cs.take (k * T.sz)) (xs.take k) := by
  have hle : k * T.sz ≤ cs.length := by rw [h.1]; exact Nat.mul_le_mul_right _ hk
  refine ⟨by rw [List.length_take, List.length_take, Nat.min_eq_left hle, Nat.min_eq_left hk], fun i x hx => ?_⟩
  have hi := (List.getElem?_eq_some_iff.1 hx).1
  rw [List.length_take] at hi
  rw [List.getElem?_take_of_lt (by omega)] at hx
  have := h.2 i x hx
  have hb : i * T.sz + T.sz ≤ k * T.sz := by have := Nat.mul_le_mul_right T.sz (show i + 1 ≤ k by omega); rw [Nat.add_mul] at this; omega
  rwa [List.drop_take, List.take_take, Nat.min_eq_left (by omega)]

theorem flat_drop {α : Type} {g : α → List Value} {m : Nat} (hg : ∀ x, (g x).length = m) : ∀ (l : List α) (i : Nat), (l.flatMap g).drop (i * m) = (l.drop i).flatMap g
  | [], i => by simp
  | x :: l, 0 => by simp
  | x :: l, i + 1 => by
    rw [List.flatMap_cons, List.drop_succ_cons, ← flat_drop hg l i, show (i + 1) * m = (g x).length + i * m by rw [hg, Nat.add_mul]; omega, List.drop_length_add_append]
theorem flat_take {α : Type} {g : α → List Value} {m : Nat} (hg : ∀ x, (g x).length = m) : ∀ (l : List α) (i : Nat), (l.flatMap g).take (i * m) = (l.take i).flatMap g
  | [], i => by simp
  | x :: l, 0 => by simp
  | x :: l, i + 1 => by
    rw [List.flatMap_cons, List.take_succ_cons, List.flatMap_cons, ← flat_take hg l i, show (i + 1) * m = (g x).length + i * m by rw [hg, Nat.add_mul]; omega, List.take_length_add_append]

theorem bytesLess_lt : ∀ {a b : List UInt8}, Op.bytesLess a b = true ↔ a < b
  | a, [] => by cases a <;> simp [Op.bytesLess]
  | [], b :: y => by simp [Op.bytesLess]
  | a :: x, b :: y => by
    rw [Op.bytesLess, List.cons_lt_cons_iff, Bool.or_eq_true, Bool.and_eq_true, decide_eq_true_iff, beq_iff_eq, bytesLess_lt]
def bLt (a b : ByteArray) : Prop := a.data.toList < b.data.toList
instance (a b : ByteArray) : Decidable (bLt a b) := inferInstanceAs (Decidable (a.data.toList < b.data.toList))
theorem bLess_dec (a b : ByteArray) : Op.bytesLess a.toList b.toList = decide (bLt a b) := by
  rw [ByteArray.toList_eq, ByteArray.toList_eq, Bool.eq_iff_iff, bytesLess_lt, decide_eq_true_iff]; exact Iff.rfl
section
variable {P : Program} {f : Fr} {w : World} {d t t' ty : Nat} {p : String} {af : Array Edge} {g : Option (Nat × Bool)} {x y : Operand}
theorem y_lssS {a b : ByteArray} (hx : ev f x = .string a) (hy : ev f y = .string b) : Yd P ⟨some d, .binOp .lss t x y t', ty, p, af, g⟩ f w (.bool (decide (bLt a b))) :=
  ⟨rfl, by
    have := bLess_dec a b
    simp [execOp, hx, hy, eqGuard, binOp, Op.stringOp, Result.andThen]
    simpa using this⟩
end
end Go.Wk

namespace Go.Wk
open Go

theorem bLt_irrefl (a : ByteArray) : ¬ bLt a a := List.lt_irrefl _
theorem bLt_trans {a b c : ByteArray} (h : bLt a b) (k : bLt b c) : bLt a c := List.lt_trans h k
theorem bytes_ext {a b : ByteArray} (h : a.data.toList = b.data.toList) : a = b := by
  obtain ⟨⟨a⟩⟩ := a; obtain ⟨⟨b⟩⟩ := b; simp at h; subst h; rfl
theorem bLt_tri {a b : ByteArray} (h : ¬ bLt a b) (k : ¬ bLt b a) : a = b := bytes_ext (List.le_antisymm (List.not_lt.1 k) (List.not_lt.1 h))
theorem bLt_of_le {a b : ByteArray} (h : a.data.toList ≤ b.data.toList) (hne : a ≠ b) : bLt a b := Classical.byContradiction fun hn => hne (bytes_ext (List.le_antisymm h (List.not_lt.1 hn)))
/-- Two rows that rise, with the same members, are one. -/
theorem rise_unique {α : Type} {lt : α → α → Prop} (hi : ∀ a, ¬ lt a a) (ht : ∀ {a b c}, lt a b → lt b c → lt a c) {l l' : List α} (h : l.Pairwise lt) (h' : l'.Pairwise lt) (hm : ∀ a, a ∈ l ↔ a ∈ l') : l = l' := by
  have nd : ∀ {l : List α}, l.Pairwise lt → l.Nodup := fun h => List.nodup_iff_pairwise_ne.2 (List.Pairwise.imp (S := fun a b => a ≠ b) (fun {a b} (h : lt a b) (e : a = b) => hi a (by rw [← e] at h; exact h)) h)
  exact List.Perm.eq_of_pairwise (fun a b _ _ h1 h2 => (hi a (ht h1 h2)).elim) h h' ((List.perm_ext_iff_of_nodup (nd h) (nd h')).2 hm)
theorem rise_nodup {α : Type} {lt : α → α → Prop} (hi : ∀ a, ¬ lt a a) {l : List α} (h : l.Pairwise lt) : l.Nodup := List.nodup_iff_pairwise_ne.2 (List.Pairwise.imp (S := fun a b => a ≠ b) (fun {a b} (h : lt a b) (e : a = b) => hi a (by rw [← e] at h; exact h)) h)
/-- A row put in order in which nothing stands twice rises. -/
theorem rise_of_le {l : List ByteArray} (h : l.Pairwise fun a b => a.data.toList ≤ b.data.toList) (hn : l.Nodup) : l.Pairwise bLt := by
  rw [List.nodup_iff_pairwise_ne] at hn
  exact (h.and hn).imp fun {a b} h => bLt_of_le h.1 h.2
end Go.Wk

namespace Go.Wk
open Go
set_option linter.unusedVariables false
set_option linter.unusedSimpArgs false

section
variable {P : Program} {l : Option Nat} {n : Nat} {Q : PQ} {f : Fr} {ds : List Deferred} {w : World}
end

theorem run_bytesOf {P : Program} {Z : Nat → Prop} {w : World} {v : Value} {k : List Int} (h : SlR (tInt .u8) 1 Z w v k) : (Extern.Bytes.bytesOf v).run P w = .ok (kb k) w := by
  by_cases hk : k = []
  · subst hk
    obtain ⟨a, c, rfl, _⟩ := h
    cases a with
    | none => rfl
    | some a => rfl
  · obtain ⟨b, o, c, news, rfl, _, hc, hE⟩ := h.row hk
    have hn := hE.ints
    have := Lib.run_loadBytesX (P := P) w k ⟨b, o, none⟩ .empty (fun j x hx => by
      rw [add_spot]; exact hc.cell j (by rw [hn, List.getElem?_map, hx]; rfl))
    show (Extern.Bytes.loadBytes ⟨b, o, none⟩ k.length .empty).run P w = _
    rw [this]
    congr 1
    show (⟨#[] ++ (Lib.bytesOf k).toArray⟩ : ByteArray) = _
    unfold kb Lib.bytesOf
    simp
theorem cmpB_lt : ∀ {a b : List UInt8}, (Lib.compareBytes a b < 0 ↔ a < b) ∧ (Lib.compareBytes a b = 0 ↔ a = b)
  | [], [] => by simp [Lib.compareBytes]
  | [], b :: y => by simp [Lib.compareBytes]
  | a :: x, [] => by simp [Lib.compareBytes]
  | a :: x, b :: y => by
    obtain ⟨h1, h2⟩ := cmpB_lt (a := x) (b := y)
    unfold Lib.compareBytes
    by_cases hab : a < b
    · have hne : a ≠ b := fun e => UInt8.lt_irrefl _ (e ▸ hab)
      simp [hab, hne, List.cons_lt_cons_iff]
    · by_cases hba : b < a
      · have hne : a ≠ b := fun e => UInt8.lt_irrefl _ (e ▸ hba)
        simp [hab, hba, hne, List.cons_lt_cons_iff]
      · have he : a = b := UInt8.le_antisymm (UInt8.not_lt.1 hba) (UInt8.not_lt.1 hab)
        subst he
        simp [List.cons_lt_cons_iff, h1, h2]
/-- How two keys stand to one another. -/
def cmpK (a b : List Int) : Int := Lib.compareBytes (kb a).data.toList (kb b).data.toList
theorem cmpK_lt {a b : List Int} : cmpK a b < 0 ↔ bLt (kb a) (kb b) := cmpB_lt.1
theorem cmpK_ge {a b : List Int} : 0 ≤ cmpK a b ↔ ¬ bLt (kb a) (kb b) := by rw [← cmpK_lt]; omega
/-- A call of bytes.Compare's entry (a function without a body). -/
theorem op_compare {P : Program} {n : Nat} {K : PK} {f : Fr} {ds : List Deferred} {w : World} {d ty : Nat} {p : String} {af : Array Edge} {g : Option (Nat × Bool)} {x y : Operand} {tys : Array TypeId} (k : FuncId) {fn : Func} {Z Z' : Nat → Prop} {va vb : Value} {a b : List Int} (hf : P.funcs[k]? = some fn) (hname : (fn.name == "runtime.NumGoroutine") = false)
    (hb : fn.body.isNone = true) (hn : Extern.findNext fn = none) (he : Extern.find fn = some Extern.BytealgCompare.compare) (hx : ev f x = va) (hy : ev f y = vb) (h1 : SlR (tInt .u8) 1 Z w va a) (h2 : SlR (tInt .u8) 1 Z' w vb b) (hd : d < n)
    (kk : K (upd f d (.int .i64 (cmpK a b))) ds w) : Op1 P n ⟨some d, .call { callee := .value (.func k), args := #[x, y], argTypes := tys }, ty, p, af, g⟩ f ds w K := by
  refine Op1_val rfl rfl hd (w' := w) ?_ kk
  have hr : (Extern.BytealgCompare.compare #[va, vb]).run P w = .ok (.int .i64 (cmpK a b)) w := by
    change Sem.run P (do pure (goInt (Extern.BytealgCompare.cmp (← Extern.Bytes.bytesOf va) (← Extern.Bytes.bytesOf vb)))) w = _
    simp only [Sem.run_bind, run_bytesOf h1, run_bytesOf h2, Sem.run_pure, Result.andThen]
    rw [Lib.cmp_eq]
    rfl
  have hc := run_callFunc_extern (P := P) (f := k) hf hname hb hn he #[va, vb] w
  rw [hr] at hc
  have hfn : ev f (.func k) = .func (.func k) #[] #[] := rfl
  simp [execOp, resolve, Deferred.ofValue, invoke, hx, hy, hfn, hc, Result.andThen]

section
variable {κ : Type} [DecidableEq κ] {P : Program} {f : Fr} {w : World} {d ty : Nat} {p : String} {af : Array Edge} {g : Option (Nat × Bool)} {t kt et size bytes size' bytes' : Nat} {zero zero' : Value} {dd : TypeDesc} {x y : Operand} {L : List Atom} {K : κ → Value} {b : Nat} {m : List (κ × Value)} {k : κ}
theorem y_lookupOkS {v : Value} (hg : mget m k = some v) (H : Holds w L) (i : Nat) (hi : L[i]? = some (mp K b m)) (tm : TI P t size bytes zero (.map kt et)) (te : TI P et size' bytes' zero' dd) (hk : KeyOK P kt K) (hx : ev f x = .map (some b)) (hy : ev f y = K k) :
    Yd P ⟨some d, .lookup t x y true, ty, p, af, g⟩ f w (.tuple #[v, .bool true]) := by
  have := y_lookupOk (d := d) (ty := ty) (p := p) (af := af) (g := g) H i hi tm te hk hx hy; rwa [hg] at this
theorem y_lookupOkN (hg : mget m k = none) (H : Holds w L) (i : Nat) (hi : L[i]? = some (mp K b m)) (tm : TI P t size bytes zero (.map kt et)) (te : TI P et size' bytes' zero' dd) (hk : KeyOK P kt K) (hx : ev f x = .map (some b)) (hy : ev f y = K k) :
    Yd P ⟨some d, .lookup t x y true, ty, p, af, g⟩ f w (.tuple #[zero', .bool false]) := by
  have := y_lookupOk (d := d) (ty := ty) (p := p) (af := af) (g := g) H i hi tm te hk hx hy; rwa [hg] at this
theorem y_lookupS {v : Value} (hg : mget m k = some v) (H : Holds w L) (i : Nat) (hi : L[i]? = some (mp K b m)) (tm : TI P t size bytes zero (.map kt et)) (te : TI P et size' bytes' zero' dd) (hk : KeyOK P kt K) (hx : ev f x = .map (some b)) (hy : ev f y = K k) :
    Yd P ⟨some d, .lookup t x y false, ty, p, af, g⟩ f w v := by
  have := y_lookup (d := d) (ty := ty) (p := p) (af := af) (g := g) H i hi tm te hk hx hy; rwa [hg] at this
theorem y_lookupN (hg : mget m k = none) (H : Holds w L) (i : Nat) (hi : L[i]? = some (mp K b m)) (tm : TI P t size bytes zero (.map kt et)) (te : TI P et size' bytes' zero' dd) (hk : KeyOK P kt K) (hx : ev f x = .map (some b)) (hy : ev f y = K k) :
    Yd P ⟨some d, .lookup t x y false, ty, p, af, g⟩ f w zero' := by
  have := y_lookup (d := d) (ty := ty) (p := p) (af := af) (g := g) H i hi tm te hk hx hy; rwa [hg] at this
end

section
variable {κ : Type} [DecidableEq κ] {P : Program} {n : Nat} {PKk : PK} {f : Fr} {ds : List Deferred} {w : World} {d ty : Nat} {p : String} {af : Array Edge} {g : Option (Nat × Bool)} {t kt et size bytes : Nat} {zero : Value} {x y : Operand} {L : List Atom} {K : κ → Value} {b : Nat} {m : List (κ × Value)} {k : κ} {es : Array MapEntry} {c : Nat}
end
end Go.Wk
namespace Go.Wk
open Go
section
variable {P : Program} {f : Fr} {w : World} {d t t' ty : Nat} {p : String} {af : Array Edge} {g : Option (Nat × Bool)} {x y : Operand}
theorem y_geqS {a b : ByteArray} (hx : ev f x = .string a) (hy : ev f y = .string b) : Yd P ⟨some d, .binOp .geq t x y t', ty, p, af, g⟩ f w (.bool (decide (¬ bLt a b))) :=
  ⟨rfl, by
    have h3 : (!(Op.bytesLess a.toList b.toList)) = decide (¬ bLt a b) := by rw [bLess_dec]; simp
    simp only [execOp, hx, hy, eqGuard, binOp, Op.stringOp, h3]
    rfl⟩
theorem y_geqST {a b : ByteArray} (h : ¬ bLt a b) (hx : ev f x = .string a) (hy : ev f y = .string b) : Yd P ⟨some d, .binOp .geq t x y t', ty, p, af, g⟩ f w (.bool true) := by
  have := y_geqS (P := P) (w := w) (d := d) (t := t) (t' := t') (ty := ty) (p := p) (af := af) (g := g) hx hy; rwa [decide_eq_true h] at this
theorem y_geqSF {a b : ByteArray} (h : bLt a b) (hx : ev f x = .string a) (hy : ev f y = .string b) : Yd P ⟨some d, .binOp .geq t x y t', ty, p, af, g⟩ f w (.bool false) := by
  have := y_geqS (P := P) (w := w) (d := d) (t := t) (t' := t') (ty := ty) (p := p) (af := af) (g := g) hx hy; rwa [decide_eq_false (fun hn => hn h)] at this
theorem y_eqlST {a b : ByteArray} (h : a = b) (hx : ev f x = .string a) (hy : ev f y = .string b) : Yd P ⟨some d, .binOp .eql t x y t', ty, p, af, g⟩ f w (.bool true) := by
  have := y_eqlS (P := P) (w := w) (d := d) (t := t) (t' := t') (ty := ty) (p := p) (af := af) (g := g) hx hy; rwa [decide_eq_true h] at this
theorem y_eqlSF {a b : ByteArray} (h : a ≠ b) (hx : ev f x = .string a) (hy : ev f y = .string b) : Yd P ⟨some d, .binOp .eql t x y t', ty, p, af, g⟩ f w (.bool false) := by
  have := y_eqlS (P := P) (w := w) (d := d) (t := t) (t' := t') (ty := ty) (p := p) (af := af) (g := g) hx hy; rwa [decide_eq_false h] at this
theorem y_neqST {a b : ByteArray} (h : a ≠ b) (hx : ev f x = .string a) (hy : ev f y = .string b) : Yd P ⟨some d, .binOp .neq t x y t', ty, p, af, g⟩ f w (.bool true) := by
  have := y_neqS (P := P) (w := w) (d := d) (t := t) (t' := t') (ty := ty) (p := p) (af := af) (g := g) hx hy; rwa [decide_eq_true h] at this
theorem y_neqSF {a b : ByteArray} (h : a = b) (hx : ev f x = .string a) (hy : ev f y = .string b) : Yd P ⟨some d, .binOp .neq t x y t', ty, p, af, g⟩ f w (.bool false) := by
  have := y_neqS (P := P) (w := w) (d := d) (t := t) (t' := t') (ty := ty) (p := p) (af := af) (g := g) hx hy; rwa [decide_eq_false (fun hn => hn h)] at this
end
end Go.Wk

namespace Go.Wk
open Go
set_option linter.unusedVariables false
set_option linter.unusedSimpArgs false

section
variable {P : Program} {n : Nat} {K : PK} {f : Fr} {ds : List Deferred} {w : World} {L : List Atom} {d t ty : Nat} {p : String} {af : Array Edge} {g : Option (Nat × Bool)} {x : Operand}
theorem freeze_put {b : Nat} {C : Array Value} {e : TypeId} (h : w.heap[b]? = some (.cells C e (0, 0))) : w.freeze ⟨b, C.size, none⟩ 1 = w.putObj b (.cells C e (C.size, C.size + 1)) := by
  unfold World.freeze World.putObj
  rw [if_neg (by decide)]
  congr 1
  apply Array.ext_getElem?
  intro j
  by_cases hj : b = j
  · subst hj
    rw [Array.getElem?_modify, Array.getElem?_setIfInBounds, if_pos rfl, if_pos rfl, if_pos (own_lt h), h]
    rfl
  · rw [Array.getElem?_modify, if_neg hj, Array.getElem?_setIfInBounds_ne hj]
/-- []byte("..") of a text that is written out. -/
theorem op_convSame (H : Holds w L) (i : Nat) {e b m c : Nat} {cs : List Value} (hi : L[i]? = some (row e 1 (.slice (some ⟨b, 0, none⟩) m c) m cs)) (ht : P.underlying t = some (.slice e)) (he : P.underlying e = some (.int .u8)) (hx : ev f x = .slice (some ⟨b, 0, none⟩) m c) (hn : d < n)
    (k : ∀ C fr w', C.toList.take m = cs → m ≤ c → c ≤ maxLen → Holds w' (L.set i (own b (.cells C e fr))) → K (upd f d (.slice (some ⟨b, 0, none⟩) m c)) ds w') : Op1 P n ⟨some d, .convert t t x, ty, p, af, g⟩ f ds w K := by
  obtain ⟨hl, hor⟩ := H.get hi
  rcases hor with ⟨hv, _⟩ | ⟨g', cap, cur, hv, _, hh, hc, hm, hsz, htk⟩
  · cases hv
  · injection hv with h1 h2 h3; injection h1 with h1; injection h1 with h1 _ _; subst h1 h3
    have hsh : w.shape? b = some (e, cur.size) := by unfold World.shape?; rw [hh]
    have hrun : (convert t t (.slice (some ⟨b, 0, none⟩) m c)).run P w = .ok (.slice (some ⟨b, 0, none⟩) m c) (w.putObj b (.cells cur e (cur.size, cur.size + 1))) := by
      rw [← freeze_put hh]
      simp [convert, run_underlying ht, run_underlying he, markStringish, Result.andThen, Sem.run, shape, hsh, freeze]
    refine Op1_val rfl rfl hn ?_ (k cur (cur.size, cur.size + 1) _ (by simpa using htk) hc hm (H.step i hi rfl (Ext.put w b _) (fun _ _ hk => by subst hk; simp [Value.ownBlock]) (own_ok (World.putObj_heap_same (own_lt hh))) fun k hk => .inl (by simp only at hk; subst hk; simp [Value.ownBlock])))
    simp only [execOp, hx, Sem.run_bind, hrun, Result.andThen, Sem.run_pure]
/-- A slice of bytes on a block. -/
theorem SlR_block {Z : Nat → Prop} {b m c : Nat} {e : TypeId} {C : Array Value} {fr : Nat × Nat} {k : List Int} (h : w.heap[b]? = some (.cells C e fr)) (hC : C.toList.take m = k.map (Value.int .u8)) (hk : ∀ x ∈ k, InK .u8 x) (hm : m = k.length) (hmc : m ≤ c) (hc : c ≤ maxLen) (hl : m ≤ 140737488351232) (hZ : Z b) :
    SlR (tInt .u8) 1 Z w (.slice (some ⟨b, 0, none⟩) m c) k := by
  subst hm
  refine ⟨_, c, rfl, hmc, fun h => (by cases h), by omega, hc, fun i x hx => ⟨b, 0, [.int .u8 x], rfl, hZ, Cells.unit h ?_, rfl, hk x (List.mem_of_getElem? hx)⟩⟩
  have hl := (List.getElem?_eq_some_iff.1 hx).1
  have h1 : (C.toList.take k.length)[i]? = (k.map (Value.int .u8))[i]? := by rw [hC]
  rw [List.getElem?_take_of_lt hl, List.getElem?_map, hx] at h1
  show C[0 + i * 1]? = _
  rw [Nat.zero_add, Nat.mul_one]
  simpa using h1
end
end Go.Wk

namespace Go.Wk
open Go
set_option linter.unusedVariables false
set_option linter.unusedSimpArgs false

/-- What lay there at the begin, and the pool. -/
def Dz (w0 : World) (F : Nat → Prop) : Nat → Prop := fun k => k < w0.heap.size ∨ F k
/-- The pool has grown. -/
structure Grow (w0 : World) (F : Nat → Prop) (Wp : World) (F' : Nat → Prop) (Wp' : World) : Prop where
  base : Ext none' w0 Wp'
  keeps : Keeps (Dz w0 F) Wp Wp'
  sub : ∀ k, F k → F' k
theorem Grow.refl {w0 Wp : World} {F : Nat → Prop} (h : Ext none' w0 Wp) : Grow w0 F Wp F Wp := ⟨h, ⟨Nat.le_refl _, fun _ _ _ => rfl⟩, fun _ h => h⟩
theorem Grow.trans {w0 W1 W2 W3 : World} {F1 F2 F3 : Nat → Prop} (h : Grow w0 F1 W1 F2 W2) (g : Grow w0 F2 W2 F3 W3) : Grow w0 F1 W1 F3 W3 :=
  ⟨g.base, h.keeps.trans ⟨g.keeps.1, fun k hz hk => g.keeps.2 k (hz.imp id (h.sub k)) hk⟩, fun k hk => g.sub k (h.sub k hk)⟩
section
variable {α : Type} {T : Ty α} {w w' w0 Wp Wp' : World} {L : List Atom} {F F' : Nat → Prop} {cs : List Value} {v : Value} {x : α} {xs : List α} {bytes : Nat}
theorem Grow.R (g : Grow w0 F Wp F' Wp') (h : T.R (Dz w0 F) Wp cs x) : T.R (Dz w0 F') Wp' cs x := T.mono (T.keeps h g.keeps) fun k _ hk => hk.imp id (g.sub k)
theorem Grow.els (g : Grow w0 F Wp F' Wp') (h : Els T (Dz w0 F) Wp cs xs) : Els T (Dz w0 F') Wp' cs xs := ⟨h.1, fun i x hx => g.R (h.2 i x hx)⟩
theorem Grow.slr (g : Grow w0 F Wp F' Wp') (h : SlR T bytes (Dz w0 F) Wp v xs) : SlR T bytes (Dz w0 F') Wp' v xs := (h.keeps g.keeps).mono fun k _ hk => hk.imp id (g.sub k)
/-- From the pool's world on. -/
theorem Holds.dz (H : Holds w L) (i j : Nat) (hi : L[i]? = some (exc F Wp)) (hj : L[j]? = some (shr (fun k => k < w0.heap.size) w0)) (hW : Ext none' w0 Wp) : Keeps (Dz w0 F) Wp w := by
  obtain ⟨a, _, _, _, e1⟩ := H.get hi
  obtain ⟨_, _, _, _, e2⟩ := H.get hj
  refine ⟨a, fun k hz hk => ?_⟩
  rcases hz with hz | hz
  · exact (e2 k hz).trans (hW.blk k hz (fun h => h)).symm
  · exact e1 k hz
/-- At the begin: the pool is empty. -/
theorem Holds.pool0 (H : Holds w L) : Holds w (exc none' w :: L) :=
  H.cons (exc_ok fun _ h => h.elim) fun b _ _ k hk => hk.elim
/-- An exclusive part goes into the pool. -/
theorem Holds.poolX {a : Atom} (H : Holds w (a :: L)) (hx : a.excl = true) (i j : Nat) (hi : L[i]? = some (exc F Wp)) (hj : L[j]? = some (shr (fun k => k < w0.heap.size) w0)) (hW : Ext none' w0 Wp) :
    Holds w (L.set i (exc (fun k => F k ∨ a.F k) w)) ∧ Grow w0 F Wp (fun k => F k ∨ a.F k) w := by
  have hT := H.tail
  have hlt : i < L.length := (List.getElem?_eq_some_iff.1 hi).1
  have hap := getElem_apart hT.apart hi
  have hha := (List.pairwise_cons.1 H.apart).1
  have hZ := (hT.ok _ (List.mem_of_getElem? hi)).2.1
  have hA := (H.ok a (by simp)).2.1
  have hb : ∀ k, (F k ∨ a.F k) → k < w.heap.size := fun k hk => hk.elim (hZ k) (hA k)
  refine ⟨⟨fun b hm => ?_, pairwise_set hT.apart hlt fun b hm e k hk hbk => ?_⟩, ?_, H.tail.dz i j hi hj hW, fun k h => .inl h⟩
  · rcases List.mem_or_eq_of_mem_set hm with hm | rfl
    · exact hT.ok b hm
    · exact exc_ok hb
  · rcases hk with hk | hk
    · exact hap b hm (.inl rfl) k hk hbk
    · exact hha b (List.mem_of_mem_eraseIdx hm) (.inl hx) k hk hbk
  · exact hT.ext_of j hj
/-- What a call has made goes into the pool. -/
theorem Holds.poolC (H : Holds w L) (hE : Ext none' w w') (i j : Nat) (hi : L[i]? = some (exc F Wp)) (hj : L[j]? = some (shr (fun k => k < w0.heap.size) w0)) (hW : Ext none' w0 Wp) :
    Holds w' (L.set i (exc (fun k => F k ∨ (w.heap.size ≤ k ∧ k < w'.heap.size)) w')) ∧ Grow w0 F Wp (fun k => F k ∨ (w.heap.size ≤ k ∧ k < w'.heap.size)) w' := by
  have H1 : Holds w' (exc (fun k => w.heap.size ≤ k ∧ k < w'.heap.size) w' :: L) := H.new hE (exc_ok fun _ h => h.2) fun _ h => h.1
  exact H1.poolX rfl i j hi hj hW
end

/-- Rows of one store. -/
structure Rw where
  v : Value
  n : Nat
  cs : List Value
abbrev Rw.row (e size : Nat) (r : Rw) : Atom := Go.Wk.row e size r.v r.n r.cs
/-- A row to the front; and back. -/
theorem Holds.pick {w : World} {A B C D : List Atom} {a : Atom} (H : Holds w (A ++ (B ++ a :: C) ++ D)) : Holds w (a :: (A ++ (B ++ C) ++ D)) :=
  H.perm (by
    have : (A ++ (B ++ a :: C) ++ D) = ((A ++ B) ++ a :: (C ++ D)) := by simp
    rw [this]
    refine List.perm_middle.trans ?_
    simp)
theorem Holds.unpick {w : World} {A B C D : List Atom} {a : Atom} (H : Holds w (a :: (A ++ (B ++ C) ++ D))) : Holds w (A ++ (B ++ a :: C) ++ D) :=
  H.perm (by
    have : (A ++ (B ++ a :: C) ++ D) = ((A ++ B) ++ a :: (C ++ D)) := by simp
    rw [this]
    refine List.Perm.trans ?_ List.perm_middle.symm
    simp)
end Go.Wk

namespace Go.Proofs.Ytpandioolpnihaa
open Go Go.Wk
set_option linter.unusedVariables false
set_option linter.unusedSimpArgs false

abbrev Key := List Int
structure Ver where
  ts : Int
  txn : Int
  dead : Bool
  val : Key
  keys : List Key
  deriving DecidableEq
structure Cl where
  key : Key
  vers : List Ver
  intent : Ver
  deriving DecidableEq
abbrev tKey : Ty Key := tSlice (tInt .u8) 1
abbrev tKeys : Ty (List Key) := tSlice tKey 24
abbrev tVer : Ty Ver := tMap (tPair (tInt .u64) (tPair (tInt .u64) (tPair tBool (tPair tKey tKeys)))) fun v => (v.ts, v.txn, v.dead, v.val, v.keys)
abbrev tCl : Ty Cl := tMap (tPair tKey (tPair (tSlice tVer 72) tVer)) fun c => (c.key, c.vers, c.intent)

theorem ver_cells {Z : Nat → Prop} {w : World} {cs : List Value} {v : Ver} : tVer.R Z w cs v ↔ ∃ vv vk, cs = [.int .u64 v.ts, .int .u64 v.txn, .bool v.dead, vv, vk] ∧ InK .u64 v.ts ∧ InK .u64 v.txn ∧ SlR (tInt .u8) 1 Z w vv v.val ∧ SlR tKey 24 Z w vk v.keys := by
  constructor
  · rintro ⟨_, _, rfl, ⟨rfl, h1⟩, _, _, rfl, ⟨rfl, h2⟩, _, _, rfl, ⟨rfl, _⟩, _, _, rfl, ⟨vv, rfl, h3⟩, vk, rfl, h4⟩
    exact ⟨vv, vk, rfl, h1, h2, h3, h4⟩
  · rintro ⟨vv, vk, rfl, h1, h2, h3, h4⟩
    exact ⟨[.int .u64 v.ts], _, rfl, ⟨rfl, h1⟩, [.int .u64 v.txn], _, rfl, ⟨rfl, h2⟩, [.bool v.dead], _, rfl, ⟨rfl, trivial⟩, [vv], [vk], rfl, ⟨vv, rfl, h3⟩, vk, rfl, h4⟩
theorem cl_cells {Z : Nat → Prop} {w : World} {cs : List Value} {c : Cl} : tCl.R Z w cs c ↔ ∃ vk vs is, cs = vk :: vs :: is ∧ SlR (tInt .u8) 1 Z w vk c.key ∧ SlR tVer 72 Z w vs c.vers ∧ tVer.R Z w is c.intent := by
  constructor
  · rintro ⟨_, _, rfl, ⟨vk, rfl, h1⟩, _, is, rfl, ⟨vs, rfl, h2⟩, h3⟩
    exact ⟨vk, vs, is, rfl, h1, h2, h3⟩
  · rintro ⟨vk, vs, is, rfl, h1, h2, h3⟩
    exact ⟨[vk], _, rfl, ⟨vk, rfl, h1⟩, [vs], is, rfl, ⟨vs, rfl, h2⟩, h3⟩
theorem keys_in {Z : Nat → Prop} {w : World} {v : Value} {ys : List Key} (h : SlR tKey 24 Z w v ys) : ∀ k ∈ ys, ∀ x ∈ k, InK .u8 x := by
  intro k hk
  obtain ⟨j, hj⟩ := List.getElem?_of_mem hk
  obtain ⟨_, _, rfl, _, _⟩ := h.len
  obtain ⟨_, _, _, _, _, _, vy, _, hvy⟩ := h.at hj
  exact hvy.allIn
end Go.Proofs.Ytpandioolpnihaa

namespace Go.Wk
open Go
set_option linter.unusedVariables false
set_option linter.unusedSimpArgs false
section
variable {P : Program} {d t t' ty e : Nat} {p : String} {af : Array Edge} {g : Option (Nat × Bool)} {f : Fr} {x y : Operand} {w : World} {a : Option Addr}
theorem y_neqNil (ht : P.underlying t = some (.pointer e)) (hx : ev f x = .pointer a) (hy : ev f y = .pointer none) : Yd P ⟨some d, .binOp .neq t x y t', ty, p, af, g⟩ f w (.bool (!a.isNone)) :=
  ⟨rfl, by
    have hr := run_isNil (w := w) (a := a) ht (by cases a with | none => exact .inl rfl | some x => exact .inr ⟨x, rfl⟩)
    have hg : (eqGuard .neq t x y (.pointer a) (.pointer none)).run P w = .ok () w := by cases a <;> rfl
    have hb : (binOp .neq t (.pointer a) (.pointer none)) = (do pure (.bool !(← Op.equal t (.pointer a) (.pointer none)))) := by cases a <;> rfl
    simp only [execOp, hx, hy, Sem.run_bind, hg, Result.andThen, hb, hr, Sem.run_pure]⟩
theorem run_isNilMap {k v : Nat} {b : Option Nat} (ht : P.underlying t = some (.map k v)) : (Op.equal t (.map b) (.map none)).run P w = .ok b.isNone w := by
  unfold Op.equal
  rw [show Op.maxDepth = 9999 + 1 from rfl, Op.equalIn]
  simp only [Sem.run_bind, run_underlying ht, Result.andThen]
  cases b <;> rfl
theorem y_neqNilMap {k v : Nat} {b : Option Nat} (ht : P.underlying t = some (.map k v)) (hx : ev f x = .map b) (hy : ev f y = .map none) : Yd P ⟨some d, .binOp .neq t x y t', ty, p, af, g⟩ f w (.bool (!b.isNone)) :=
  ⟨rfl, by
    have hr := run_isNilMap (w := w) (b := b) ht
    have hg : (eqGuard .neq t x y (.map b) (.map none)).run P w = .ok () w := by cases b <;> rfl
    have hb : (binOp .neq t (.map b) (.map none)) = (do pure (.bool !(← Op.equal t (.map b) (.map none)))) := by cases b <;> rfl
    simp only [execOp, hx, hy, Sem.run_bind, hg, Result.andThen, hb, hr, Sem.run_pure]⟩
theorem run_isNilSlice {n c : Nat} (ht : P.underlying t = some (.slice e)) : (Op.equal t (.slice a n c) (.slice none 0 0)).run P w = .ok a.isNone w := by
  unfold Op.equal
  rw [show Op.maxDepth = 9999 + 1 from rfl, Op.equalIn]
  simp only [Sem.run_bind, run_underlying ht, Result.andThen]
  cases a <;> rfl
theorem y_eqlNilSlice {n c : Nat} (ht : P.underlying t = some (.slice e)) (hx : ev f x = .slice a n c) (hy : ev f y = .slice none 0 0) : Yd P ⟨some d, .binOp .eql t x y t', ty, p, af, g⟩ f w (.bool a.isNone) :=
  ⟨rfl, by
    have hr := run_isNilSlice (w := w) (a := a) (n := n) (c := c) ht
    have hg : (eqGuard .eql t x y (.slice a n c) (.slice none 0 0)).run P w = .ok () w := by cases a <;> rfl
    have hb : (binOp .eql t (.slice a n c) (.slice none 0 0)) = (do pure (.bool (← Op.equal t (.slice a n c) (.slice none 0 0)))) := by cases a <;> rfl
    simp only [execOp, hx, hy, Sem.run_bind, hg, Result.andThen, hb, hr, Sem.run_pure]⟩
end
end Go.Wk

namespace Go.Proofs.Ytpandioolpnihaa
open Go Go.Wk
set_option linter.unusedVariables false
set_option linter.unusedSimpArgs false

theorem f79_calls {w : World} {a : Int} : Calls Try.prog 79 [.int .u64 a].toArray w fun e w' => e = .returned (.bool false) ∧ Ext none' w w' := by
  have H := Holds.start w
  refine calls_of_W' Try.func79 rfl Try.ntmps79 rfl ?_
  refine W_seq ?_
  refine W_region ?_
  refine OL_y (v := .bool false) (y_assign rfl) (by decide) ?_
  refine OL_nil ?_
  refine W_seq ?_
  refine W_region ?_
  refine OL_y (y_move rfl) (by decide) ?_
  refine OL_y (y_move rfl) (by decide) ?_
  refine OL_y (y_neqF rfl rfl rfl) (by decide) ?_
  refine OL_y (y_assign rfl) (by decide) ?_
  refine OL_nil ?_
  refine W_ret ?_
  show RetOK _ _ _ _ _ _
  exact ret1 (v := .bool false) Try.results79 rfl ⟨rfl, H.ext_of 0 rfl⟩
def cmp3 (a b : Int) : Int := if a < b then -1 else if b < a then 1 else 0
set_option maxHeartbeats 1000000 in
theorem f65_calls {w : World} {a b : Int} : Calls Try.prog 65 [.int .u64 a, .int .u64 b].toArray w fun e w' => e = .returned (.int .i64 (cmp3 a b)) ∧ Ext none' w w' := by
  have H := Holds.start w
  refine calls_of_W' Try.func65 rfl Try.ntmps65 rfl ?_
  refine W_seq ?_
  refine W_region ?_
  refine OL_y (y_assign rfl) (by decide) ?_
  refine OL_nil ?_
  refine W_seq ?_
  refine W_region ?_
  refine OL_y (y_move rfl) (by decide) ?_
  refine OL_c (op_call 79 en79 rfl [.int .u64 a] rfl (by decide) ((f79_calls).mono ?_))
  rintro e w1_1 ⟨rfl, hE1⟩
  refine ⟨_, rfl, ?_⟩
  have H := H.ext0 hE1
  refine OL_y (y_assign (v := .bool false) rfl) (by decide) ?_
  refine OL_nil ?_
  refine W_seq ?_
  refine W_region ?_
  refine OL_y (y_move rfl) (by decide) ?_
  refine OL_c (op_call 79 en79 rfl [.int .u64 b] rfl (by decide) ((f79_calls).mono ?_))
  rintro e w2_1 ⟨rfl, hE2⟩
  refine ⟨_, rfl, ?_⟩
  have H := H.ext0 hE2
  refine OL_y (y_assign (v := .bool false) rfl) (by decide) ?_
  refine OL_nil ?_
  refine W_seq ?_
  refine W_seq ?_
  refine W_region ?_
  refine OL_y (v := .bool false) (y_move rfl) (by decide) ?_
  refine OL_nil ?_
  refine W_condf rfl ?_
  refine W_skip ?_
  refine W_seq ?_
  refine W_seq ?_
  refine W_region ?_
  refine OL_y (v := .bool false) (y_move rfl) (by decide) ?_
  refine OL_nil ?_
  refine W_condf rfl ?_
  refine W_skip ?_
  refine W_seq ?_
  refine W_seq ?_
  refine W_region ?_
  refine OL_y (y_move rfl) (by decide) ?_
  refine OL_y (y_move rfl) (by decide) ?_
  refine OL_y (y_lss rfl rfl) (by decide) ?_
  refine OL_nil ?_
  refine W_cond rfl (fun hc => ?_) (fun hc => ?_)
  · refine W_seq ?_
    refine W_region ?_
    refine OL_y (y_assign rfl) (by decide) ?_
    refine OL_nil ?_
    refine W_ret ?_
    show RetOK _ _ _ _ _ _
    have hc := of_decide_eq_true hc
    exact ret1 (v := .int .i64 (-1)) Try.results65 rfl ⟨by rw [cmp3, if_pos hc], H.ext_of 0 rfl⟩
  · have hc3 := hc
    refine W_skip ?_
    refine W_seq ?_
    refine W_seq ?_
    refine W_region ?_
    refine OL_y (y_move rfl) (by decide) ?_
    refine OL_y (y_move rfl) (by decide) ?_
    refine OL_y (y_gtr rfl rfl) (by decide) ?_
    refine OL_nil ?_
    refine W_cond rfl (fun hc => ?_) (fun hc => ?_)
    · refine W_seq ?_
      refine W_region ?_
      refine OL_y (y_assign rfl) (by decide) ?_
      refine OL_nil ?_
      refine W_ret ?_
      show RetOK _ _ _ _ _ _
      have hlt := of_decide_eq_true hc
      have hn := of_decide_eq_false hc3
      exact ret1 (v := .int .i64 1) Try.results65 rfl ⟨by rw [cmp3, if_neg hn, if_pos hlt], H.ext_of 0 rfl⟩
    · refine W_skip ?_
      refine W_seq ?_
      refine W_region ?_
      refine OL_y (y_assign rfl) (by decide) ?_
      refine OL_nil ?_
      refine W_ret ?_
      show RetOK _ _ _ _ _ _
      have hlt := of_decide_eq_false hc
      have hn := of_decide_eq_false hc3
      exact ret1 (v := .int .i64 0) Try.results65 rfl ⟨by rw [cmp3, if_neg hn, if_neg hlt], H.ext_of 0 rfl⟩
theorem f45_calls {Z : Nat → Prop} {w : World} {cs : List Value} {v : Ver} {ts : Int} (hv : tVer.R Z w cs v) : Calls Try.prog 45 [.agg cs.toArray, .int .u64 ts].toArray w fun e w' => e = .returned (.int .i64 (cmp3 ts v.ts)) ∧ Ext none' w w' := by
  have H := Holds.start w
  obtain ⟨vv, vk, rfl, -⟩ := ver_cells.1 hv
  refine calls_of_W' Try.func45 rfl Try.ntmps45 rfl ?_
  refine W_seq ?_
  refine W_region ?_
  refine OL_c (op_box (v := .agg #[.int .u64 v.ts, .int .u64 v.txn, .bool v.dead, vv, vk]) H rfl (by decide) fun b2 w0_0 H => ?_)
  refine OL_y (y_assign rfl) (by decide) ?_
  refine OL_nil ?_
  refine W_seq ?_
  refine W_region ?_
  refine OL_y (y_move rfl) (by decide) ?_
  refine OL_y (y_fieldAddr ti32 rfl ti24 rfl rfl) (by decide) ?_
  refine OL_y (y_loadS (v := .int .u64 v.ts) ti24 rfl rfl (Cells.unit (H.getOwn 0 rfl) rfl)) (by decide) ?_
  refine OL_c (op_call 65 en65 rfl [.int .u64 ts, .int .u64 v.ts] rfl (by decide) ((f65_calls).mono ?_))
  rintro e w1_3 ⟨rfl, hE1⟩
  refine ⟨_, rfl, ?_⟩
  have H := H.ext0 hE1
  refine OL_y (y_assign rfl) (by decide) ?_
  refine OL_nil ?_
  refine W_ret ?_
  show RetOK _ _ _ _ _ _
  exact ret1 (v := .int .i64 (cmp3 ts v.ts)) Try.results45 rfl ⟨rfl, H.ext_of 1 rfl⟩
/-- A store that stands. -/
theorem f43_calls {w : World} {b b1 b2 : Nat} (h : w.heap[b]? = some (.cells #[.map (some b1), .map (some b2)] 98)) : Calls Try.prog 43 [.pointer (some ⟨b, 0, none⟩)].toArray w fun e w' => e = .returned (.bool true) ∧ Ext none' w w' := by
  have H := Holds.start w
  refine calls_of_W' Try.func43 rfl Try.ntmps43 rfl ?_
  refine W_seq ?_
  refine W_region ?_
  refine OL_y (v := .bool false) (y_assign rfl) (by decide) ?_
  refine OL_nil ?_
  refine W_seq ?_
  refine W_region ?_
  refine OL_y (y_move rfl) (by decide) ?_
  refine OL_y (y_neqNil Try.underlying26 rfl rfl) (by decide) ?_
  refine OL_y (v := .bool true) (y_move rfl) (by decide) ?_
  refine OL_yg rfl (by decide) rfl (y_move rfl) (by decide) ?_
  refine OL_yg rfl (by decide) rfl (y_nilCheck rfl ⟨_, rfl⟩) (by decide) ?_
  refine OL_yg rfl (by decide) rfl (y_fieldAddr ti98 rfl ti95 rfl rfl) (by decide) ?_
  refine OL_yg rfl (by decide) rfl (y_loadS (v := .map (some b1)) ti95 rfl rfl (Cells.unit (((H.ext_of 0 rfl).blk b (own_lt h) (fun h => h)).trans h) rfl)) (by decide) ?_
  refine OL_yg rfl (by decide) rfl (y_neqNilMap Try.underlying95 rfl rfl) (by decide) ?_
  refine OL_y (y_pick (b := true) (v := .bool true) rfl rfl) (by decide) ?_
  refine OL_y (y_assign rfl) (by decide) ?_
  refine OL_nil ?_
  refine W_ret ?_
  show RetOK _ _ _ _ _ _
  exact ret1 (v := .bool true) Try.results43 rfl ⟨rfl, H.ext_of 0 rfl⟩
set_option maxHeartbeats 2000000 in
/-- slices.Clone. -/
theorem f66_calls {Z : Nat → Prop} {w0 w : World} {a : Value} {xs : List Int} (kp0 : Keeps Z w0 w) (hx : SlR (tInt .u8) 1 Z w0 a xs) : Calls Try.prog 66 [a].toArray w fun e w' => ∃ (v : Value) (cs : List Value), e = .returned v ∧ w'.ownsRow 0 5 1 v xs.length cs ∧ (∀ k, v.ownBlock = some k → w.heap.size ≤ k) ∧ Els (tInt .u8) Z w0 cs xs ∧ Ext none' w w' := by
  have H := Holds.start w
  have hr := hx.reach
  obtain ⟨news, hs, he⟩ := hx.src
  obtain ⟨a0, c0, rfl, hl0, hm0⟩ := hx.len
  refine calls_of_W' Try.func66 rfl Try.ntmps66 rfl ?_
  refine W_seq ?_
  refine W_region ?_
  refine OL_y (y_assign rfl) (by decide) ?_
  refine OL_nil ?_
  refine W_seq ?_
  refine W_seq ?_
  rcases a0 with _ | a0
  · refine W_region ?_
    refine OL_y (y_move rfl) (by decide) ?_
    refine OL_y (v := .bool true) (y_eqlNilSlice (a := none) Try.underlying23 rfl rfl) (by decide) ?_
    refine OL_nil ?_
    refine W_condt rfl ?_
    refine W_seq ?_
    refine W_region ?_
    refine OL_y (y_assign rfl) (by decide) ?_
    refine OL_nil ?_
    refine W_ret ?_
    show RetOK _ _ _ _ _ _
    obtain ⟨a', c', h1, h2, h3, h4, h5, h6⟩ := hx
    injection h1 with h1 _ _; subst h1
    have hx0 := List.eq_nil_of_length_eq_zero (h3 rfl).1
    subst hx0
    have hE := H.ext_of 0 rfl
    exact ret1 (v := .slice none 0 0) Try.results66 rfl ⟨_, [], rfl, ownsRow_nil _ _ _, (fun k hk => by cases hk), Els.nil _ _ _, hE⟩
  · refine W_region ?_
    refine OL_y (y_move rfl) (by decide) ?_
    refine OL_y (v := .bool false) (y_eqlNilSlice (a := some a0) Try.underlying23 rfl rfl) (by decide) ?_
    refine OL_nil ?_
    refine W_condf rfl ?_
    refine W_skip ?_
    refine W_seq ?_
    refine W_region ?_
    refine OL_c (op_buildSlice H [] ti23 ti5 rfl rfl rfl (by simp) rfl rfl (by decide) fun b5 w3_0 H => ?_)
    refine OL_y (y_move rfl) (by decide) ?_
    refine OL_c (op_append (news := news) H 0 rfl rfl ti23 ti5 rfl rfl rfl rfl (hs _ (kp0.trans (H.keepsAll 1 rfl Z))) he.1 (fun u hu => he.one (by decide) u hu) (by omega) (by simp only [maxLen]; omega) (by decide) fun v7 w3_2 H => ?_)
    refine OL_y (y_assign rfl) (by decide) ?_
    refine OL_nil ?_
    refine W_ret ?_
    show RetOK _ _ _ _ _ _
    have H : Holds _ [row 5 1 v7 (0 + xs.length) ([] ++ news), shr (fun k => k < w.heap.size) w] := H
    rw [Nat.zero_add, List.nil_append] at H
    exact ret1 (v := v7) Try.results66 rfl ⟨_, _, rfl, H.getRow 0 rfl, fun k hk => H.fresh 0 1 rfl rfl rfl k hk, he, H.ext_of 1 rfl⟩
set_option maxHeartbeats 2000000 in
/-- slices.Clone. -/
theorem f67_calls {Z : Nat → Prop} {w0 w : World} {a : Value} {xs : List Key} (kp0 : Keeps Z w0 w) (hx : SlR tKey 24 Z w0 a xs) : Calls Try.prog 67 [a].toArray w fun e w' => ∃ (v : Value) (cs : List Value), e = .returned v ∧ w'.ownsRow 0 23 1 v xs.length cs ∧ (∀ k, v.ownBlock = some k → w.heap.size ≤ k) ∧ Els tKey Z w0 cs xs ∧ Ext none' w w' := by
  have H := Holds.start w
  have hr := hx.reach
  obtain ⟨news, hs, he⟩ := hx.src
  obtain ⟨a0, c0, rfl, hl0, hm0⟩ := hx.len
  refine calls_of_W' Try.func67 rfl Try.ntmps67 rfl ?_
  refine W_seq ?_
  refine W_region ?_
  refine OL_y (y_assign rfl) (by decide) ?_
  refine OL_nil ?_
  refine W_seq ?_
  refine W_seq ?_
  rcases a0 with _ | a0
  · refine W_region ?_
    refine OL_y (y_move rfl) (by decide) ?_
    refine OL_y (v := .bool true) (y_eqlNilSlice (a := none) Try.underlying30 rfl rfl) (by decide) ?_
    refine OL_nil ?_
    refine W_condt rfl ?_
    refine W_seq ?_
    refine W_region ?_
    refine OL_y (y_assign rfl) (by decide) ?_
    refine OL_nil ?_
    refine W_ret ?_
    show RetOK _ _ _ _ _ _
    obtain ⟨a', c', h1, h2, h3, h4, h5, h6⟩ := hx
    injection h1 with h1 _ _; subst h1
    have hx0 := List.eq_nil_of_length_eq_zero (h3 rfl).1
    subst hx0
    have hE := H.ext_of 0 rfl
    exact ret1 (v := .slice none 0 0) Try.results67 rfl ⟨_, [], rfl, ownsRow_nil _ _ _, (fun k hk => by cases hk), Els.nil _ _ _, hE⟩
  · refine W_region ?_
    refine OL_y (y_move rfl) (by decide) ?_
    refine OL_y (v := .bool false) (y_eqlNilSlice (a := some a0) Try.underlying30 rfl rfl) (by decide) ?_
    refine OL_nil ?_
    refine W_condf rfl ?_
    refine W_skip ?_
    refine W_seq ?_
    refine W_region ?_
    refine OL_c (op_buildSlice H [] ti30 ti23 rfl rfl rfl (by simp) rfl rfl (by decide) fun b5 w3_0 H => ?_)
    refine OL_y (y_move rfl) (by decide) ?_
    refine OL_c (op_append (news := news) H 0 rfl rfl ti30 ti23 rfl rfl rfl rfl (hs _ (kp0.trans (H.keepsAll 1 rfl Z))) he.1 (fun u hu => he.one (by decide) u hu) (by omega) (by simp only [maxLen]; omega) (by decide) fun v7 w3_2 H => ?_)
    refine OL_y (y_assign rfl) (by decide) ?_
    refine OL_nil ?_
    refine W_ret ?_
    show RetOK _ _ _ _ _ _
    have H : Holds _ [row 23 1 v7 (0 + xs.length) ([] ++ news), shr (fun k => k < w.heap.size) w] := H
    rw [Nat.zero_add, List.nil_append] at H
    exact ret1 (v := v7) Try.results67 rfl ⟨_, _, rfl, H.getRow 0 rfl, fun k hk => H.fresh 0 1 rfl rfl rfl k hk, he, H.ext_of 1 rfl⟩
end Go.Proofs.Ytpandioolpnihaa

namespace Go.Proofs.Ytpandioolpnihaa
open Go Go.Wk
set_option linter.unusedVariables false
set_option linter.unusedSimpArgs false

set_option maxHeartbeats 8000000 in
theorem f46_calls {Z : Nat → Prop} {w : World} {cs : List Value} {v : Ver} (hv : tVer.R Z w cs v) :
    Calls Try.prog 46 [.agg cs.toArray].toArray w fun e w' => ∃ cs' : List Value, e = .returned (.agg cs'.toArray) ∧ tVer.R (fun k => w.heap.size ≤ k) w' cs' v ∧ Ext none' w w' := by
  have H := Holds.start w
  obtain ⟨vv, vk, rfl, hi1, hi2, hv3, hv4⟩ := ver_cells.1 hv
  have hr3 := hv3.reach
  have hr4 := hv4.reach
  obtain ⟨av, cv, rfl, hlv, hmv⟩ := hv3.len
  obtain ⟨ak, ck, rfl, hlk, hmk⟩ := hv4.len
  refine calls_of_W' Try.func46 rfl Try.ntmps46 rfl ?_
  refine W_seq ?_
  refine W_region ?_
  refine OL_c (op_box (v := .agg #[.int .u64 v.ts, .int .u64 v.txn, .bool v.dead, .slice av v.val.length cv, .slice ak v.keys.length ck]) H rfl (by decide) fun b1 w0_0 H => ?_)
  refine OL_c (op_alloc H ti32 (by decide) fun b2 w0_1 H => ?_)
  refine OL_nil ?_
  refine W_seq ?_
  refine W_drawD H mixed (by kernel_rfl) [7, 9] (fun w0 w' => w'.heap[b1]? = some (.cells #[.int .u64 v.ts, .int .u64 v.txn, .bool v.dead, .slice av v.val.length cv, .slice ak v.keys.length ck] 32)) fun wd1 H hEd => ?_
  have hS : ∀ {ls : Array Bool}, Sx [7, 9] (fun w' => w'.heap[b1]? = some (.cells #[.int .u64 v.ts, .int .u64 v.txn, .bool v.dead, .slice av v.val.length cv, .slice ak v.keys.length ck] 32)) ls wd1 := fun {_} _ => H.getOwn 1 rfl
  refine DA_p 0 rfl (by kernel_rfl) rfl (fun _ => y_fieldAddr ti32 rfl ti23 rfl rfl) hS (by decide) fun hS => ?_
  refine DA_y 1 rfl (by kernel_rfl) rfl (by kernel_rfl) (fun w' h => y_loadS (v := .slice av v.val.length cv) ti23 rfl rfl (Cells.unit h rfl)) hS (by decide) fun hS => ?_
  refine DA_p 3 rfl (by kernel_rfl) rfl (fun _ => y_fieldAddr ti32 rfl ti30 rfl rfl) hS (by decide) fun hS => ?_
  refine DA_y 4 rfl (by kernel_rfl) rfl (by kernel_rfl) (fun w' h => y_loadS (v := .slice ak v.keys.length ck) ti30 rfl rfl (Cells.unit h rfl)) hS (by decide) fun hS => ?_
  refine DA_one 2 (by kernel_rfl) rfl (op_call 66 en66 rfl [.slice av v.val.length cv] rfl (by decide) ((f66_calls (H.keepsAll 2 rfl Z) hv3).mono ?_))
  rintro e w1_2 ⟨v6, cs6, rfl, hr6, hf6, hX6, hE6⟩
  refine ⟨_, rfl, fun _ => (H.ext0 hE6).getOwn 1 rfl, ?_⟩
  have hn0 : w.heap.size ≤ wd1.heap.size := (H.keepsAll 2 rfl Z).1
  have H := H.new hE6 (row_ok hr6) hf6
  obtain ⟨a6, c6, rfl, hl6, hm6⟩ := H.rowLen 0 rfl
  have hS : ∀ {ls : Array Bool}, Sx [7, 9] (fun w' => w'.heap[b1]? = some (.cells #[.int .u64 v.ts, .int .u64 v.txn, .bool v.dead, .slice av v.val.length cv, .slice ak v.keys.length ck] 32)) ls w1_2 := fun {_} _ => H.getOwn 2 rfl
  refine DA_p 6 rfl (by kernel_rfl) rfl (fun _ => y_fieldAddr ti32 rfl ti23 rfl rfl) hS (by decide) fun hS => ?_
  refine DA_one 5 (by kernel_rfl) rfl (op_call 67 en67 rfl [.slice ak v.keys.length ck] rfl (by decide) ((f67_calls (H.keepsAll 3 rfl Z) hv4).mono ?_))
  rintro e w1_5 ⟨v9, cs9, rfl, hr9, hf9, hX9, hE9⟩
  refine ⟨_, rfl, fun _ => (H.ext0 hE9).getOwn 2 rfl, ?_⟩
  have hn1 : w.heap.size ≤ w1_2.heap.size := (H.keepsAll 3 rfl Z).1
  have H := H.new hE9 (row_ok hr9) hf9
  obtain ⟨a9, c9, rfl, hl9, hm9⟩ := H.rowLen 0 rfl
  have H : Holds w1_5 [row 23 1 (.slice a9 v.keys.length c9) v.keys.length cs9, row 5 1 (.slice a6 v.val.length c6) v.val.length cs6, own b2 (.cells #[.int .u64 0, .int .u64 0, .bool false, .slice none 0 0, .slice none 0 0] 32), own b1 (.cells #[.int .u64 v.ts, .int .u64 v.txn, .bool v.dead, .slice av v.val.length cv, .slice ak v.keys.length ck] 32), shr (fun k => k < w.heap.size) w] := H
  refine DA_one 7 (by kernel_rfl) rfl (op_store (v := .slice a6 v.val.length c6) H 3 rfl ti23 rfl rfl rfl (Nat.le_of_ble_eq_true rfl) (by simp [Value.cells, Value.oneCell']) fun w1_7 H => ⟨fun h => absurd (h 7 (by simp)) (by decide), ?_⟩)
  refine DA_p 8 rfl (by kernel_rfl) rfl (fun _ => y_fieldAddr ti32 rfl ti30 rfl rfl) (fun h => absurd (h 7 (by simp)) (by decide)) (by decide) fun _ => ?_
  refine DA_one 9 (by kernel_rfl) rfl (op_store (v := .slice a9 v.keys.length c9) H 3 rfl ti30 rfl rfl rfl (Nat.le_of_ble_eq_true rfl) (by simp [Value.cells, Value.oneCell']) fun w1_9 H => ⟨fun h => absurd (h 7 (by simp)) (by decide), ?_⟩)
  have H : Holds w1_9 [row 23 1 (.slice a9 v.keys.length c9) v.keys.length cs9, row 5 1 (.slice a6 v.val.length c6) v.val.length cs6, own b2 (.cells #[.int .u64 0, .int .u64 0, .bool false, .slice none 0 0, .slice none 0 0] 32), own b1 (.cells #[.int .u64 v.ts, .int .u64 v.txn, .bool v.dead, .slice a6 v.val.length c6, .slice a9 v.keys.length c9] 32), shr (fun k => k < w.heap.size) w] := H
  have hfr6 := H.fresh 1 4 rfl rfl rfl
  have hV6 : SlR (tInt .u8) 1 (fun k => none' k ∨ (Value.slice a6 v.val.length c6).ownBlock = some k) w1_9 (.slice a6 v.val.length c6) v.val := SlR.ofRow (H.getRow 1 rfl) (by decide) (hX6.flat (tInt_flat .u8)) (fun k hk => .inr hk) hr3
  have H := (((H.perm (List.Perm.swap _ _ _)).emptyPool).perm (List.Perm.swap _ _ _)).pool rfl 0 rfl
  refine DA_done (by kernel_rfl) ?_
  refine W_seq ?_
  refine W_seq ?_
  refine W_region ?_
  refine OL_y (y_fieldAddr ti32 rfl ti30 rfl rfl) (by decide) ?_
  refine OL_y (y_loadS (v := .slice a9 v.keys.length c9) ti30 rfl rfl (Cells.unit (H.getOwn 3 rfl) rfl)) (by decide) ?_
  refine OL_y (y_len rfl ti30 rfl) (by decide) ?_
  refine OL_y (y_move rfl) (by decide) ?_
  refine OL_nil ?_
  refine W_range (N := v.keys.length) (by omega) (fun j f ds w' => ∃ (ns : List Value) (Zp : Nat → Prop) (Wp : World), f 1 = .pointer (some ⟨b1, 0, none⟩) ∧ f 2 = .pointer (some ⟨b2, 0, none⟩) ∧ ds = [] ∧ ns.length = j ∧ Els tKey Zp Wp ns (v.keys.take j) ∧ SlR (tInt .u8) 1 Zp Wp (.slice a6 v.val.length c6) v.val ∧ (∀ k, Zp k → w.heap.size ≤ k) ∧
      Holds w' [shr Zp Wp, row 23 1 (.slice a9 v.keys.length c9) v.keys.length (ns ++ cs9.drop j), own b2 (.cells #[.int .u64 0, .int .u64 0, .bool false, .slice none 0 0, .slice none 0 0] 32), own b1 (.cells #[.int .u64 v.ts, .int .u64 v.txn, .bool v.dead, .slice a6 v.val.length c6, .slice a9 v.keys.length c9] 32), shr (fun k => k < w.heap.size) w])
      ⟨[], _, _, rfl, rfl, rfl, rfl, Els.nil _ _ _, hV6, fun k hk => hk.elim (fun h => h.elim) (hfr6 k), H⟩
      rfl rfl (by decide) (by decide) (by decide) rfl rfl ?_ rfl rfl ?_
  · rintro j f ds w2 hj ⟨ns, Zp, Wp, h1, h2, rfl, hnl, hE, hV, hZp, H⟩ htj htm
    have hxj := List.getElem?_eq_getElem hj
    have hRj := hX9.2 j _ hxj
    have htk : v.keys.take (j + 1) = v.keys.take j ++ [v.keys[j]] := by rw [List.take_add_one, hxj]; rfl
    generalize v.keys[j] = key at *
    obtain ⟨vy, hvy, hky⟩ := hRj
    have hl9' : cs9.length = v.keys.length * 1 := hX9.1
    have hdr : cs9.drop j = vy :: cs9.drop (j + 1) := by
      have h1 : ((cs9.drop (j * 1)).take 1) = [vy] := hvy
      rw [Nat.mul_one] at h1
      have h2 := List.drop_eq_getElem_cons (l := cs9) (i := j) (by omega)
      rw [h2] at h1
      have h3 : cs9[j]'(by omega) = vy := (List.cons.inj (show (cs9[j]'(by omega)) :: _ = [vy] from h1)).1
      rw [h2, h3]
    obtain ⟨b9, c9', hv9, -, -⟩ := ownsRow_cells (H.getRow 1 rfl) (by omega)
    have hcell : ∀ {W : World}, Holds W [shr Zp Wp, row 23 1 (.slice a9 v.keys.length c9) v.keys.length (ns ++ cs9.drop j), own b2 (.cells #[.int .u64 0, .int .u64 0, .bool false, .slice none 0 0, .slice none 0 0] 32), own b1 (.cells #[.int .u64 v.ts, .int .u64 v.txn, .bool v.dead, .slice a6 v.val.length c6, .slice a9 v.keys.length c9] 32), shr (fun k => k < w.heap.size) w] → Cells W b9 (0 + j * 1) [vy] := fun {W} H => by
      have := rowCell (o := j) (u := vy) (b := b9) (H.getRow 1 rfl) (by rw [hv9]; rfl) (by rw [List.getElem?_append_right (by omega), hnl, Nat.sub_self, hdr]; rfl)
      rw [Nat.zero_add, Nat.mul_one]; exact this
    obtain ⟨ay, cy, rfl, hly, hmy⟩ := hky.len
    refine W_block ?_
    refine W_seq ?_
    refine W_region ?_
    refine OL_y (y_move htj) (by decide) ?_
    refine OL_y (y_assign rfl) (by decide) ?_
    refine OL_nil ?_
    refine W_drawD H mixed (by kernel_rfl) [10] (fun w0 w' => w'.heap[b1]? = some (.cells #[.int .u64 v.ts, .int .u64 v.txn, .bool v.dead, .slice a6 v.val.length c6, .slice a9 v.keys.length c9] 32) ∧ Cells w' b9 (0 + j * 1) [.slice ay key.length cy]) fun wd5 H hEd => ?_
    have hS : ∀ {ls : Array Bool}, Sx [10] (fun w' => w'.heap[b1]? = some (.cells #[.int .u64 v.ts, .int .u64 v.txn, .bool v.dead, .slice a6 v.val.length c6, .slice a9 v.keys.length c9] 32) ∧ Cells w' b9 (0 + j * 1) [.slice ay key.length cy]) ls wd5 := fun {_} _ => ⟨H.getOwn 3 rfl, hcell H⟩
    refine DA_p 0 rfl (by kernel_rfl) rfl (fun _ => y_fieldAddr ti32 rfl ti30 rfl h1) hS (by decide) fun hS => ?_
    refine DA_y 1 rfl (by kernel_rfl) rfl (by kernel_rfl) (fun w' h => y_loadS (v := .slice a9 v.keys.length c9) ti30 rfl rfl (Cells.unit h.1 rfl)) hS (by decide) fun hS => ?_
    refine DA_p 2 rfl (by kernel_rfl) rfl (fun _ => y_move rfl) hS (by decide) fun hS => ?_
    refine DA_p 3 rfl (by kernel_rfl) rfl (fun _ => y_fieldAddr ti32 rfl ti30 rfl h1) hS (by decide) fun hS => ?_
    refine DA_y 4 rfl (by kernel_rfl) rfl (by kernel_rfl) (fun w' h => y_loadS (v := .slice a9 v.keys.length c9) ti30 rfl rfl (Cells.unit h.1 rfl)) hS (by decide) fun hS => ?_
    refine DA_p 5 rfl (by kernel_rfl) rfl (fun _ => y_move rfl) hS (by decide) fun hS => ?_
    refine DA_p 6 rfl (by kernel_rfl) rfl (fun _ => y_indexAddr ti30 ti23 hv9 rfl (by omega) (by omega)) hS (by decide) fun hS => ?_
    refine DA_y 7 rfl (by kernel_rfl) rfl (by kernel_rfl) (fun w' h => y_loadS (v := .slice ay key.length cy) ti23 rfl rfl h.2) hS (by decide) fun hS => ?_
    refine DA_one 8 (by kernel_rfl) rfl (op_call 66 en66 rfl [.slice ay key.length cy] rfl (by decide) ((f66_calls (H.keepsAll 4 rfl Z) hky).mono ?_))
    rintro e w5_8 ⟨v26, cs26, rfl, hr26, hf26, hX26, hE26⟩
    refine ⟨_, rfl, fun _ => ⟨(H.ext0 hE26).getOwn 3 rfl, hcell (H.ext0 hE26)⟩, ?_⟩
    have H := H.new hE26 (row_ok hr26) hf26
    obtain ⟨a26, c26, rfl, hl26, hm26⟩ := H.rowLen 0 rfl
    refine DA_p 9 rfl (by kernel_rfl) rfl (fun _ => y_indexAddr ti30 ti23 hv9 rfl (by omega) (by omega)) (fun _ => ⟨H.getOwn 4 rfl, hcell H.tail⟩) (by decide) fun _ => ?_
    refine DA_one 10 (by kernel_rfl) rfl (op_storeRow (o := 0 + j * 1) H 2 rfl (by rw [hv9]; rfl) ti23 rfl rfl rfl (by rw [List.length_append, List.length_drop]; omega) rfl fun w5_10 H => ⟨fun h => absurd (h 10 (by simp)) (by decide), ?_⟩)
    refine DA_done (by kernel_rfl) ?_
    have hr5 := hky.reach
    have hf := H.fresh 0 5 rfl rfl rfl
    have hS26 : SlR (tInt .u8) 1 (fun k => Zp k ∨ (Value.slice a26 key.length c26).ownBlock = some k) w5_10 (.slice a26 key.length c26) key := SlR.ofRow (H.getRow 0 rfl) (by decide) (hX26.flat (tInt_flat .u8)) (fun k hk => .inr hk) hr5
    have hkp : Keeps Zp Wp w5_10 := H.keeps (i := 1) rfl
    have H := H.pool rfl 0 rfl
    have hset : (ns ++ cs9.drop j).set (0 + j * 1) (.slice a26 key.length c26) = (ns ++ [.slice a26 key.length c26]) ++ cs9.drop (j + 1) := by
      rw [Nat.zero_add, Nat.mul_one, List.set_append_right _ _ (by omega), hnl, Nat.sub_self, hdr, List.set_cons_zero, List.append_assoc]; rfl
    have H : Holds w5_10 [shr (fun k => Zp k ∨ (Value.slice a26 key.length c26).ownBlock = some k) w5_10, row 23 1 (.slice a9 v.keys.length c9) v.keys.length ((ns ++ cs9.drop j).set (0 + j * 1) (.slice a26 key.length c26)), own b2 (.cells #[.int .u64 0, .int .u64 0, .bool false, .slice none 0 0, .slice none 0 0] 32), own b1 (.cells #[.int .u64 v.ts, .int .u64 v.txn, .bool v.dead, .slice a6 v.val.length c6, .slice a9 v.keys.length c9] 32), shr (fun k => k < w.heap.size) w] := H
    rw [hset] at H
    refine ⟨htj, htm, ns ++ [.slice a26 key.length c26], _, _, h1, h2, rfl, by rw [List.length_append, hnl]; rfl, ?_, (hV.keeps hkp).mono fun _ _ h => .inl h, fun k hk => hk.elim (hZp k) (hf k), H⟩
    rw [htk]
    exact ((hE.keeps hkp).mono fun _ _ h => .inl h).snoc ⟨_, rfl, hS26⟩
  · rintro f ds w2 ⟨ns, Zp, Wp, h1, h2, rfl, hnl, hE, hV, hZp, H⟩ htj htm
    rw [List.take_length] at hE
    have hd0 : cs9.drop v.keys.length = [] := List.drop_of_length_le (by have : cs9.length = v.keys.length * 1 := hX9.1; omega)
    rw [hd0, List.append_nil] at H
    refine W_seq ?_
    refine W_region ?_
    refine OL_y (y_loadA (cs := [.int .u64 v.ts, .int .u64 v.txn, .bool v.dead, .slice a6 v.val.length c6, .slice a9 v.keys.length c9]) ti32 rfl h1 (Cells.of (H.getOwn 3 rfl) rfl) rfl) (by decide) ?_
    refine OL_c (op_store (v := .agg #[.int .u64 v.ts, .int .u64 v.txn, .bool v.dead, .slice a6 v.val.length c6, .slice a9 v.keys.length c9]) H 2 rfl ti32 h2 rfl rfl (by decide) (by simp [Value.cells, Value.oneCell']) fun w7_1 H => ?_)
    refine OL_nil ?_
    refine W_ret ?_
    show RetOK _ _ _ _ _ _
    have hkp : Keeps Zp Wp w7_1 := H.keeps (i := 0) rfl
    refine ret1c Try.results46 h2 (run_loadVarA (cs := [.int .u64 v.ts, .int .u64 v.txn, .bool v.dead, .slice a6 v.val.length c6, .slice a9 v.keys.length c9]) ti32 rfl (Cells.of (H.getOwn 2 rfl) rfl) rfl) ⟨_, rfl, ver_cells.2 ⟨_, _, rfl, hi1, hi2, (hV.keeps hkp).mono fun k _ h => hZp k h, ?_⟩, H.ext_of 4 rfl⟩
    exact SlR.ofRow (H.getRow 1 rfl) (by decide) ((hE.keeps hkp).mono fun k _ h => hZp k h) (fun k hk => H.fresh 1 4 rfl rfl rfl k hk) hr4
end Go.Proofs.Ytpandioolpnihaa

namespace Go.Proofs.Ytpandioolpnihaa
open Go Go.Wk
set_option linter.unusedVariables false
set_option linter.unusedSimpArgs false

/-- Versions in order: later ones first. -/
abbrev Sd (vs : List Ver) : Prop := vs.Pairwise fun a b => b.ts < a.ts
def posV (vs : List Ver) (ts : Int) : Nat := (vs.takeWhile fun v => decide (ts < v.ts)).length
def hasV (vs : List Ver) (ts : Int) : Bool := (vs[posV vs ts]?).any fun v => decide (v.ts = ts)
theorem pos_of {vs : List Ver} {ts : Int} {i : Nat} (hi : i ≤ vs.length) (hlo : ∀ v ∈ vs.take i, ts < v.ts) (hhi : ∀ v ∈ vs.drop i, ¬ ts < v.ts) : posV vs ts = i := by
  have e : vs = vs.take i ++ vs.drop i := (List.take_append_drop i vs).symm
  unfold posV
  rw [e, List.takeWhile_append_of_pos (fun v hv => by simpa using hlo v hv)]
  have : (vs.drop i).takeWhile (fun v => decide (ts < v.ts)) = [] := by
    cases hd : vs.drop i with
    | nil => rfl
    | cons v l => rw [List.takeWhile_cons, decide_eq_false (hhi v (by rw [hd]; simp))]; rfl
  rw [this, List.append_nil, List.length_take]; omega
theorem pos_le (vs : List Ver) (ts : Int) : posV vs ts ≤ vs.length := by
  unfold posV
  exact (List.takeWhile_sublist _).length_le
theorem sd_take {vs : List Ver} (h : Sd vs) {k : Nat} {v : Ver} (hk : vs[k]? = some v) : (∀ u ∈ vs.take (k + 1), v.ts ≤ u.ts) ∧ ∀ u ∈ vs.drop k, u.ts ≤ v.ts := by
  obtain ⟨hlt, he⟩ := List.getElem?_eq_some_iff.1 hk
  have hp := List.pairwise_iff_getElem.1 h
  constructor
  · intro u hu
    obtain ⟨j, hj⟩ := List.getElem?_of_mem hu
    rw [List.getElem?_take] at hj
    split at hj
    · rename_i hjk
      obtain ⟨hjl, hje⟩ := List.getElem?_eq_some_iff.1 hj
      by_cases hjk' : j = k
      · subst hjk'; rw [hk] at hj; injection hj with hj; subst hj; exact Int.le_refl _
      · have := hp j k hjl hlt (by omega); rw [hje, he] at this; omega
    · cases hj
  · intro u hu
    obtain ⟨j, hj⟩ := List.getElem?_of_mem hu
    rw [List.getElem?_drop] at hj
    obtain ⟨hjl, hje⟩ := List.getElem?_eq_some_iff.1 hj
    by_cases hj0 : j = 0
    · subst hj0; rw [Nat.add_zero, hk] at hj; injection hj with hj; subst hj; exact Int.le_refl _
    · have := hp k (k + j) hlt hjl (by omega); rw [hje, he] at this; omega
theorem cmp3_lt {a b : Int} : cmp3 a b < 0 ↔ a < b := by
  unfold cmp3; split
  · rename_i h; exact ⟨fun _ => h, fun _ => by decide⟩
  · rename_i h
    split
    · exact ⟨fun h => absurd h (by decide), fun g => absurd g h⟩
    · exact ⟨fun h => absurd h (by decide), fun g => absurd g h⟩
theorem cmp3_eq {a b : Int} : cmp3 a b = 0 ↔ b = a := by
  unfold cmp3; split
  · rename_i h; exact ⟨fun h => absurd h (by decide), fun g => absurd g (by omega)⟩
  · rename_i h
    split
    · rename_i h2; exact ⟨fun h => absurd h (by decide), fun g => absurd g (by omega)⟩
    · rename_i h2; exact ⟨fun _ => by omega, fun _ => rfl⟩
theorem half (n : Nat) : (n : Int).fdiv 2 = ((n / 2 : Nat) : Int) := by
  rw [Int.fdiv_eq_ediv_of_nonneg _ (by decide)]; rfl
theorem u64_nat (n : Nat) (h : n ≤ 100000) : IntKind.u64.wrap (n : Int) = (n : Int) := wrap_u64 (by omega) (by omega)
theorem i64_nat (n : Nat) (h : n ≤ 100000) : IntKind.i64.wrap (n : Int) = (n : Int) := wrap_i64 (by omega) (by omega)

set_option maxHeartbeats 8000000 in
theorem f44_calls {Z : Nat → Prop} {w0 w : World} {a : Value} {vs : List Ver} {ts : Int} (kp0 : Keeps Z w0 w) (hx : SlR tVer 72 Z w0 a vs) (hs : Sd vs) (hl : vs.length ≤ 50000) :
    Calls Try.prog 44 [a, .int .u64 ts, .func (.func 45) #[] #[]].toArray w fun e w' => e = .returned (.tuple #[.int .i64 (posV vs ts), .bool (hasV vs ts)]) ∧ Ext none' w w' := by
  have H := Holds.start w
  have kpW : ∀ {W : World} {L : List Atom} (i : Nat), Holds W L → L[i]? = some (shr (fun k => k < w.heap.size) w) → Keeps Z w0 W := fun i H hi => kp0.trans (H.keepsAll i hi Z)
  obtain ⟨a0, c0, rfl, hl0, hm0⟩ := hx.len
  refine calls_of_W' Try.func44 rfl Try.ntmps44 rfl ?_
  refine W_seq ?_
  refine W_region ?_
  refine OL_y (y_assign rfl) (by decide) ?_
  refine OL_y (v := .bool false) (y_assign rfl) (by decide) ?_
  refine OL_nil ?_
  refine W_seq ?_
  refine W_region ?_
  refine OL_y (y_move rfl) (by decide) ?_
  refine OL_y (y_len rfl ti53 rfl) (by decide) ?_
  refine OL_y (y_assign rfl) (by decide) ?_
  refine OL_nil ?_
  refine W_seq ?_
  refine W_region ?_
  refine OL_y (y_move rfl) (by decide) ?_
  refine OL_y (y_assign rfl) (by decide) ?_
  refine OL_y (y_assign rfl) (by decide) ?_
  refine OL_nil ?_
  refine W_seq ?_
  refine W_block (W_loopN (fun g f ds w' => ∃ i j : Nat, g + i = j ∧ j ≤ vs.length ∧ (∀ v ∈ vs.take i, ts < v.ts) ∧ (∀ v ∈ vs.drop j, ¬ ts < v.ts) ∧ f 0 = .slice a0 vs.length c0 ∧ f 1 = .int .u64 ts ∧ f 2 = .func (.func 45) #[] #[] ∧ f 8 = .int .i64 (vs.length : Int) ∧ f 9 = .int .i64 (i : Int) ∧ f 10 = .int .i64 (j : Int) ∧ ds = [] ∧ Holds w' [shr (fun k => k < w.heap.size) w])
      vs.length ⟨0, vs.length, rfl, Nat.le_refl _, by simp, by simp, rfl, rfl, rfl, rfl, rfl, rfl, rfl, H⟩
      ?_)
  rintro g f ds w1 ⟨i, j, hg, hj, hlo, hhi, h0, hh1, h2, h8, h9, h10, rfl, H⟩
  refine W_seq ?_
  refine W_seq ?_
  refine W_region ?_
  refine OL_y (y_move h9) (by decide) ?_
  refine OL_y (y_move h10) (by decide) ?_
  refine OL_y (y_lss rfl rfl) (by decide) ?_
  refine OL_nil ?_
  refine W_cond rfl (fun hc => ?_) (fun hc => ?_)
  · have hc1 := of_decide_eq_true hc
    obtain ⟨h, hh⟩ : ∃ h, h = (i + j) / 2 := ⟨_, rfl⟩
    have hy : vs[h]? = some (vs[h]'(by omega)) := List.getElem?_eq_getElem (by omega)
    obtain ⟨hty, hdy⟩ := sd_take hs hy
    generalize vs[h]'(by omega) = v at *
    obtain ⟨b1, o1, cs1, e1, hz1, hc1', hr1⟩ := hx.at hy
    have hcc := hc1'.ext ((kpW 0 H rfl).2 _ hz1 hc1'.lt)
    refine W_skip ?_
    refine W_block ?_
    refine W_seq ?_
    refine W_region ?_
    refine OL_y (y_move h9) (by decide) ?_
    refine OL_y (y_move h10) (by decide) ?_
    refine OL_y (y_add64' ((i + j : Nat) : Int) rfl rfl (by omega) (by omega) (by omega)) (by decide) ?_
    refine OL_y (y_conv ((i + j : Nat) : Int) (by kernel_rfl) Try.underlying134 rfl (u64_nat _ (by omega))) (by decide) ?_
    refine OL_y (y_shr1 (h : Nat) rfl rfl (by decide) (by rw [half, hh])) (by decide) ?_
    refine OL_y (y_conv (h : Nat) (by kernel_rfl) Try.underlying3 rfl (i64_nat _ (by omega))) (by decide) ?_
    refine OL_y (y_assign rfl) (by decide) ?_
    refine OL_nil ?_
    refine W_seq ?_
    refine W_region ?_
    refine OL_y (y_move h2) (by decide) ?_
    refine OL_y (y_move h0) (by decide) ?_
    refine OL_y (y_move rfl) (by decide) ?_
    refine OL_y (y_indexAddr ti53 ti32 (congrArg (Value.slice · _ _) e1) rfl (by omega) (by omega)) (by decide) ?_
    refine OL_y (y_loadA (cs := cs1) ti32 rfl rfl hcc (tVer.len hr1).symm) (by decide) ?_
    refine OL_y (y_move hh1) (by decide) ?_
    refine OL_c (op_call 45 en45 rfl [.agg cs1.toArray, .int .u64 ts] rfl (by decide) ((f45_calls (tVer.keeps hr1 (kpW 0 H rfl))).mono ?_))
    rintro e w5_6 ⟨rfl, hE⟩
    refine ⟨_, rfl, ?_⟩
    have H := H.ext0 hE
    refine OL_y (y_lss rfl rfl) (by decide) ?_
    refine OL_nil ?_
    refine W_cond rfl (fun hc => ?_) (fun hc => ?_)
    · have hc2 := cmp3_lt.1 (of_decide_eq_true hc)
      refine W_region ?_
      refine OL_y (y_move rfl) (by decide) ?_
      refine OL_y (y_add64' ((h + 1 : Nat) : Int) rfl rfl (by omega) (by omega) (by omega)) (by decide) ?_
      refine OL_y (y_assign rfl) (by decide) ?_
      refine OL_nil ?_
      exact ⟨j - (h + 1), by omega, h + 1, j, by omega, hj, fun u hu => by have := hty u hu; omega, hhi, h0, hh1, h2, h8, rfl, h10, rfl, H⟩
    · have hc2 : ¬ ts < v.ts := fun h => of_decide_eq_false hc (cmp3_lt.2 h)
      refine W_region ?_
      refine OL_y (y_move rfl) (by decide) ?_
      refine OL_y (y_assign rfl) (by decide) ?_
      refine OL_nil ?_
      exact ⟨h - i, by omega, i, h, by omega, by omega, hlo, fun u hu => by have := hdy u hu; omega, h0, hh1, h2, h8, h9, rfl, rfl, H⟩
  · have hc1 := of_decide_eq_false hc
    obtain rfl : i = j := by omega
    have hpos := pos_of hj hlo hhi
    refine W_exit ?_
    refine W_seq ?_
    by_cases hi : i < vs.length
    · have hy : vs[i]? = some (vs[i]'hi) := List.getElem?_eq_getElem hi
      generalize vs[i]'hi = v at *
      obtain ⟨b1, o1, cs1, e1, hz1, hc1', hr1⟩ := hx.at hy
      have hcc := hc1'.ext ((kpW 0 H rfl).2 _ hz1 hc1'.lt)
      refine W_region ?_
      refine OL_y (y_move h9) (by decide) ?_
      refine OL_y (y_move h9) (by decide) ?_
      refine OL_y (y_move h8) (by decide) ?_
      refine OL_y (v := .bool true) (y_lssT (by omega) rfl rfl) (by decide) ?_
      refine OL_y (v := .bool true) (y_move rfl) (by decide) ?_
      refine OL_yg rfl (by decide) rfl (y_move h2) (by decide) ?_
      refine OL_yg rfl (by decide) rfl (y_move h0) (by decide) ?_
      refine OL_yg rfl (by decide) rfl (y_move h9) (by decide) ?_
      refine OL_yg rfl (by decide) rfl (y_indexAddr ti53 ti32 (congrArg (Value.slice · _ _) e1) rfl (by omega) (by omega)) (by decide) ?_
      refine OL_yg rfl (by decide) rfl (y_loadA (cs := cs1) ti32 rfl rfl hcc (tVer.len hr1).symm) (by decide) ?_
      refine OL_yg rfl (by decide) rfl (y_move hh1) (by decide) ?_
      refine OL_g rfl (by decide) rfl (op_call 45 en45 rfl [.agg cs1.toArray, .int .u64 ts] rfl (by decide) ((f45_calls (tVer.keeps hr1 (kpW 0 H rfl))).mono ?_))
      rintro e w8_11 ⟨rfl, hE⟩
      refine ⟨_, rfl, ?_⟩
      have H := H.ext0 hE
      refine OL_yg rfl (by decide) rfl (y_eql rfl rfl) (by decide) ?_
      refine OL_y (y_pick (b := true) rfl rfl) (by decide) ?_
      refine OL_y (y_assign rfl) (by decide) ?_
      refine OL_y (y_assign rfl) (by decide) ?_
      refine OL_nil ?_
      refine W_ret ?_
      show RetOK _ _ _ _ _ _
      refine ret2 (v := .int .i64 (i : Int)) (x := .bool (decide (cmp3 ts v.ts = 0))) Try.results44 rfl rfl ⟨?_, H.ext_of 0 rfl⟩
      rw [hasV, hpos, hy, Option.any_some, decide_eq_decide.2 cmp3_eq]
    · refine W_region ?_
      refine OL_y (y_move h9) (by decide) ?_
      refine OL_y (y_move h9) (by decide) ?_
      refine OL_y (y_move h8) (by decide) ?_
      refine OL_y (v := .bool false) (y_lssF (by omega) rfl rfl) (by decide) ?_
      refine OL_y (v := .bool false) (y_move rfl) (by decide) ?_
      refine OL_s rfl (by decide) rfl rfl (by simp) ?_
      refine OL_s rfl (by decide) rfl rfl (by simp) ?_
      refine OL_s rfl (by decide) rfl rfl (by simp) ?_
      refine OL_s rfl (by decide) rfl rfl (by simp) ?_
      refine OL_s rfl (by decide) rfl rfl (by simp) ?_
      refine OL_s rfl (by decide) rfl rfl (by simp) ?_
      refine OL_s rfl (by decide) rfl rfl (by simp) ?_
      refine OL_s rfl (by decide) rfl rfl (by simp) ?_
      refine OL_y (y_pick (b := false) (v := .bool false) rfl rfl) (by decide) ?_
      refine OL_y (y_assign rfl) (by decide) ?_
      refine OL_y (y_assign rfl) (by decide) ?_
      refine OL_nil ?_
      refine W_ret ?_
      show RetOK _ _ _ _ _ _
      refine ret2 (v := .int .i64 (i : Int)) (x := .bool false) Try.results44 rfl rfl ⟨?_, H.ext_of 0 rfl⟩
      rw [hasV, hpos, List.getElem?_eq_none (by omega), Option.any_none]
end Go.Proofs.Ytpandioolpnihaa

namespace Go.Wk
open Go
set_option linter.unusedVariables false
set_option linter.unusedSimpArgs false

section
variable {P : Program} {n : Nat} {K : PK} {f : Fr} {ds : List Deferred} {w : World} {L : List Atom} {d t t' ty : Nat} {p : String} {af : Array Edge} {g : Option (Nat × Bool)} {x y : Operand}
/-- Cells of a row are written. -/
theorem row_write (H : Holds w L) (i : Nat) {e sz m : Nat} {v : Value} {cs : List Value} (hi : L[i]? = some (row e sz v m cs)) {b o : Nat} (hv : v.ownBlock = some b) (us : List Value) (ho : o + us.length ≤ cs.length) (h1 : ∀ c ∈ us, c.oneCell' = true) :
    ∃ w', (storeCells ⟨b, o, none⟩ us).run P w = .ok () w' ∧ Holds w' (L.set i (row e sz v m (cs.take o ++ us ++ cs.drop (o + us.length)))) := by
  obtain ⟨hl, hor⟩ := H.get hi
  rcases hor with ⟨rfl, rfl⟩ | ⟨g', cap, cur, rfl, hb0, hh, hc, hm, hsz, ht⟩
  · simp [Value.ownBlock] at hv
  · have hbg : g' = b := by simpa [Value.ownBlock] using hv
    subst hbg
    have hlen : m * sz ≤ cap * sz := Nat.mul_le_mul_right _ hc
    have hcl : cs.length ≤ cur.size := by omega
    have hst := run_storeCells (P := P) (o := o) us 0 w cur hh (by omega) h1
    simp only [Nat.add_zero] at hst
    have hlaid := laid_toList cur o us (by omega)
    refine ⟨w.putObj g' (.cells (laid cur o us) e), hst, H.step i hi rfl (Ext.put w g' _) (fun k _ hk => by subst hk; simp [Value.ownBlock]) (row_ok ⟨?_, .inr ⟨g', cap, _, rfl, hb0, World.putObj_heap_same (own_lt hh), hc, hm, by rw [laid_size]; exact hsz, ?_⟩⟩) fun _ h => .inl h⟩
    · simp only [List.length_append, List.length_take, List.length_drop]; omega
    · rw [hlaid]
      have e1 : m * sz = cs.length := hl.symm
      rw [e1] at ht ⊢
      rw [← ht]
      simp only [List.take_append, List.length_append, List.length_take, Array.length_toList, List.take_take, List.length_drop]
      have h2 : min o cur.size = o := by omega
      have h3 : min cs.length cur.size = cs.length := by omega
      simp only [h2, h3]
      have h4 : min cs.length o = o := by omega
      have h5 : min o cs.length = o := by omega
      rw [h4, List.take_of_length_le (l := us) (by omega), h5, List.drop_take, show cs.length - (o + us.length) = cs.length - (o + us.length) from rfl]
/-- copy(dst, src): dst lies in a row of one's own; all of src finds room. -/
theorem op_copy (H : Holds w L) (i : Nat) {tys : Array TypeId} {e sz m bytes : Nat} {z : Value} {dd : TypeDesc} {v xv : Value} {cs news : List Value} {k dl dc : Nat} (hi : L[i]? = some (row e sz v m cs)) {b o : Nat} (hv : v.ownBlock = some b) (ht : tys = #[t, t]) (hu : P.underlying t = some (.slice e)) (ti : TI P e sz bytes z dd)
    (hx : ev f x = .slice (some ⟨b, o, none⟩) dl dc) (hy : ev f y = xv) (hsrc : Src w xv k news) (hl : news.length = k * sz) (hk : k ≤ dl) (ho : o + news.length ≤ cs.length) (h1 : ∀ c ∈ news, c.oneCell' = true) (hn : d < n)
    (kk : ∀ w', Holds w' (L.set i (row e sz v m (cs.take o ++ news ++ cs.drop (o + news.length)))) → K (upd f d (.int .i64 k)) ds w') : Op1 P n ⟨some d, .call { callee := .builtin .copy, args := #[x, y], argTypes := tys }, ty, p, af, g⟩ f ds w K := by
  subst ht
  obtain ⟨a, c, rfl, hnone, hcell⟩ := hsrc
  obtain ⟨w', hst, H'⟩ := row_write (P := P) H i hi hv news ho h1
  have hf : (Builtin.firstCells sz k (.slice a k c)).run P w = .ok news.toArray w := by
    cases a with
    | none =>
      obtain ⟨rfl, _⟩ := hnone rfl
      obtain rfl : news = [] := List.eq_nil_of_length_eq_zero (by simpa using hl)
      exact run_firstCells_none _ sz 0 0 c
    | some A => exact run_firstCells_some _ sz k A k c news hl fun j u hj => hcell A rfl j u hj
  have hmin : Nat.min k dl = k := Nat.min_eq_left hk
  have hrun : (Builtin.copy_ #[t, t] ty #[.slice (some ⟨b, o, none⟩) dl dc, .slice a k c]).run P w = .ok (.int .i64 k) w' := by
    show Sem.run P (do
      let .slice elem ← underlying t | stuck "copy: slice type expected"
      let n := Nat.min k dl
      let cells ← Builtin.firstCells (← sizeOf elem) n (.slice a k c)
      storeCells ⟨b, o, none⟩ cells.toList
      pure (goInt n)) w = _
    simp only [Sem.run_bind, run_underlying hu, Result.andThen, ti.run_size, hmin, hf, hst, Sem.run_pure]
    rfl
  refine Op1_val rfl rfl hn (w' := w') ?_ (kk w' H')
  simp [execOp, resolve, invoke, builtin, hx, hy, hrun, Result.andThen]
/-- A row within its capacity: as many elements more as one likes, whatever they hold. -/
theorem Holds.rowWiden (H : Holds w L) (i : Nat) {e sz m c k : Nat} {a : Option Addr} {cs : List Value} (hi : L[i]? = some (row e sz (.slice a m c) m cs)) (ha : a ≠ none) (hk : m + k ≤ c) :
    ∃ xs : List Value, xs.length = k * sz ∧ Holds w (L.set i (row e sz (.slice a (m + k) c) (m + k) (cs ++ xs))) := by
  obtain ⟨hl, hor⟩ := H.get hi
  rcases hor with ⟨hv, _⟩ | ⟨g', cap, cur, hv, hb0, hh, hc, hm, hsz, ht⟩
  · injection hv with hv _ _; exact absurd hv ha
  · injection hv with h1 h2 h3; subst h1 h3
    have e1 : cur.toList.take ((m + k) * sz) = cs ++ (cur.toList.drop (m * sz)).take (k * sz) := by rw [Nat.add_mul, List.take_add, ht]
    have hle : (m + k) * sz ≤ c * sz := Nat.mul_le_mul_right _ hk
    rw [Nat.add_mul] at hle
    have hxl : ((cur.toList.drop (m * sz)).take (k * sz)).length = k * sz := by rw [List.length_take, List.length_drop, Array.length_toList]; omega
    refine ⟨_, hxl, H.step i hi rfl (M := none') ⟨rfl, rfl, rfl, Nat.le_refl _, fun _ _ _ => rfl⟩ (fun _ _ h => h.elim) (row_ok ⟨?_, .inr ⟨g', c, cur, rfl, hb0, hh, hk, hm, hsz, e1⟩⟩) fun k hk => .inl hk⟩
    rw [List.length_append, hxl, hl, Nat.add_mul]
/-- append(s, make([]T, k)...) where there is no room: a new row. -/
theorem op_appendZeros (H : Holds w L) {tys : Array TypeId} {e size bytes size0 bytes0 : Nat} {z z0 : Value} {dd' : TypeDesc} {a : Option Addr} {c m k : Nat} {cs : List Value} (ht : tys = #[t, t']) (ti0 : TI P t size0 bytes0 z0 (.slice e)) (ti : TI P e size bytes z dd') (hz : z.cells.size = size) (hpos : Nat.ble 1 size = true)
    (htn : P.underlying t' = some (.int .i64)) (hx : ev f x = .slice a m c) (hy : ev f y = .int .i64 (k : Int)) (hold : Src w (.slice a m c) m cs) (hcl : cs.length = m * size) (hk : 0 < k) (hmc : m ≤ c) (hroom : c < m + k) (hb : (m + k) * bytes ≤ 140737488355328) (h63 : m + k ≤ maxLen) (hn : d < n)
    (kk : ∀ v' zs w', zs.length = k * size → Holds w' (row e size v' (m + k) (cs ++ zs) :: L) → K (upd f d v') ds w') : Op1 P n ⟨some d, .call { callee := .builtin .append, args := #[x, y], argTypes := tys }, ty, p, af, g⟩ f ds w K := by
  subst ht
  obtain ⟨i, hi, hs, hz', hby⟩ := ti.i
  have hpos' := Nat.le_of_ble_eq_true hpos
  obtain ⟨a1, c1, e1, hon, hoc⟩ := hold
  injection e1 with e1 _ e2; subst e1 e2
  have hE : Ext none' w w.drew := ⟨rfl, rfl, rfl, Nat.le_refl _, fun _ _ _ => rfl⟩
  have hf : (Builtin.firstCells i.size m (.slice a m c)).run P w.drew = .ok cs.toArray w.drew := by
    rw [hs]
    cases a with
    | none =>
      obtain ⟨rfl, _⟩ := hon rfl
      obtain rfl : cs = [] := List.eq_nil_of_length_eq_zero (by simpa using hcl)
      exact run_firstCells_none _ size 0 0 c
    | some A => exact run_firstCells_some _ size m A m c cs hcl fun j u hj => hoc A rfl j u hj
  have hkb : k * bytes ≤ 281474976710656 := by have := Nat.mul_le_mul_right bytes (show k ≤ m + k by omega); omega
  have hrun := Lib.run_append_grow_zeros (P := P) w t t' ty e i z .i64 .i64 ti0.u htn hi hz' a m c cs hf k hk (by omega) hroom (by simp only [maxLen] at h63; omega) (by rw [hby]; exact hkb) (by rw [hby]; exact growslice_fits hroom hb)
  have hzl : ∀ q, (Builtin.zeroCells z.cells q).toList.length = q * size := fun q => by simp [Builtin.zeroCells, hz]
  refine Op1_val rfl rfl hn (v := .slice (some ⟨w.heap.size, 0, none⟩) (m + k) (grownCap w (m + k) c e)) (w' := w.drew.alloc (.cells (cs.toArray ++ Builtin.zeroCells z.cells k ++ Builtin.zeroCells z.cells (grownCap w (m + k) c e - (m + k))) e)) ?_ (kk _ (Builtin.zeroCells z.cells k).toList _ (hzl k) ((H.ext0 hE).new (Ext.alloc _ _ _) (row_ok ?_) ?_))
  · simp [execOp, resolve, invoke, builtin, hx, hy, Result.andThen]
    rw [hrun, Array.append_assoc]
  · have hge : m + k ≤ grownCap w (m + k) c e := grownCap_ge _ _ _ _
    refine ⟨by rw [List.length_append, hcl, hzl, Nat.add_mul], .inr ⟨w.heap.size, _, _, rfl, Nat.zero_le _, World.alloc_heap_new _ _, hge, grownCap_le_maxLen _ _ _ _ h63, ?_, ?_⟩⟩
    · rw [← Array.length_toList]
      simp only [Array.toList_append, List.length_append, hzl, hcl]
      rw [← Nat.add_mul, ← Nat.add_mul]; congr 1; omega
    · simp only [Array.toList_append]
      rw [List.take_append_of_le_length (by simp only [List.length_append, hzl, hcl, Nat.add_mul]; omega)]
      refine List.take_of_length_le ?_
      simp only [List.length_append, hzl, hcl, Nat.add_mul]; omega
  · intro q hq
    have : w.heap.size = q := by simpa [Value.ownBlock] using hq
    exact Nat.le_of_eq this
theorem frozen0 {w : World} {a o : Nat} {C : Array Value} {e : TypeId} (h : w.heap[a]? = some (.cells C e (0, 0))) : w.frozen? ⟨a, o, none⟩ = false := by
  unfold World.frozen?; simp [h]
theorem shape0 {w : World} {a : Nat} {C : Array Value} {e : TypeId} {fr : Nat × Nat} (h : w.heap[a]? = some (.cells C e fr)) : w.shape? a = some (e, C.size) := by
  unfold World.shape?; rw [h]
/-- slices.overlaps' entry: two blocks. -/
theorem op_overlaps (k : FuncId) {fn : Func} {tys : Array TypeId} {tS tR e sz bytes : Nat} {z : Value} {dd : TypeDesc} (hf : P.funcs[k]? = some fn) (hname : (fn.name == "runtime.NumGoroutine") = false) (hb : fn.body.isNone = true) (hn : Extern.findNext fn = none) (he : Extern.find fn = some (Extern.SlicesOverlaps.overlaps #[tS, tS] #[tR])) (hu : P.underlying tS = some (.slice e)) (ti : TI P e sz bytes z dd)
    {a b oa ob la ca lb cb : Nat} {Ca Cb : Array Value} {ea eb : TypeId} (ha : w.heap[a]? = some (.cells Ca ea (0, 0))) (hbb : w.heap[b]? = some (.cells Cb eb (0, 0))) (hab : a ≠ b) (hpos : Cb.size ≠ 0) (hx : ev f x = .slice (some ⟨a, oa, none⟩) la ca) (hy : ev f y = .slice (some ⟨b, ob, none⟩) lb cb) (hd : d < n)
    (kk : K (upd f d (.bool false)) ds w) : Op1 P n ⟨some d, .call { callee := .value (.func k), args := #[x, y], argTypes := tys }, ty, p, af, g⟩ f ds w K := by
  refine Op1_val rfl rfl hd (w' := w) ?_ kk
  have hr := Lib.run_overlaps_apart (P := P) w tS tR e hu sz (fun w => ti.run_size) ⟨a, oa, none⟩ ⟨b, ob, none⟩ la ca lb cb hab ea eb Ca.size Cb.size (shape0 ha) (shape0 hbb) hpos (frozen0 ha) (frozen0 ha)
  have hc := run_callFunc_extern (P := P) (f := k) hf hname hb hn he #[.slice (some ⟨a, oa, none⟩) la ca, .slice (some ⟨b, ob, none⟩) lb cb] w
  rw [hr] at hc
  have hfn : ev f (.func k) = .func (.func k) #[] #[] := rfl
  simp [execOp, resolve, Deferred.ofValue, invoke, hx, hy, hfn, hc, Result.andThen]
end
end Go.Wk
namespace Go.Wk
open Go
section
variable {P : Program} {n : Nat} {K : PK} {f : Fr} {ds : List Deferred} {w : World} {L : List Atom} {d t t' ty : Nat} {p : String} {af : Array Edge} {g : Option (Nat × Bool)} {x y : Operand}
/-- copy(dst, src) where dst is the shorter one. -/
theorem op_copyD (H : Holds w L) (i : Nat) {tys : Array TypeId} {e sz m bytes : Nat} {z : Value} {dd : TypeDesc} {v xv : Value} {cs news : List Value} {k dl dc : Nat} (hi : L[i]? = some (row e sz v m cs)) {b o : Nat} (hv : v.ownBlock = some b) (ht : tys = #[t, t]) (hu : P.underlying t = some (.slice e)) (ti : TI P e sz bytes z dd)
    (hx : ev f x = .slice (some ⟨b, o, none⟩) dl dc) (hy : ev f y = xv) (hsrc : Src w xv k news) (hl : news.length = k * sz) (hk : dl ≤ k) (hk0 : 0 < k) (ho : o + dl * sz ≤ cs.length) (h1 : ∀ c ∈ news.take (dl * sz), c.oneCell' = true) (hn : d < n)
    (kk : ∀ w', Holds w' (L.set i (row e sz v m (cs.take o ++ news.take (dl * sz) ++ cs.drop (o + dl * sz)))) → K (upd f d (.int .i64 dl)) ds w') : Op1 P n ⟨some d, .call { callee := .builtin .copy, args := #[x, y], argTypes := tys }, ty, p, af, g⟩ f ds w K := by
  subst ht
  obtain ⟨a, c, rfl, hnone, hcell⟩ := hsrc
  have hle : dl * sz ≤ k * sz := Nat.mul_le_mul_right _ hk
  have htl : (news.take (dl * sz)).length = dl * sz := by rw [List.length_take]; omega
  obtain ⟨w', hst, H'⟩ := row_write (P := P) H i hi hv (news.take (dl * sz)) (by rw [htl]; exact ho) h1
  rw [htl] at H'
  have hf : (Builtin.firstCells sz dl (.slice a k c)).run P w = .ok (news.take (dl * sz)).toArray w := by
    cases a with
    | none => have := (hnone rfl).1; omega
    | some A =>
      refine run_firstCells_some _ sz dl A k c (news.take (dl * sz)) htl fun j u hj => ?_
      rw [List.getElem?_take] at hj
      split at hj
      · exact hcell A rfl j u hj
      · cases hj
  have hmin : Nat.min k dl = dl := Nat.min_eq_right hk
  have hrun : (Builtin.copy_ #[t, t] ty #[.slice (some ⟨b, o, none⟩) dl dc, .slice a k c]).run P w = .ok (.int .i64 dl) w' := by
    show Sem.run P (do
      let .slice elem ← underlying t | stuck "copy: slice type expected"
      let n := Nat.min k dl
      let cells ← Builtin.firstCells (← sizeOf elem) n (.slice a k c)
      storeCells ⟨b, o, none⟩ cells.toList
      pure (goInt n)) w = _
    simp only [Sem.run_bind, run_underlying hu, Result.andThen, ti.run_size, hmin, hf, hst, Sem.run_pure]
    rfl
  refine Op1_val rfl rfl hn (w' := w') ?_ (kk w' H')
  simp [execOp, resolve, invoke, builtin, hx, hy, hrun, Result.andThen]
theorem y_cap {tys : Array TypeId} {t0 size bytes e : Nat} {zero : Value} {a : Option Addr} {m c : Nat} (ht : tys[0]? = some t0) (ti : TI P t0 size bytes zero (.slice e)) (hx : ev f x = .slice a m c) :
    Yd P ⟨some d, .call { callee := .builtin .cap, args := #[x], argTypes := tys }, ty, p, af, g⟩ f w (.int .i64 (c : Int)) :=
  ⟨rfl, by simp [execOp, resolve, invoke, builtin, hx, Builtin.cap_, ht, ti.run_underlying, goInt, Result.andThen]⟩
theorem Src.grow {w : World} {a : Option Addr} {m c c' : Nat} {cs : List Value} (h : Src w (.slice a m c) m cs) (ha : a ≠ none) : Src w (.slice a m c') m cs := by
  obtain ⟨a1, c1, e, h1, h2⟩ := h
  injection e with e1 _ _; subst e1
  exact ⟨_, _, rfl, fun h => absurd h ha, h2⟩
end
end Go.Wk

namespace Go.Proofs.Ytpandioolpnihaa
open Go Go.Wk
set_option linter.unusedVariables false
set_option linter.unusedSimpArgs false

theorem rowBlk {w : World} {e sz m b c n : Nat} {cs : List Value} (h : w.ownsRow 0 e sz (.slice (some ⟨b, 0, none⟩) n c) m cs) : ∃ C, w.heap[b]? = some (.cells C e (0, 0)) := by
  rcases h.2 with ⟨hv, _⟩ | ⟨g', cap, cur, hv, _, hh, _⟩
  · cases hv
  · injection hv with hv _ _; injection hv with hv; injection hv with hv _ _; subst hv; exact ⟨cur, hh⟩
theorem rowBlk0 {w : World} {e m b c n : Nat} {cs : List Value} (h : w.ownsRow 0 e 5 (.slice (some ⟨b, 0, none⟩) n c) m cs) (hn : 0 < n) : ∃ C, w.heap[b]? = some (.cells C e (0, 0)) ∧ C.size ≠ 0 := by
  rcases h.2 with ⟨hv, _⟩ | ⟨g', cap, cur, hv, _, hh, hc, _, hs, _⟩
  · cases hv
  · injection hv with hv h2 h3; injection hv with hv; injection hv with hv _ _; subst hv; exact ⟨cur, hh, by omega⟩
theorem y_sliceH0 {P : Program} {d ty t size bytes e size' bytes' : Nat} {zero zero' : Value} {dd : TypeDesc} {p : String} {af : Array Edge} {g : Option (Nat × Bool)} {f : Fr} {x y : Operand} {w : World} {a : Option Addr} {ln cap : Nat} {k1 : IntKind} {hi : Int} (ti : TI P t size bytes zero (.slice e)) (te : TI P e size' bytes' zero' dd) (hx : ev f x = .slice a ln cap) (hy : ev f y = .int k1 hi) (h0 : 0 ≤ hi) (h1 : hi ≤ cap) :
    Yd P ⟨some d, .slice t x none (some y) none, ty, p, af, g⟩ f w (.slice a hi.toNat cap) := by
  have := y_sliceH (P := P) (d := d) (ty := ty) (p := p) (af := af) (g := g) (w := w) ti te hx hy h0 h1
  rwa [cutA_zero] at this
theorem cut_some {b c i sz : Nat} (h : c ≠ i) : cutA (some ⟨b, 0, none⟩) c i sz = some ⟨b, i * sz, none⟩ := by
  rw [cutA_some, if_neg h, Nat.zero_add]

set_option maxHeartbeats 16000000 in
theorem f53_calls {w : World} {L : List Atom} {a : Option Addr} {n c i bv : Nat} {cs cv : List Value} (H : Holds w (row 32 5 (.slice a n c) n cs :: row 32 5 (.slice (some ⟨bv, 0, none⟩) 1 1) 1 cv :: L)) (hi : i ≤ n) (hn : n ≤ 50000) (h1 : ∀ u ∈ cs, u.oneCell' = true) (h1v : ∀ u ∈ cv, u.oneCell' = true) :
    Calls Try.prog 53 [.slice a n c, .int .i64 i, .slice (some ⟨bv, 0, none⟩) 1 1].toArray w fun e w' => ∃ v', e = .returned v' ∧ Holds w' (row 32 5 v' (n + 1) (cs.take (i * 5) ++ cv ++ cs.drop (i * 5)) :: L) := by
  obtain ⟨a', c', he, hnc, hmc⟩ := H.rowLen 0 rfl
  injection he with h1' _ h2'; subst h1' h2'
  have hcl : cs.length = n * 5 := (H.getRow 0 rfl).1
  have hvl : cv.length = 1 * 5 := (H.getRow 1 rfl).1
  refine calls_of_W' Try.func53 rfl Try.ntmps53 rfl ?_
  refine W_seq ?_
  refine W_region ?_
  refine OL_y (y_assign rfl) (by decide) ?_
  refine OL_nil ?_
  refine W_seq ?_
  refine W_region ?_
  refine OL_y (y_move rfl) (by decide) ?_
  refine OL_y (y_move rfl) (by decide) ?_
  refine OL_y (y_sliceL ti53 ti32 rfl rfl (by omega) (by omega)) (by decide) ?_
  refine OL_nil ?_
  refine W_seq ?_
  refine W_region ?_
  refine OL_y (y_move rfl) (by decide) ?_
  refine OL_y (y_len rfl ti53 rfl) (by decide) ?_
  refine OL_y (y_assign rfl) (by decide) ?_
  refine OL_nil ?_
  refine W_seq ?_
  refine W_seq ?_
  refine W_region ?_
  refine OL_y (y_move rfl) (by decide) ?_
  refine OL_y (v := .bool false) (y_eqlF (by decide) rfl rfl) (by decide) ?_
  refine OL_nil ?_
  refine W_condf rfl ?_
  refine W_skip ?_
  refine W_seq ?_
  refine W_region ?_
  refine OL_y (y_move rfl) (by decide) ?_
  refine OL_y (y_len rfl ti53 rfl) (by decide) ?_
  refine OL_y (y_assign rfl) (by decide) ?_
  refine OL_nil ?_
  refine W_seq ?_
  refine W_seq ?_
  by_cases hin : i = n
  · refine W_region ?_
    refine OL_y (y_move rfl) (by decide) ?_
    refine OL_y (y_move rfl) (by decide) ?_
    refine OL_y (v := .bool true) (y_eqlT (by omega) rfl rfl) (by decide) ?_
    refine OL_nil ?_
    refine W_condt rfl ?_
    refine W_seq ?_
    refine W_region ?_
    refine OL_y (y_move rfl) (by decide) ?_
    refine OL_y (y_move rfl) (by decide) ?_
    refine OL_c (op_append H 0 rfl rfl ti53 ti32 rfl rfl rfl rfl (Src.row (H.getRow 1 rfl)) hvl h1v (by omega) (by simp [maxLen]; omega) (by decide) fun v25 w7_2 H => ?_)
    refine OL_y (y_assign rfl) (by decide) ?_
    refine OL_nil ?_
    refine W_ret ?_
    show RetOK _ _ _ _ _ _
    refine ret1 (v := v25) Try.results53 rfl ⟨_, rfl, ?_⟩
    have e1 : cs.take (i * 5) = cs := List.take_of_length_le (by omega)
    have e2 : cs.drop (i * 5) = [] := List.drop_of_length_le (by omega)
    rw [e1, e2, List.append_nil]
    exact H.sub (.cons_cons _ (.cons _ (.refl _)))
  · refine W_region ?_
    refine OL_y (y_move rfl) (by decide) ?_
    refine OL_y (y_move rfl) (by decide) ?_
    refine OL_y (v := .bool false) (y_eqlF (by omega) rfl rfl) (by decide) ?_
    refine OL_nil ?_
    refine W_condf rfl ?_
    refine W_skip ?_
    refine W_seq ?_
    refine W_seq ?_
    by_cases hg : (c : Int) < ((n + 1 : Nat) : Int)
    · refine W_region ?_
      refine OL_y (y_move rfl) (by decide) ?_
      refine OL_y (y_move rfl) (by decide) ?_
      refine OL_y (y_add64' ((n + 1 : Nat) : Int) rfl rfl (by omega) (by omega) (by omega)) (by decide) ?_
      refine OL_y (y_move rfl) (by decide) ?_
      refine OL_y (y_cap rfl ti53 rfl) (by decide) ?_
      refine OL_y (v := .bool true) (y_gtrT hg rfl rfl) (by decide) ?_
      refine OL_nil ?_
      refine W_condt rfl ?_
      refine W_seq ?_
      have hca : a ≠ none := by
        rintro rfl
        rcases (H.getRow 0 rfl).2 with ⟨_, h0⟩ | ⟨g', cap, cur, hv, _⟩
        · omega
        · injection hv with hv _ _; cases hv
      have hsrc9 : Go.Wk.Src w (.slice (cutA a c 0 5) i c) i (cs.take (i * 5)) := by
        have := Src.takeRow (H.getRow 0 rfl) i hi
        rw [cutA_zero] at this ⊢
        exact this.grow hca
      refine W_region ?_
      refine OL_y (y_move rfl) (by decide) ?_
      refine OL_y (y_move rfl) (by decide) ?_
      refine OL_y (y_sliceH ti53 ti32 rfl rfl (by omega) (by omega)) (by decide) ?_
      refine OL_y (y_move rfl) (by decide) ?_
      refine OL_y (y_move rfl) (by decide) ?_
      refine OL_y (y_add64' ((n + 1 : Nat) : Int) rfl rfl (by omega) (by omega) (by omega)) (by decide) ?_
      refine OL_y (y_move rfl) (by decide) ?_
      refine OL_y (y_sub64' ((n + 1 - i : Nat) : Int) rfl rfl (by omega) (by omega) (by omega)) (by decide) ?_
      refine OL_c (op_appendZeros (k := n + 1 - i) H rfl ti53 ti32 rfl rfl Try.underlying3 (congrArg (Value.slice · _ _) (cutA_zero a c 5)) rfl (by rw [cutA_zero] at hsrc9; exact hsrc9) (by rw [List.length_take]; omega) (by omega) (by omega) (by omega) (by omega) (by simp [maxLen]; omega) (by decide) fun v40 zs w9_8 hzl H => ?_)
      obtain ⟨b40, c40, hv40, hc40, -⟩ := ownsRow_cells (H.getRow 0 rfl) (by omega)
      subst hv40
      have hX1 : (cs.take (i * 5)).length = i * 5 := by rw [List.length_take]; omega
      refine OL_y (y_assign rfl) (by decide) ?_
      refine OL_nil ?_
      refine W_seq ?_
      refine W_region ?_
      refine OL_y (y_move rfl) (by decide) ?_
      refine OL_y (y_move rfl) (by decide) ?_
      refine OL_y (y_sliceL ti53 ti32 rfl rfl (by omega) (by omega)) (by decide) ?_
      refine OL_y (y_move rfl) (by decide) ?_
      refine OL_c (op_copy (news := cv) H 0 rfl rfl rfl Try.underlying53 ti32 (congrArg (Value.slice · _ _) (cut_some (by omega))) rfl (Src.row (H.getRow 2 rfl)) hvl (by omega) (by rw [List.length_append, hX1, hzl]; omega) h1v (by decide) fun w10_4 H => ?_)
      have hX2 : (cs.take (i * 5) ++ zs).take (i * 5) ++ cv ++ (cs.take (i * 5) ++ zs).drop (i * 5 + cv.length) = cs.take (i * 5) ++ cv ++ zs.drop 5 := by rw [List.take_left' hX1, List.drop_append, hX1, hvl, List.drop_of_length_le (by omega), List.nil_append]; congr 2; omega
      have H : Holds w10_4 (row 32 5 (.slice (some ⟨b40, 0, none⟩) (i + (n + 1 - i)) c40) (i + (n + 1 - i)) ((cs.take (i * 5) ++ zs).take (i * 5) ++ cv ++ (cs.take (i * 5) ++ zs).drop (i * 5 + cv.length)) :: row 32 5 (.slice a n c) n cs :: row 32 5 (.slice (some ⟨bv, 0, none⟩) 1 1) 1 cv :: L) := H
      rw [hX2] at H
      refine OL_nil ?_
      refine W_seq ?_
      refine W_drawD H mixed (by kernel_rfl) [] (fun w0 w' => True) fun wd11 H hEd => ?_
      refine DA_p 0 rfl (by kernel_rfl) rfl (fun _ => y_move rfl) (fun _ => trivial) (by decide) fun _ => ?_
      refine DA_p 1 rfl (by kernel_rfl) rfl (fun _ => y_move rfl) (fun _ => trivial) (by decide) fun _ => ?_
      refine DA_p 2 rfl (by kernel_rfl) rfl (fun _ => y_move rfl) (fun _ => trivial) (by decide) fun _ => ?_
      refine DA_p 3 rfl (by kernel_rfl) rfl (fun _ => y_add64' ((i + 1 : Nat) : Int) rfl rfl (by omega) (by omega) (by omega)) (fun _ => trivial) (by decide) fun _ => ?_
      refine DA_p 4 rfl (by kernel_rfl) rfl (fun _ => y_sliceL ti53 ti32 rfl rfl (by omega) (by omega)) (fun _ => trivial) (by decide) fun _ => ?_
      refine DA_p 5 rfl (by kernel_rfl) rfl (fun _ => y_move rfl) (fun _ => trivial) (by decide) fun _ => ?_
      refine DA_p 6 rfl (by kernel_rfl) rfl (fun _ => y_move rfl) (fun _ => trivial) (by decide) fun _ => ?_
      refine DA_p 7 rfl (by kernel_rfl) rfl (fun _ => y_sliceL ti53 ti32 rfl rfl (by omega) (by omega)) (fun _ => trivial) (by decide) fun _ => ?_
      refine DA_one 8 (by kernel_rfl) rfl (op_copy (news := cs.drop (i * 5)) H 0 rfl rfl rfl Try.underlying53 ti32 (congrArg (Value.slice · _ _) (cut_some (by omega))) rfl (Src.dropRow (H.getRow 1 rfl) i hi) (by rw [List.length_drop]; omega) (by omega) (by simp only [List.length_append, List.length_drop, hX1, hzl, hvl]; omega) (fun u hu => h1 u (List.mem_of_mem_drop hu)) (by decide) fun w11_8 H => ⟨fun _ => trivial, ?_⟩)
      refine DA_done (by kernel_rfl) ?_
      refine W_seq ?_
      refine W_region ?_
      refine OL_y (y_move rfl) (by decide) ?_
      refine OL_y (y_assign rfl) (by decide) ?_
      refine OL_nil ?_
      refine W_ret ?_
      show RetOK _ _ _ _ _ _
      refine ret1 (v := .slice (some ⟨b40, 0, none⟩) (i + (n + 1 - i)) c40) Try.results53 rfl ⟨_, rfl, ?_⟩
      have hX3 : (cs.take (i * 5) ++ cv ++ zs.drop 5).take ((i + 1) * 5) ++ cs.drop (i * 5) ++ (cs.take (i * 5) ++ cv ++ zs.drop 5).drop ((i + 1) * 5 + (cs.drop (i * 5)).length) = cs.take (i * 5) ++ cv ++ cs.drop (i * 5) := by
        rw [List.take_left' (by rw [List.length_append, hX1, hvl]; omega), List.drop_of_length_le (l := cs.take (i * 5) ++ cv ++ zs.drop 5) (by simp only [List.length_append, List.length_drop, hX1, hzl, hvl]; omega), List.append_nil]
      have H : Holds w11_8 (row 32 5 (.slice (some ⟨b40, 0, none⟩) (i + (n + 1 - i)) c40) (i + (n + 1 - i)) ((cs.take (i * 5) ++ cv ++ zs.drop 5).take ((i + 1) * 5) ++ cs.drop (i * 5) ++ (cs.take (i * 5) ++ cv ++ zs.drop 5).drop ((i + 1) * 5 + (cs.drop (i * 5)).length)) :: row 32 5 (.slice a n c) n cs :: row 32 5 (.slice (some ⟨bv, 0, none⟩) 1 1) 1 cv :: L) := H
      rw [hX3, show i + (n + 1 - i) = n + 1 by omega] at H
      rw [show i + (n + 1 - i) = n + 1 by omega]
      exact H.sub (.cons_cons _ (.cons _ (.cons _ (.refl _))))
    · refine W_region ?_
      refine OL_y (y_move rfl) (by decide) ?_
      refine OL_y (y_move rfl) (by decide) ?_
      refine OL_y (y_add64' ((n + 1 : Nat) : Int) rfl rfl (by omega) (by omega) (by omega)) (by decide) ?_
      refine OL_y (y_move rfl) (by decide) ?_
      refine OL_y (y_cap rfl ti53 rfl) (by decide) ?_
      refine OL_y (v := .bool false) (y_gtrF hg rfl rfl) (by decide) ?_
      refine OL_nil ?_
      refine W_condf rfl ?_
      refine W_skip ?_
      refine W_seq ?_
      refine W_region ?_
      refine OL_y (y_move rfl) (by decide) ?_
      refine OL_y (y_move rfl) (by decide) ?_
      refine OL_y (y_move rfl) (by decide) ?_
      refine OL_y (y_add64' ((n + 1 : Nat) : Int) rfl rfl (by omega) (by omega) (by omega)) (by decide) ?_
      refine OL_y (y_sliceH0 ti53 ti32 rfl rfl (by omega) (by omega)) (by decide) ?_
      refine OL_y (y_assign rfl) (by decide) ?_
      refine OL_nil ?_
      have hca : a ≠ none := by
        rintro rfl
        rcases (H.getRow 0 rfl).2 with ⟨_, h0⟩ | ⟨g', cap, cur, hv, _⟩
        · omega
        · injection hv with hv _ _; cases hv
      have hr0 := H.getRow 0 rfl
      have hr1 := H.getRow 1 rfl
      obtain ⟨ba, ca, hva, -, -⟩ := ownsRow_cells hr0 (by omega)
      injection hva with hva1 _ hva2
      subst hva1 hva2
      obtain ⟨xs, hxl, H⟩ := H.rowWiden 0 (k := 1) rfl (by simp) (by omega)
      have hcc : n + 1 ≤ c := by omega
      have hXl : (cs ++ xs).length = (n + 1) * 5 := by rw [List.length_append, hcl, hxl]; omega
      have hYl : ((cs ++ xs).take ((i + 1) * 5)).length = (i + 1) * 5 := by rw [List.length_take, hXl]; omega
      have hY0 : ((cs ++ xs).drop (i * 5)).take ((n + 1 - (i + 1)) * 5) = cs.drop (i * 5) := by
        rw [List.drop_append_of_le_length (by omega)]; exact List.take_left' (by rw [List.length_drop]; omega)
      have hY : (cs ++ xs).take ((i + 1) * 5) ++ ((cs ++ xs).drop (i * 5)).take ((n + 1 - (i + 1)) * 5) ++ (cs ++ xs).drop ((i + 1) * 5 + (n + 1 - (i + 1)) * 5) = (cs ++ xs).take ((i + 1) * 5) ++ cs.drop (i * 5) := by
        have e3 : (cs ++ xs).drop ((i + 1) * 5 + (n + 1 - (i + 1)) * 5) = [] := List.drop_of_length_le (by rw [hXl]; omega)
        rw [hY0, e3, List.append_nil]
      have hst : ∀ u ∈ ((cs ++ xs).drop (i * 5)).take ((n + 1 - (i + 1)) * 5), u.oneCell' = true := by rw [hY0]; exact fun u hu => h1 u (List.mem_of_mem_drop hu)
      have hab : bv ≠ ba := fun h => (List.pairwise_cons.1 H.apart).1 _ (List.mem_cons_self ..) (.inl rfl) ba rfl (by rw [h]; rfl)
      refine W_seq ?_
      refine W_seq ?_
      refine W_region ?_
      refine OL_y (y_move rfl) (by decide) ?_
      refine OL_y (y_move rfl) (by decide) ?_
      refine OL_y (y_move rfl) (by decide) ?_
      refine OL_y (y_move rfl) (by decide) ?_
      refine OL_y (y_add64' ((i + 1 : Nat) : Int) rfl rfl (by omega) (by omega) (by omega)) (by decide) ?_
      refine OL_y (y_sliceL ti53 ti32 rfl rfl (by omega) (by omega)) (by decide) ?_
      obtain ⟨Ca, hCa⟩ := rowBlk (H.getRow 1 rfl)
      obtain ⟨Cb, hCb, hCbl⟩ := rowBlk0 (H.getRow 0 rfl) (by omega)
      refine OL_c (op_overlaps (tR := 4) (tS := 53) 72 Try.func72 (by kernel_rfl) (by kernel_rfl) (by kernel_rfl) (by kernel_rfl) Try.underlying53 ti32 hCa hCb hab hCbl rfl (congrArg (Value.slice · _ _) (cut_some (by omega))) (by decide) ?_)
      refine OL_y (y_not (b := false) rfl) (by decide) ?_
      refine OL_nil ?_
      refine W_condt rfl ?_
      refine W_seq ?_
      refine W_drawD H mixed (by kernel_rfl) [] (fun w0 w' => True) fun wd15 H hEd => ?_
      refine DA_p 0 rfl (by kernel_rfl) rfl (fun _ => y_move rfl) (fun _ => trivial) (by decide) fun _ => ?_
      refine DA_p 1 rfl (by kernel_rfl) rfl (fun _ => y_move rfl) (fun _ => trivial) (by decide) fun _ => ?_
      refine DA_p 2 rfl (by kernel_rfl) rfl (fun _ => y_move rfl) (fun _ => trivial) (by decide) fun _ => ?_
      refine DA_p 3 rfl (by kernel_rfl) rfl (fun _ => y_add64' ((i + 1 : Nat) : Int) rfl rfl (by omega) (by omega) (by omega)) (fun _ => trivial) (by decide) fun _ => ?_
      refine DA_p 4 rfl (by kernel_rfl) rfl (fun _ => y_sliceL ti53 ti32 rfl rfl (by omega) (by omega)) (fun _ => trivial) (by decide) fun _ => ?_
      refine DA_p 5 rfl (by kernel_rfl) rfl (fun _ => y_move rfl) (fun _ => trivial) (by decide) fun _ => ?_
      refine DA_p 6 rfl (by kernel_rfl) rfl (fun _ => y_move rfl) (fun _ => trivial) (by decide) fun _ => ?_
      refine DA_p 7 rfl (by kernel_rfl) rfl (fun _ => y_sliceL ti53 ti32 rfl rfl (by omega) (by omega)) (fun _ => trivial) (by decide) fun _ => ?_
      refine DA_one 8 (by kernel_rfl) rfl (op_copyD (k := n + 1 - i) (news := (cs ++ xs).drop (i * 5)) H 0 rfl rfl rfl Try.underlying53 ti32 (congrArg (Value.slice · _ _) (cut_some (by omega))) rfl (Src.dropRow (H.getRow 0 rfl) i (by omega)) (by rw [List.length_drop, hXl]; omega) (by omega) (by omega) (by rw [hXl]; omega) hst (by decide) fun w15_8 H => ⟨fun _ => trivial, ?_⟩)
      have H : Holds w15_8 (row 32 5 (.slice (some ⟨ba, 0, none⟩) (n + 1) c) (n + 1) ((cs ++ xs).take ((i + 1) * 5) ++ ((cs ++ xs).drop (i * 5)).take ((n + 1 - (i + 1)) * 5) ++ (cs ++ xs).drop ((i + 1) * 5 + (n + 1 - (i + 1)) * 5)) :: row 32 5 (.slice (some ⟨bv, 0, none⟩) 1 1) 1 cv :: L) := H
      rw [hY] at H
      refine DA_done (by kernel_rfl) ?_
      refine W_seq ?_
      refine W_region ?_
      refine OL_y (y_move rfl) (by decide) ?_
      refine OL_y (y_move rfl) (by decide) ?_
      refine OL_y (y_sliceL ti53 ti32 rfl rfl (by omega) (by omega)) (by decide) ?_
      refine OL_y (y_move rfl) (by decide) ?_
      refine OL_c (op_copy (news := cv) H 0 rfl rfl rfl Try.underlying53 ti32 (congrArg (Value.slice · _ _) (cut_some (by omega))) rfl (Src.row (H.getRow 1 rfl)) hvl (by omega) (by rw [List.length_append, hYl, List.length_drop]; omega) h1v (by decide) fun w16_4 H => ?_)
      refine OL_nil ?_
      refine W_seq ?_
      refine W_region ?_
      refine OL_y (y_move rfl) (by decide) ?_
      refine OL_y (y_assign rfl) (by decide) ?_
      refine OL_nil ?_
      refine W_ret ?_
      show RetOK _ _ _ _ _ _
      refine ret1 (v := .slice (some ⟨ba, 0, none⟩) (n + 1) c) Try.results53 rfl ⟨_, rfl, ?_⟩
      have H : Holds w16_4 (row 32 5 (.slice (some ⟨ba, 0, none⟩) (n + 1) c) (n + 1) (((cs ++ xs).take ((i + 1) * 5) ++ cs.drop (i * 5)).take (i * 5) ++ cv ++ ((cs ++ xs).take ((i + 1) * 5) ++ cs.drop (i * 5)).drop (i * 5 + cv.length)) :: row 32 5 (.slice (some ⟨bv, 0, none⟩) 1 1) 1 cv :: L) := H
      have e1 : ((cs ++ xs).take ((i + 1) * 5) ++ cs.drop (i * 5)).take (i * 5) = cs.take (i * 5) := by
        rw [List.take_append_of_le_length (by rw [hYl]; omega), List.take_take, Nat.min_eq_left (by omega), List.take_append_of_le_length (by omega)]
      have e2 : ((cs ++ xs).take ((i + 1) * 5) ++ cs.drop (i * 5)).drop (i * 5 + cv.length) = cs.drop (i * 5) := List.drop_left' (by rw [hYl, hvl]; omega)
      rw [e1, e2] at H
      exact H.sub (.cons_cons _ (.cons _ (.refl _)))
end Go.Proofs.Ytpandioolpnihaa

namespace Go.Proofs.Ytpandioolpnihaa
open Go Go.Wk
set_option linter.unusedVariables false
set_option linter.unusedSimpArgs false

def noV : Ver := ⟨0, 0, false, [], []⟩
/-- A store: versions of each key, later ones first; an intent of each key (txn 0: none). -/
structure Abs where
  v : ByteArray → List Ver
  i : ByteArray → Ver
def Abs.setV (a : Abs) (k : ByteArray) (vs : List Ver) : Abs := ⟨fun x => if x = k then vs else a.v x, a.i⟩
def Abs.setI (a : Abs) (k : ByteArray) (u : Ver) : Abs := ⟨a.v, fun x => if x = k then u else a.i x⟩
def Abs.empty : Abs := ⟨fun _ => [], fun _ => noV⟩
/-- A version is put among others. -/
def putV (vs : List Ver) (u : Ver) : List Ver :=
  if hasV vs u.ts then vs.set (posV vs u.ts) u else vs.take (posV vs u.ts) ++ ([u] ++ vs.drop (posV vs u.ts))
def Abs.put (a : Abs) (k : ByteArray) (u : Ver) : Abs := a.setV k (putV (a.v k) u)
/-- In order, and no more than n of a key. -/
def Abs.Ok (a : Abs) (n : Nat) : Prop := ∀ k, Sd (a.v k) ∧ (a.v k).length ≤ n

theorem pos_lo {vs : List Ver} {ts : Int} {v : Ver} (h : v ∈ vs.take (posV vs ts)) : ts < v.ts := by
  have e : vs.take (posV vs ts) = vs.takeWhile (fun v => decide (ts < v.ts)) := by
    unfold posV
    conv => lhs; rw [← List.takeWhile_append_dropWhile (p := fun v => decide (ts < v.ts)) (l := vs)]
    rw [List.takeWhile_append_dropWhile]
    have := List.take_left (l₁ := vs.takeWhile (fun v => decide (ts < v.ts))) (l₂ := vs.dropWhile (fun v => decide (ts < v.ts)))
    rwa [List.takeWhile_append_dropWhile] at this
  rw [e] at h
  have := List.all_takeWhile (p := fun v => decide (ts < v.ts)) (l := vs)
  rw [List.all_eq_true] at this
  simpa using this v h
theorem pos_at {vs : List Ver} {ts : Int} {v : Ver} (h : vs[posV vs ts]? = some v) : v.ts ≤ ts := by
  unfold posV at h
  have hd : vs.takeWhile (fun v => decide (ts < v.ts)) ++ vs.dropWhile (fun v => decide (ts < v.ts)) = vs := List.takeWhile_append_dropWhile
  have hw := List.head?_dropWhile_not (fun v => decide (ts < v.ts)) vs
  generalize vs.takeWhile (fun v => decide (ts < v.ts)) = T at *
  generalize vs.dropWhile (fun v => decide (ts < v.ts)) = D at *
  subst hd
  rw [List.getElem?_append_right (Nat.le_refl _), Nat.sub_self] at h
  cases D with
  | nil => cases h
  | cons u l =>
    injection h with h; subst h
    simpa using hw
theorem pos_hi {vs : List Ver} (hs : Sd vs) {ts : Int} {v : Ver} (h : v ∈ vs.drop (posV vs ts)) : v.ts ≤ ts := by
  cases hg : vs[posV vs ts]? with
  | none => rw [List.drop_of_length_le (List.getElem?_eq_none_iff.1 hg)] at h; cases h
  | some u =>
    have h1 := (sd_take hs hg).2 v h
    have h2 := pos_at hg
    omega
theorem put_sd {vs : List Ver} (hs : Sd vs) (u : Ver) : Sd (putV vs u) := by
  have hsplit : vs = vs.take (posV vs u.ts) ++ vs.drop (posV vs u.ts) := (List.take_append_drop _ _).symm
  have hT : Sd (vs.take (posV vs u.ts)) := hs.sublist (List.take_sublist _ _)
  have key : ∀ R : List Ver, Sd R → (∀ r ∈ R, r.ts < u.ts) → Sd (vs.take (posV vs u.ts) ++ ([u] ++ R)) := by
    intro R hR hlt
    refine List.pairwise_append.2 ⟨hT, List.pairwise_cons.2 ⟨fun r hr => hlt r hr, hR⟩, fun a ha b hb => ?_⟩
    have h1 := pos_lo ha
    rcases List.mem_cons.1 hb with rfl | hb
    · exact h1
    · have := hlt b hb; omega
  unfold putV
  split
  · rename_i hh
    unfold hasV at hh
    cases hg : vs[posV vs u.ts]? with
    | none => rw [hg] at hh; cases hh
    | some w =>
      rw [hg] at hh
      have hw : w.ts = u.ts := by simpa using hh
      obtain ⟨hlt, he⟩ := List.getElem?_eq_some_iff.1 hg
      rw [List.set_eq_take_append_cons_drop, if_pos hlt]
      refine key _ (hs.sublist (List.drop_sublist _ _)) fun r hr => ?_
      have hd : vs.drop (posV vs u.ts) = w :: vs.drop (posV vs u.ts + 1) := by rw [List.drop_eq_getElem_cons hlt, he]
      have hp : Sd (vs.drop (posV vs u.ts)) := hs.sublist (List.drop_sublist _ _)
      rw [hd] at hp
      have := (List.pairwise_cons.1 hp).1 r hr
      omega
  · rename_i hh
    refine key _ (hs.sublist (List.drop_sublist _ _)) fun r hr => ?_
    have h1 := pos_hi hs hr
    have hne : ∀ w, vs[posV vs u.ts]? = some w → w.ts ≠ u.ts := fun w hg e => hh (by unfold hasV; rw [hg]; simp [e])
    cases hg : vs[posV vs u.ts]? with
    | none => rw [List.drop_of_length_le (List.getElem?_eq_none_iff.1 hg)] at hr; cases hr
    | some w =>
      have h2 := (sd_take hs hg).2 r hr
      have h3 := pos_at hg
      have h4 := hne w hg
      omega
theorem put_len (vs : List Ver) (u : Ver) : (putV vs u).length ≤ vs.length + 1 := by
  unfold putV; split
  · simp
  · simp only [List.length_append, List.length_take, List.length_drop, List.length_cons, List.length_nil]; omega
theorem Abs.Ok.put {a : Abs} {n : Nat} (h : a.Ok n) (k : ByteArray) (u : Ver) : (a.put k u).Ok (n + 1) := by
  intro x
  show Sd (if x = k then _ else _) ∧ (if x = k then _ else _ : List Ver).length ≤ _
  split
  · exact ⟨put_sd (h k).1 u, Nat.le_trans (put_len _ _) (by have := (h k).2; omega)⟩
  · exact ⟨(h x).1, by have := (h x).2; omega⟩

/-- An entry of the code's versions: its key, its slice, its cells, what they are. -/
structure Ent where
  key : ByteArray
  v : Value
  cs : List Value
  vers : List Ver
abbrev Ent.kv (e : Ent) : ByteArray × Value := (e.key, e.v)
abbrev Ent.atom (e : Ent) : Atom := row 32 5 e.v e.vers.length e.cs
structure Itn where
  key : ByteArray
  cs : List Value
  ver : Ver
abbrev Itn.kv (e : Itn) : ByteArray × Value := (e.key, .agg e.cs.toArray)
/-- The code's store at b, with its maps at b1 and b2. -/
abbrev cAt (b b1 b2 : Nat) (E : List Ent) (I : List Itn) (F : Nat → Prop) (Wp w0 : World) (L : List Atom) : List Atom :=
  own b (.cells #[.map (some b1), .map (some b2)] 98) :: mp Value.string b1 (E.map Ent.kv) :: mp Value.string b2 (I.map Itn.kv) :: exc F Wp :: shr (fun k => k < w0.heap.size) w0 :: (E.map Ent.atom ++ L)
structure CRep (w0 : World) (F : Nat → Prop) (Wp : World) (E : List Ent) (I : List Itn) (a : Abs) : Prop where
  base : Ext none' w0 Wp
  ev : ∀ e ∈ E, Els tVer (Dz w0 F) Wp e.cs e.vers
  en : ∀ e ∈ E, e.vers ≠ []
  nd : (E.map (·.key)).Nodup
  va : ∀ e ∈ E, a.v e.key = e.vers
  vn : ∀ k, k ∉ E.map (·.key) → a.v k = []
  iv : ∀ i ∈ I, tVer.R (Dz w0 F) Wp i.cs i.ver ∧ i.ver.txn ≠ 0
  ind : (I.map (·.key)).Nodup
  ia : ∀ i ∈ I, a.i i.key = i.ver
  inn : ∀ k, k ∉ I.map (·.key) → a.i k = noV
  ek : ∀ e ∈ E, e.key.size ≤ 140737488351232
  ik : ∀ i ∈ I, i.key.size ≤ 140737488351232
theorem CRep.grow {w0 Wp Wp' : World} {F F' : Nat → Prop} {E : List Ent} {I : List Itn} {a : Abs} (h : CRep w0 F Wp E I a) (g : Grow w0 F Wp F' Wp') : CRep w0 F' Wp' E I a :=
  ⟨g.base, fun e he => g.els (h.ev e he), h.en, h.nd, h.va, h.vn, fun i hi => ⟨g.R (h.iv i hi).1, (h.iv i hi).2⟩, h.ind, h.ia, h.inn, h.ek, h.ik⟩
theorem nd_split {E1 E2 : List Ent} {e : Ent} (h : ((E1 ++ e :: E2).map (·.key)).Nodup) : ∀ x, x ∈ E1 ++ E2 → x.key ≠ e.key := by
  intro x hx hk
  rw [List.map_append, List.map_cons] at h
  have h1 := List.nodup_append.1 h
  rcases List.mem_append.1 hx with hx | hx
  · exact h1.2.2 _ (List.mem_map.2 ⟨x, hx, rfl⟩) _ (by simp) hk
  · exact (List.nodup_cons.1 h1.2.1).1 (List.mem_map.2 ⟨x, hx, hk⟩)
/-- An entry is replaced. -/
theorem CRep.rep {w0 Wp : World} {F : Nat → Prop} {E1 E2 : List Ent} {I : List Itn} {a : Abs} {e : Ent} (h : CRep w0 F Wp (E1 ++ e :: E2) I a) (v : Value) (cs : List Value) (vers : List Ver) (hE : Els tVer (Dz w0 F) Wp cs vers) (hn : vers ≠ []) :
    CRep w0 F Wp (E1 ++ ⟨e.key, v, cs, vers⟩ :: E2) I (a.setV e.key vers) := by
  have hs := nd_split h.nd
  have hm : ∀ x, x ∈ E1 ++ (⟨e.key, v, cs, vers⟩ : Ent) :: E2 → x = ⟨e.key, v, cs, vers⟩ ∨ x ∈ E1 ++ E2 := fun x hx => by
    rcases List.mem_append.1 hx with hx | hx
    · exact .inr (List.mem_append.2 (.inl hx))
    · rcases List.mem_cons.1 hx with hx | hx
      · exact .inl hx
      · exact .inr (List.mem_append.2 (.inr hx))
  have hm2 : ∀ x, x ∈ E1 ++ E2 → x ∈ E1 ++ e :: E2 := fun x hx => by rcases List.mem_append.1 hx with hx | hx <;> simp [hx]
  have hkeys : (E1 ++ (⟨e.key, v, cs, vers⟩ : Ent) :: E2).map (·.key) = (E1 ++ e :: E2).map (·.key) := by simp
  refine ⟨h.base, fun x hx => ?_, fun x hx => ?_, by rw [hkeys]; exact h.nd, fun x hx => ?_, fun k hk => ?_, h.iv, h.ind, h.ia, h.inn, fun x hx => (hm x hx).elim (fun q => by rw [q]; exact h.ek e (by simp)) (fun hx => h.ek x (hm2 x hx)), h.ik⟩
  · rcases hm x hx with rfl | hx
    · exact hE
    · exact h.ev x (hm2 x hx)
  · rcases hm x hx with rfl | hx
    · exact hn
    · exact h.en x (hm2 x hx)
  · rcases hm x hx with rfl | hx
    · exact if_pos rfl
    · exact (if_neg (hs x hx)).trans (h.va x (hm2 x hx))
  · rw [hkeys] at hk
    exact (if_neg fun e' => hk (by rw [e']; simp)).trans (h.vn k hk)
/-- An entry comes to the others. -/
theorem CRep.add {w0 Wp : World} {F : Nat → Prop} {E : List Ent} {I : List Itn} {a : Abs} (h : CRep w0 F Wp E I a) (k : ByteArray) (hk : k ∉ E.map (·.key)) (hkz : k.size ≤ 140737488351232) (v : Value) (cs : List Value) (vers : List Ver) (hE : Els tVer (Dz w0 F) Wp cs vers) (hn : vers ≠ []) :
    CRep w0 F Wp (E ++ [⟨k, v, cs, vers⟩]) I (a.setV k vers) := by
  have hm : ∀ x, x ∈ E ++ [(⟨k, v, cs, vers⟩ : Ent)] → x = ⟨k, v, cs, vers⟩ ∨ x ∈ E := fun x hx => by rcases List.mem_append.1 hx with hx | hx <;> simp_all
  have hne : ∀ x ∈ E, x.key ≠ k := fun x hx e => hk (List.mem_map.2 ⟨x, hx, e⟩)
  refine ⟨h.base, fun x hx => ?_, fun x hx => ?_, ?_, fun x hx => ?_, fun k' hk' => ?_, h.iv, h.ind, h.ia, h.inn, fun x hx => (hm x hx).elim (fun q => by rw [q]; exact hkz) (h.ek x), h.ik⟩
  · rcases hm x hx with rfl | hx
    · exact hE
    · exact h.ev x hx
  · rcases hm x hx with rfl | hx
    · exact hn
    · exact h.en x hx
  · rw [List.map_append, List.nodup_append]
    refine ⟨h.nd, by simp, fun x hx y hy e => ?_⟩
    simp only [List.map_cons, List.map_nil, List.mem_singleton] at hy
    exact hk (by rw [← hy, ← e]; exact hx)
  · rcases hm x hx with rfl | hx
    · exact if_pos rfl
    · exact (if_neg (hne x hx)).trans (h.va x hx)
  · rw [List.map_append, List.mem_append, not_or] at hk'
    exact (if_neg fun e => hk'.2 (by simp [e])).trans (h.vn k' hk'.1)
theorem mset_ent {E1 E2 : List Ent} {e : Ent} (h : ((E1 ++ e :: E2).map (·.key)).Nodup) (v : Value) (cs : List Value) (vers : List Ver) : mset ((E1 ++ e :: E2).map Ent.kv) e.key v = (E1 ++ (⟨e.key, v, cs, vers⟩ : Ent) :: E2).map Ent.kv := by
  have hs := nd_split h
  have hin : e.key ∈ ((E1 ++ e :: E2).map Ent.kv).map (·.1) := by simp
  unfold mset
  rw [if_pos hin]
  have hid : ∀ l : List Ent, (∀ x ∈ l, x.key ≠ e.key) → (l.map Ent.kv).map (fun x => if x.1 = e.key then (e.key, v) else x) = l.map Ent.kv := fun l hl => by
    rw [List.map_map]; apply List.map_congr_left; intro x hx; exact if_neg (hl x hx)
  rw [List.map_append, List.map_append, List.map_cons, List.map_cons, hid E1 fun x hx => hs x (List.mem_append.2 (.inl hx)), hid E2 fun x hx => hs x (List.mem_append.2 (.inr hx)), List.map_append, List.map_cons, if_pos rfl]
theorem mset_new {E : List Ent} {k : ByteArray} (hk : k ∉ E.map (·.key)) (v : Value) (cs : List Value) (vers : List Ver) : mset (E.map Ent.kv) k v = (E ++ [(⟨k, v, cs, vers⟩ : Ent)]).map Ent.kv := by
  unfold mset
  rw [if_neg (by rw [List.map_map]; exact hk), List.map_append]; rfl
theorem mget_ent {E1 E2 : List Ent} {e : Ent} (h : ((E1 ++ e :: E2).map (·.key)).Nodup) : mget ((E1 ++ e :: E2).map Ent.kv) e.key = some e.v := by
  have hs := nd_split h
  unfold mget
  rw [List.map_append, List.find?_append]
  have h1 : (E1.map Ent.kv).find? (fun x => decide (x.1 = e.key)) = none := by
    rw [List.find?_eq_none]
    intro x hx
    obtain ⟨y, hy, rfl⟩ := List.mem_map.1 hx
    simpa using hs y (List.mem_append.2 (.inl hy))
  rw [h1, List.map_cons, List.find?_cons]; simp
end Go.Proofs.Ytpandioolpnihaa

namespace Go.Proofs.Ytpandioolpnihaa
open Go Go.Wk
set_option linter.unusedVariables false
set_option linter.unusedSimpArgs false

theorem CRep.new {w0 : World} {F : Nat → Prop} {Wp : World} (h : Ext none' w0 Wp) : CRep w0 F Wp [] [] Abs.empty :=
  ⟨h, by simp, by simp, by simp, by simp, fun _ _ => rfl, by simp, by simp, by simp, fun _ _ => rfl, by simp, by simp⟩

set_option maxHeartbeats 4000000 in
theorem f16_calls {Z Z' : Nat → Prop} {w : World} {va vb : Value} {xs ys : List Key} (hx : SlR tKey 24 Z w va xs) (hy : SlR tKey 24 Z' w vb ys) :
    Calls Try.prog 16 [va, vb].toArray w fun e w' => e = .returned (.bool (decide (xs = ys))) ∧ Ext none' w w' := by
  have H := Holds.start w
  have hN := hx.len1 (by decide)
  have hM := hy.len1 (by decide)
  have hki := keys_in hx
  have hkj := keys_in hy
  obtain ⟨a0, c0, rfl, hl0, hm0⟩ := hx.len
  obtain ⟨a1, c1, rfl, hl1, hm1⟩ := hy.len
  refine calls_of_W' Try.func16 rfl Try.ntmps16 rfl ?_
  refine W_seq ?_
  refine W_region ?_
  refine OL_y (v := .bool false) (y_assign rfl) (by decide) ?_
  refine OL_nil ?_
  refine W_seq ?_
  refine W_seq ?_
  refine W_region ?_
  refine OL_y (y_move rfl) (by decide) ?_
  refine OL_y (y_len rfl ti30 rfl) (by decide) ?_
  refine OL_y (y_move rfl) (by decide) ?_
  refine OL_y (y_len rfl ti30 rfl) (by decide) ?_
  refine OL_y (y_neq rfl rfl) (by decide) ?_
  refine OL_nil ?_
  refine W_cond rfl (fun hc => ?_) (fun hc => ?_)
  · refine W_seq ?_
    refine W_region ?_
    refine OL_y (v := .bool false) (y_assign rfl) (by decide) ?_
    refine OL_nil ?_
    refine W_ret ?_
    show RetOK _ _ _ _ _ _
    have hc := of_decide_eq_true hc
    exact ret1 (v := .bool false) Try.results16 rfl ⟨by rw [decide_eq_false (fun h => hc (by rw [h]))], H.ext_of 0 rfl⟩
  · refine W_skip ?_
    refine W_seq ?_
    refine W_seq ?_
    have hlen : xs.length = ys.length := by have := of_decide_eq_false hc; omega
    refine W_region ?_
    refine OL_y (y_move rfl) (by decide) ?_
    refine OL_y (y_len rfl ti30 rfl) (by decide) ?_
    refine OL_y (y_move rfl) (by decide) ?_
    refine OL_nil ?_
    refine W_range (N := xs.length) (by omega) (fun j f ds w' => f 0 = .slice a0 xs.length c0 ∧ f 1 = .slice a1 ys.length c1 ∧ ds = [] ∧ xs.take j = ys.take j ∧ Holds w' [shr (fun k => k < w.heap.size) w])
        ⟨rfl, rfl, rfl, by simp, H⟩
        rfl rfl (by decide) (by decide) (by decide) rfl rfl ?_ rfl rfl ?_
    · rintro j f ds w2 hj ⟨h0, h1, rfl, heq, H⟩ hti htn
      have hxj := List.getElem?_eq_getElem hj
      have hyj : ys[j]? = some (ys[j]'(by omega)) := List.getElem?_eq_getElem (by omega)
      obtain ⟨b2, o2, cs2, e2, hz2, hc2, hr2⟩ := hx.at hxj
      obtain ⟨b3, o3, cs3, e3, hz3, hc3, hr3⟩ := hy.at hyj
      obtain ⟨v2, rfl, hv2⟩ := hr2
      obtain ⟨v3, rfl, hv3⟩ := hr3
      have htx : xs.take (j + 1) = xs.take j ++ [xs[j]] := by rw [List.take_add_one, hxj]; rfl
      have hty : ys.take (j + 1) = ys.take j ++ [ys[j]'(by omega)] := by rw [List.take_add_one, hyj]; rfl
      have hix := hki _ (List.mem_of_getElem? hxj)
      have hiy := hkj _ (List.mem_of_getElem? hyj)
      generalize xs[j] = k1 at *
      generalize ys[j]'(by omega) = k2 at *
      refine W_block ?_
      refine W_seq ?_
      refine W_region ?_
      refine OL_y (y_move hti) (by decide) ?_
      refine OL_y (y_assign rfl) (by decide) ?_
      refine OL_nil ?_
      refine W_seq ?_
      refine W_drawD H mixed (by kernel_rfl) [] (fun wq w' => Holds w' [shr (fun k => k < w.heap.size) w]) fun wd6 H hEd => ?_
      have hS : ∀ {ls : Array Bool}, Sx [] (fun w' => Holds w' [shr (fun k => k < w.heap.size) w]) ls wd6 := fun {_} _ => H
      refine DA_p 0 rfl (by kernel_rfl) rfl (fun _ => y_move h0) hS (by decide) fun hS => ?_
      refine DA_p 1 rfl (by kernel_rfl) rfl (fun _ => y_move rfl) hS (by decide) fun hS => ?_
      refine DA_p 2 rfl (by kernel_rfl) rfl (fun _ => y_indexAddr ti30 ti23 (congrArg (Value.slice · _ _) e2) rfl (by omega) (by omega)) hS (by decide) fun hS => ?_
      refine DA_y 3 rfl (by kernel_rfl) rfl (by kernel_rfl) (fun w' h => y_loadS (v := v2) ti23 rfl rfl (hc2.ext ((h.keepsAll 0 rfl Z).2 _ hz2 hc2.lt))) hS (by decide) fun hS => ?_
      refine DA_y 4 rfl (by kernel_rfl) rfl (by kernel_rfl) (fun w' h => y_toStr (w := w') Try.underlying23 Try.underlying5 Try.underlying9 rfl (hv2.keeps (h.keepsAll 0 rfl _))) hS (by decide) fun hS => ?_
      refine DA_p 5 rfl (by kernel_rfl) rfl (fun _ => y_move h1) hS (by decide) fun hS => ?_
      refine DA_p 6 rfl (by kernel_rfl) rfl (fun _ => y_move rfl) hS (by decide) fun hS => ?_
      refine DA_p 7 rfl (by kernel_rfl) rfl (fun _ => y_indexAddr ti30 ti23 (congrArg (Value.slice · _ _) e3) rfl (by omega) (by omega)) hS (by decide) fun hS => ?_
      refine DA_y 8 rfl (by kernel_rfl) rfl (by kernel_rfl) (fun w' h => y_loadS (v := v3) ti23 rfl rfl (hc3.ext ((h.keepsAll 0 rfl Z').2 _ hz3 hc3.lt))) hS (by decide) fun hS => ?_
      refine DA_y 9 rfl (by kernel_rfl) rfl (by kernel_rfl) (fun w' h => y_toStr (w := w') Try.underlying23 Try.underlying5 Try.underlying9 rfl (hv3.keeps (h.keepsAll 0 rfl _))) hS (by decide) fun hS => ?_
      refine DA_p 10 rfl (by kernel_rfl) rfl (fun _ => y_neqS rfl rfl) hS (by decide) fun hS => ?_
      refine DA_done (by kernel_rfl) ?_
      refine W_cond rfl (fun hc => ?_) (fun hc => ?_)
      · refine W_seq ?_
        refine W_region ?_
        refine OL_y (v := .bool false) (y_assign rfl) (by decide) ?_
        refine OL_nil ?_
        refine W_ret ?_
        show RetOK _ _ _ _ _ _
        have hne : kb k1 ≠ kb k2 := by simpa using hc
        refine ret1 (v := .bool false) Try.results16 rfl ⟨?_, H.ext_of 0 rfl⟩
        rw [decide_eq_false]
        intro h
        subst h
        rw [hxj] at hyj
        injection hyj with hyj
        exact hne (by rw [hyj])
      · refine W_skip ?_
        have hee : kb k1 = kb k2 := by simpa using hc
        have hk12 : k1 = k2 := kb_inj hix hiy hee
        exact ⟨hti, htn, h0, h1, rfl, by rw [htx, hty, heq, hk12], H⟩
    · rintro f ds w2 ⟨h0, h1, rfl, heq, H⟩ hti htn
      rw [List.take_length, hlen, List.take_length] at heq
      refine W_seq ?_
      refine W_region ?_
      refine OL_y (v := .bool true) (y_assign rfl) (by decide) ?_
      refine OL_nil ?_
      refine W_ret ?_
      show RetOK _ _ _ _ _ _
      exact ret1 (v := .bool true) Try.results16 rfl ⟨by rw [decide_eq_true heq], H.ext_of 0 rfl⟩
theorem y_eqlBT {P : Program} {d t t' ty : Nat} {p : String} {af : Array Edge} {g : Option (Nat × Bool)} {f : Fr} {x y : Operand} {w : World} {a b : Bool} (ht : P.underlying t = some .bool) (h : a = b) (hx : ev f x = .bool a) (hy : ev f y = .bool b) : Yd P ⟨some d, .binOp .eql t x y t', ty, p, af, g⟩ f w (.bool true) := by
  have := y_eqlB (P := P) (w := w) (d := d) (t := t) (t' := t') (ty := ty) (p := p) (af := af) (g := g) ht hx hy
  subst h; rwa [beq_self_eq_true] at this
theorem y_eqlBF {P : Program} {d t t' ty : Nat} {p : String} {af : Array Edge} {g : Option (Nat × Bool)} {f : Fr} {x y : Operand} {w : World} {a b : Bool} (ht : P.underlying t = some .bool) (h : a ≠ b) (hx : ev f x = .bool a) (hy : ev f y = .bool b) : Yd P ⟨some d, .binOp .eql t x y t', ty, p, af, g⟩ f w (.bool false) := by
  have := y_eqlB (P := P) (w := w) (d := d) (t := t) (t' := t') (ty := ty) (p := p) (af := af) (g := g) ht hx hy
  rwa [beq_false_of_ne h] at this

set_option maxHeartbeats 4000000 in
theorem f15_calls {Z Z' : Nat → Prop} {w : World} {c1 c2 : List Value} {u v : Ver} (hu : tVer.R Z w c1 u) (hv : tVer.R Z' w c2 v) :
    Calls Try.prog 15 [.agg c1.toArray, .agg c2.toArray].toArray w fun e w' => e = .returned (.bool (decide (u = v))) ∧ Ext none' w w' := by
  have H := Holds.start w
  obtain ⟨uv, uk, rfl, hu1, hu2, hu3, hu4⟩ := ver_cells.1 hu
  obtain ⟨vv, vk, rfl, hv1, hv2, hv3, hv4⟩ := ver_cells.1 hv
  refine calls_of_W' Try.func15 rfl Try.ntmps15 rfl ?_
  refine W_seq ?_
  refine W_region ?_
  refine OL_c (op_box (v := .agg #[.int .u64 u.ts, .int .u64 u.txn, .bool u.dead, uv, uk]) H rfl (by decide) fun b2 w0_0 H => ?_)
  refine OL_c (op_box (v := .agg #[.int .u64 v.ts, .int .u64 v.txn, .bool v.dead, vv, vk]) H rfl (by decide) fun b3 w0_1 H => ?_)
  refine OL_y (v := .bool false) (y_assign rfl) (by decide) ?_
  refine OL_nil ?_
  refine W_seq ?_
  by_cases h1 : u.ts = v.ts
  · by_cases h2 : u.txn = v.txn
    · by_cases h3 : u.dead = v.dead
      · by_cases h4 : u.val = v.val
        · refine W_region ?_
          refine OL_y (y_fieldAddr ti32 rfl ti24 rfl rfl) (by decide) ?_
          refine OL_y (y_loadS (v := .int .u64 u.ts) ti24 rfl rfl (Cells.unit (H.getOwn 1 rfl) rfl)) (by decide) ?_
          refine OL_y (y_fieldAddr ti32 rfl ti24 rfl rfl) (by decide) ?_
          refine OL_y (y_loadS (v := .int .u64 v.ts) ti24 rfl rfl (Cells.unit (H.getOwn 0 rfl) rfl)) (by decide) ?_
          refine OL_y (v := .bool true) (y_eqlT h1 rfl rfl) (by decide) ?_
          refine OL_y (v := .bool true) (y_move rfl) (by decide) ?_
          refine OL_yg rfl (by decide) rfl (y_fieldAddr ti32 rfl ti24 rfl rfl) (by decide) ?_
          refine OL_yg rfl (by decide) rfl (y_loadS (v := .int .u64 u.txn) ti24 rfl rfl (Cells.unit (H.getOwn 1 rfl) rfl)) (by decide) ?_
          refine OL_yg rfl (by decide) rfl (y_fieldAddr ti32 rfl ti24 rfl rfl) (by decide) ?_
          refine OL_yg rfl (by decide) rfl (y_loadS (v := .int .u64 v.txn) ti24 rfl rfl (Cells.unit (H.getOwn 0 rfl) rfl)) (by decide) ?_
          refine OL_yg (v := .bool true) rfl (by decide) rfl (y_eqlT h2 rfl rfl) (by decide) ?_
          refine OL_y (y_pick (b := true) (v := .bool true) rfl rfl) (by decide) ?_
          refine OL_y (v := .bool true) (y_move rfl) (by decide) ?_
          refine OL_yg rfl (by decide) rfl (y_fieldAddr ti32 rfl ti4 rfl rfl) (by decide) ?_
          refine OL_yg rfl (by decide) rfl (y_loadS (v := .bool u.dead) ti4 rfl rfl (Cells.unit (H.getOwn 1 rfl) rfl)) (by decide) ?_
          refine OL_yg rfl (by decide) rfl (y_fieldAddr ti32 rfl ti4 rfl rfl) (by decide) ?_
          refine OL_yg rfl (by decide) rfl (y_loadS (v := .bool v.dead) ti4 rfl rfl (Cells.unit (H.getOwn 0 rfl) rfl)) (by decide) ?_
          refine OL_yg (v := .bool true) rfl (by decide) rfl (y_eqlBT Try.underlying4 h3 rfl rfl) (by decide) ?_
          refine OL_y (y_pick (b := true) (v := .bool true) rfl rfl) (by decide) ?_
          refine OL_y (v := .bool true) (y_move rfl) (by decide) ?_
          refine OL_yg rfl (by decide) rfl (y_fieldAddr ti32 rfl ti23 rfl rfl) (by decide) ?_
          refine OL_yg rfl (by decide) rfl (y_loadS (v := uv) ti23 rfl rfl (Cells.unit (H.getOwn 1 rfl) rfl)) (by decide) ?_
          refine OL_yg rfl (by decide) rfl (y_toStr Try.underlying23 Try.underlying5 Try.underlying9 rfl (hu3.keeps (H.keepsAll 2 rfl _))) (by decide) ?_
          refine OL_yg rfl (by decide) rfl (y_fieldAddr ti32 rfl ti23 rfl rfl) (by decide) ?_
          refine OL_yg rfl (by decide) rfl (y_loadS (v := vv) ti23 rfl rfl (Cells.unit (H.getOwn 0 rfl) rfl)) (by decide) ?_
          refine OL_yg rfl (by decide) rfl (y_toStr Try.underlying23 Try.underlying5 Try.underlying9 rfl (hv3.keeps (H.keepsAll 2 rfl _))) (by decide) ?_
          refine OL_yg rfl (by decide) rfl (y_eqlST (by rw [h4]) rfl rfl) (by decide) ?_
          refine OL_y (y_pick (b := true) (v := .bool true) rfl rfl) (by decide) ?_
          refine OL_y (v := .bool true) (y_move rfl) (by decide) ?_
          refine OL_yg rfl (by decide) rfl (y_fieldAddr ti32 rfl ti30 rfl rfl) (by decide) ?_
          refine OL_yg rfl (by decide) rfl (y_loadS (v := uk) ti30 rfl rfl (Cells.unit (H.getOwn 1 rfl) rfl)) (by decide) ?_
          refine OL_yg rfl (by decide) rfl (y_fieldAddr ti32 rfl ti30 rfl rfl) (by decide) ?_
          refine OL_yg rfl (by decide) rfl (y_loadS (v := vk) ti30 rfl rfl (Cells.unit (H.getOwn 0 rfl) rfl)) (by decide) ?_
          refine OL_g rfl (by decide) rfl (op_call 16 en16 rfl [uk, vk] rfl (by decide) ((f16_calls (hu4.keeps (H.keepsAll 2 rfl _)) (hv4.keeps (H.keepsAll 2 rfl _))).mono ?_))
          rintro e w1_33 ⟨rfl, hE16⟩
          refine ⟨_, rfl, ?_⟩
          have H := H.ext0 hE16
          refine OL_y (y_pick (b := true) (v := .bool (decide (u.keys = v.keys))) rfl rfl) (by decide) ?_
          refine OL_y (y_assign rfl) (by decide) ?_
          refine OL_nil ?_
          refine W_ret ?_
          show RetOK _ _ _ _ _ _
          refine ret1 (v := .bool (decide (u.keys = v.keys))) Try.results15 rfl ⟨?_, H.ext_of 2 rfl⟩
          have : (u = v) ↔ (u.keys = v.keys) := by
            obtain ⟨a1, a2, a3, a4, a5⟩ := u; obtain ⟨d1, d2, d3, d4, d5⟩ := v
            simp only at h1 h2 h3 h4; subst h1 h2 h3 h4; simp
          rw [decide_eq_decide.2 this]
        · refine W_region ?_
          refine OL_y (y_fieldAddr ti32 rfl ti24 rfl rfl) (by decide) ?_
          refine OL_y (y_loadS (v := .int .u64 u.ts) ti24 rfl rfl (Cells.unit (H.getOwn 1 rfl) rfl)) (by decide) ?_
          refine OL_y (y_fieldAddr ti32 rfl ti24 rfl rfl) (by decide) ?_
          refine OL_y (y_loadS (v := .int .u64 v.ts) ti24 rfl rfl (Cells.unit (H.getOwn 0 rfl) rfl)) (by decide) ?_
          refine OL_y (v := .bool true) (y_eqlT h1 rfl rfl) (by decide) ?_
          refine OL_y (v := .bool true) (y_move rfl) (by decide) ?_
          refine OL_yg rfl (by decide) rfl (y_fieldAddr ti32 rfl ti24 rfl rfl) (by decide) ?_
          refine OL_yg rfl (by decide) rfl (y_loadS (v := .int .u64 u.txn) ti24 rfl rfl (Cells.unit (H.getOwn 1 rfl) rfl)) (by decide) ?_
          refine OL_yg rfl (by decide) rfl (y_fieldAddr ti32 rfl ti24 rfl rfl) (by decide) ?_
          refine OL_yg rfl (by decide) rfl (y_loadS (v := .int .u64 v.txn) ti24 rfl rfl (Cells.unit (H.getOwn 0 rfl) rfl)) (by decide) ?_
          refine OL_yg (v := .bool true) rfl (by decide) rfl (y_eqlT h2 rfl rfl) (by decide) ?_
          refine OL_y (y_pick (b := true) (v := .bool true) rfl rfl) (by decide) ?_
          refine OL_y (v := .bool true) (y_move rfl) (by decide) ?_
          refine OL_yg rfl (by decide) rfl (y_fieldAddr ti32 rfl ti4 rfl rfl) (by decide) ?_
          refine OL_yg rfl (by decide) rfl (y_loadS (v := .bool u.dead) ti4 rfl rfl (Cells.unit (H.getOwn 1 rfl) rfl)) (by decide) ?_
          refine OL_yg rfl (by decide) rfl (y_fieldAddr ti32 rfl ti4 rfl rfl) (by decide) ?_
          refine OL_yg rfl (by decide) rfl (y_loadS (v := .bool v.dead) ti4 rfl rfl (Cells.unit (H.getOwn 0 rfl) rfl)) (by decide) ?_
          refine OL_yg (v := .bool true) rfl (by decide) rfl (y_eqlBT Try.underlying4 h3 rfl rfl) (by decide) ?_
          refine OL_y (y_pick (b := true) (v := .bool true) rfl rfl) (by decide) ?_
          refine OL_y (v := .bool true) (y_move rfl) (by decide) ?_
          refine OL_yg rfl (by decide) rfl (y_fieldAddr ti32 rfl ti23 rfl rfl) (by decide) ?_
          refine OL_yg rfl (by decide) rfl (y_loadS (v := uv) ti23 rfl rfl (Cells.unit (H.getOwn 1 rfl) rfl)) (by decide) ?_
          refine OL_yg rfl (by decide) rfl (y_toStr Try.underlying23 Try.underlying5 Try.underlying9 rfl (hu3.keeps (H.keepsAll 2 rfl _))) (by decide) ?_
          refine OL_yg rfl (by decide) rfl (y_fieldAddr ti32 rfl ti23 rfl rfl) (by decide) ?_
          refine OL_yg rfl (by decide) rfl (y_loadS (v := vv) ti23 rfl rfl (Cells.unit (H.getOwn 0 rfl) rfl)) (by decide) ?_
          refine OL_yg rfl (by decide) rfl (y_toStr Try.underlying23 Try.underlying5 Try.underlying9 rfl (hv3.keeps (H.keepsAll 2 rfl _))) (by decide) ?_
          refine OL_yg rfl (by decide) rfl (y_eqlSF (fun e => h4 (kb_inj hu3.allIn hv3.allIn e)) rfl rfl) (by decide) ?_
          refine OL_y (y_pick (b := true) (v := .bool false) rfl rfl) (by decide) ?_
          refine OL_y (v := .bool false) (y_move rfl) (by decide) ?_
          refine OL_s rfl (by decide) rfl rfl (by simp) ?_
          refine OL_s rfl (by decide) rfl rfl (by simp) ?_
          refine OL_s rfl (by decide) rfl rfl (by simp) ?_
          refine OL_s rfl (by decide) rfl rfl (by simp) ?_
          refine OL_s rfl (by decide) rfl rfl (by simp) ?_
          refine OL_y (y_pick (b := false) (v := .bool false) rfl rfl) (by decide) ?_
          refine OL_y (y_assign rfl) (by decide) ?_
          refine OL_nil ?_
          refine W_ret ?_
          show RetOK _ _ _ _ _ _
          exact ret1 (v := .bool false) Try.results15 rfl ⟨by rw [decide_eq_false (fun e => h4 (by rw [e]))], H.ext_of 2 rfl⟩
      · refine W_region ?_
        refine OL_y (y_fieldAddr ti32 rfl ti24 rfl rfl) (by decide) ?_
        refine OL_y (y_loadS (v := .int .u64 u.ts) ti24 rfl rfl (Cells.unit (H.getOwn 1 rfl) rfl)) (by decide) ?_
        refine OL_y (y_fieldAddr ti32 rfl ti24 rfl rfl) (by decide) ?_
        refine OL_y (y_loadS (v := .int .u64 v.ts) ti24 rfl rfl (Cells.unit (H.getOwn 0 rfl) rfl)) (by decide) ?_
        refine OL_y (v := .bool true) (y_eqlT h1 rfl rfl) (by decide) ?_
        refine OL_y (v := .bool true) (y_move rfl) (by decide) ?_
        refine OL_yg rfl (by decide) rfl (y_fieldAddr ti32 rfl ti24 rfl rfl) (by decide) ?_
        refine OL_yg rfl (by decide) rfl (y_loadS (v := .int .u64 u.txn) ti24 rfl rfl (Cells.unit (H.getOwn 1 rfl) rfl)) (by decide) ?_
        refine OL_yg rfl (by decide) rfl (y_fieldAddr ti32 rfl ti24 rfl rfl) (by decide) ?_
        refine OL_yg rfl (by decide) rfl (y_loadS (v := .int .u64 v.txn) ti24 rfl rfl (Cells.unit (H.getOwn 0 rfl) rfl)) (by decide) ?_
        refine OL_yg (v := .bool true) rfl (by decide) rfl (y_eqlT h2 rfl rfl) (by decide) ?_
        refine OL_y (y_pick (b := true) (v := .bool true) rfl rfl) (by decide) ?_
        refine OL_y (v := .bool true) (y_move rfl) (by decide) ?_
        refine OL_yg rfl (by decide) rfl (y_fieldAddr ti32 rfl ti4 rfl rfl) (by decide) ?_
        refine OL_yg rfl (by decide) rfl (y_loadS (v := .bool u.dead) ti4 rfl rfl (Cells.unit (H.getOwn 1 rfl) rfl)) (by decide) ?_
        refine OL_yg rfl (by decide) rfl (y_fieldAddr ti32 rfl ti4 rfl rfl) (by decide) ?_
        refine OL_yg rfl (by decide) rfl (y_loadS (v := .bool v.dead) ti4 rfl rfl (Cells.unit (H.getOwn 0 rfl) rfl)) (by decide) ?_
        refine OL_yg (v := .bool false) rfl (by decide) rfl (y_eqlBF Try.underlying4 h3 rfl rfl) (by decide) ?_
        refine OL_y (y_pick (b := true) (v := .bool false) rfl rfl) (by decide) ?_
        refine OL_y (v := .bool false) (y_move rfl) (by decide) ?_
        refine OL_s rfl (by decide) rfl rfl (by simp) ?_
        refine OL_s rfl (by decide) rfl rfl (by simp) ?_
        refine OL_s rfl (by decide) rfl rfl (by simp) ?_
        refine OL_s rfl (by decide) rfl rfl (by simp) ?_
        refine OL_s rfl (by decide) rfl rfl (by simp) ?_
        refine OL_s rfl (by decide) rfl rfl (by simp) ?_
        refine OL_s rfl (by decide) rfl rfl (by simp) ?_
        refine OL_y (y_pick (b := false) (v := .bool false) rfl rfl) (by decide) ?_
        refine OL_y (v := .bool false) (y_move rfl) (by decide) ?_
        refine OL_s rfl (by decide) rfl rfl (by simp) ?_
        refine OL_s rfl (by decide) rfl rfl (by simp) ?_
        refine OL_s rfl (by decide) rfl rfl (by simp) ?_
        refine OL_s rfl (by decide) rfl rfl (by simp) ?_
        refine OL_s rfl (by decide) rfl rfl (by simp) ?_
        refine OL_y (y_pick (b := false) (v := .bool false) rfl rfl) (by decide) ?_
        refine OL_y (y_assign rfl) (by decide) ?_
        refine OL_nil ?_
        refine W_ret ?_
        show RetOK _ _ _ _ _ _
        exact ret1 (v := .bool false) Try.results15 rfl ⟨by rw [decide_eq_false (fun e => h3 (by rw [e]))], H.ext_of 2 rfl⟩
    · refine W_region ?_
      refine OL_y (y_fieldAddr ti32 rfl ti24 rfl rfl) (by decide) ?_
      refine OL_y (y_loadS (v := .int .u64 u.ts) ti24 rfl rfl (Cells.unit (H.getOwn 1 rfl) rfl)) (by decide) ?_
      refine OL_y (y_fieldAddr ti32 rfl ti24 rfl rfl) (by decide) ?_
      refine OL_y (y_loadS (v := .int .u64 v.ts) ti24 rfl rfl (Cells.unit (H.getOwn 0 rfl) rfl)) (by decide) ?_
      refine OL_y (v := .bool true) (y_eqlT h1 rfl rfl) (by decide) ?_
      refine OL_y (v := .bool true) (y_move rfl) (by decide) ?_
      refine OL_yg rfl (by decide) rfl (y_fieldAddr ti32 rfl ti24 rfl rfl) (by decide) ?_
      refine OL_yg rfl (by decide) rfl (y_loadS (v := .int .u64 u.txn) ti24 rfl rfl (Cells.unit (H.getOwn 1 rfl) rfl)) (by decide) ?_
      refine OL_yg rfl (by decide) rfl (y_fieldAddr ti32 rfl ti24 rfl rfl) (by decide) ?_
      refine OL_yg rfl (by decide) rfl (y_loadS (v := .int .u64 v.txn) ti24 rfl rfl (Cells.unit (H.getOwn 0 rfl) rfl)) (by decide) ?_
      refine OL_yg (v := .bool false) rfl (by decide) rfl (y_eqlF h2 rfl rfl) (by decide) ?_
      refine OL_y (y_pick (b := true) (v := .bool false) rfl rfl) (by decide) ?_
      refine OL_y (v := .bool false) (y_move rfl) (by decide) ?_
      refine OL_s rfl (by decide) rfl rfl (by simp) ?_
      refine OL_s rfl (by decide) rfl rfl (by simp) ?_
      refine OL_s rfl (by decide) rfl rfl (by simp) ?_
      refine OL_s rfl (by decide) rfl rfl (by simp) ?_
      refine OL_s rfl (by decide) rfl rfl (by simp) ?_
      refine OL_y (y_pick (b := false) (v := .bool false) rfl rfl) (by decide) ?_
      refine OL_y (v := .bool false) (y_move rfl) (by decide) ?_
      refine OL_s rfl (by decide) rfl rfl (by simp) ?_
      refine OL_s rfl (by decide) rfl rfl (by simp) ?_
      refine OL_s rfl (by decide) rfl rfl (by simp) ?_
      refine OL_s rfl (by decide) rfl rfl (by simp) ?_
      refine OL_s rfl (by decide) rfl rfl (by simp) ?_
      refine OL_s rfl (by decide) rfl rfl (by simp) ?_
      refine OL_s rfl (by decide) rfl rfl (by simp) ?_
      refine OL_y (y_pick (b := false) (v := .bool false) rfl rfl) (by decide) ?_
      refine OL_y (v := .bool false) (y_move rfl) (by decide) ?_
      refine OL_s rfl (by decide) rfl rfl (by simp) ?_
      refine OL_s rfl (by decide) rfl rfl (by simp) ?_
      refine OL_s rfl (by decide) rfl rfl (by simp) ?_
      refine OL_s rfl (by decide) rfl rfl (by simp) ?_
      refine OL_s rfl (by decide) rfl rfl (by simp) ?_
      refine OL_y (y_pick (b := false) (v := .bool false) rfl rfl) (by decide) ?_
      refine OL_y (y_assign rfl) (by decide) ?_
      refine OL_nil ?_
      refine W_ret ?_
      show RetOK _ _ _ _ _ _
      exact ret1 (v := .bool false) Try.results15 rfl ⟨by rw [decide_eq_false (fun e => h2 (by rw [e]))], H.ext_of 2 rfl⟩
  · refine W_region ?_
    refine OL_y (y_fieldAddr ti32 rfl ti24 rfl rfl) (by decide) ?_
    refine OL_y (y_loadS (v := .int .u64 u.ts) ti24 rfl rfl (Cells.unit (H.getOwn 1 rfl) rfl)) (by decide) ?_
    refine OL_y (y_fieldAddr ti32 rfl ti24 rfl rfl) (by decide) ?_
    refine OL_y (y_loadS (v := .int .u64 v.ts) ti24 rfl rfl (Cells.unit (H.getOwn 0 rfl) rfl)) (by decide) ?_
    refine OL_y (v := .bool false) (y_eqlF h1 rfl rfl) (by decide) ?_
    refine OL_y (v := .bool false) (y_move rfl) (by decide) ?_
    refine OL_s rfl (by decide) rfl rfl (by simp) ?_
    refine OL_s rfl (by decide) rfl rfl (by simp) ?_
    refine OL_s rfl (by decide) rfl rfl (by simp) ?_
    refine OL_s rfl (by decide) rfl rfl (by simp) ?_
    refine OL_s rfl (by decide) rfl rfl (by simp) ?_
    refine OL_y (y_pick (b := false) (v := .bool false) rfl rfl) (by decide) ?_
    refine OL_y (v := .bool false) (y_move rfl) (by decide) ?_
    refine OL_s rfl (by decide) rfl rfl (by simp) ?_
    refine OL_s rfl (by decide) rfl rfl (by simp) ?_
    refine OL_s rfl (by decide) rfl rfl (by simp) ?_
    refine OL_s rfl (by decide) rfl rfl (by simp) ?_
    refine OL_s rfl (by decide) rfl rfl (by simp) ?_
    refine OL_y (y_pick (b := false) (v := .bool false) rfl rfl) (by decide) ?_
    refine OL_y (v := .bool false) (y_move rfl) (by decide) ?_
    refine OL_s rfl (by decide) rfl rfl (by simp) ?_
    refine OL_s rfl (by decide) rfl rfl (by simp) ?_
    refine OL_s rfl (by decide) rfl rfl (by simp) ?_
    refine OL_s rfl (by decide) rfl rfl (by simp) ?_
    refine OL_s rfl (by decide) rfl rfl (by simp) ?_
    refine OL_s rfl (by decide) rfl rfl (by simp) ?_
    refine OL_s rfl (by decide) rfl rfl (by simp) ?_
    refine OL_y (y_pick (b := false) (v := .bool false) rfl rfl) (by decide) ?_
    refine OL_y (v := .bool false) (y_move rfl) (by decide) ?_
    refine OL_s rfl (by decide) rfl rfl (by simp) ?_
    refine OL_s rfl (by decide) rfl rfl (by simp) ?_
    refine OL_s rfl (by decide) rfl rfl (by simp) ?_
    refine OL_s rfl (by decide) rfl rfl (by simp) ?_
    refine OL_s rfl (by decide) rfl rfl (by simp) ?_
    refine OL_y (y_pick (b := false) (v := .bool false) rfl rfl) (by decide) ?_
    refine OL_y (y_assign rfl) (by decide) ?_
    refine OL_nil ?_
    refine W_ret ?_
    show RetOK _ _ _ _ _ _
    exact ret1 (v := .bool false) Try.results15 rfl ⟨by rw [decide_eq_false (fun e => h1 (by rw [e]))], H.ext_of 2 rfl⟩
end Go.Proofs.Ytpandioolpnihaa

namespace Go.Proofs.Ytpandioolpnihaa
open Go Go.Wk
set_option linter.unusedVariables false
set_option linter.unusedSimpArgs false

theorem f74_calls {Z Z' : Nat → Prop} {w : World} {va vb : Value} {k1 k2 : Key} (h1 : SlR (tInt .u8) 1 Z w va k1) (h2 : SlR (tInt .u8) 1 Z' w vb k2) :
    Calls Try.prog 74 [va, vb].toArray w fun e w' => e = .returned (.int .i64 (cmpK k1 k2)) ∧ Ext none' w w' := by
  have H := Holds.start w
  refine calls_of_W' Try.func74 rfl Try.ntmps74 rfl ?_
  refine W_seq ?_
  refine W_region ?_
  refine OL_y (y_assign rfl) (by decide) ?_
  refine OL_nil ?_
  refine W_seq ?_
  refine W_region ?_
  refine OL_y (y_move rfl) (by decide) ?_
  refine OL_y (y_move rfl) (by decide) ?_
  refine OL_c (op_compare 84 Try.func84 (by kernel_rfl) (by kernel_rfl) (by kernel_rfl) (by kernel_rfl) rfl rfl h1 h2 (by decide) ?_)
  refine OL_y (y_assign rfl) (by decide) ?_
  refine OL_nil ?_
  refine W_ret ?_
  show RetOK _ _ _ _ _ _
  exact ret1 (v := .int .i64 (cmpK k1 k2)) Try.results74 rfl ⟨rfl, H.ext_of 0 rfl⟩
def withinB (k lo hi : Key) : Bool := decide (¬ bLt (kb k) (kb lo)) && (decide (hi = []) || decide (bLt (kb k) (kb hi)))
theorem f54_calls {Z Z' : Nat → Prop} {w : World} {va vb vc : Value} {k lo hi : Key} (h1 : SlR (tInt .u8) 1 Z w va k) (h2 : SlR (tInt .u8) 1 Z' w vb lo) (h3 : SlR (tInt .u8) 1 Z' w vc hi) :
    Calls Try.prog 54 [va, vb, vc].toArray w fun e w' => e = .returned (.bool (withinB k lo hi)) ∧ Ext none' w w' := by
  have H := Holds.start w
  obtain ⟨ac, cc, rfl, _⟩ := h3.len
  refine calls_of_W' Try.func54 rfl Try.ntmps54 rfl ?_
  refine W_seq ?_
  refine W_region ?_
  refine OL_y (v := .bool false) (y_assign rfl) (by decide) ?_
  refine OL_nil ?_
  refine W_seq ?_
  by_cases hlo : 0 ≤ cmpK k lo
  · by_cases hhi : hi = []
    · have hg : decide (0 ≤ cmpK k lo) = decide (¬ bLt (kb k) (kb lo)) := by rw [decide_eq_decide]; exact cmpK_ge
      refine W_region ?_
      refine OL_y (y_move rfl) (by decide) ?_
      refine OL_y (y_move rfl) (by decide) ?_
      refine OL_c (op_call 74 en74 rfl [va, vb] rfl (by decide) ((f74_calls h1 h2).mono ?_))
      rintro e w1_2 ⟨rfl, hE⟩
      refine ⟨_, rfl, ?_⟩
      have H := H.ext0 hE
      refine OL_y (v := .bool true) (y_geqT hlo rfl rfl) (by decide) ?_
      refine OL_y (v := .bool true) (y_move rfl) (by decide) ?_
      refine OL_yg rfl (by decide) rfl (y_move rfl) (by decide) ?_
      refine OL_yg rfl (by decide) rfl (y_len rfl ti23 rfl) (by decide) ?_
      refine OL_yg (v := .bool true) rfl (by decide) rfl (y_eqlT (by rw [hhi]; rfl) rfl rfl) (by decide) ?_
      refine OL_yg (v := .bool true) rfl (by decide) rfl (y_move rfl) (by decide) ?_
      refine OL_s rfl (by decide) rfl rfl (by simp) ?_
      refine OL_s rfl (by decide) rfl rfl (by simp) ?_
      refine OL_s rfl (by decide) rfl rfl (by simp) ?_
      refine OL_s rfl (by decide) rfl rfl (by simp) ?_
      refine OL_yg rfl (by decide) rfl (y_pick (b := true) (v := .bool true) rfl rfl) (by decide) ?_
      refine OL_y (y_pick (b := true) (v := .bool true) rfl rfl) (by decide) ?_
      refine OL_y (v := .bool true) (y_assign rfl) (by decide) ?_
      refine OL_nil ?_
      refine W_ret ?_
      show RetOK _ _ _ _ _ _
      refine ret1 (v := .bool true) Try.results54 rfl ⟨?_, H.ext_of 0 rfl⟩
      unfold withinB; rw [← hg, decide_eq_true hlo, decide_eq_true hhi]; rfl
    · have hg : decide (0 ≤ cmpK k lo) = decide (¬ bLt (kb k) (kb lo)) := by rw [decide_eq_decide]; exact cmpK_ge
      refine W_region ?_
      refine OL_y (y_move rfl) (by decide) ?_
      refine OL_y (y_move rfl) (by decide) ?_
      refine OL_c (op_call 74 en74 rfl [va, vb] rfl (by decide) ((f74_calls h1 h2).mono ?_))
      rintro e w1_2 ⟨rfl, hE⟩
      refine ⟨_, rfl, ?_⟩
      have H := H.ext0 hE
      refine OL_y (v := .bool true) (y_geqT hlo rfl rfl) (by decide) ?_
      refine OL_y (v := .bool true) (y_move rfl) (by decide) ?_
      refine OL_yg rfl (by decide) rfl (y_move rfl) (by decide) ?_
      refine OL_yg rfl (by decide) rfl (y_len rfl ti23 rfl) (by decide) ?_
      refine OL_yg (v := .bool false) rfl (by decide) rfl (y_eqlF (by have := List.length_pos_iff.2 hhi; omega) rfl rfl) (by decide) ?_
      refine OL_yg (v := .bool false) rfl (by decide) rfl (y_move rfl) (by decide) ?_
      refine OL_yg rfl (by decide) rfl (y_move rfl) (by decide) ?_
      refine OL_yg rfl (by decide) rfl (y_move rfl) (by decide) ?_
      refine OL_g rfl (by decide) rfl (op_call 74 en74 rfl [va, .slice ac hi.length cc] rfl (by decide) ((f74_calls (h1.keeps (H.keepsAll 0 rfl _)) (h3.keeps (H.keepsAll 0 rfl _))).mono ?_))
      rintro e w1_11 ⟨rfl, hE2⟩
      refine ⟨_, rfl, ?_⟩
      have H := H.ext0 hE2
      refine OL_yg rfl (by decide) rfl (y_lss rfl rfl) (by decide) ?_
      refine OL_yg rfl (by decide) rfl (y_pick (b := false) rfl rfl) (by decide) ?_
      refine OL_y (y_pick (b := true) rfl rfl) (by decide) ?_
      refine OL_y (y_assign rfl) (by decide) ?_
      refine OL_nil ?_
      refine W_ret ?_
      show RetOK _ _ _ _ _ _
      refine ret1 (v := .bool (decide (cmpK k hi < 0))) Try.results54 rfl ⟨?_, H.ext_of 0 rfl⟩
      have hd : decide (cmpK k hi < 0) = decide (bLt (kb k) (kb hi)) := by rw [decide_eq_decide]; exact cmpK_lt
      unfold withinB; rw [← hg, decide_eq_true hlo, decide_eq_false hhi, hd]; rfl
  · have hg : decide (0 ≤ cmpK k lo) = decide (¬ bLt (kb k) (kb lo)) := by rw [decide_eq_decide]; exact cmpK_ge
    refine W_region ?_
    refine OL_y (y_move rfl) (by decide) ?_
    refine OL_y (y_move rfl) (by decide) ?_
    refine OL_c (op_call 74 en74 rfl [va, vb] rfl (by decide) ((f74_calls h1 h2).mono ?_))
    rintro e w1_2 ⟨rfl, hE⟩
    refine ⟨_, rfl, ?_⟩
    have H := H.ext0 hE
    refine OL_y (v := .bool false) (y_geqF hlo rfl rfl) (by decide) ?_
    refine OL_y (v := .bool false) (y_move rfl) (by decide) ?_
    refine OL_s rfl (by decide) rfl rfl (by simp) ?_
    refine OL_s rfl (by decide) rfl rfl (by simp) ?_
    refine OL_s rfl (by decide) rfl rfl (by simp) ?_
    refine OL_s rfl (by decide) rfl rfl (by simp) ?_
    refine OL_u rfl (by decide) rfl (by simp) ?_
    refine OL_u rfl (by decide) rfl (by simp) ?_
    refine OL_u rfl (by decide) rfl (by simp) ?_
    refine OL_u rfl (by decide) rfl (by simp) ?_
    refine OL_s rfl (by decide) rfl rfl (by simp) ?_
    refine OL_y (y_pick (b := false) (v := .bool false) rfl rfl) (by decide) ?_
    refine OL_y (v := .bool false) (y_assign rfl) (by decide) ?_
    refine OL_nil ?_
    refine W_ret ?_
    show RetOK _ _ _ _ _ _
    refine ret1 (v := .bool false) Try.results54 rfl ⟨?_, H.ext_of 0 rfl⟩
    unfold withinB; rw [← hg, decide_eq_false hlo]; rfl
theorem f55_calls {Z Z' : Nat → Prop} {w : World} {va vb vc : Value} {k lo hi : Key} (h1 : SlR (tInt .u8) 1 Z w va k) (h2 : SlR (tInt .u8) 1 Z' w vb lo) (h3 : SlR (tInt .u8) 1 Z' w vc hi) :
    Calls Try.prog 55 [va, vb, vc].toArray w fun e w' => e = .returned (.bool (withinB k lo hi)) ∧ Ext none' w w' := by
  have H := Holds.start w
  obtain ⟨ac, cc, rfl, _⟩ := h3.len
  refine calls_of_W' Try.func55 rfl Try.ntmps55 rfl ?_
  refine W_seq ?_
  refine W_region ?_
  refine OL_y (v := .bool false) (y_assign rfl) (by decide) ?_
  refine OL_nil ?_
  refine W_seq ?_
  by_cases hlo : ¬ bLt (kb k) (kb lo)
  · by_cases hhi : hi = []
    · refine W_region ?_
      refine OL_y (y_move rfl) (by decide) ?_
      refine OL_y (y_toStr Try.underlying23 Try.underlying5 Try.underlying9 rfl h1) (by decide) ?_
      refine OL_y (y_move rfl) (by decide) ?_
      refine OL_y (y_toStr Try.underlying23 Try.underlying5 Try.underlying9 rfl h2) (by decide) ?_
      refine OL_y (v := .bool true) (y_geqST hlo rfl rfl) (by decide) ?_
      refine OL_y (v := .bool true) (y_move rfl) (by decide) ?_
      refine OL_yg rfl (by decide) rfl (y_move rfl) (by decide) ?_
      refine OL_yg rfl (by decide) rfl (y_len rfl ti23 rfl) (by decide) ?_
      refine OL_yg (v := .bool true) rfl (by decide) rfl (y_eqlT (by rw [hhi]; rfl) rfl rfl) (by decide) ?_
      refine OL_yg (v := .bool true) rfl (by decide) rfl (y_move rfl) (by decide) ?_
      refine OL_s rfl (by decide) rfl rfl (by simp) ?_
      refine OL_s rfl (by decide) rfl rfl (by simp) ?_
      refine OL_s rfl (by decide) rfl rfl (by simp) ?_
      refine OL_s rfl (by decide) rfl rfl (by simp) ?_
      refine OL_s rfl (by decide) rfl rfl (by simp) ?_
      refine OL_yg rfl (by decide) rfl (y_pick (b := true) (v := .bool true) rfl rfl) (by decide) ?_
      refine OL_y (y_pick (b := true) (v := .bool true) rfl rfl) (by decide) ?_
      refine OL_y (v := .bool true) (y_assign rfl) (by decide) ?_
      refine OL_nil ?_
      refine W_ret ?_
      show RetOK _ _ _ _ _ _
      refine ret1 (v := .bool true) Try.results55 rfl ⟨?_, H.ext_of 0 rfl⟩
      unfold withinB; rw [decide_eq_true hlo, decide_eq_true hhi]; rfl
    · refine W_region ?_
      refine OL_y (y_move rfl) (by decide) ?_
      refine OL_y (y_toStr Try.underlying23 Try.underlying5 Try.underlying9 rfl h1) (by decide) ?_
      refine OL_y (y_move rfl) (by decide) ?_
      refine OL_y (y_toStr Try.underlying23 Try.underlying5 Try.underlying9 rfl h2) (by decide) ?_
      refine OL_y (v := .bool true) (y_geqST hlo rfl rfl) (by decide) ?_
      refine OL_y (v := .bool true) (y_move rfl) (by decide) ?_
      refine OL_yg rfl (by decide) rfl (y_move rfl) (by decide) ?_
      refine OL_yg rfl (by decide) rfl (y_len rfl ti23 rfl) (by decide) ?_
      refine OL_yg (v := .bool false) rfl (by decide) rfl (y_eqlF (by have := List.length_pos_iff.2 hhi; omega) rfl rfl) (by decide) ?_
      refine OL_yg (v := .bool false) rfl (by decide) rfl (y_move rfl) (by decide) ?_
      refine OL_yg rfl (by decide) rfl (y_move rfl) (by decide) ?_
      refine OL_yg rfl (by decide) rfl (y_toStr Try.underlying23 Try.underlying5 Try.underlying9 rfl h1) (by decide) ?_
      refine OL_yg rfl (by decide) rfl (y_move rfl) (by decide) ?_
      refine OL_yg rfl (by decide) rfl (y_toStr Try.underlying23 Try.underlying5 Try.underlying9 rfl h3) (by decide) ?_
      refine OL_yg rfl (by decide) rfl (y_lssS rfl rfl) (by decide) ?_
      refine OL_yg rfl (by decide) rfl (y_pick (b := false) rfl rfl) (by decide) ?_
      refine OL_y (y_pick (b := true) rfl rfl) (by decide) ?_
      refine OL_y (y_assign rfl) (by decide) ?_
      refine OL_nil ?_
      refine W_ret ?_
      show RetOK _ _ _ _ _ _
      refine ret1 (v := .bool (decide (bLt (kb k) (kb hi)))) Try.results55 rfl ⟨?_, H.ext_of 0 rfl⟩
      unfold withinB; rw [decide_eq_true hlo, decide_eq_false hhi]; rfl
  · refine W_region ?_
    refine OL_y (y_move rfl) (by decide) ?_
    refine OL_y (y_toStr Try.underlying23 Try.underlying5 Try.underlying9 rfl h1) (by decide) ?_
    refine OL_y (y_move rfl) (by decide) ?_
    refine OL_y (y_toStr Try.underlying23 Try.underlying5 Try.underlying9 rfl h2) (by decide) ?_
    refine OL_y (v := .bool false) (y_geqSF (Classical.not_not.1 hlo) rfl rfl) (by decide) ?_
    refine OL_y (v := .bool false) (y_move rfl) (by decide) ?_
    refine OL_s rfl (by decide) rfl rfl (by simp) ?_
    refine OL_s rfl (by decide) rfl rfl (by simp) ?_
    refine OL_s rfl (by decide) rfl rfl (by simp) ?_
    refine OL_s rfl (by decide) rfl rfl (by simp) ?_
    refine OL_u rfl (by decide) rfl (by simp) ?_
    refine OL_u rfl (by decide) rfl (by simp) ?_
    refine OL_u rfl (by decide) rfl (by simp) ?_
    refine OL_u rfl (by decide) rfl (by simp) ?_
    refine OL_u rfl (by decide) rfl (by simp) ?_
    refine OL_s rfl (by decide) rfl rfl (by simp) ?_
    refine OL_y (y_pick (b := false) (v := .bool false) rfl rfl) (by decide) ?_
    refine OL_y (v := .bool false) (y_assign rfl) (by decide) ?_
    refine OL_nil ?_
    refine W_ret ?_
    show RetOK _ _ _ _ _ _
    refine ret1 (v := .bool false) Try.results55 rfl ⟨?_, H.ext_of 0 rfl⟩
    unfold withinB; rw [decide_eq_false hlo]; rfl
end Go.Proofs.Ytpandioolpnihaa

namespace Go.Proofs.Ytpandioolpnihaa
open Go Go.Wk
set_option linter.unusedVariables false
set_option linter.unusedSimpArgs false

/-- A cell with its values. -/
structure RE where
  vk : Value
  vs : Value
  iv : Value
  ik : Value
  c : Cl
abbrev RE.cs (e : RE) : List Value := [e.vk, e.vs, .int .u64 e.c.intent.ts, .int .u64 e.c.intent.txn, .bool e.c.intent.dead, e.iv, e.ik]
theorem RE.len (e : RE) : e.cs.length = 7 := rfl
abbrev RE.k (e : RE) : ByteArray := kb e.c.key
structure RRep (w0 : World) (F : Nat → Prop) (Wp : World) (R : List RE) (a : Abs) : Prop where
  base : Ext none' w0 Wp
  good : ∀ e ∈ R, tCl.R (Dz w0 F) Wp e.cs e.c
  rise : (R.map RE.k).Pairwise bLt
  va : ∀ e ∈ R, a.v e.k = e.c.vers ∧ a.i e.k = e.c.intent
  vn : ∀ k, k ∉ R.map RE.k → a.v k = [] ∧ a.i k = noV
theorem RRep.grow {w0 Wp Wp' : World} {F F' : Nat → Prop} {R : List RE} {a : Abs} (h : RRep w0 F Wp R a) (g : Grow w0 F Wp F' Wp') : RRep w0 F' Wp' R a :=
  ⟨g.base, fun e he => g.R (h.good e he), h.rise, h.va, h.vn⟩
theorem RRep.key {w0 Wp : World} {F : Nat → Prop} {R : List RE} {a : Abs} (h : RRep w0 F Wp R a) {e : RE} (he : e ∈ R) : SlR (tInt .u8) 1 (Dz w0 F) Wp e.vk e.c.key := by
  obtain ⟨vk, vs, is, e1, h1, -⟩ := cl_cells.1 (h.good e he)
  injection e1 with e1 _; rw [e1]; exact h1
def posR (R : List RE) (k : ByteArray) : Nat := (R.takeWhile fun e => decide (bLt e.k k)).length
theorem posR_of {R : List RE} {k : ByteArray} {i : Nat} (hi : i ≤ R.length) (hlo : ∀ e ∈ R.take i, bLt e.k k) (hhi : ∀ e, R[i]? = some e → ¬ bLt e.k k) : posR R k = i := by
  have e : R = R.take i ++ R.drop i := (List.take_append_drop i R).symm
  unfold posR
  rw [e, List.takeWhile_append_of_pos (fun v hv => by simpa using hlo v hv)]
  have : (R.drop i).takeWhile (fun e => decide (bLt e.k k)) = [] := by
    cases hd : R.drop i with
    | nil => rfl
    | cons v l =>
      have hv : R[i]? = some v := by
        have := congrArg (·[0]?) hd
        simpa [List.getElem?_drop] using this
      rw [List.takeWhile_cons, decide_eq_false (hhi v hv)]; rfl
  rw [this, List.append_nil, List.length_take]; omega
def hasR (R : List RE) (k : ByteArray) : Bool := (R[posR R k]?).any fun e => decide (e.k = k)

end Go.Proofs.Ytpandioolpnihaa

namespace Go.Proofs.Ytpandioolpnihaa
open Go Go.Wk
set_option linter.unusedVariables false
set_option linter.unusedSimpArgs false

theorem posR_le (R : List RE) (k : ByteArray) : posR R k ≤ R.length := (List.takeWhile_sublist _).length_le
theorem posR_lo {R : List RE} {k : ByteArray} {e : RE} (h : e ∈ R.take (posR R k)) : bLt e.k k := by
  have e1 : R.take (posR R k) = R.takeWhile (fun e => decide (bLt e.k k)) := by
    have := List.take_left (l₁ := R.takeWhile (fun e => decide (bLt e.k k))) (l₂ := R.dropWhile (fun e => decide (bLt e.k k)))
    rwa [List.takeWhile_append_dropWhile] at this
  rw [e1] at h
  have := List.all_takeWhile (p := fun e => decide (bLt e.k k)) (l := R)
  rw [List.all_eq_true] at this
  simpa using this e h
theorem posR_at {R : List RE} {k : ByteArray} {e : RE} (h : R[posR R k]? = some e) : ¬ bLt e.k k := by
  unfold posR at h
  have hd : R.takeWhile (fun e => decide (bLt e.k k)) ++ R.dropWhile (fun e => decide (bLt e.k k)) = R := List.takeWhile_append_dropWhile
  have hw := List.head?_dropWhile_not (fun e => decide (bLt e.k k)) R
  generalize R.takeWhile (fun e => decide (bLt e.k k)) = T at *
  generalize R.dropWhile (fun e => decide (bLt e.k k)) = D at *
  subst hd
  rw [List.getElem?_append_right (Nat.le_refl _), Nat.sub_self] at h
  cases D with
  | nil => cases h
  | cons u l => injection h with h; subst h; simpa using hw
/-- Behind the place of a key that is not there all keys are greater. -/
theorem posR_hi {R : List RE} {k : ByteArray} (hs : (R.map RE.k).Pairwise bLt) (hn : hasR R k = false) : ∀ e ∈ R.drop (posR R k), bLt k e.k := by
  cases hg : R[posR R k]? with
  | none => rw [List.drop_of_length_le (List.getElem?_eq_none_iff.1 hg)]; simp
  | some u =>
    obtain ⟨hlt, he⟩ := List.getElem?_eq_some_iff.1 hg
    have hd : R.drop (posR R k) = u :: R.drop (posR R k + 1) := by rw [List.drop_eq_getElem_cons hlt, he]
    have hne : u.k ≠ k := by
      unfold hasR at hn; rw [hg] at hn; simpa using hn
    have hku : bLt k u.k := Classical.byContradiction fun h => hne (bLt_tri (posR_at hg) h)
    rw [hd]
    intro e he
    rcases List.mem_cons.1 he with rfl | he
    · exact hku
    · have hp : ((R.drop (posR R k)).map RE.k).Pairwise bLt := hs.sublist (List.Sublist.map _ (List.drop_sublist _ _))
      rw [hd, List.map_cons] at hp
      exact bLt_trans hku ((List.pairwise_cons.1 hp).1 _ (List.mem_map.2 ⟨e, he, rfl⟩))
theorem notin_of_has {R : List RE} {k : ByteArray} (hs : (R.map RE.k).Pairwise bLt) (hn : hasR R k = false) : k ∉ R.map RE.k := by
  intro h
  obtain ⟨e, he, hk⟩ := List.mem_map.1 h
  rw [← List.take_append_drop (posR R k) R] at he
  rcases List.mem_append.1 he with he | he
  · have := posR_lo he; rw [hk] at this; exact bLt_irrefl _ this
  · have := posR_hi hs hn e he; rw [hk] at this; exact bLt_irrefl _ this
/-- A blank cell is laid at its place. -/
theorem RRep.ins {w0 Wp : World} {F : Nat → Prop} {R : List RE} {a : Abs} (h : RRep w0 F Wp R a) {k : ByteArray} (hn : hasR R k = false) (e : RE) (hg : tCl.R (Dz w0 F) Wp e.cs e.c) (hek : e.k = k) (hev : e.c.vers = []) (hei : e.c.intent = noV) :
    RRep w0 F Wp (R.take (posR R k) ++ ([e] ++ R.drop (posR R k))) a := by
  have hni := notin_of_has h.rise hn
  have hm : ∀ x, x ∈ R.take (posR R k) ++ ([e] ++ R.drop (posR R k)) → x = e ∨ x ∈ R := fun x hx => by
    rcases List.mem_append.1 hx with hx | hx
    · exact .inr (List.mem_of_mem_take hx)
    · rcases List.mem_cons.1 hx with hx | hx
      · exact .inl hx
      · exact .inr (List.mem_of_mem_drop hx)
  refine ⟨h.base, fun x hx => ?_, ?_, fun x hx => ?_, fun k' hk' => h.vn k' fun hin => hk' ?_⟩
  · rcases hm x hx with rfl | hx
    · exact hg
    · exact h.good x hx
  · rw [List.map_append, List.map_append, List.map_cons, List.map_nil]
    refine List.pairwise_append.2 ⟨h.rise.sublist (List.Sublist.map _ (List.take_sublist _ _)), List.pairwise_cons.2 ⟨fun y hy => ?_, h.rise.sublist (List.Sublist.map _ (List.drop_sublist _ _))⟩, fun x hx y hy => ?_⟩
    · obtain ⟨z, hz, rfl⟩ := List.mem_map.1 hy
      rw [hek]; exact posR_hi h.rise hn z hz
    · obtain ⟨z, hz, rfl⟩ := List.mem_map.1 hx
      rcases List.mem_cons.1 hy with rfl | hy
      · rw [hek]; exact posR_lo hz
      · obtain ⟨u, hu, rfl⟩ := List.mem_map.1 hy
        exact bLt_trans (posR_lo hz) (posR_hi h.rise hn u hu)
  · rcases hm x hx with rfl | hx
    · rw [hek, hev, hei]; exact h.vn k hni
    · exact h.va x hx
  · obtain ⟨x, hx, rfl⟩ := List.mem_map.1 hin
    rw [← List.take_append_drop (posR R k) R] at hx
    refine List.mem_map.2 ⟨x, ?_, rfl⟩
    rcases List.mem_append.1 hx with hx | hx
    · exact List.mem_append.2 (.inl hx)
    · exact List.mem_append.2 (.inr (List.mem_append.2 (.inr hx)))
end Go.Proofs.Ytpandioolpnihaa

namespace Go.Proofs.Ytpandioolpnihaa
open Go Go.Wk
set_option linter.unusedVariables false
set_option linter.unusedSimpArgs false

end Go.Proofs.Ytpandioolpnihaa

namespace Go.Proofs.Ytpandioolpnihaa
open Go Go.Wk
set_option linter.unusedVariables false
set_option linter.unusedSimpArgs false

/-- What the reference's loop lays out. -/
def putL (u : Ver) (done : Bool) : List Ver → List Ver × Bool
  | [] => ([], done)
  | v :: vs => ((if !done && decide (v.ts ≤ u.ts) then [u] else []) ++ ((if v.ts ≠ u.ts then [v] else []) ++ (putL u (done || decide (v.ts ≤ u.ts)) vs).1), (putL u (done || decide (v.ts ≤ u.ts)) vs).2)
theorem putL_done (u : Ver) : ∀ vs : List Ver, (∀ v ∈ vs, v.ts ≠ u.ts) → putL u true vs = (vs, true)
  | [], _ => rfl
  | v :: vs, h => by
    have h1 := putL_done u vs fun x hx => h x (by simp [hx])
    have h2 := h v (by simp)
    simp [putL, h1, h2]
theorem posV_lt {v : Ver} {vs : List Ver} {ts : Int} (h : ts < v.ts) : posV (v :: vs) ts = posV vs ts + 1 := by
  unfold posV; rw [List.takeWhile_cons, if_pos (by simpa using h)]; rfl
theorem posV_ge {v : Ver} {vs : List Ver} {ts : Int} (h : ¬ ts < v.ts) : posV (v :: vs) ts = 0 := by
  unfold posV; rw [List.takeWhile_cons, if_neg (by simpa using h)]; rfl
theorem putL_putV (u : Ver) : ∀ vs : List Ver, Sd vs → (if (putL u false vs).2 then (putL u false vs).1 else (putL u false vs).1 ++ [u]) = putV vs u
  | [], _ => rfl
  | v :: vs, h => by
    obtain ⟨hv, hs⟩ := List.pairwise_cons.1 h
    by_cases h1 : u.ts < v.ts
    · have ih := putL_putV u vs hs
      have hn : ¬ v.ts ≤ u.ts := by omega
      have hne : v.ts ≠ u.ts := by omega
      have e1 : putV (v :: vs) u = v :: putV vs u := by
        unfold putV hasV
        rw [posV_lt h1]
        simp only [List.getElem?_cons_succ, List.set_cons_succ, List.take_succ_cons, List.drop_succ_cons]
        split <;> rfl
      rw [e1, ← ih]
      simp only [putL, hn, decide_false, Bool.and_false, Bool.or_false, hne, ne_eq, not_false_eq_true, if_true]
      split <;> simp_all
    · have hle : v.ts ≤ u.ts := by omega
      have hd := putL_done u vs fun x hx => by have := hv x hx; omega
      have hp := posV_ge (vs := vs) h1
      unfold putV hasV
      rw [hp]
      by_cases h2 : v.ts = u.ts
      · simp [putL, hle, hd, h2]
      · simp [putL, hle, hd, h2]
end Go.Proofs.Ytpandioolpnihaa

namespace Go.Proofs.Ytpandioolpnihaa
open Go Go.Wk
set_option linter.unusedVariables false
set_option linter.unusedSimpArgs false

theorem putL_snoc (u : Ver) (v : Ver) : ∀ (d : Bool) (vs : List Ver), putL u d (vs ++ [v]) = ((putL u d vs).1 ++ ((if !(putL u d vs).2 && decide (v.ts ≤ u.ts) then [u] else []) ++ (if v.ts ≠ u.ts then [v] else [])), (putL u d vs).2 || decide (v.ts ≤ u.ts))
  | d, [] => by simp [putL]
  | d, x :: vs => by
    have ih := putL_snoc u v (d || decide (x.ts ≤ u.ts)) vs
    simp only [List.cons_append, putL, ih, List.append_assoc]
    rfl
theorem putL_len (u : Ver) : ∀ (d : Bool) (vs : List Ver), (putL u d vs).1.length ≤ 2 * vs.length
  | d, [] => by simp [putL]
  | d, x :: vs => by
    have ih := putL_len u (d || decide (x.ts ≤ u.ts)) vs
    have h1 : (if !d && decide (x.ts ≤ u.ts) then [u] else []).length ≤ 1 := by split <;> simp
    have h2 : (if x.ts ≠ u.ts then [x] else []).length ≤ 1 := by split <;> simp
    simp only [putL, List.length_append, List.length_cons]
    omega
theorem RRep.vers {w0 Wp : World} {F : Nat → Prop} {R : List RE} {a : Abs} (h : RRep w0 F Wp R a) {e : RE} (he : e ∈ R) : SlR tVer 72 (Dz w0 F) Wp e.vs e.c.vers := by
  obtain ⟨vk, vs, is, e1, -, h1, -⟩ := cl_cells.1 (h.good e he)
  injection e1 with _ e1; injection e1 with e1 _; rw [e1]; exact h1
theorem RRep.int {w0 Wp : World} {F : Nat → Prop} {R : List RE} {a : Abs} (h : RRep w0 F Wp R a) {e : RE} (he : e ∈ R) : tVer.R (Dz w0 F) Wp [.int .u64 e.c.intent.ts, .int .u64 e.c.intent.txn, .bool e.c.intent.dead, e.iv, e.ik] e.c.intent := by
  obtain ⟨vk, vs, is, e1, -, -, h1⟩ := cl_cells.1 (h.good e he)
  injection e1 with _ e1; injection e1 with _ e1; rw [e1]; exact h1
/-- A cell is replaced. -/
theorem RRep.rep {w0 Wp : World} {F : Nat → Prop} {R : List RE} {a : Abs} (h : RRep w0 F Wp R a) {i : Nat} {e : RE} (hi : R[i]? = some e) (e' : RE) (hk : e'.k = e.k) (hg : tCl.R (Dz w0 F) Wp e'.cs e'.c) (a' : Abs) (h1 : a'.v e.k = e'.c.vers) (h2 : a'.i e.k = e'.c.intent) (h3 : ∀ k, k ≠ e.k → a'.v k = a.v k ∧ a'.i k = a.i k) :
    RRep w0 F Wp (R.set i e') a' := by
  obtain ⟨hlt, he⟩ := List.getElem?_eq_some_iff.1 hi
  have hsp : R = R.take i ++ e :: R.drop (i + 1) := by rw [← he, ← List.drop_eq_getElem_cons hlt, List.take_append_drop]
  have hset : R.set i e' = R.take i ++ e' :: R.drop (i + 1) := by rw [List.set_eq_take_append_cons_drop, if_pos hlt]
  have hkeys : (R.set i e').map RE.k = R.map RE.k := by
    rw [hset]; conv => rhs; rw [hsp]
    rw [List.map_append, List.map_append, List.map_cons, List.map_cons, hk]
  have hnd : (R.map RE.k).Nodup := rise_nodup bLt_irrefl h.rise
  have hne : ∀ x, x ∈ R.take i ++ R.drop (i + 1) → x.k ≠ e.k := by
    intro x hx hxk
    rw [hsp, List.map_append, List.map_cons] at hnd
    have h1 := List.nodup_append.1 hnd
    rcases List.mem_append.1 hx with hx | hx
    · exact h1.2.2 _ (List.mem_map.2 ⟨x, hx, rfl⟩) _ (by simp) hxk
    · exact (List.nodup_cons.1 h1.2.1).1 (List.mem_map.2 ⟨x, hx, hxk⟩)
  have hm : ∀ x, x ∈ R.set i e' → x = e' ∨ (x ∈ R ∧ x.k ≠ e.k) := fun x hx => by
    rw [hset] at hx
    rcases List.mem_append.1 hx with hx | hx
    · exact .inr ⟨List.mem_of_mem_take hx, hne x (List.mem_append.2 (.inl hx))⟩
    · rcases List.mem_cons.1 hx with hx | hx
      · exact .inl hx
      · exact .inr ⟨List.mem_of_mem_drop hx, hne x (List.mem_append.2 (.inr hx))⟩
  refine ⟨h.base, fun x hx => ?_, by rw [hkeys]; exact h.rise, fun x hx => ?_, fun k hk' => ?_⟩
  · rcases hm x hx with rfl | ⟨hx, _⟩
    · exact hg
    · exact h.good x hx
  · rcases hm x hx with rfl | ⟨hx, hxk⟩
    · rw [hk]; exact ⟨h1, h2⟩
    · have := h3 _ hxk; rw [this.1, this.2]; exact h.va x hx
  · rw [hkeys] at hk'
    have := h3 k fun e1 => hk' (by rw [e1]; exact List.mem_map.2 ⟨e, List.mem_of_getElem? hi, rfl⟩)
    rw [this.1, this.2]; exact h.vn k hk'

end Go.Proofs.Ytpandioolpnihaa

namespace Go.Proofs.Ytpandioolpnihaa
open Go Go.Wk
set_option linter.unusedVariables false
set_option linter.unusedSimpArgs false

theorem els_set {Z : Nat → Prop} {w : World} {cs c : List Value} {vs : List Ver} {i : Nat} {u : Ver} (h : Els tVer Z w cs vs) (hu : tVer.R Z w c u) (hi : i < vs.length) : Els tVer Z w (cs.take (i * 5) ++ c ++ cs.drop (i * 5 + 5)) (vs.set i u) := by
  rw [List.set_eq_take_append_cons_drop, if_pos hi]
  have h1 := (h.take i (by omega)).append (((Els.nil tVer Z w).snoc hu).append (h.drop (i + 1) (by omega)))
  rw [List.append_assoc]
  have e : i * 5 + 5 = (i + 1) * 5 := by omega
  rw [e]
  exact h1
theorem els_ins {Z : Nat → Prop} {w : World} {cs c : List Value} {vs : List Ver} {i : Nat} {u : Ver} (h : Els tVer Z w cs vs) (hu : tVer.R Z w c u) (hi : i ≤ vs.length) : Els tVer Z w (cs.take (i * 5) ++ c ++ cs.drop (i * 5)) (vs.take i ++ ([u] ++ vs.drop i)) := by
  rw [List.append_assoc]
  exact (h.take i hi).append (((Els.nil tVer Z w).snoc hu).append (h.drop i hi))
theorem pick6 {W : World} {x1 x2 x3 x4 x5 x6 : Atom} {E1 E2 : List Ent} {e : Ent} {L : List Atom} (H : Holds W (x1 :: x2 :: x3 :: x4 :: x5 :: x6 :: ((E1 ++ e :: E2).map Ent.atom ++ L))) : Holds W (e.atom :: x1 :: x2 :: x3 :: x4 :: x5 :: x6 :: ((E1 ++ E2).map Ent.atom ++ L)) := by
  rw [List.map_append, List.map_cons] at H
  rw [List.map_append]
  exact Holds.pick (A := [x1, x2, x3, x4, x5, x6]) (B := E1.map Ent.atom) (C := E2.map Ent.atom) (D := L) H
theorem unpick5 {W : World} {x1 x2 x3 x4 x5 : Atom} {E1 E2 : List Ent} {e : Ent} {L : List Atom} (H : Holds W (e.atom :: x1 :: x2 :: x3 :: x4 :: x5 :: ((E1 ++ E2).map Ent.atom ++ L))) : Holds W (x1 :: x2 :: x3 :: x4 :: x5 :: ((E1 ++ e :: E2).map Ent.atom ++ L)) := by
  rw [List.map_append, List.map_cons]
  rw [List.map_append] at H
  exact Holds.unpick (A := [x1, x2, x3, x4, x5]) (B := E1.map Ent.atom) (C := E2.map Ent.atom) (D := L) H
theorem has_lt {vs : List Ver} {ts : Int} (h : hasV vs ts = true) : posV vs ts < vs.length := by
  unfold hasV at h
  cases hg : vs[posV vs ts]? with
  | none => rw [hg] at h; cases h
  | some w => exact (List.getElem?_eq_some_iff.1 hg).1

set_option maxHeartbeats 16000000 in
theorem f23_calls {w0 w Wp : World} {F : Nat → Prop} {b b1 b2 m : Nat} {E : List Ent} {I : List Itn} {a : Abs} {L : List Atom} {vk : Value} {key : Key} {cs : List Value} {u : Ver} (H : Holds w (cAt b b1 b2 E I F Wp w0 L)) (hr : CRep w0 F Wp E I a) (hk : SlR (tInt .u8) 1 (Dz w0 F) Wp vk key) (hu : tVer.R (Dz w0 F) Wp cs u) (ha : a.Ok m) (hm : m ≤ 40000) :
    Calls Try.prog 23 [.pointer (some ⟨b, 0, none⟩), vk, .agg cs.toArray].toArray w fun e w' => e = .returned (.tuple #[]) ∧ ∃ (E' : List Ent) (F' : Nat → Prop) (Wp' : World), Holds w' (cAt b b1 b2 E' I F' Wp' w0 L) ∧ CRep w0 F' Wp' E' I (a.put (kb key) u) ∧ Grow w0 F Wp F' Wp' ∧ E'.length ≤ E.length + 1 := by
  obtain ⟨vv, vt, rfl, hi1, hi2, hv3, hv4⟩ := ver_cells.1 hu
  refine calls_of_W' Try.func23 rfl Try.ntmps23 rfl ?_
  refine W_seq ?_
  refine W_region ?_
  refine OL_c (op_box (v := .agg #[.int .u64 u.ts, .int .u64 u.txn, .bool u.dead, vv, vt]) H rfl (by decide) fun b5 w0_0 H => ?_)
  refine OL_nil ?_
  refine W_seq ?_
  refine W_seq ?_
  refine W_region ?_
  refine OL_y (y_move rfl) (by decide) ?_
  refine OL_c (op_call 43 en43 rfl [.pointer (some ⟨b, 0, none⟩)] rfl (by decide) ((f43_calls (H.getOwn 1 rfl)).mono ?_))
  rintro e w1_1 ⟨rfl, hE43⟩
  refine ⟨_, rfl, ?_⟩
  have H := H.ext0 hE43
  refine OL_y (y_not (b := true) rfl) (by decide) ?_
  refine OL_nil ?_
  refine W_condf rfl ?_
  refine W_skip ?_
  refine W_seq ?_
  by_cases hin : kb key ∈ E.map (·.key)
  · obtain ⟨e0, he0, hek⟩ := List.mem_map.1 hin
    obtain ⟨E1, E2, rfl⟩ := List.append_of_mem he0
    refine W_drawQ H mixed (by kernel_rfl) (by kernel_rfl) fun wd2 H => ?_
    refine QL_y (y_move rfl) (by decide) ?_
    refine QL_y (y_nilCheck rfl ⟨_, rfl⟩) (by decide) ?_
    refine QL_y (y_fieldAddr ti98 rfl ti95 rfl rfl) (by decide) ?_
    refine QL_y (y_loadS (v := .map (some b1)) ti95 rfl rfl (Cells.unit (H.getOwn 1 rfl) rfl)) (by decide) ?_
    refine QL_y (y_move rfl) (by decide) ?_
    refine QL_y (y_toStr Try.underlying23 Try.underlying5 Try.underlying9 rfl (hk.keeps (H.dz 4 5 rfl rfl hr.base))) (by decide) ?_
    refine QL_y (y_lookupS (v := e0.v) (by rw [← hek]; exact mget_ent hr.nd) H 2 rfl ti95 ti53 (KeyOK.str Try.underlying9) rfl rfl) (by decide) ?_
    refine QL_y (y_assign rfl) (by decide) ?_
    refine QL_nil ?_
    have hEv := hr.ev e0 he0
    have hvl : a.v (kb key) = e0.vers := by rw [← hek]; exact hr.va e0 he0
    obtain ⟨hsd, hvm⟩ := ha (kb key)
    rw [hvl] at hsd hvm
    have H := pick6 H
    have hkd : Keeps (Dz w0 F) Wp wd2 := H.dz 5 6 rfl rfl hr.base
    obtain ⟨av, cv, hev, hlv, -, hmv⟩ := ownsRow_slice (H.getRow 0 rfl)
    have hrw : Holds wd2 (row 32 5 (.slice av e0.vers.length cv) e0.vers.length e0.cs :: own b5 (.cells #[.int .u64 u.ts, .int .u64 u.txn, .bool u.dead, vv, vt] 32) :: own b (.cells #[.map (some b1), .map (some b2)] 98) :: mp Value.string b1 ((E1 ++ e0 :: E2).map Ent.kv) :: mp Value.string b2 (I.map Itn.kv) :: exc F Wp :: shr (fun k => k < w0.heap.size) w0 :: ((E1 ++ E2).map Ent.atom ++ L)) := by rw [← hev]; exact H
    have H := hrw
    have hSl : SlR tVer 72 (fun _ => True) wd2 (.slice av e0.vers.length cv) e0.vers := SlR.ofRow (H.getRow 0 rfl) (by decide) ((hEv.keeps hkd).mono fun _ _ _ => trivial) (fun _ _ => trivial) (by omega)
    refine W_seq ?_
    refine W_region ?_
    refine OL_y (y_move hev) (by decide) ?_
    refine OL_y (y_fieldAddr ti32 rfl ti24 rfl rfl) (by decide) ?_
    refine OL_y (y_loadS (v := .int .u64 u.ts) ti24 rfl rfl (Cells.unit (H.getOwn 1 rfl) rfl)) (by decide) ?_
    refine OL_c (op_call 44 en44 rfl [.slice av e0.vers.length cv, .int .u64 u.ts, .func (.func 45) #[] #[]] rfl (by decide) ((f44_calls ⟨Nat.le_refl _, fun _ _ _ => rfl⟩ hSl hsd (by omega)).mono ?_))
    rintro e w3_3 ⟨rfl, hE44⟩
    refine ⟨_, rfl, ?_⟩
    have H := H.ext0 hE44
    refine OL_y (y_move rfl) (by decide) ?_
    refine OL_y (y_extract (v := .int .i64 (posV e0.vers u.ts)) rfl rfl) (by decide) ?_
    refine OL_y (y_extract (v := .bool (hasV e0.vers u.ts)) rfl rfl) (by decide) ?_
    refine OL_y (y_assign rfl) (by decide) ?_
    refine OL_y (y_assign (v := .bool (hasV e0.vers u.ts)) rfl) (by decide) ?_
    refine OL_nil ?_
    refine W_seq ?_
    refine W_seq ?_
    refine W_region ?_
    refine OL_y (y_move rfl) (by decide) ?_
    refine OL_nil ?_
    refine W_cond rfl (fun hc => ?_) (fun hc => ?_)
    · have hp := has_lt hc
      obtain ⟨br, cr, hvr, -, -⟩ := ownsRow_cells (H.getRow 0 rfl) (by omega)
      refine W_seq ?_
      refine W_region ?_
      refine OL_y (y_move hev) (by decide) ?_
      refine OL_y (y_move rfl) (by decide) ?_
      refine OL_y (y_loadA (cs := [.int .u64 u.ts, .int .u64 u.txn, .bool u.dead, vv, vt]) ti32 rfl rfl (Cells.of (H.getOwn 1 rfl) rfl) rfl) (by decide) ?_
      refine OL_c (op_call 46 en46 rfl [.agg #[.int .u64 u.ts, .int .u64 u.txn, .bool u.dead, vv, vt]] rfl (by decide) ((f46_calls (tVer.keeps hu (H.dz 5 6 rfl rfl hr.base))).mono ?_))
      rintro e w5_3 ⟨cs', rfl, hR46, hE46⟩
      refine ⟨_, rfl, ?_⟩
      obtain ⟨H, g1⟩ := H.poolC hE46 5 6 rfl rfl hr.base
      obtain ⟨F', hF'⟩ : ∃ F' : Nat → Prop, F' = fun k => F k ∨ (w3_3.heap.size ≤ k ∧ k < w5_3.heap.size) := ⟨_, rfl⟩
      rw [← hF'] at H g1
      have hR' : tVer.R (Dz w0 F') w5_3 cs' u := tVer.mono hR46 fun k h1 h2 => .inr (by rw [hF']; exact .inr ⟨h2, h1⟩)
      have hcl : e0.cs.length = e0.vers.length * 5 := hEv.1
      have hcl' : cs'.length = 5 := tVer.len hR'
      refine OL_y (y_indexAddr ti53 ti32 hvr rfl (by omega) (by omega)) (by decide) ?_
      refine OL_c (op_storeRowA (u := .agg cs'.toArray) (o := 0 + posV e0.vers u.ts * 5) H 0 rfl (by rw [hvr]; rfl) ti32 rfl rfl hcl' (by omega) (tVer.one hR') fun w5_5 H => ?_)
      refine OL_nil ?_
      refine W_ret ?_
      show RetOK _ _ _ _ _ _
      have H : Holds w5_5 (row 32 5 (.slice av e0.vers.length cv) e0.vers.length (e0.cs.take (0 + posV e0.vers u.ts * 5) ++ cs' ++ e0.cs.drop (0 + posV e0.vers u.ts * 5 + 5)) :: own b5 (.cells #[.int .u64 u.ts, .int .u64 u.txn, .bool u.dead, vv, vt] 32) :: own b (.cells #[.map (some b1), .map (some b2)] 98) :: mp Value.string b1 ((E1 ++ e0 :: E2).map Ent.kv) :: mp Value.string b2 (I.map Itn.kv) :: exc F' w5_3 :: shr (fun k => k < w0.heap.size) w0 :: ((E1 ++ E2).map Ent.atom ++ L)) := H
      rw [Nat.zero_add] at H
      have hkv : (E1 ++ e0 :: E2).map Ent.kv = (E1 ++ (⟨e0.key, .slice av e0.vers.length cv, e0.cs.take (posV e0.vers u.ts * 5) ++ cs' ++ e0.cs.drop (posV e0.vers u.ts * 5 + 5), e0.vers.set (posV e0.vers u.ts) u⟩ : Ent) :: E2).map Ent.kv := by simp [hev]
      rw [hkv] at H
      have hput : putV e0.vers u = e0.vers.set (posV e0.vers u.ts) u := if_pos hc
      refine ret0 Try.results23 ⟨rfl, E1 ++ (⟨e0.key, .slice av e0.vers.length cv, e0.cs.take (posV e0.vers u.ts * 5) ++ cs' ++ e0.cs.drop (posV e0.vers u.ts * 5 + 5), e0.vers.set (posV e0.vers u.ts) u⟩ : Ent) :: E2, F', w5_3, unpick5 (e := ⟨e0.key, .slice av e0.vers.length cv, e0.cs.take (posV e0.vers u.ts * 5) ++ cs' ++ e0.cs.drop (posV e0.vers u.ts * 5 + 5), e0.vers.set (posV e0.vers u.ts) u⟩) ?_, ?_, g1, by simp⟩
      · show Holds w5_5 (row 32 5 _ (e0.vers.set (posV e0.vers u.ts) u).length _ :: _)
        rw [List.length_set]
        exact H.sub (.cons_cons _ (.cons _ (.refl _)))
      · show CRep _ _ _ _ _ (a.setV (kb key) (putV (a.v (kb key)) u))
        rw [hvl, hput, ← hek]
        exact (hr.grow g1).rep _ _ _ (els_set ((hr.grow g1).ev e0 he0) hR' hp) (by intro h; have h2 := congrArg List.length h; rw [List.length_set] at h2; exact absurd hp (by rw [h2]; exact Nat.not_lt_zero _))
    · refine W_skip ?_
      refine W_drawD H mixed (by kernel_rfl) [12] (fun wq w' => w'.heap[b]? = some (.cells #[.map (some b1), .map (some b2)] 98) ∧ w'.heap[b5]? = some (.cells #[.int .u64 u.ts, .int .u64 u.txn, .bool u.dead, vv, vt] 32) ∧ SlR (tInt .u8) 1 (fun _ => True) w' vk key) fun wd6 H hEd => ?_
      have hS : ∀ {ls : Array Bool}, Sx [12] (fun w' => w'.heap[b]? = some (.cells #[.map (some b1), .map (some b2)] 98) ∧ w'.heap[b5]? = some (.cells #[.int .u64 u.ts, .int .u64 u.txn, .bool u.dead, vv, vt] 32) ∧ SlR (tInt .u8) 1 (fun _ => True) w' vk key) ls wd6 := fun {_} _ => ⟨H.getOwn 2 rfl, H.getOwn 1 rfl, (hk.keeps (H.dz 5 6 rfl rfl hr.base)).mono fun _ _ _ => trivial⟩
      refine DA_p 0 rfl (by kernel_rfl) rfl (fun _ => y_move rfl) hS (by decide) fun hS => ?_
      refine DA_p 1 rfl (by kernel_rfl) rfl (fun _ => y_nilCheck rfl ⟨_, rfl⟩) hS (by decide) fun hS => ?_
      refine DA_p 2 rfl (by kernel_rfl) rfl (fun _ => y_fieldAddr ti98 rfl ti95 rfl rfl) hS (by decide) fun hS => ?_
      refine DA_y 3 rfl (by kernel_rfl) rfl (by kernel_rfl) (fun w' h => y_loadS (v := .map (some b1)) ti95 rfl rfl (Cells.unit h.1 rfl)) hS (by decide) fun hS => ?_
      refine DA_p 4 rfl (by kernel_rfl) rfl (fun _ => y_move rfl) hS (by decide) fun hS => ?_
      refine DA_y 5 rfl (by kernel_rfl) rfl (by kernel_rfl) (fun w' h => y_toStr (w := w') Try.underlying23 Try.underlying5 Try.underlying9 rfl h.2.2) hS (by decide) fun hS => ?_
      refine DA_p 6 rfl (by kernel_rfl) rfl (fun _ => y_move hev) hS (by decide) fun hS => ?_
      refine DA_p 7 rfl (by kernel_rfl) rfl (fun _ => y_move rfl) hS (by decide) fun hS => ?_
      refine DA_y 8 rfl (by kernel_rfl) rfl (by kernel_rfl) (fun w' h => y_loadA (cs := [.int .u64 u.ts, .int .u64 u.txn, .bool u.dead, vv, vt]) ti32 rfl rfl (Cells.of h.2.1 rfl) rfl) hS (by decide) fun hS => ?_
      refine DA_one 9 (by kernel_rfl) rfl (op_call 46 en46 rfl [.agg #[.int .u64 u.ts, .int .u64 u.txn, .bool u.dead, vv, vt]] rfl (by decide) ((f46_calls (tVer.keeps hu (H.dz 5 6 rfl rfl hr.base))).mono ?_))
      rintro e w6_9 ⟨cs', rfl, hR46, hE46⟩
      refine ⟨_, rfl, fun _ => ⟨(H.ext0 hE46).getOwn 2 rfl, (H.ext0 hE46).getOwn 1 rfl, (hk.keeps ((H.ext0 hE46).dz 5 6 rfl rfl hr.base)).mono fun _ _ _ => trivial⟩, ?_⟩
      obtain ⟨H, g1⟩ := H.poolC hE46 5 6 rfl rfl hr.base
      obtain ⟨F', hF'⟩ : ∃ F' : Nat → Prop, F' = fun k => F k ∨ (wd6.heap.size ≤ k ∧ k < w6_9.heap.size) := ⟨_, rfl⟩
      rw [← hF'] at H g1
      have hR' : tVer.R (Dz w0 F') w6_9 cs' u := tVer.mono hR46 fun k h1 h2 => .inr (by rw [hF']; exact .inr ⟨h2, h1⟩)
      have hcl : e0.cs.length = e0.vers.length * 5 := hEv.1
      have hcl' : cs'.length = 5 := tVer.len hR'
      refine DA_one 10 (by kernel_rfl) rfl (op_buildSlice H [.agg cs'.toArray] ti53 ti32 rfl rfl rfl (by intro v hv; rw [List.mem_singleton.1 hv]; exact hcl') rfl rfl (by decide) fun b42 w6_10 H => ⟨fun _ => ⟨H.getOwn 3 rfl, H.getOwn 2 rfl, ((g1.slr hk).keeps (H.dz 6 7 rfl rfl g1.base)).mono fun _ _ _ => trivial⟩, ?_⟩)
      have H := H.perm (List.Perm.swap _ _ _)
      refine DA_one 11 (by kernel_rfl) rfl (op_call 53 en53 rfl [.slice av e0.vers.length cv, .int .i64 (posV e0.vers u.ts), .slice (some ⟨b42, 0, none⟩) 1 1] rfl (by decide) ((f53_calls H (pos_le _ _) (by omega) (hEv.one (by decide)) (by intro c hc; exact tVer.one hR' c (by simpa [Value.cells] using hc))).mono ?_))
      rintro e w6_11 ⟨v43, rfl, H⟩
      refine ⟨_, rfl, fun _ => ⟨H.getOwn 2 rfl, H.getOwn 1 rfl, ((g1.slr hk).keeps (H.dz 5 6 rfl rfl g1.base)).mono fun _ _ _ => trivial⟩, ?_⟩
      refine DA_one 12 (by kernel_rfl) rfl (op_mapUpdate (k := kb key) (v := v43) H 3 rfl ti95 (KeyOK.str Try.underlying9) rfl rfl rfl fun w6_12 H => ⟨fun h => absurd (h 12 (by simp)) (by decide), ?_⟩)
      refine DA_done (by kernel_rfl) ?_
      show RetOK _ _ _ _ _ _
      have hput : putV e0.vers u = e0.vers.take (posV e0.vers u.ts) ++ ([u] ++ e0.vers.drop (posV e0.vers u.ts)) := if_neg (by simpa using hc)
      have hle := pos_le e0.vers u.ts
      have hln : (e0.vers.take (posV e0.vers u.ts) ++ ([u] ++ e0.vers.drop (posV e0.vers u.ts))).length = e0.vers.length + 1 := by simp only [List.length_append, List.length_take, List.length_drop, List.length_cons, List.length_nil]; omega
      have H : Holds w6_12 (row 32 5 v43 (e0.vers.length + 1) (e0.cs.take (posV e0.vers u.ts * 5) ++ (cs' ++ []) ++ e0.cs.drop (posV e0.vers u.ts * 5)) :: own b5 (.cells #[.int .u64 u.ts, .int .u64 u.txn, .bool u.dead, vv, vt] 32) :: own b (.cells #[.map (some b1), .map (some b2)] 98) :: mp Value.string b1 (mset ((E1 ++ e0 :: E2).map Ent.kv) (kb key) v43) :: mp Value.string b2 (I.map Itn.kv) :: exc F' w6_9 :: shr (fun k => k < w0.heap.size) w0 :: ((E1 ++ E2).map Ent.atom ++ L)) := H
      rw [List.append_nil, ← hek, mset_ent hr.nd v43 (e0.cs.take (posV e0.vers u.ts * 5) ++ cs' ++ e0.cs.drop (posV e0.vers u.ts * 5)) (e0.vers.take (posV e0.vers u.ts) ++ ([u] ++ e0.vers.drop (posV e0.vers u.ts)))] at H
      refine ret0 Try.results23 ⟨rfl, E1 ++ (⟨e0.key, v43, e0.cs.take (posV e0.vers u.ts * 5) ++ cs' ++ e0.cs.drop (posV e0.vers u.ts * 5), e0.vers.take (posV e0.vers u.ts) ++ ([u] ++ e0.vers.drop (posV e0.vers u.ts))⟩ : Ent) :: E2, F', w6_9, unpick5 (e := ⟨e0.key, v43, e0.cs.take (posV e0.vers u.ts * 5) ++ cs' ++ e0.cs.drop (posV e0.vers u.ts * 5), e0.vers.take (posV e0.vers u.ts) ++ ([u] ++ e0.vers.drop (posV e0.vers u.ts))⟩) ?_, ?_, g1, by simp⟩
      · show Holds w6_12 (row 32 5 _ (e0.vers.take (posV e0.vers u.ts) ++ ([u] ++ e0.vers.drop (posV e0.vers u.ts))).length _ :: _)
        rw [hln]
        exact H.sub (.cons_cons _ (.cons _ (.refl _)))
      · show CRep _ _ _ _ _ (a.setV (kb key) (putV (a.v (kb key)) u))
        rw [hvl, hput, ← hek]
        exact (hr.grow g1).rep _ _ _ (els_ins ((hr.grow g1).ev e0 he0) hR' hle) (by simp)
  · refine W_drawQ H mixed (by kernel_rfl) (by kernel_rfl) fun wd2 H => ?_
    refine QL_y (y_move rfl) (by decide) ?_
    refine QL_y (y_nilCheck rfl ⟨_, rfl⟩) (by decide) ?_
    refine QL_y (y_fieldAddr ti98 rfl ti95 rfl rfl) (by decide) ?_
    refine QL_y (y_loadS (v := .map (some b1)) ti95 rfl rfl (Cells.unit (H.getOwn 1 rfl) rfl)) (by decide) ?_
    refine QL_y (y_move rfl) (by decide) ?_
    refine QL_y (y_toStr Try.underlying23 Try.underlying5 Try.underlying9 rfl (hk.keeps (H.dz 4 5 rfl rfl hr.base))) (by decide) ?_
    refine QL_y (y_lookupN (mget_none.2 (by rw [List.map_map]; exact hin)) H 2 rfl ti95 ti53 (KeyOK.str Try.underlying9) rfl rfl) (by decide) ?_
    refine QL_y (y_assign rfl) (by decide) ?_
    refine QL_nil ?_
    have hvl : a.v (kb key) = [] := hr.vn _ hin
    refine W_seq ?_
    refine W_region ?_
    refine OL_y (y_move rfl) (by decide) ?_
    refine OL_y (y_fieldAddr ti32 rfl ti24 rfl rfl) (by decide) ?_
    refine OL_y (y_loadS (v := .int .u64 u.ts) ti24 rfl rfl (Cells.unit (H.getOwn 0 rfl) rfl)) (by decide) ?_
    refine OL_c (op_call 44 en44 rfl [.slice none 0 0, .int .u64 u.ts, .func (.func 45) #[] #[]] rfl (by decide) ((f44_calls (Z := fun _ => True) ⟨Nat.le_refl _, fun _ _ _ => rfl⟩ (SlR.nil tVer 72 _ _) (List.Pairwise.nil : Sd []) (by decide)).mono ?_))
    rintro e w3_3 ⟨rfl, hE44⟩
    refine ⟨_, rfl, ?_⟩
    have H := H.ext0 hE44
    refine OL_y (y_move rfl) (by decide) ?_
    refine OL_y (y_extract (v := .int .i64 0) rfl rfl) (by decide) ?_
    refine OL_y (y_extract (v := .bool false) rfl rfl) (by decide) ?_
    refine OL_y (y_assign rfl) (by decide) ?_
    refine OL_y (y_assign (v := .bool false) rfl) (by decide) ?_
    refine OL_nil ?_
    refine W_seq ?_
    refine W_seq ?_
    refine W_region ?_
    refine OL_y (v := .bool false) (y_move rfl) (by decide) ?_
    refine OL_nil ?_
    refine W_condf rfl ?_
    refine W_skip ?_
    refine W_drawD H mixed (by kernel_rfl) [12] (fun wq w' => w'.heap[b]? = some (.cells #[.map (some b1), .map (some b2)] 98) ∧ w'.heap[b5]? = some (.cells #[.int .u64 u.ts, .int .u64 u.txn, .bool u.dead, vv, vt] 32) ∧ SlR (tInt .u8) 1 (fun _ => True) w' vk key) fun wd6 H hEd => ?_
    have hS : ∀ {ls : Array Bool}, Sx [12] (fun w' => w'.heap[b]? = some (.cells #[.map (some b1), .map (some b2)] 98) ∧ w'.heap[b5]? = some (.cells #[.int .u64 u.ts, .int .u64 u.txn, .bool u.dead, vv, vt] 32) ∧ SlR (tInt .u8) 1 (fun _ => True) w' vk key) ls wd6 := fun {_} _ => ⟨H.getOwn 1 rfl, H.getOwn 0 rfl, (hk.keeps (H.dz 4 5 rfl rfl hr.base)).mono fun _ _ _ => trivial⟩
    refine DA_p 0 rfl (by kernel_rfl) rfl (fun _ => y_move rfl) hS (by decide) fun hS => ?_
    refine DA_p 1 rfl (by kernel_rfl) rfl (fun _ => y_nilCheck rfl ⟨_, rfl⟩) hS (by decide) fun hS => ?_
    refine DA_p 2 rfl (by kernel_rfl) rfl (fun _ => y_fieldAddr ti98 rfl ti95 rfl rfl) hS (by decide) fun hS => ?_
    refine DA_y 3 rfl (by kernel_rfl) rfl (by kernel_rfl) (fun w' h => y_loadS (v := .map (some b1)) ti95 rfl rfl (Cells.unit h.1 rfl)) hS (by decide) fun hS => ?_
    refine DA_p 4 rfl (by kernel_rfl) rfl (fun _ => y_move rfl) hS (by decide) fun hS => ?_
    refine DA_y 5 rfl (by kernel_rfl) rfl (by kernel_rfl) (fun w' h => y_toStr (w := w') Try.underlying23 Try.underlying5 Try.underlying9 rfl h.2.2) hS (by decide) fun hS => ?_
    refine DA_p 6 rfl (by kernel_rfl) rfl (fun _ => y_move rfl) hS (by decide) fun hS => ?_
    refine DA_p 7 rfl (by kernel_rfl) rfl (fun _ => y_move rfl) hS (by decide) fun hS => ?_
    refine DA_y 8 rfl (by kernel_rfl) rfl (by kernel_rfl) (fun w' h => y_loadA (cs := [.int .u64 u.ts, .int .u64 u.txn, .bool u.dead, vv, vt]) ti32 rfl rfl (Cells.of h.2.1 rfl) rfl) hS (by decide) fun hS => ?_
    refine DA_one 9 (by kernel_rfl) rfl (op_call 46 en46 rfl [.agg #[.int .u64 u.ts, .int .u64 u.txn, .bool u.dead, vv, vt]] rfl (by decide) ((f46_calls (tVer.keeps hu (H.dz 4 5 rfl rfl hr.base))).mono ?_))
    rintro e w6_9 ⟨cs', rfl, hR46, hE46⟩
    refine ⟨_, rfl, fun _ => ⟨(H.ext0 hE46).getOwn 1 rfl, (H.ext0 hE46).getOwn 0 rfl, (hk.keeps ((H.ext0 hE46).dz 4 5 rfl rfl hr.base)).mono fun _ _ _ => trivial⟩, ?_⟩
    obtain ⟨H, g1⟩ := H.poolC hE46 4 5 rfl rfl hr.base
    obtain ⟨F', hF'⟩ : ∃ F' : Nat → Prop, F' = fun k => F k ∨ (wd6.heap.size ≤ k ∧ k < w6_9.heap.size) := ⟨_, rfl⟩
    rw [← hF'] at H g1
    have hR' : tVer.R (Dz w0 F') w6_9 cs' u := tVer.mono hR46 fun k h1 h2 => .inr (by rw [hF']; exact .inr ⟨h2, h1⟩)
    have hcl' : cs'.length = 5 := tVer.len hR'
    refine DA_one 10 (by kernel_rfl) rfl (op_buildSlice H [.agg cs'.toArray] ti53 ti32 rfl rfl rfl (by intro v hv; rw [List.mem_singleton.1 hv]; exact hcl') rfl rfl (by decide) fun b42 w6_10 H => ⟨fun _ => ⟨H.getOwn 2 rfl, H.getOwn 1 rfl, ((g1.slr hk).keeps (H.dz 5 6 rfl rfl g1.base)).mono fun _ _ _ => trivial⟩, ?_⟩)
    have H := H.rowNil 32 5
    refine DA_one 11 (by kernel_rfl) rfl (op_call 53 en53 rfl [.slice none 0 0, .int .i64 (0 : Nat), .slice (some ⟨b42, 0, none⟩) 1 1] rfl (by decide) ((f53_calls H (Nat.le_refl _) (by omega) (by simp) (by intro c hc; exact tVer.one hR' c (by simpa [Value.cells] using hc))).mono ?_))
    rintro e w6_11 ⟨v43, rfl, H⟩
    refine ⟨_, rfl, fun _ => ⟨H.getOwn 2 rfl, H.getOwn 1 rfl, ((g1.slr hk).keeps (H.dz 5 6 rfl rfl g1.base)).mono fun _ _ _ => trivial⟩, ?_⟩
    refine DA_one 12 (by kernel_rfl) rfl (op_mapUpdate (k := kb key) (v := v43) H 3 rfl ti95 (KeyOK.str Try.underlying9) rfl rfl rfl fun w6_12 H => ⟨fun h => absurd (h 12 (by simp)) (by decide), ?_⟩)
    refine DA_done (by kernel_rfl) ?_
    show RetOK _ _ _ _ _ _
    have hput : putV [] u = [u] := rfl
    have H : Holds w6_12 (row 32 5 v43 (0 + 1) ((([] : List Value).take (0 * 5)) ++ (cs' ++ []) ++ ([] : List Value).drop (0 * 5)) :: own b5 (.cells #[.int .u64 u.ts, .int .u64 u.txn, .bool u.dead, vv, vt] 32) :: own b (.cells #[.map (some b1), .map (some b2)] 98) :: mp Value.string b1 (mset (E.map Ent.kv) (kb key) v43) :: mp Value.string b2 (I.map Itn.kv) :: exc F' w6_9 :: shr (fun k => k < w0.heap.size) w0 :: (E.map Ent.atom ++ L)) := H
    rw [mset_new hin v43 cs' [u]] at H
    have e1 : (([] : List Value).take (0 * 5)) ++ (cs' ++ []) ++ ([] : List Value).drop (0 * 5) = cs' := by simp
    rw [e1] at H
    refine ret0 Try.results23 ⟨rfl, E ++ [(⟨kb key, v43, cs', [u]⟩ : Ent)], F', w6_9, unpick5 (e := ⟨kb key, v43, cs', [u]⟩) (E1 := E) (E2 := []) ?_, ?_, g1, by simp⟩
    · rw [List.append_nil]
      exact H.sub (.cons_cons _ (.cons _ (.refl _)))
    · show CRep _ _ _ _ _ (a.setV (kb key) (putV (a.v (kb key)) u))
      rw [hvl, hput]
      exact (hr.grow g1).add _ hin (by rw [kb_size]; have := hk.reach; omega) _ _ _ ((Els.nil tVer _ _).snoc hR') (by simp)
end Go.Proofs.Ytpandioolpnihaa

namespace Go.Proofs.Ytpandioolpnihaa
open Go Go.Wk
set_option linter.unusedVariables false
set_option linter.unusedSimpArgs false

theorem ndI_split {E1 E2 : List Itn} {e : Itn} (h : ((E1 ++ e :: E2).map (·.key)).Nodup) : ∀ x, x ∈ E1 ++ E2 → x.key ≠ e.key := by
  intro x hx hk
  rw [List.map_append, List.map_cons] at h
  have h1 := List.nodup_append.1 h
  rcases List.mem_append.1 hx with hx | hx
  · exact h1.2.2 _ (List.mem_map.2 ⟨x, hx, rfl⟩) _ (by simp) hk
  · exact (List.nodup_cons.1 h1.2.1).1 (List.mem_map.2 ⟨x, hx, hk⟩)
theorem msetI_ent {E1 E2 : List Itn} {e : Itn} (h : ((E1 ++ e :: E2).map (·.key)).Nodup) (cs : List Value) (ver : Ver) : mset ((E1 ++ e :: E2).map Itn.kv) e.key (.agg cs.toArray) = (E1 ++ (⟨e.key, cs, ver⟩ : Itn) :: E2).map Itn.kv := by
  have hs := ndI_split h
  have hin : e.key ∈ ((E1 ++ e :: E2).map Itn.kv).map (·.1) := by simp
  unfold mset
  rw [if_pos hin]
  have hid : ∀ l : List Itn, (∀ x ∈ l, x.key ≠ e.key) → (l.map Itn.kv).map (fun x => if x.1 = e.key then (e.key, .agg cs.toArray) else x) = l.map Itn.kv := fun l hl => by
    rw [List.map_map]; apply List.map_congr_left; intro x hx; exact if_neg (hl x hx)
  rw [List.map_append, List.map_append, List.map_cons, List.map_cons, hid E1 fun x hx => hs x (List.mem_append.2 (.inl hx)), hid E2 fun x hx => hs x (List.mem_append.2 (.inr hx)), List.map_append, List.map_cons, if_pos rfl]
theorem msetI_new {E : List Itn} {k : ByteArray} (hk : k ∉ E.map (·.key)) (cs : List Value) (ver : Ver) : mset (E.map Itn.kv) k (.agg cs.toArray) = (E ++ [(⟨k, cs, ver⟩ : Itn)]).map Itn.kv := by
  unfold mset
  rw [if_neg (by rw [List.map_map]; exact hk), List.map_append]; rfl
theorem mgetI_ent {E1 E2 : List Itn} {e : Itn} (h : ((E1 ++ e :: E2).map (·.key)).Nodup) : mget ((E1 ++ e :: E2).map Itn.kv) e.key = some (.agg e.cs.toArray) := by
  have hs := ndI_split h
  unfold mget
  rw [List.map_append, List.find?_append]
  have h1 : (E1.map Itn.kv).find? (fun x => decide (x.1 = e.key)) = none := by
    rw [List.find?_eq_none]
    intro x hx
    obtain ⟨y, hy, rfl⟩ := List.mem_map.1 hx
    simpa using hs y (List.mem_append.2 (.inl hy))
  rw [h1, List.map_cons, List.find?_cons]; simp
theorem CRep.repI {w0 Wp : World} {F : Nat → Prop} {E : List Ent} {E1 E2 : List Itn} {a : Abs} {e : Itn} (h : CRep w0 F Wp E (E1 ++ e :: E2) a) (cs : List Value) (ver : Ver) (hE : tVer.R (Dz w0 F) Wp cs ver) (hn : ver.txn ≠ 0) :
    CRep w0 F Wp E (E1 ++ ⟨e.key, cs, ver⟩ :: E2) (a.setI e.key ver) := by
  have hs := ndI_split h.ind
  have hm : ∀ x, x ∈ E1 ++ (⟨e.key, cs, ver⟩ : Itn) :: E2 → x = ⟨e.key, cs, ver⟩ ∨ x ∈ E1 ++ E2 := fun x hx => by
    rcases List.mem_append.1 hx with hx | hx
    · exact .inr (List.mem_append.2 (.inl hx))
    · rcases List.mem_cons.1 hx with hx | hx
      · exact .inl hx
      · exact .inr (List.mem_append.2 (.inr hx))
  have hm2 : ∀ x, x ∈ E1 ++ E2 → x ∈ E1 ++ e :: E2 := fun x hx => by rcases List.mem_append.1 hx with hx | hx <;> simp [hx]
  have hkeys : (E1 ++ (⟨e.key, cs, ver⟩ : Itn) :: E2).map (·.key) = (E1 ++ e :: E2).map (·.key) := by simp
  refine ⟨h.base, h.ev, h.en, h.nd, h.va, h.vn, fun x hx => ?_, by rw [hkeys]; exact h.ind, fun x hx => ?_, fun k hk => ?_, h.ek, fun x hx => (hm x hx).elim (fun q => by rw [q]; exact h.ik e (by simp)) (fun hx => h.ik x (hm2 x hx))⟩
  · rcases hm x hx with rfl | hx
    · exact ⟨hE, hn⟩
    · exact h.iv x (hm2 x hx)
  · rcases hm x hx with rfl | hx
    · exact if_pos rfl
    · exact (if_neg (hs x hx)).trans (h.ia x (hm2 x hx))
  · rw [hkeys] at hk
    exact (if_neg fun e' => hk (by rw [e']; simp)).trans (h.inn k hk)
theorem CRep.addI {w0 Wp : World} {F : Nat → Prop} {E : List Ent} {I : List Itn} {a : Abs} (h : CRep w0 F Wp E I a) (k : ByteArray) (hk : k ∉ I.map (·.key)) (hkz : k.size ≤ 140737488351232) (cs : List Value) (ver : Ver) (hE : tVer.R (Dz w0 F) Wp cs ver) (hn : ver.txn ≠ 0) :
    CRep w0 F Wp E (I ++ [⟨k, cs, ver⟩]) (a.setI k ver) := by
  have hm : ∀ x, x ∈ I ++ [(⟨k, cs, ver⟩ : Itn)] → x = ⟨k, cs, ver⟩ ∨ x ∈ I := fun x hx => by rcases List.mem_append.1 hx with hx | hx <;> simp_all
  have hne : ∀ x ∈ I, x.key ≠ k := fun x hx e => hk (List.mem_map.2 ⟨x, hx, e⟩)
  refine ⟨h.base, h.ev, h.en, h.nd, h.va, h.vn, fun x hx => ?_, ?_, fun x hx => ?_, fun k' hk' => ?_, h.ek, fun x hx => (hm x hx).elim (fun q => by rw [q]; exact hkz) (h.ik x)⟩
  · rcases hm x hx with rfl | hx
    · exact ⟨hE, hn⟩
    · exact h.iv x hx
  · rw [List.map_append, List.nodup_append]
    refine ⟨h.ind, by simp, fun x hx y hy e => ?_⟩
    simp only [List.map_cons, List.map_nil, List.mem_singleton] at hy
    exact hk (by rw [← hy, ← e]; exact hx)
  · rcases hm x hx with rfl | hx
    · exact if_pos rfl
    · exact (if_neg (hne x hx)).trans (h.ia x hx)
  · rw [List.map_append, List.mem_append, not_or] at hk'
    exact (if_neg fun e => hk'.2 (by simp [e])).trans (h.inn k' hk'.1)
/-- What the look-up of an intent gives. -/
theorem CRep.look {w0 Wp : World} {F : Nat → Prop} {E : List Ent} {I : List Itn} {a : Abs} (h : CRep w0 F Wp E I a) (k : ByteArray) : ∃ cs : List Value, (mget (I.map Itn.kv) k).getD (.agg #[.int .u64 0, .int .u64 0, .bool false, .slice none 0 0, .slice none 0 0]) = .agg cs.toArray ∧ tVer.R (Dz w0 F) Wp cs (a.i k) := by
  by_cases hin : k ∈ I.map (·.key)
  · obtain ⟨i0, hi0, hik⟩ := List.mem_map.1 hin
    obtain ⟨I1, I2, rfl⟩ := List.append_of_mem hi0
    have h1 := h.iv i0 hi0
    have h2 := h.ia i0 hi0
    rw [hik] at h2
    refine ⟨i0.cs, by rw [← hik, mgetI_ent h.ind]; rfl, by rw [h2]; exact h1.1⟩
  · refine ⟨[.int .u64 0, .int .u64 0, .bool false, .slice none 0 0, .slice none 0 0], by rw [mget_none.2 (by rw [List.map_map]; exact hin)]; rfl, ?_⟩
    rw [h.inn k hin]
    exact ver_cells.2 ⟨_, _, rfl, rfl, rfl, SlR.nil _ _ _ _, SlR.nil _ _ _ _⟩
/-- An intent is laid: at a key that has one or has none. -/
theorem CRep.layI {w0 Wp : World} {F : Nat → Prop} {E : List Ent} {I : List Itn} {a : Abs} (h : CRep w0 F Wp E I a) (k : ByteArray) (hkz : k.size ≤ 140737488351232) (cs : List Value) (ver : Ver) (hE : tVer.R (Dz w0 F) Wp cs ver) (hn : ver.txn ≠ 0) :
    ∃ I', mset (I.map Itn.kv) k (.agg cs.toArray) = I'.map Itn.kv ∧ CRep w0 F Wp E I' (a.setI k ver) ∧ I'.length ≤ I.length + 1 := by
  by_cases hin : k ∈ I.map (·.key)
  · obtain ⟨i0, hi0, rfl⟩ := List.mem_map.1 hin
    obtain ⟨I1, I2, rfl⟩ := List.append_of_mem hi0
    exact ⟨_, msetI_ent h.ind cs ver, h.repI cs ver hE hn, by simp⟩
  · exact ⟨_, msetI_new hin cs ver, h.addI k hin hkz cs ver hE hn, by simp⟩

theorem y_lookupG {κ : Type} [DecidableEq κ] {P : Program} {f : Fr} {w : World} {d ty : Nat} {p : String} {af : Array Edge} {g : Option (Nat × Bool)} {t kt et size bytes size' bytes' : Nat} {zero zero' : Value} {dd : TypeDesc} {x y : Operand} {L : List Atom} {K : κ → Value} {b : Nat} {m : List (κ × Value)} {k : κ} {v : Value} (hg : (mget m k).getD zero' = v) (H : Holds w L) (i : Nat) (hi : L[i]? = some (mp K b m)) (tm : TI P t size bytes zero (.map kt et)) (te : TI P et size' bytes' zero' dd) (hk : KeyOK P kt K) (hx : ev f x = .map (some b)) (hy : ev f y = K k) :
    Yd P ⟨some d, .lookup t x y false, ty, p, af, g⟩ f w v := by
  have := y_lookup (d := d) (ty := ty) (p := p) (af := af) (g := g) H i hi tm te hk hx hy; rwa [hg] at this
def intendR (a : Abs) (k : ByteArray) (u : Ver) : Bool := decide (u.txn ≠ 0) && (decide ((a.i k).txn = 0) || decide ((a.i k).txn = u.txn))
def Abs.intend (a : Abs) (k : ByteArray) (u : Ver) : Abs := if intendR a k u then a.setI k u else a

set_option maxHeartbeats 16000000 in
theorem f37_calls {w0 w Wp : World} {F : Nat → Prop} {b b1 b2 : Nat} {E : List Ent} {I : List Itn} {a : Abs} {L : List Atom} {vk : Value} {key : Key} {cs : List Value} {u : Ver} (H : Holds w (cAt b b1 b2 E I F Wp w0 L)) (hr : CRep w0 F Wp E I a) (hk : SlR (tInt .u8) 1 (Dz w0 F) Wp vk key) (hu : tVer.R (Dz w0 F) Wp cs u) :
    Calls Try.prog 37 [.pointer (some ⟨b, 0, none⟩), vk, .agg cs.toArray].toArray w fun e w' => e = .returned (.int .i64 (if intendR a (kb key) u then 0 else 150)) ∧ ∃ (I' : List Itn) (F' : Nat → Prop) (Wp' : World), Holds w' (cAt b b1 b2 E I' F' Wp' w0 L) ∧ CRep w0 F' Wp' E I' (a.intend (kb key) u) ∧ Grow w0 F Wp F' Wp' ∧ I'.length ≤ I.length + 1 := by
  obtain ⟨vv, vt, rfl, hi1, hi2, hv3, hv4⟩ := ver_cells.1 hu
  refine calls_of_W' Try.func37 rfl Try.ntmps37 rfl ?_
  refine W_seq ?_
  refine W_region ?_
  refine OL_c (op_box (v := .agg #[.int .u64 u.ts, .int .u64 u.txn, .bool u.dead, vv, vt]) H rfl (by decide) fun b5 w0_0 H => ?_)
  refine OL_y (y_assign rfl) (by decide) ?_
  refine OL_nil ?_
  refine W_seq ?_
  refine W_seq ?_
  by_cases hz : u.txn = 0
  · refine W_region ?_
    refine OL_y (y_move rfl) (by decide) ?_
    refine OL_c (op_call 43 en43 rfl [.pointer (some ⟨b, 0, none⟩)] rfl (by decide) ((f43_calls (H.getOwn 1 rfl)).mono ?_))
    rintro e w1_1 ⟨rfl, hE43⟩
    refine ⟨_, rfl, ?_⟩
    have H := H.ext0 hE43
    refine OL_y (y_not (b := true) rfl) (by decide) ?_
    refine OL_y (v := .bool false) (y_move rfl) (by decide) ?_
    refine OL_yg rfl (by decide) rfl (y_fieldAddr ti32 rfl ti24 rfl rfl) (by decide) ?_
    refine OL_yg rfl (by decide) rfl (y_loadS (v := .int .u64 u.txn) ti24 rfl rfl (Cells.unit (H.getOwn 0 rfl) rfl)) (by decide) ?_
    refine OL_yg (v := .bool true) rfl (by decide) rfl (y_eqlT hz rfl rfl) (by decide) ?_
    refine OL_y (y_pick (b := false) (v := .bool true) rfl rfl) (by decide) ?_
    refine OL_nil ?_
    refine W_condt rfl ?_
    refine W_seq ?_
    refine W_region ?_
    refine OL_y (y_assign rfl) (by decide) ?_
    refine OL_nil ?_
    refine W_ret ?_
    show RetOK _ _ _ _ _ _
    have hR : intendR a (kb key) u = false := by unfold intendR; simp [hz]
    refine ret1 (v := .int .i64 150) Try.results37 rfl ⟨by rw [hR]; rfl, I, F, Wp, H.tail, ?_, Grow.refl hr.base, by omega⟩
    unfold Abs.intend; rw [hR]; exact hr
  · refine W_region ?_
    refine OL_y (y_move rfl) (by decide) ?_
    refine OL_c (op_call 43 en43 rfl [.pointer (some ⟨b, 0, none⟩)] rfl (by decide) ((f43_calls (H.getOwn 1 rfl)).mono ?_))
    rintro e w1_1 ⟨rfl, hE43⟩
    refine ⟨_, rfl, ?_⟩
    have H := H.ext0 hE43
    refine OL_y (y_not (b := true) rfl) (by decide) ?_
    refine OL_y (v := .bool false) (y_move rfl) (by decide) ?_
    refine OL_yg rfl (by decide) rfl (y_fieldAddr ti32 rfl ti24 rfl rfl) (by decide) ?_
    refine OL_yg rfl (by decide) rfl (y_loadS (v := .int .u64 u.txn) ti24 rfl rfl (Cells.unit (H.getOwn 0 rfl) rfl)) (by decide) ?_
    refine OL_yg (v := .bool false) rfl (by decide) rfl (y_eqlF hz rfl rfl) (by decide) ?_
    refine OL_y (y_pick (b := false) (v := .bool false) rfl rfl) (by decide) ?_
    refine OL_nil ?_
    refine W_condf rfl ?_
    refine W_skip ?_
    refine W_seq ?_
    refine W_seq ?_
    obtain ⟨csI, hlk, hRI⟩ := hr.look (kb key)
    obtain ⟨jv, jk, rfl, hj1, hj2, hj3, hj4⟩ := ver_cells.1 hRI
    refine W_drawD H mixed (by kernel_rfl) [] (fun wq w' => Holds w' (own b5 (.cells #[.int .u64 u.ts, .int .u64 u.txn, .bool u.dead, vv, vt] 32) :: cAt b b1 b2 E I F Wp w0 L)) fun wd3 H hEd => ?_
    have hS : ∀ {ls : Array Bool}, Sx [] (fun w' => Holds w' (own b5 (.cells #[.int .u64 u.ts, .int .u64 u.txn, .bool u.dead, vv, vt] 32) :: cAt b b1 b2 E I F Wp w0 L)) ls wd3 := fun {_} _ => H
    refine DA_p 0 rfl (by kernel_rfl) rfl (fun _ => y_move rfl) hS (by decide) fun hS => ?_
    refine DA_p 1 rfl (by kernel_rfl) rfl (fun _ => y_nilCheck rfl ⟨_, rfl⟩) hS (by decide) fun hS => ?_
    refine DA_p 2 rfl (by kernel_rfl) rfl (fun _ => y_fieldAddr ti98 rfl ti96 rfl rfl) hS (by decide) fun hS => ?_
    refine DA_y 3 rfl (by kernel_rfl) rfl (by kernel_rfl) (fun w' h => y_loadS (v := .map (some b2)) ti96 rfl rfl (Cells.unit (h.getOwn 1 rfl) rfl)) hS (by decide) fun hS => ?_
    refine DA_p 4 rfl (by kernel_rfl) rfl (fun _ => y_move rfl) hS (by decide) fun hS => ?_
    refine DA_y 5 rfl (by kernel_rfl) rfl (by kernel_rfl) (fun w' h => y_toStr (w := w') Try.underlying23 Try.underlying5 Try.underlying9 rfl (hk.keeps (h.dz 4 5 rfl rfl hr.base))) hS (by decide) fun hS => ?_
    refine DA_y 6 rfl (by kernel_rfl) rfl (by kernel_rfl) (fun w' h => y_lookupG (w := w') hlk h 3 rfl ti96 ti32 (KeyOK.str Try.underlying9) rfl rfl) hS (by decide) fun hS => ?_
    refine DA_one 7 (by kernel_rfl) rfl (op_alloc H ti32 (by decide) fun b7 w3_7 H => ⟨fun _ => H.tail, ?_⟩)
    refine DA_one 8 (by kernel_rfl) rfl (op_store (v := .agg #[.int .u64 (a.i (kb key)).ts, .int .u64 (a.i (kb key)).txn, .bool (a.i (kb key)).dead, jv, jk]) H 0 rfl ti32 rfl rfl rfl (by decide) (tVer.one hRI) fun w3_8 H => ⟨fun _ => H.tail, ?_⟩)
    refine DA_done (by kernel_rfl) ?_
    refine W_seq ?_
    by_cases hy : (a.i (kb key)).txn = 0
    · refine W_region ?_
      refine OL_y (y_fieldAddr ti32 rfl ti24 rfl rfl) (by decide) ?_
      refine OL_y (y_loadS (v := .int .u64 (a.i (kb key)).txn) ti24 rfl rfl (Cells.unit (H.getOwn 0 rfl) rfl)) (by decide) ?_
      refine OL_y (v := .bool false) (y_neqF (by simp [hy]) rfl rfl) (by decide) ?_
      refine OL_y (v := .bool false) (y_move rfl) (by decide) ?_
      refine OL_s rfl (by decide) rfl rfl (by simp) ?_
      refine OL_s rfl (by decide) rfl rfl (by simp) ?_
      refine OL_s rfl (by decide) rfl rfl (by simp) ?_
      refine OL_s rfl (by decide) rfl rfl (by simp) ?_
      refine OL_s rfl (by decide) rfl rfl (by simp) ?_
      refine OL_y (y_pick (b := false) (v := .bool false) rfl rfl) (by decide) ?_
      refine OL_nil ?_
      refine W_condf rfl ?_
      refine W_skip ?_
      refine W_seq ?_
      have hR : intendR a (kb key) u = true := by unfold intendR; simp [hz, hy]
      refine W_drawD H mixed (by kernel_rfl) [8] (fun wq w' => Holds w' (own b7 (.cells #[.int .u64 (a.i (kb key)).ts, .int .u64 (a.i (kb key)).txn, .bool (a.i (kb key)).dead, jv, jk] 32) :: own b5 (.cells #[.int .u64 u.ts, .int .u64 u.txn, .bool u.dead, vv, vt] 32) :: cAt b b1 b2 E I F Wp w0 L)) fun wd6 H hEd => ?_
      have hS : ∀ {ls : Array Bool}, Sx [8] (fun w' => Holds w' (own b7 (.cells #[.int .u64 (a.i (kb key)).ts, .int .u64 (a.i (kb key)).txn, .bool (a.i (kb key)).dead, jv, jk] 32) :: own b5 (.cells #[.int .u64 u.ts, .int .u64 u.txn, .bool u.dead, vv, vt] 32) :: cAt b b1 b2 E I F Wp w0 L)) ls wd6 := fun {_} _ => H
      refine DA_p 0 rfl (by kernel_rfl) rfl (fun _ => y_move rfl) hS (by decide) fun hS => ?_
      refine DA_p 1 rfl (by kernel_rfl) rfl (fun _ => y_nilCheck rfl ⟨_, rfl⟩) hS (by decide) fun hS => ?_
      refine DA_p 2 rfl (by kernel_rfl) rfl (fun _ => y_fieldAddr ti98 rfl ti96 rfl rfl) hS (by decide) fun hS => ?_
      refine DA_y 3 rfl (by kernel_rfl) rfl (by kernel_rfl) (fun w' h => y_loadS (v := .map (some b2)) ti96 rfl rfl (Cells.unit (h.getOwn 2 rfl) rfl)) hS (by decide) fun hS => ?_
      refine DA_p 4 rfl (by kernel_rfl) rfl (fun _ => y_move rfl) hS (by decide) fun hS => ?_
      refine DA_y 5 rfl (by kernel_rfl) rfl (by kernel_rfl) (fun w' h => y_toStr (w := w') Try.underlying23 Try.underlying5 Try.underlying9 rfl (hk.keeps (h.dz 5 6 rfl rfl hr.base))) hS (by decide) fun hS => ?_
      refine DA_y 6 rfl (by kernel_rfl) rfl (by kernel_rfl) (fun w' h => y_loadA (cs := [.int .u64 u.ts, .int .u64 u.txn, .bool u.dead, vv, vt]) ti32 rfl rfl (Cells.of (h.getOwn 1 rfl) rfl) rfl) hS (by decide) fun hS => ?_
      refine DA_one 7 (by kernel_rfl) rfl (op_call 46 en46 rfl [.agg #[.int .u64 u.ts, .int .u64 u.txn, .bool u.dead, vv, vt]] rfl (by decide) ((f46_calls (tVer.keeps hu (H.dz 5 6 rfl rfl hr.base))).mono ?_))
      rintro e w6_7 ⟨cs', rfl, hR46, hE46⟩
      refine ⟨_, rfl, fun _ => H.ext0 hE46, ?_⟩
      obtain ⟨H, g1⟩ := H.poolC hE46 5 6 rfl rfl hr.base
      obtain ⟨F', hF'⟩ : ∃ F' : Nat → Prop, F' = fun k => F k ∨ (wd6.heap.size ≤ k ∧ k < w6_7.heap.size) := ⟨_, rfl⟩
      rw [← hF'] at H g1
      have hR' : tVer.R (Dz w0 F') w6_7 cs' u := tVer.mono hR46 fun k h1 h2 => .inr (by rw [hF']; exact .inr ⟨h2, h1⟩)
      refine DA_one 8 (by kernel_rfl) rfl (op_mapUpdate (k := kb key) (v := .agg cs'.toArray) H 4 rfl ti96 (KeyOK.str Try.underlying9) rfl rfl rfl fun w6_8 H => ⟨fun h => absurd (h 8 (by simp)) (by decide), ?_⟩)
      refine DA_done (by kernel_rfl) ?_
      refine W_seq ?_
      refine W_region ?_
      refine OL_y (y_assign rfl) (by decide) ?_
      refine OL_nil ?_
      refine W_ret ?_
      show RetOK _ _ _ _ _ _
      obtain ⟨I', hI', hrI, hIl⟩ := (hr.grow g1).layI (kb key) (by rw [kb_size]; have := hk.reach; omega) cs' u hR' hz
      have H : Holds w6_8 (own b7 (.cells #[.int .u64 (a.i (kb key)).ts, .int .u64 (a.i (kb key)).txn, .bool (a.i (kb key)).dead, jv, jk] 32) :: own b5 (.cells #[.int .u64 u.ts, .int .u64 u.txn, .bool u.dead, vv, vt] 32) :: own b (.cells #[.map (some b1), .map (some b2)] 98) :: mp Value.string b1 (E.map Ent.kv) :: mp Value.string b2 (mset (I.map Itn.kv) (kb key) (.agg cs'.toArray)) :: exc F' w6_7 :: shr (fun k => k < w0.heap.size) w0 :: (E.map Ent.atom ++ L)) := H
      rw [hI'] at H
      refine ret1 (v := .int .i64 0) Try.results37 rfl ⟨by rw [hR]; rfl, I', F', w6_7, H.tail.tail, ?_, g1, hIl⟩
      unfold Abs.intend; rw [hR]; exact hrI
    · refine W_region ?_
      refine OL_y (y_fieldAddr ti32 rfl ti24 rfl rfl) (by decide) ?_
      refine OL_y (y_loadS (v := .int .u64 (a.i (kb key)).txn) ti24 rfl rfl (Cells.unit (H.getOwn 0 rfl) rfl)) (by decide) ?_
      refine OL_y (v := .bool true) (y_neqT hy rfl rfl) (by decide) ?_
      refine OL_y (v := .bool true) (y_move rfl) (by decide) ?_
      refine OL_yg rfl (by decide) rfl (y_fieldAddr ti32 rfl ti24 rfl rfl) (by decide) ?_
      refine OL_yg rfl (by decide) rfl (y_loadS (v := .int .u64 (a.i (kb key)).txn) ti24 rfl rfl (Cells.unit (H.getOwn 0 rfl) rfl)) (by decide) ?_
      refine OL_yg rfl (by decide) rfl (y_fieldAddr ti32 rfl ti24 rfl rfl) (by decide) ?_
      refine OL_yg rfl (by decide) rfl (y_loadS (v := .int .u64 u.txn) ti24 rfl rfl (Cells.unit (H.getOwn 1 rfl) rfl)) (by decide) ?_
      refine OL_yg rfl (by decide) rfl (y_neq rfl rfl) (by decide) ?_
      refine OL_y (y_pick (b := true) rfl rfl) (by decide) ?_
      refine OL_nil ?_
      refine W_cond rfl (fun hc => ?_) (fun hc => ?_)
      · refine W_seq ?_
        refine W_region ?_
        refine OL_y (y_assign rfl) (by decide) ?_
        refine OL_nil ?_
        refine W_ret ?_
        show RetOK _ _ _ _ _ _
        have hne := of_decide_eq_true hc
        have hR : intendR a (kb key) u = false := by unfold intendR; simp [hz, hy, hne]
        refine ret1 (v := .int .i64 150) Try.results37 rfl ⟨by rw [hR]; rfl, I, F, Wp, H.tail.tail, ?_, Grow.refl hr.base, by omega⟩
        unfold Abs.intend; rw [hR]; exact hr
      · refine W_skip ?_
        refine W_seq ?_
        have heq := of_decide_eq_false hc
        have hR : intendR a (kb key) u = true := by unfold intendR; simp [hz]; right; simpa using heq
        refine W_drawD H mixed (by kernel_rfl) [8] (fun wq w' => Holds w' (own b7 (.cells #[.int .u64 (a.i (kb key)).ts, .int .u64 (a.i (kb key)).txn, .bool (a.i (kb key)).dead, jv, jk] 32) :: own b5 (.cells #[.int .u64 u.ts, .int .u64 u.txn, .bool u.dead, vv, vt] 32) :: cAt b b1 b2 E I F Wp w0 L)) fun wd6 H hEd => ?_
        have hS : ∀ {ls : Array Bool}, Sx [8] (fun w' => Holds w' (own b7 (.cells #[.int .u64 (a.i (kb key)).ts, .int .u64 (a.i (kb key)).txn, .bool (a.i (kb key)).dead, jv, jk] 32) :: own b5 (.cells #[.int .u64 u.ts, .int .u64 u.txn, .bool u.dead, vv, vt] 32) :: cAt b b1 b2 E I F Wp w0 L)) ls wd6 := fun {_} _ => H
        refine DA_p 0 rfl (by kernel_rfl) rfl (fun _ => y_move rfl) hS (by decide) fun hS => ?_
        refine DA_p 1 rfl (by kernel_rfl) rfl (fun _ => y_nilCheck rfl ⟨_, rfl⟩) hS (by decide) fun hS => ?_
        refine DA_p 2 rfl (by kernel_rfl) rfl (fun _ => y_fieldAddr ti98 rfl ti96 rfl rfl) hS (by decide) fun hS => ?_
        refine DA_y 3 rfl (by kernel_rfl) rfl (by kernel_rfl) (fun w' h => y_loadS (v := .map (some b2)) ti96 rfl rfl (Cells.unit (h.getOwn 2 rfl) rfl)) hS (by decide) fun hS => ?_
        refine DA_p 4 rfl (by kernel_rfl) rfl (fun _ => y_move rfl) hS (by decide) fun hS => ?_
        refine DA_y 5 rfl (by kernel_rfl) rfl (by kernel_rfl) (fun w' h => y_toStr (w := w') Try.underlying23 Try.underlying5 Try.underlying9 rfl (hk.keeps (h.dz 5 6 rfl rfl hr.base))) hS (by decide) fun hS => ?_
        refine DA_y 6 rfl (by kernel_rfl) rfl (by kernel_rfl) (fun w' h => y_loadA (cs := [.int .u64 u.ts, .int .u64 u.txn, .bool u.dead, vv, vt]) ti32 rfl rfl (Cells.of (h.getOwn 1 rfl) rfl) rfl) hS (by decide) fun hS => ?_
        refine DA_one 7 (by kernel_rfl) rfl (op_call 46 en46 rfl [.agg #[.int .u64 u.ts, .int .u64 u.txn, .bool u.dead, vv, vt]] rfl (by decide) ((f46_calls (tVer.keeps hu (H.dz 5 6 rfl rfl hr.base))).mono ?_))
        rintro e w6_7 ⟨cs', rfl, hR46, hE46⟩
        refine ⟨_, rfl, fun _ => H.ext0 hE46, ?_⟩
        obtain ⟨H, g1⟩ := H.poolC hE46 5 6 rfl rfl hr.base
        obtain ⟨F', hF'⟩ : ∃ F' : Nat → Prop, F' = fun k => F k ∨ (wd6.heap.size ≤ k ∧ k < w6_7.heap.size) := ⟨_, rfl⟩
        rw [← hF'] at H g1
        have hR' : tVer.R (Dz w0 F') w6_7 cs' u := tVer.mono hR46 fun k h1 h2 => .inr (by rw [hF']; exact .inr ⟨h2, h1⟩)
        refine DA_one 8 (by kernel_rfl) rfl (op_mapUpdate (k := kb key) (v := .agg cs'.toArray) H 4 rfl ti96 (KeyOK.str Try.underlying9) rfl rfl rfl fun w6_8 H => ⟨fun h => absurd (h 8 (by simp)) (by decide), ?_⟩)
        refine DA_done (by kernel_rfl) ?_
        refine W_seq ?_
        refine W_region ?_
        refine OL_y (y_assign rfl) (by decide) ?_
        refine OL_nil ?_
        refine W_ret ?_
        show RetOK _ _ _ _ _ _
        obtain ⟨I', hI', hrI, hIl⟩ := (hr.grow g1).layI (kb key) (by rw [kb_size]; have := hk.reach; omega) cs' u hR' hz
        have H : Holds w6_8 (own b7 (.cells #[.int .u64 (a.i (kb key)).ts, .int .u64 (a.i (kb key)).txn, .bool (a.i (kb key)).dead, jv, jk] 32) :: own b5 (.cells #[.int .u64 u.ts, .int .u64 u.txn, .bool u.dead, vv, vt] 32) :: own b (.cells #[.map (some b1), .map (some b2)] 98) :: mp Value.string b1 (E.map Ent.kv) :: mp Value.string b2 (mset (I.map Itn.kv) (kb key) (.agg cs'.toArray)) :: exc F' w6_7 :: shr (fun k => k < w0.heap.size) w0 :: (E.map Ent.atom ++ L)) := H
        rw [hI'] at H
        refine ret1 (v := .int .i64 0) Try.results37 rfl ⟨by rw [hR]; rfl, I', F', w6_7, H.tail.tail, ?_, g1, hIl⟩
        unfold Abs.intend; rw [hR]; exact hrI
end Go.Proofs.Ytpandioolpnihaa

namespace Go.Proofs.Ytpandioolpnihaa
open Go Go.Wk
set_option linter.unusedVariables false
set_option linter.unusedSimpArgs false

/-- What the look-up of versions gives. -/
theorem lookV {w0 w Wp : World} {F : Nat → Prop} {b b1 b2 : Nat} {E : List Ent} {I : List Itn} {a : Abs} {L : List Atom} (H : Holds w (cAt b b1 b2 E I F Wp w0 L)) (hr : CRep w0 F Wp E I a) (k : ByteArray) (hl : (a.v k).length ≤ 50000) : ∃ v : Value, (mget (E.map Ent.kv) k).getD (.slice none 0 0) = v ∧ SlR tVer 72 (fun _ => True) w v (a.v k) := by
  by_cases hin : k ∈ E.map (·.key)
  · obtain ⟨e0, he0, rfl⟩ := List.mem_map.1 hin
    obtain ⟨E1, E2, rfl⟩ := List.append_of_mem he0
    refine ⟨e0.v, by rw [mget_ent hr.nd]; rfl, ?_⟩
    have hv := hr.va e0 he0
    have hkd : Keeps (Dz w0 F) Wp w := H.dz 3 4 rfl rfl hr.base
    have hrow : w.ownsRow 0 32 5 e0.v e0.vers.length e0.cs := (H.ok e0.atom (by simp)).1
    rw [hv] at hl ⊢
    exact SlR.ofRow hrow (by decide) (((hr.ev e0 he0).keeps hkd).mono fun _ _ _ => trivial) (fun _ _ => trivial) (by omega)
  · refine ⟨.slice none 0 0, by rw [mget_none.2 (by rw [List.map_map]; exact hin)]; rfl, ?_⟩
    rw [hr.vn k hin]; exact SlR.nil _ _ _ _

end Go.Proofs.Ytpandioolpnihaa

namespace Go.Proofs
open Go.Shelf
def Try.sortS_ren : Go.Shelf.Ren := ⟨fun | 6 => 69 | 8 => 82 | 9 => 81 | 19 => 95 | 20 => 96 | 21 => 86 | 22 => 87 | 23 => 88 | 24 => 89 | 25 => 90 | 26 => 91 | 27 => 92 | 28 => 93 | 29 => 94 | 36 => 99 | 31 => 100 | 32 => 101 | 37 => 102 | 38 => 103 | 39 => 104 | 41 => 105 | n => n, fun | 27 => 104 | 29 => 9 | 3 => 3 | 32 => 134 | 26 => 104 | 0 => 0 | 44 => 161 | 46 => 24 | 4 => 4 | 36 => 154 | 35 => 153 | 41 => 99 | 5 => 5 | 9 => 9 | 53 => 163 | 57 => 167 | 63 => 169 | 64 => 170 | n => n, fun | n => n⟩
theorem Try.sortS : Go.Proofs.SlLaysM.n6 Try.prog Try.sortS_ren := {
  mixed := by kernel_rfl
  f6 := ⟨Try.f69.name, by decide, Try.func69.trans (congrArg some (by kernel_rfl))⟩
  f8 := Try.func82.trans (congrArg some (by kernel_rfl))
  f9 := ⟨Try.f81.name, by decide, Try.func81.trans (congrArg some (by kernel_rfl))⟩
  f19 := Try.func95.trans (congrArg some (by kernel_rfl))
  f20 := Try.func96.trans (congrArg some (by kernel_rfl))
  f21 := ⟨Try.f86.name, by decide, Try.func86.trans (congrArg some (by kernel_rfl))⟩
  f22 := ⟨Try.f87.name, by decide, Try.func87.trans (congrArg some (by kernel_rfl))⟩
  f23 := ⟨Try.f88.name, by decide, Try.func88.trans (congrArg some (by kernel_rfl))⟩
  f24 := ⟨Try.f89.name, by decide, Try.func89.trans (congrArg some (by kernel_rfl))⟩
  f25 := ⟨Try.f90.name, by decide, Try.func90.trans (congrArg some (by kernel_rfl))⟩
  f26 := ⟨Try.f91.name, by decide, Try.func91.trans (congrArg some (by kernel_rfl))⟩
  f27 := ⟨Try.f92.name, by decide, Try.func92.trans (congrArg some (by kernel_rfl))⟩
  f28 := ⟨Try.f93.name, by decide, Try.func93.trans (congrArg some (by kernel_rfl))⟩
  f29 := ⟨Try.f94.name, by decide, Try.func94.trans (congrArg some (by kernel_rfl))⟩
  f31 := Try.func100.trans (congrArg some (by kernel_rfl))
  f32 := Try.func101.trans (congrArg some (by kernel_rfl))
  f36 := ⟨Try.f99.name, by decide, Try.func99.trans (congrArg some (by kernel_rfl))⟩
  f37 := ⟨Try.f102.name, by decide, Try.func102.trans (congrArg some (by kernel_rfl))⟩
  f38 := ⟨Try.f103.name, by decide, Try.func103.trans (congrArg some (by kernel_rfl))⟩
  f39 := ⟨Try.f104.name, by decide, Try.func104.trans (congrArg some (by kernel_rfl))⟩
  f41 := ⟨Try.f105.name, by decide, Try.func105.trans (congrArg some (by kernel_rfl))⟩
  t0 := Try.underlying0
  a0 := Try.isAgg0
  z0 := Try.sizeOf0
  v0 := Try.zeroValue0
  t3 := Try.underlying3
  a3 := Try.isAgg3
  z3 := Try.sizeOf3
  v3 := Try.zeroValue3
  t4 := Try.underlying4
  a4 := Try.isAgg4
  z4 := Try.sizeOf4
  v4 := Try.zeroValue4
  t5 := Try.underlying5
  a5 := Try.isAgg5
  z5 := Try.sizeOf5
  v5 := Try.zeroValue5
  t9 := Try.underlying9
  a9 := Try.isAgg9
  z9 := Try.sizeOf9
  v9 := Try.zeroValue9
  t26 := Try.underlying104
  a26 := Try.isAgg104
  z26 := Try.sizeOf104
  v26 := Try.zeroValue104
  t27 := Try.underlying104
  a27 := Try.isAgg104
  z27 := Try.sizeOf104
  v27 := Try.zeroValue104
  t29 := Try.underlying9
  a29 := Try.isAgg9
  z29 := Try.sizeOf9
  v29 := Try.zeroValue9
  t32 := Try.underlying134
  a32 := Try.isAgg134
  z32 := Try.sizeOf134
  v32 := Try.zeroValue134
  t35 := Try.underlying153
  a35 := Try.isAgg153
  z35 := Try.sizeOf153
  v35 := Try.zeroValue153
  t36 := Try.underlying154
  a36 := Try.isAgg154
  z36 := Try.sizeOf154
  v36 := Try.zeroValue154
  t41 := Try.underlying99
  a41 := Try.isAgg99
  z41 := Try.sizeOf99
  v41 := Try.zeroValue99
  t44 := Try.underlying161
  a44 := Try.isAgg161
  z44 := Try.sizeOf161
  v44 := Try.zeroValue161
  t46 := Try.underlying24
  a46 := Try.isAgg24
  z46 := Try.sizeOf24
  v46 := Try.zeroValue24
  t53 := Try.underlying163
  a53 := Try.isAgg163
  z53 := Try.sizeOf163
  v53 := Try.zeroValue163
  t57 := Try.underlying167
  a57 := Try.isAgg167
  z57 := Try.sizeOf167
  v57 := Try.zeroValue167
  t63 := Try.underlying169
  a63 := Try.isAgg169
  z63 := Try.sizeOf169
  v63 := Try.zeroValue169
  t64 := Try.underlying170
  a64 := Try.isAgg170
  z64 := Try.sizeOf170
  v64 := Try.zeroValue170 }
end Go.Proofs

namespace Go.Proofs.Ytpandioolpnihaa
open Go Go.Wk
set_option linter.unusedVariables false

abbrev toL (b : ByteArray) : List UInt8 := b.data.toList
theorem str_toL (b : ByteArray) : Value.string b = encStr (toL b) := by
  unfold encStr toL; obtain ⟨a⟩ := b; rfl
abbrev ofL (l : List UInt8) : ByteArray := ⟨l.toArray⟩
theorem toL_ofL (l : List UInt8) : toL (ofL l) = l := by simp [toL]
theorem ofL_toL (b : ByteArray) : ofL (toL b) = b := by obtain ⟨a⟩ := b; simp [toL]
def bLe (a b : ByteArray) : Prop := toL a ≤ toL b

theorem f69_calls {w : World} {v : Value} {n : Nat} {xs : List ByteArray} (hrow : w.ownsRow 0 9 1 v n (xs.map Value.string)) (hM : xs.length ≤ 1000000) :
    Calls Try.prog 69 [v].toArray w fun e w' => (∃ y, e = .returned y) ∧ Ext (fun k => v.ownBlock = some k) w w' ∧ ∃ ys : List ByteArray, ys.Perm xs ∧ ys.Pairwise bLe ∧ w'.ownsRow 0 9 1 v n (ys.map Value.string) := by
  have hn : n = xs.length := by have := hrow.1; simpa using this.symm
  subst hn
  rcases hrow.2 with ⟨rfl, h0⟩ | ⟨g, cap, cur, rfl, hbase, hb, h1, h2, h3, h4⟩
  · obtain rfl : xs = [] := List.eq_nil_of_length_eq_zero h0
    have := Go.Proofs.AnyM.slices_Sort_string_none Go.Proofs.Try.sortS none 0 w
    refine Calls.mono this ?_
    rintro e w' ⟨rfl, rfl⟩
    exact ⟨⟨_, rfl⟩, Ext.refl _ _, [], List.Perm.refl _, List.Pairwise.nil, hrow⟩
  · have hmm : xs.map Value.string = (xs.map toL).map encStr := by rw [List.map_map]; exact List.map_congr_left fun x _ => str_toL x
    have h4' : cur.toList.take (xs.map toL).length = (xs.map toL).map encStr := by rw [List.length_map, ← hmm]; simpa using h4
    have := Go.Proofs.AnyM.slices_Sort_string Go.Proofs.Try.sortS g 0 cap (xs.map toL) w (holds_of_block hb h4') (own_lt hb) (by rw [List.length_map]; omega)
    rw [List.length_map] at this
    refine Calls.mono this ?_
    rintro e w' ⟨rfl, k, os, rfl⟩
    have tr : ∀ a b c : List UInt8, decide (a ≤ b) = true → decide (b ≤ c) = true → decide (a ≤ c) = true := fun a b c h1 h2 => by simp only [decide_eq_true_eq] at *; exact List.le_trans h1 h2
    have to : ∀ a b : List UInt8, (decide (a ≤ b) || decide (b ≤ a)) = true := fun a b => by simp only [Bool.or_eq_true, decide_eq_true_eq]; exact List.le_total a b
    have hp := List.mergeSort_perm (xs.map toL) (fun x y => decide (x ≤ y))
    have hs := List.pairwise_mergeSort tr to (xs.map toL)
    refine ⟨⟨_, rfl⟩, ?_, ((xs.map toL).mergeSort fun x y => decide (x ≤ y)).map ofL, ?_, ?_, ?_⟩
    · have hg := grownBy_sorted (w := w) (g := g) (n := k) (os := os) ((xs.map toL).mergeSort fun x y => decide (x ≤ y)).toArray
      exact ⟨hg.os, hg.tape, hg.output, hg.size, fun j hj hm => hg.block j hj fun e => hm (by rw [Value.ownBlock, ← e])⟩
    · have := hp.map ofL
      rw [List.map_map] at this
      have e : (ofL ∘ toL) = id := funext ofL_toL
      rwa [e, List.map_id] at this
    · rw [List.pairwise_map]
      refine hs.imp fun {a b} h => ?_
      unfold bLe; rw [toL_ofL, toL_ofL]; simpa using h
    · have := ownsRow_sorted (n := k) (os := os) (ss := xs.map toL) (ts := (xs.map toL).mergeSort fun x y => decide (x ≤ y)) (by rw [List.length_mergeSort]) hbase hb (by simpa using h1) h2 (by simpa using h3)
      rw [List.length_map] at this
      have e : (((xs.map toL).mergeSort fun x y => decide (x ≤ y)).map ofL).map Value.string = ((xs.map toL).mergeSort fun x y => decide (x ≤ y)).map encStr := by
        rw [List.map_map]; exact List.map_congr_left fun x _ => by show Value.string (ofL x) = _; rw [str_toL, toL_ofL]
      rw [e]; exact this

set_option maxHeartbeats 2000000 in
theorem f80_calls {w : World} {kf : Nat} {cap : List Value} {Qp Ee : List ByteArray → Prop} {Z : Nat → Prop} {M : Nat} (en : En Try.prog kf) (it : ∀ w', Ext none' w w' → IterQ Try.prog kf cap Value.string Qp Ee Z w') (hZ : ∀ k, Z k → k < w.heap.size)
    (hQ : ∀ pre, Qp pre → pre.length ≤ M) (hM : M ≤ 1000000) :
    Calls Try.prog 80 [.slice none 0 0, .func (.func kf) #[] cap.toArray].toArray w fun e w' => ∃ (v : Value) (xs : List ByteArray), e = .returned v ∧ Ee xs ∧ Ext none' w w' ∧ (∀ k, v.ownBlock = some k → w.heap.size ≤ k) ∧ xs.length ≤ M ∧ w'.ownsRow 0 9 1 v xs.length (xs.map Value.string) := by
  have H := Holds.start w
  refine calls_of_W' Try.func80 rfl Try.ntmps80 rfl ?_
  refine W_seq ?_
  refine W_region ?_
  refine OL_c (op_box (v := .slice none 0 0) H rfl (by decide) fun b2 w0_0 H => ?_)
  refine OL_y (y_assign rfl) (by decide) ?_
  refine OL_nil ?_
  refine W_seq ?_
  refine W_seq ?_
  refine W_region ?_
  refine OL_y (y_move rfl) (by decide) ?_
  refine OL_nil ?_
  have H := H.rowNil 9 1
  have H : Holds w0_0 [own b2 (.cells #[.slice none 0 0] 104), row 9 1 (.slice none 0 0) 0 [], shr (fun k => k < w.heap.size) w] := H.perm (List.Perm.swap _ _ _)
  have hE0 : Ext none' w w0_0 := H.ext_of 2 rfl
  refine W_block ?_
  refine W_rangeFuncQ Value.string Qp Ee Z (fun pre Ls => ∃ v : Value, pre.length ≤ M ∧ Ls = [own b2 (.cells #[v] 104), row 9 1 v pre.length (pre.map Value.string), shr (fun k => k < w.heap.size) w]) (fun _ _ _ => False) rfl en (by decide) H ⟨.slice none 0 0, by simp, rfl⟩ ?_ ?_ ?_ ?_ ?_ ?_ ?_
  · rintro pre Ls ⟨v, _, rfl⟩ at_ ha hx k hk
    simp only [List.mem_cons, List.not_mem_nil, or_false] at ha
    rcases ha with rfl | rfl | rfl
    · cases hx
    · cases hx
    · exact Nat.lt_of_lt_of_le hk hE0.size
  · rintro e pre Ls h; exact h.elim
  · intro k hk
    refine ⟨Nat.lt_of_lt_of_le (hZ k hk) hE0.size, fun a ha hx hF => ?_⟩
    have hk' := hZ k hk
    simp only [List.mem_cons, List.not_mem_nil, or_false] at ha
    rcases ha with rfl | rfl | rfl
    · have := H.fresh 0 2 rfl rfl rfl k hF; omega
    · have := H.fresh 1 2 rfl rfl rfl k hF; omega
    · cases hx
  · intro w' hE; exact it w' (hE0.trans hE)
  · rintro l' aL aL' aD aO pre x Ls Wd ⟨v, hpl, rfl⟩ hpre HH
    have hpM := hQ _ hpre
    rw [List.length_append] at hpM
    simp only [List.length_cons, List.length_nil] at hpM
    refine W_region ?_
    refine OL_y (y_assign rfl) (by decide) ?_
    refine OL_nil ?_
    refine ⟨_, HH, fun W2 HH => ?_⟩
    obtain ⟨ax, cx, rfl, hcx, hmx⟩ := HH.rowLen 4 rfl
    have H := HH
    refine W_block ?_
    have H := HH
    refine W_region ?_
    refine OL_y (y_loadS (v := .slice ax pre.length cx) ti104 rfl rfl (Cells.unit (H.getOwn 3 rfl) rfl)) (by decide) ?_
    refine OL_y (y_move rfl) (by decide) ?_
    refine OL_c (op_buildSlice H [.string x] ti104 ti9 rfl rfl rfl (by simp [Value.cells]) rfl rfl (by decide) fun b10 w3_2 H => ?_)
    refine OL_c (op_append H 5 rfl rfl ti104 ti9 rfl rfl rfl rfl (Src.row (H.getRow 0 rfl)) rfl (by simp [Value.cells, Value.oneCell']) (by omega) (by simp [maxLen]; omega) (by decide) fun v11 w3_3 H => ?_)
    obtain ⟨a11, c11, hv11, _, _⟩ := H.rowLen 5 rfl
    refine OL_c (op_store (v := v11) H 4 rfl ti104 rfl rfl (by rw [hv11]; rfl) (by simp) (by rw [hv11]; simp [Value.cells, Value.oneCell']) fun w3_4 H => ?_)
    refine OL_nil ?_
    have hc11 : v11.cells = #[v11] := by rw [hv11]; rfl
    rw [hc11] at H
    refine ⟨_, ⟨v11, by rw [List.length_append]; simp; omega, rfl⟩, ?_⟩
    have H := H.tail
    have e : (pre ++ [x]).map Value.string = pre.map Value.string ++ [Value.string x].flatMap (fun v => v.cells.toList) := by simp [Value.cells]
    rw [e, List.length_append]
    exact H
  · rintro D xs Ls W hE ⟨v, hl, rfl⟩ HH
    refine W_seq ?_
    have H := HH
    obtain ⟨ax, cx, rfl, hcx, hmx⟩ := HH.rowLen 2 rfl
    refine W_region ?_
    refine OL_y (y_loadS (v := .slice ax xs.length cx) ti104 rfl rfl (Cells.unit (H.getOwn 1 rfl) rfl)) (by decide) ?_
    refine OL_y (y_assign rfl) (by decide) ?_
    refine OL_nil ?_
    refine W_ret ?_
    show RetOK _ _ _ _ _ _
    refine RetOK.mark (H.getOwn 0 rfl) ?_
    have H := H.put 0 rfl (.deferred none)
    refine ret1 (v := .slice ax xs.length cx) Try.results80 rfl ⟨_, xs, rfl, hE, H.ext_of 3 rfl, fun k hk => H.fresh 2 3 rfl rfl rfl k hk, hl, H.getRow 2 rfl⟩
  · rintro D pre Ls W e hp h; exact h.elim
theorem f68_calls {w : World} {kf : Nat} {cap : List Value} {Qp Ee : List ByteArray → Prop} {Z : Nat → Prop} {M : Nat} (en : En Try.prog kf) (it : ∀ w', Ext none' w w' → IterQ Try.prog kf cap Value.string Qp Ee Z w') (hZ : ∀ k, Z k → k < w.heap.size)
    (hQ : ∀ pre, Qp pre → pre.length ≤ M) (hM : M ≤ 1000000) :
    Calls Try.prog 68 [.func (.func kf) #[] cap.toArray].toArray w fun e w' => ∃ (v : Value) (xs : List ByteArray), e = .returned v ∧ Ee xs ∧ Ext none' w w' ∧ (∀ k, v.ownBlock = some k → w.heap.size ≤ k) ∧ xs.length ≤ M ∧ w'.ownsRow 0 9 1 v xs.length (xs.map Value.string) := by
  have H := Holds.start w
  refine calls_of_W' Try.func68 rfl Try.ntmps68 rfl ?_
  refine W_seq ?_
  refine W_region ?_
  refine OL_y (y_assign rfl) (by decide) ?_
  refine OL_nil ?_
  refine W_seq ?_
  refine W_region ?_
  refine OL_y (y_move rfl) (by decide) ?_
  refine OL_c (op_call 80 en80 rfl [.slice none 0 0, .func (.func kf) #[] cap.toArray] rfl (by decide) ((f80_calls en it hZ hQ hM).mono ?_))
  rintro e w1_1 ⟨v, xs, rfl, hx, hE, hf, hxM, hr⟩
  refine ⟨_, rfl, ?_⟩
  have H := H.ext0 hE
  refine OL_y (y_assign rfl) (by decide) ?_
  refine OL_nil ?_
  refine W_ret ?_
  show RetOK _ _ _ _ _ _
  exact ret1 (v := v) Try.results68 rfl ⟨v, xs, rfl, hx, hE, hf, hxM, hr⟩
theorem f48_calls {w : World} {kf : Nat} {cap : List Value} {Qp Ee : List ByteArray → Prop} {Z : Nat → Prop} {M : Nat} (en : En Try.prog kf) (it : ∀ w', Ext none' w w' → IterQ Try.prog kf cap Value.string Qp Ee Z w') (hZ : ∀ k, Z k → k < w.heap.size)
    (hQ : ∀ pre, Qp pre → pre.length ≤ M) (hM : M ≤ 1000000) :
    Calls Try.prog 48 [.func (.func kf) #[] cap.toArray].toArray w fun e w' => ∃ (v : Value) (xs ys : List ByteArray), e = .returned v ∧ Ee xs ∧ ys.Perm xs ∧ ys.Pairwise bLe ∧ Ext none' w w' ∧ (∀ k, v.ownBlock = some k → w.heap.size ≤ k) ∧ w'.ownsRow 0 9 1 v ys.length (ys.map Value.string) := by
  refine calls_of_W' Try.func48 rfl Try.ntmps48 rfl ?_
  refine W_seq ?_
  refine W_region ?_
  refine OL_y (y_assign rfl) (by decide) ?_
  refine OL_nil ?_
  refine W_seq ?_
  refine W_region ?_
  refine OL_y (y_move rfl) (by decide) ?_
  refine OL_c (op_call 68 en68 rfl [.func (.func kf) #[] cap.toArray] rfl (by decide) ((f68_calls en it hZ hQ hM).mono ?_))
  rintro e w1_1 ⟨v, xs, rfl, hx, hE, hf, hxM, hr⟩
  refine ⟨_, rfl, ?_⟩
  have H := Holds.startRow hr
  refine OL_y (y_assign rfl) (by decide) ?_
  refine OL_nil ?_
  refine W_seq ?_
  refine W_region ?_
  refine OL_y (y_move rfl) (by decide) ?_
  refine OL_c (op_call 69 en69 rfl [v] rfl (by decide) ((f69_calls (H.getRow 0 rfl) (by omega)).mono ?_))
  rintro e w2_1 ⟨⟨y, rfl⟩, hE2, ys, hp, hs, hr2⟩
  refine ⟨_, rfl, ?_⟩
  refine OL_nil ?_
  refine W_seq ?_
  refine W_region ?_
  refine OL_y (y_move rfl) (by decide) ?_
  refine OL_y (y_assign rfl) (by decide) ?_
  refine OL_nil ?_
  refine W_ret ?_
  show RetOK _ _ _ _ _ _
  refine ret1 (v := v) Try.results48 rfl ⟨v, xs, ys, rfl, hx, hp, hs, ?_, hf, by rw [hp.length_eq]; exact hr2⟩
  exact hE.trans' hE2 fun i hi hM => by have := hf i hM; omega
end Go.Proofs.Ytpandioolpnihaa

namespace Go.Proofs.Ytpandioolpnihaa
open Go Go.Wk
set_option linter.unusedVariables false

set_option maxHeartbeats 2000000 in
theorem f70_iter {w : World} {bx bm : Nat} {es : Array MapEntry} {clock : Nat} {m : List (ByteArray × Value)} (hbx : w.heap[bx]? = some (.cells #[.map (some bm)] 96)) (hb : w.heap[bm]? = some (.map es clock)) (hm : MapObj Value.string m (.map es clock)) :
    IterQ Try.prog 70 [.pointer (some ⟨bx, 0, none⟩)] Value.string (fun pre => ∃ rest, (pre ++ rest).Perm (m.map (·.1))) (fun xs => xs.Perm (m.map (·.1))) (fun k => k = bx ∨ k = bm) w := by
  intro l B0 J Jx hR hJ0 hZ
  obtain ⟨H, hIt⟩ := hR.start hJ0
  have rdx : ∀ {W : World} {L : List Atom} (j : Nat), Holds W L → L[j]? = some (aZ B0 w) → W.heap[bx]? = some (.cells #[.map (some bm)] 96) := fun j H hj => by
    obtain ⟨_, _, _, _, e⟩ := H.get hj; rw [e bx ⟨own_lt hbx, hZ bx (.inl rfl)⟩]; exact hbx
  have rdm : ∀ {W : World} {L : List Atom} (j : Nat), Holds W L → L[j]? = some (aZ B0 w) → W.heap[bm]? = some (.map es clock) := fun j H hj => by
    obtain ⟨_, _, _, _, e⟩ := H.get hj; rw [e bm ⟨own_lt hb, hZ bm (.inr rfl)⟩]; exact hb
  refine calls_of_W' Try.func70 rfl Try.ntmps70 rfl ?_
  refine W_seq ?_
  refine W_region ?_
  refine OL_y (y_loadS (v := .map (some bm)) ti96 rfl rfl (Cells.unit (rdx 1 H rfl) rfl)) (by decide) ?_
  refine OL_c (op_range (K := Value.string) H (rdm 1 H rfl) hm ti96 rfl (by decide) fun r w0_1 hE0 H hr => ?_)
  refine OL_nil ?_
  refine W_block (W_loopN (fun g f ds W => ∃ (since c0 : Nat) (seen : Array Nat) (left : List (ByteArray × Value)) (pre : List ByteArray) (B : Nat → Prop) (W0 : World), g = left.length ∧ f 0 = .func (.yield l) #[] #[] ∧ f 5 = .pointer (some ⟨r, 0, none⟩) ∧ ds = [] ∧ since ≤ c0 ∧ since ≤ clock ∧ Rng Value.string es since seen left ∧ (pre ++ left.map (·.1)).Perm (m.map (·.1)) ∧
      Holds W [own r (.mapIter (some bm) since seen c0), aB B B0 W0, aZ B0 w] ∧ J pre B W0 ∧ ItInv w W0 B0 B)
      m.length ⟨clock, clock, #[], m, [], B0, w, rfl, rfl, rfl, rfl, Nat.le_refl _, Nat.le_refl _, hr, by simp, H, hJ0, hIt⟩
      ?_)
  rintro g f ds w1 ⟨since, c0, seen, left, pre, B, W0, rfl, h0, h5, rfl, hsc, hsc2, hr, hp, H, hJ, hIt⟩
  refine W_seq ?_
  refine W_region ?_
  refine OL_c (op_next H 0 rfl (rdm 2 H rfl) hr hsc h5 (by decide) ?_ ?_)
  · rintro rfl
    refine OL_y (y_extract (v := .bool false) rfl rfl) (by decide) ?_
    refine OL_nil ?_
    refine W_seq ?_
    refine W_condf rfl ?_
    refine W_exit ?_
    show RetOK _ _ _ _ _ _
    exact ret0 Try.results70 ⟨⟨_, rfl⟩, hR.done (by simpa using hp) hJ hIt H 1 2 rfl rfl⟩
  · rintro e pa u pb w1_0 rfl hmem hek hev hEn H hr
    refine OL_y (y_extract (v := .bool true) rfl rfl) (by decide) ?_
    refine OL_nil ?_
    refine W_seq ?_
    refine W_condt rfl ?_
    refine W_skip ?_
    refine W_block ?_
    refine W_seq ?_
    refine W_region ?_
    refine OL_y (y_entry (H.getOwn 0 rfl) (rdm 2 H rfl) hmem hr.born hek hev h5) (by decide) ?_
    refine OL_y (y_extract rfl rfl) (by decide) ?_
    refine OL_y (y_assign rfl) (by decide) ?_
    refine OL_nil ?_
    refine W_seq ?_
    have hx : ∃ rest, (pre ++ [u.1] ++ rest).Perm (m.map (·.1)) := ⟨(pa ++ pb).map (·.1), by
      refine List.Perm.trans ?_ hp
      rw [List.append_assoc]
      refine List.Perm.append_left pre ?_
      simp only [List.map_append, List.map_cons, List.singleton_append]
      exact List.perm_middle.symm⟩
    refine W_region ?_
    refine OL_y (y_move h0) (by decide) ?_
    refine OL_y (y_move rfl) (by decide) ?_
    refine OL_yield (hR.yield hJ hIt H 1 2 rfl rfl hx) rfl rfl (by decide) ?_
    rintro e2 W' (⟨rfl, B', hJ', hIt', H'⟩ | ⟨rfl, B', hJ', hIt', H'⟩)
    rotate_left
    · refine ⟨_, rfl, ?_⟩
      refine OL_y (y_not rfl) (by decide) ?_
      refine OL_nil ?_
      refine W_condt rfl ?_
      refine W_ret ?_
      show RetOK _ _ _ _ _ _
      exact ret0 Try.results70 ⟨⟨_, rfl⟩, hR.left hJ' hx hIt' H' 1 2 rfl rfl⟩
    refine ⟨_, rfl, ?_⟩
    refine OL_y (v := .bool false) (y_not (b := true) rfl) (by decide) ?_
    refine OL_nil ?_
    refine W_condf rfl ?_
    refine W_skip ?_
    refine ⟨(pa ++ pb).length, by simp, since, _, _, pa ++ pb, pre ++ [u.1], B', W', rfl, h0, h5, rfl, hsc2, hsc2, hr, ?_, H', hJ', hIt'⟩
    · refine List.Perm.trans ?_ hp
      rw [List.append_assoc]
      refine List.Perm.append_left pre ?_
      simp only [List.map_append, List.map_cons, List.singleton_append]
      exact List.perm_middle.symm
theorem f49_calls {w : World} {bm : Nat} : Calls Try.prog 49 [.map (some bm)].toArray w fun e w' => ∃ bx, e = .returned (.func (.func 70) #[] #[.pointer (some ⟨bx, 0, none⟩)]) ∧ Ext none' w w' ∧ w'.heap[bx]? = some (.cells #[.map (some bm)] 96) ∧ w.heap.size ≤ bx := by
  have H := Holds.start w
  refine calls_of_W' Try.func49 rfl Try.ntmps49 rfl ?_
  refine W_seq ?_
  refine W_region ?_
  refine OL_c (op_box (v := .map (some bm)) H rfl (by decide) fun b1 w0_0 H => ?_)
  refine OL_y (y_assign rfl) (by decide) ?_
  refine OL_nil ?_
  refine W_seq ?_
  refine W_region ?_
  refine OL_y (y_makeFunc (vs := [.pointer (some ⟨b1, 0, none⟩)]) rfl) (by decide) ?_
  refine OL_y (y_assign rfl) (by decide) ?_
  refine OL_nil ?_
  refine W_ret ?_
  show RetOK _ _ _ _ _ _
  exact ret1 (v := .func (.func 70) #[] #[.pointer (some ⟨b1, 0, none⟩)]) Try.results49 rfl ⟨b1, rfl, H.ext_of 1 rfl, H.getOwn 0 rfl, H.fresh 0 1 rfl rfl rfl _ rfl⟩
end Go.Proofs.Ytpandioolpnihaa

namespace Go.Proofs.Ytpandioolpnihaa
open Go Go.Wk
set_option linter.unusedVariables false
set_option linter.unusedSimpArgs false

structure IntentsOf (a : Abs) (txn : Int) (ks : List ByteArray) : Prop where
  rise : ks.Pairwise bLt
  mem : ∀ k, k ∈ ks ↔ (txn ≠ 0 ∧ (a.i k).txn = txn)

set_option maxHeartbeats 16000000 in
theorem f17_calls {w0 w Wp : World} {F : Nat → Prop} {b b1 b2 : Nat} {E : List Ent} {I : List Itn} {a : Abs} {L : List Atom} {txn : Int} (H : Holds w (cAt b b1 b2 E I F Wp w0 L)) (hr : CRep w0 F Wp E I a) (hIl : I.length ≤ 40000) :
    Calls Try.prog 17 [.pointer (some ⟨b, 0, none⟩), .int .u64 txn].toArray w fun e w' => ∃ (v : Value) (ks : List ByteArray), e = .returned v ∧ IntentsOf a txn ks ∧ SlR tKey 24 (fun k => w.heap.size ≤ k) w' v (ks.map unkb) ∧ Ext none' w w' := by
  have H0 := H
  have H := Holds.start w
  obtain ⟨o2, ho2, es, clock, rfl, hmo⟩ : ∃ o, w.heap[b2]? = some o ∧ ∃ es clock, o = .map es clock ∧ MapObj Value.string (I.map Itn.kv) (.map es clock) := by
    obtain ⟨o, h1, h2⟩ := H0.get (i := 2) rfl
    obtain ⟨es, clock, rfl, h3⟩ := h2
    exact ⟨_, h1, es, clock, rfl, ⟨es, clock, rfl, h3⟩⟩
  refine calls_of_W' Try.func17 rfl Try.ntmps17 rfl ?_
  refine W_seq ?_
  refine W_region ?_
  refine OL_y (y_assign rfl) (by decide) ?_
  refine OL_nil ?_
  refine W_seq ?_
  refine W_region ?_
  refine OL_y (y_assign rfl) (by decide) ?_
  refine OL_nil ?_
  refine W_seq ?_
  refine W_seq ?_
  by_cases hz : txn = 0
  · refine W_region ?_
    refine OL_y (y_move rfl) (by decide) ?_
    refine OL_c (op_call 43 en43 rfl [.pointer (some ⟨b, 0, none⟩)] rfl (by decide) ((f43_calls ((H0.ext0 (H.ext_of 0 rfl)).getOwn 0 rfl)).mono ?_))
    rintro e w2_1 ⟨rfl, hE43⟩
    refine ⟨_, rfl, ?_⟩
    have H := H.ext0 hE43
    refine OL_y (y_not (b := true) rfl) (by decide) ?_
    refine OL_y (v := .bool false) (y_move rfl) (by decide) ?_
    refine OL_yg rfl (by decide) rfl (y_move rfl) (by decide) ?_
    refine OL_yg (v := .bool true) rfl (by decide) rfl (y_eqlT hz rfl rfl) (by decide) ?_
    refine OL_y (y_pick (b := false) (v := .bool true) rfl rfl) (by decide) ?_
    refine OL_nil ?_
    refine W_condt rfl ?_
    refine W_seq ?_
    refine W_region ?_
    refine OL_y (y_assign rfl) (by decide) ?_
    refine OL_nil ?_
    refine W_ret ?_
    show RetOK _ _ _ _ _ _
    exact ret1 (v := .slice none 0 0) Try.results17 rfl ⟨_, [], rfl, ⟨List.Pairwise.nil, fun k => by simp [hz]⟩, SlR.nil _ _ _ _, H.ext_of 0 rfl⟩
  · refine W_region ?_
    refine OL_y (y_move rfl) (by decide) ?_
    refine OL_c (op_call 43 en43 rfl [.pointer (some ⟨b, 0, none⟩)] rfl (by decide) ((f43_calls ((H0.ext0 (H.ext_of 0 rfl)).getOwn 0 rfl)).mono ?_))
    rintro e w2_1 ⟨rfl, hE43⟩
    refine ⟨_, rfl, ?_⟩
    have H := H.ext0 hE43
    refine OL_y (y_not (b := true) rfl) (by decide) ?_
    refine OL_y (v := .bool false) (y_move rfl) (by decide) ?_
    refine OL_yg rfl (by decide) rfl (y_move rfl) (by decide) ?_
    refine OL_yg (v := .bool false) rfl (by decide) rfl (y_eqlF hz rfl rfl) (by decide) ?_
    refine OL_y (y_pick (b := false) (v := .bool false) rfl rfl) (by decide) ?_
    refine OL_nil ?_
    refine W_condf rfl ?_
    refine W_skip ?_
    refine W_seq ?_
    refine W_seq ?_
    refine W_region ?_
    refine OL_y (y_move rfl) (by decide) ?_
    refine OL_y (y_nilCheck rfl ⟨_, rfl⟩) (by decide) ?_
    refine OL_y (y_fieldAddr ti98 rfl ti96 rfl rfl) (by decide) ?_
    refine OL_y (y_loadS (v := .map (some b2)) ti96 rfl rfl (Cells.unit ((H0.ext0 (H.ext_of 0 rfl)).getOwn 0 rfl) rfl)) (by decide) ?_
    refine OL_c (op_call 49 en49 rfl [.map (some b2)] rfl (by decide) ((f49_calls).mono ?_))
    rintro e w4_4 ⟨bx, rfl, hE49, hbx, hbxn⟩
    refine ⟨_, rfl, ?_⟩
    have H := H.ext0 hE49
    have hbl := ((H.ext_of 0 rfl).blk b2 (own_lt ho2) (fun h => h)).trans ho2
    have hit : ∀ w', Ext none' w4_4 w' → IterQ Try.prog 70 [.pointer (some ⟨bx, 0, none⟩)] Value.string (fun pre => ∃ rest, (pre ++ rest).Perm ((I.map Itn.kv).map (·.1))) (fun xs => xs.Perm ((I.map Itn.kv).map (·.1))) (fun k => k = bx ∨ k = b2) w' := fun w' hE =>
      f70_iter ((hE.blk bx (own_lt hbx) (fun h => h)).trans hbx) ((hE.blk b2 (own_lt hbl) (fun h => h)).trans hbl) hmo
    refine OL_c (op_call 48 en48 rfl [.func (.func 70) #[] #[.pointer (some ⟨bx, 0, none⟩)]] rfl (by decide) ((f48_calls (M := 40000) en70 hit (fun k hk => hk.elim (fun h => h ▸ own_lt hbx) (fun h => h ▸ own_lt hbl)) (fun pre ⟨rest, hp⟩ => by have := hp.length_eq; rw [List.length_append, List.length_map, List.length_map] at this; omega) (by decide)).mono ?_))
    rintro e w4_5 ⟨vv, zs, ys, rfl, hzs, hyz, hys, hE48, hvf, hrow⟩
    refine ⟨_, rfl, ?_⟩
    have H := H.new hE48 (row_ok hrow) hvf
    obtain ⟨av, cv, hvv, _, _⟩ := H.rowLen 0 rfl
    have hyp := hyz.trans hzs
    have hkm : (I.map Itn.kv).map (·.1) = I.map (·.key) := by rw [List.map_map]; rfl
    rw [hkm] at hyp
    have hynd : ys.Nodup := hyp.nodup_iff.2 hr.ind
    have hyr : ys.Pairwise bLt := rise_of_le hys hynd
    have hyl : ys.length ≤ 40000 := by rw [hyp.length_eq, List.length_map]; omega
    refine OL_y (y_len rfl ti104 (show _ = Value.slice av ys.length cv from hvv)) (by decide) ?_
    refine OL_y (y_move rfl) (by decide) ?_
    refine OL_nil ?_
    have H := (H.emptyPool).rowNil 23 1
    refine W_range (N := ys.length) (by simp [maxLen]; omega) (fun k f ds w' => ∃ (v5 : Value) (cs : List Value) (Zp : Nat → Prop) (Wp : World), f 0 = .pointer (some ⟨b, 0, none⟩) ∧ f 1 = .int .u64 txn ∧ f 20 = .slice av ys.length cv ∧ f 5 = v5 ∧ ds = [] ∧ Els tKey Zp Wp cs (((ys.take k).filter fun s => decide ((a.i s).txn = txn)).map unkb) ∧ (∀ k, Zp k → w.heap.size ≤ k) ∧
        Holds w' [row 23 1 v5 ((ys.take k).filter fun s => decide ((a.i s).txn = txn)).length cs, shr Zp Wp, row 9 1 vv ys.length (ys.map Value.string), shr (fun k => k < w.heap.size) w])
        ⟨.slice none 0 0, [], none', w4_5, rfl, rfl, hvv, rfl, rfl, Els.nil _ _ _, fun _ h => h.elim, H⟩
        rfl rfl (by decide) (by decide) (by decide) rfl rfl ?_ rfl rfl ?_
    · rintro k f ds w3 hk ⟨v5, cs, Zp, Wpp, h0, h1, h20, h5, rfl, hE, hZp, H⟩ hti htn
      have hyk := List.getElem?_eq_getElem hk
      have htk : ((ys.take (k + 1)).filter fun s => decide ((a.i s).txn = txn)) = ((ys.take k).filter fun s => decide ((a.i s).txn = txn)) ++ [ys[k]].filter fun s => decide ((a.i s).txn = txn) := by rw [List.take_add_one, hyk, Option.toList_some, List.filter_append]
      have hkI : ys[k] ∈ I.map (·.key) := hyp.mem_iff.1 (List.getElem_mem hk)
      have hsz : ys[k].size ≤ 140737488351232 := by obtain ⟨x, hx, he⟩ := List.mem_map.1 hkI; rw [← he]; exact hr.ik x hx
      have hcl : ((ys.take k).filter fun s => decide ((a.i s).txn = txn)).length ≤ 40000 := Nat.le_trans (List.length_filter_le _ _) (by rw [List.length_take]; omega)
      obtain ⟨bv, cv2, hv2, hC, hcv⟩ : ∃ b c, vv = .slice (some ⟨b, 0, none⟩) ys.length c ∧ Cells w3 b (0 + k * 1) [.string ys[k]] ∧ True := by
        obtain ⟨b, c, h, _, _⟩ := ownsRow_cells (H.getRow 2 rfl) (by omega)
        refine ⟨b, c, h, ?_, trivial⟩
        have := rowCell (o := k) (u := .string ys[k]) (H.getRow 2 rfl) (b := b) (by rw [h]; rfl) (by rw [List.getElem?_map, hyk]; rfl)
        simpa using this
      have h20' := h20.trans (hvv.symm.trans hv2)
      generalize ys[k] = s at *
      obtain ⟨csI, hlk, hRI⟩ := hr.look s
      obtain ⟨jv, jk, rfl, -⟩ := ver_cells.1 hRI
      refine W_block ?_
      refine W_seq ?_
      refine W_region ?_
      refine OL_y (y_indexAddr ti104 ti9 h20' hti (by omega) (by omega)) (by decide) ?_
      refine OL_y (y_loadS (v := .string s) ti9 rfl rfl hC) (by decide) ?_
      refine OL_y (y_assign rfl) (by decide) ?_
      refine OL_nil ?_
      refine W_seq ?_
      refine W_region ?_
      refine OL_y (y_move h0) (by decide) ?_
      refine OL_y (y_nilCheck rfl ⟨_, rfl⟩) (by decide) ?_
      refine OL_y (y_fieldAddr ti98 rfl ti96 rfl rfl) (by decide) ?_
      refine OL_y (y_loadS (v := .map (some b2)) ti96 rfl rfl (Cells.unit ((H0.ext0 (H.ext_of 3 rfl)).getOwn 0 rfl) rfl)) (by decide) ?_
      refine OL_y (y_move rfl) (by decide) ?_
      refine OL_y (y_lookupG hlk (H0.ext0 (H.ext_of 3 rfl)) 2 rfl ti96 ti32 (KeyOK.str Try.underlying9) rfl rfl) (by decide) ?_
      refine OL_y (y_field ti32 rfl ti24 rfl rfl rfl) (by decide) ?_
      refine OL_y (y_move h1) (by decide) ?_
      refine OL_y (y_eql rfl rfl) (by decide) ?_
      refine OL_nil ?_
      refine W_cond rfl (fun hc => ?_) (fun hc => ?_)
      · refine W_region ?_
        refine OL_y (y_move h5) (by decide) ?_
        refine OL_y (y_move rfl) (by decide) ?_
        refine OL_c (op_toBytes H Try.underlying9 Try.underlying23 Try.underlying5 rfl hsz (by decide) fun b43 cap w8_2 hc1 hc2 H => ?_)
        refine OL_c (op_buildSlice H [.slice (some ⟨b43, 0, none⟩) s.size cap] ti30 ti23 rfl rfl rfl (by simp [Value.cells]) rfl rfl (by decide) fun b44 w8_3 H => ?_)
        refine OL_c (op_append H 2 rfl rfl ti30 ti23 rfl rfl rfl rfl (Src.row (H.getRow 0 rfl)) rfl (by simp [Value.cells, Value.oneCell']) (by omega) (by simp [maxLen]; omega) (by decide) fun v45 w8_4 H => ?_)
        refine OL_y (y_assign rfl) (by decide) ?_
        refine OL_nil ?_
        have heq := of_decide_eq_true hc
        have hb43 := H.getOwn 1 rfl
        have hfr := H.fresh 1 5 rfl rfl rfl b43 rfl
        have hkp : Keeps Zp Wpp w8_4 := H.keeps (i := 3) rfl
        have hS := SlR_bytes (Z := fun k => Zp k ∨ k = b43) hb43 (.inr rfl) hc1 hc2 hsz
        have H := (H.tail).pool rfl 1 rfl
        refine ⟨hti, htn, v45, cs ++ [.slice (some ⟨b43, 0, none⟩) s.size cap], fun k => Zp k ∨ k = b43, w8_4, h0, h1, h20, rfl, rfl, ?_, fun k hk => hk.elim (hZp k) (fun h => by rw [h]; exact hfr), ?_⟩
        · rw [htk, List.filter_cons_of_pos (by simp [heq]), List.filter_nil, List.map_append]
          exact ((hE.keeps hkp).mono fun _ _ h => .inl h).snoc ⟨_, rfl, hS⟩
        · rw [htk, List.filter_cons_of_pos (by simp [heq]), List.filter_nil, List.length_append]
          exact H
      · refine W_skip ?_
        have hne := of_decide_eq_false hc
        refine ⟨hti, htn, v5, cs, Zp, Wpp, h0, h1, h20, h5, rfl, ?_, hZp, ?_⟩
        · rw [htk, List.filter_cons_of_neg (by simp [hne]), List.filter_nil, List.append_nil]; exact hE
        · rw [htk, List.filter_cons_of_neg (by simp [hne]), List.filter_nil, List.append_nil]; exact H
    · rintro f ds w3 ⟨v5, cs, Zp, Wpp, h0, h1, h20, h5, rfl, hE, hZp, H⟩ hti htn
      rw [List.take_length] at hE H
      refine W_seq ?_
      refine W_region ?_
      refine OL_y (y_move h5) (by decide) ?_
      refine OL_y (y_assign rfl) (by decide) ?_
      refine OL_nil ?_
      refine W_ret ?_
      show RetOK _ _ _ _ _ _
      have hcl : (ys.filter fun s => decide ((a.i s).txn = txn)).length ≤ 40000 := Nat.le_trans (List.length_filter_le _ _) hyl
      refine ret1 (v := v5) Try.results17 rfl ⟨_, ys.filter fun s => decide ((a.i s).txn = txn), rfl, ⟨hyr.sublist List.filter_sublist, fun k => ?_⟩, ?_, H.ext_of 3 rfl⟩
      · rw [List.mem_filter, hyp.mem_iff, decide_eq_true_eq]
        refine ⟨fun h => ⟨hz, h.2⟩, fun h => ⟨Classical.byContradiction fun hk => ?_, h.2⟩⟩
        have := hr.inn k hk
        rw [this] at h
        exact h.1 h.2.symm
      · exact SlR.ofRow (H.getRow 0 rfl) (by decide) ((hE.keeps (H.keeps (i := 1) rfl)).mono fun k _ h => hZp k h) (fun k hk => H.fresh 0 3 rfl rfl rfl k hk) (by rw [List.length_map]; omega)
end Go.Proofs.Ytpandioolpnihaa

namespace Go.Proofs.Ytpandioolpnihaa
open Go Go.Wk
set_option linter.unusedVariables false
set_option linter.unusedSimpArgs false

/-- The intent of a cell is written over. -/
theorem flat_int {R : List RE} {i : Nat} {e e' : RE} (hi : R[i]? = some e) (us : List Value) (hus : us.length = 5) (hcs : e'.cs = [e.vk, e.vs] ++ us) : (R.flatMap RE.cs).take (i * 7 + 2) ++ us ++ (R.flatMap RE.cs).drop (i * 7 + 2 + 5) = (R.set i e').flatMap RE.cs := by
  have hlt := (List.getElem?_eq_some_iff.1 hi).1
  have h1 := flat_at RE.len hi
  rw [← flat_setEl RE.len R i e' hlt, hcs, List.take_add]
  have h2 : ((R.flatMap RE.cs).drop (i * 7)).take 2 = [e.vk, e.vs] := by
    have : ((R.flatMap RE.cs).drop (i * 7)).take 2 = (((R.flatMap RE.cs).drop (i * 7)).take 7).take 2 := by rw [List.take_take]; rfl
    rw [this]
    have h3 : ((R.flatMap RE.cs).drop (i * 7)).take 7 = e.cs := h1
    rw [h3]; rfl
  rw [h2]
  simp only [List.append_assoc, Nat.add_assoc]
theorem RRep.setI {w0 Wp : World} {F : Nat → Prop} {R : List RE} {a : Abs} (h : RRep w0 F Wp R a) {i : Nat} {e : RE} (hi : R[i]? = some e) {u : Ver} {vv vt : Value} (hu : tVer.R (Dz w0 F) Wp [.int .u64 u.ts, .int .u64 u.txn, .bool u.dead, vv, vt] u) :
    RRep w0 F Wp (R.set i ⟨e.vk, e.vs, vv, vt, ⟨e.c.key, e.c.vers, u⟩⟩) (a.setI e.k u) := by
  have hem := List.mem_of_getElem? hi
  have hg2 := h.good e hem
  obtain ⟨_, _, _, eq0, hq1, hq2, -⟩ := cl_cells.1 hg2
  injection eq0 with eq1 eq0; injection eq0 with eq2 eq0
  subst eq1 eq2
  exact h.rep hi ⟨e.vk, e.vs, vv, vt, ⟨e.c.key, e.c.vers, u⟩⟩ rfl (cl_cells.2 ⟨_, _, _, rfl, hq1, hq2, hu⟩) (a.setI e.k u) (h.va e hem).1 (if_pos rfl) fun k hk => ⟨rfl, if_neg hk⟩
theorem RRep.has {w0 Wp : World} {F : Nat → Prop} {R : List RE} {a : Abs} (h : RRep w0 F Wp R a) {k : ByteArray} (hh : hasR R k = true) : ∃ e, R[posR R k]? = some e ∧ e.k = k ∧ e ∈ R ∧ a.v k = e.c.vers ∧ a.i k = e.c.intent := by
  unfold hasR at hh
  cases hg : R[posR R k]? with
  | none => rw [hg] at hh; cases hh
  | some e =>
    rw [hg] at hh
    have hk : e.k = k := by simpa using hh
    have hm := List.mem_of_getElem? hg
    have := h.va e hm
    rw [hk] at this
    exact ⟨e, rfl, hk, hm, this.1, this.2⟩
theorem RRep.hasnt {w0 Wp : World} {F : Nat → Prop} {R : List RE} {a : Abs} (h : RRep w0 F Wp R a) {k : ByteArray} (hh : hasR R k = false) : a.v k = [] ∧ a.i k = noV := h.vn k (notin_of_has h.rise hh)

end Go.Proofs.Ytpandioolpnihaa
