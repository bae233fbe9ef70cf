/- THE GROUND OF THE WALKS, 23: what is made and never written again is pooled; bytes of a text; append onto a slice that is full; texts held against each other. -/
import Derived.Test.YtngnplhdokboiaaWkm
import Derived.Laws.IdiomStrings
namespace Go.Wk
open Go
set_option linter.unusedVariables false
set_option linter.unusedSimpArgs false

/-- An exclusive part goes into a shared one. -/
theorem Holds.pool {w w0 : World} {L : List Atom} {a : Atom} {Z : Nat → Prop} (H : Holds w (a :: L)) (hx : a.excl = true) (j : Nat) (hj : L[j]? = some (shr Z w0)) : Holds w (L.set j (shr (fun k => Z k ∨ a.F k) w)) := by
  have hlt : j < L.length := (List.getElem?_eq_some_iff.1 hj).1
  have hT := H.tail
  have hap := getElem_apart hT.apart hj
  have hha := (List.pairwise_cons.1 H.apart).1
  have hZ := (hT.ok _ (List.mem_of_getElem? hj)).2.1
  have hA := (H.ok a (by simp)).2.1
  have hb : ∀ k, (Z k ∨ a.F k) → k < w.heap.size := fun k hk => hk.elim (hZ k) (hA k)
  refine ⟨fun b hm => ?_, pairwise_set hT.apart hlt fun b hm e k hk hbk => ?_⟩
  · rcases List.mem_or_eq_of_mem_set hm with hm | rfl
    · exact hT.ok b hm
    · exact ⟨⟨Nat.le_refl _, rfl, rfl, rfl, fun _ _ => rfl⟩, hb, shr_stable hb⟩
  · rcases hk with hk | hk
    · exact hap b hm e k hk hbk
    · rcases e with e | e
      · cases e
      · exact hha b (List.mem_of_mem_eraseIdx hm) (.inr e) k hk hbk
/-- A shared part that is empty. -/
theorem Holds.emptyPool {w : World} {L : List Atom} (H : Holds w L) : Holds w (shr none' w :: L) := H.share none' (fun _ h => h.elim) fun _ _ _ _ h => h.elim

/-- Bytes as numbers. -/
def unkb (b : ByteArray) : List Int := b.data.toList.map fun u => (u.toNat : Int)
theorem unkb_in (b : ByteArray) : ∀ x ∈ unkb b, InK .u8 x := by
  intro x hx
  unfold unkb at hx
  obtain ⟨u, _, rfl⟩ := List.mem_map.1 hx
  have := u.toNat_lt
  unfold InK Lit.wf
  rw [Bool.and_eq_true, decide_eq_true_iff, decide_eq_true_iff]
  have h1 : IntKind.u8.min = 0 := rfl
  have h2 : IntKind.u8.max = 255 := rfl
  omega
theorem kb_unkb (b : ByteArray) : kb (unkb b) = b := by
  obtain ⟨⟨l⟩⟩ := b
  unfold kb unkb
  congr 1
  rw [List.map_map]
  have e : ((fun i : Int => UInt8.ofNat i.toNat) ∘ fun u : UInt8 => (u.toNat : Int)) = id := funext fun u => by simp
  rw [e, List.map_id]
theorem unkb_kb {k : List Int} (h : ∀ x ∈ k, InK .u8 x) : unkb (kb k) = k := kb_inj (unkb_in _) h (kb_unkb _)
theorem unkb_len (b : ByteArray) : (unkb b).length = b.size := by
  unfold unkb; rw [List.length_map]; rfl
theorem kb_size (k : List Int) : (kb k).size = k.length := by
  show ((k.map fun i => UInt8.ofNat i.toNat).toArray).size = _
  rw [List.size_toArray, List.length_map]

theorem SlR_bytes {Z : Nat → Prop} {w : World} {b : Nat} {e : TypeId} {fr : Nat × Nat} {s : ByteArray} {cap : Nat} (h : w.heap[b]? = some (.cells (bytesRow s cap) e fr)) (hZ : Z b) (h1 : s.size ≤ cap) (h2 : cap ≤ maxLen) (h3 : s.size ≤ 140737488351232) :
    SlR (tInt .u8) 1 Z w (.slice (some ⟨b, 0, none⟩) s.size cap) (unkb s) := by
  refine ⟨_, cap, by rw [unkb_len], by rw [unkb_len]; exact h1, fun h => (by cases h), by rw [unkb_len]; omega, h2, fun i x hx => ?_⟩
  have hin := unkb_in s x (List.mem_of_getElem? hx)
  refine ⟨b, 0, [.int .u8 x], rfl, hZ, Cells.unit h ?_, rfl, hin⟩
  unfold unkb at hx
  rw [List.getElem?_map, Option.map_eq_some_iff] at hx
  obtain ⟨u, hu, rfl⟩ := hx
  have hl := (List.getElem?_eq_some_iff.1 hu).1
  unfold bytesRow
  show (_ ++ _)[0 + i * 1]? = _
  rw [Nat.zero_add, Nat.mul_one, Array.getElem?_append_left (by simpa using hl), Array.getElem?_map]
  rw [Array.getElem?_toList] at hu
  rw [hu]; rfl

section
variable {P : Program} {n : Nat} {K : PK} {f : Fr} {ds : List Deferred} {w : World} {L : List Atom} {d t t' ty : Nat} {p : String} {af : Array Edge} {g : Option (Nat × Bool)} {x y : Operand}
/-- []byte(s) -/
theorem op_toBytes (H : Holds w L) {e : TypeId} {s : ByteArray} (hs : P.underlying t = some .string) (hd : P.underlying t' = some (.slice e)) (he : P.underlying e = some (.int .u8)) (hx : ev f x = .string s) (hsz : s.size ≤ 140737488351232) (hn : d < n)
    (k : ∀ b cap w', s.size ≤ cap → cap ≤ maxLen → Holds w' (own b (.cells (bytesRow s cap) e ((bytesRow s cap).size, (bytesRow s cap).size + 1)) :: L) → K (upd f d (.slice (some ⟨b, 0, none⟩) s.size cap)) ds w') : Op1 P n ⟨some d, .convert t t' x, ty, p, af, g⟩ f ds w K := by
  have hr := run_bytes_of_string (P := P) w t t' e s hs hd he
  have hE : Ext none' w w.drew := ⟨rfl, rfl, rfl, Nat.le_refl _, fun _ _ _ => rfl⟩
  have hM : s.size ≤ maxLen := by simp only [maxLen]; omega
  refine Op1_val rfl rfl hn ?_ (k w.heap.size (grownCap w s.size 0 e) _ (grownCap_ge _ _ _ _) (grownCap_le_maxLen _ _ _ _ hM) ((H.ext0 hE).alloc _))
  simp only [execOp, hx, Sem.run_bind, hr, Result.andThen, Sem.run_pure]

/-- append onto a slice that is full: a new row. -/
theorem op_appendNew (H : Holds w L) {tys : Array TypeId} {e size bytes size0 bytes0 : Nat} {z z0 : Value} {dd' : TypeDesc} {v xv : Value} {m k : Nat} {cs news : List Value} (ht : tys = #[t, t]) (htt : ty = t) (ti0 : TI P t size0 bytes0 z0 (.slice e)) (ti : TI P e size bytes z dd') (hz : z.cells.size = size) (hpos : Nat.ble 1 size = true)
    (hx : ev f x = v) (hy : ev f y = xv) (hv : ∃ a, v = .slice a k k) (hold : Src w v k cs) (hcl : cs.length = k * size) (hsrc : Src w xv m news) (hl : news.length = m * size) (h1 : ∀ u ∈ news, u.oneCell' = true) (hm : 0 < m) (hb : (k + m) * bytes ≤ 140737488355328) (h63 : k + m ≤ maxLen) (hn : d < n)
    (kk : ∀ v' w', Holds w' (row e size v' (k + m) (cs ++ news) :: L) → K (upd f d v') ds w') : Op1 P n ⟨some d, .call { callee := .builtin .append, args := #[x, y], argTypes := tys }, ty, p, af, g⟩ f ds w K := by
  subst ht htt
  obtain ⟨i, hi, hs, hz', hby⟩ := ti.i
  have hpos' := Nat.le_of_ble_eq_true hpos
  obtain ⟨a0, rfl⟩ := hv
  obtain ⟨ax, cx, rfl, hxn, hxc⟩ := hsrc
  obtain ⟨a1, c1, e1, hon, hoc⟩ := hold
  injection e1 with e1 _ e2; subst e1 e2
  cases ax with
  | none => have := (hxn rfl).1; omega
  | some A =>
    have key : ∃ v' w', (Builtin.append_ #[ty, ty] ty #[.slice a0 k k, .slice (some A) m cx]).run P w = .ok v' w' ∧ w'.ownsRow w.heap.size e size v' (k + m) (cs ++ news) ∧ Ext none' w w' := by
      cases a0 with
      | none =>
        obtain ⟨rfl, _⟩ := hon rfl
        obtain rfl : cs = [] := List.eq_nil_of_length_eq_zero (by simpa using hcl)
        have hown' : w.ownsRow w.heap.size e size (.slice none 0 0) 0 [] := ⟨by simp, .inl ⟨rfl, rfl⟩⟩
        obtain ⟨v', w', hrun, ho, hg, _⟩ := run_append_own (P := P) w w.heap.size ty ty e i z size bytes ti0.u hi hz' hs hby hz hpos' (.slice none 0 0) 0 [] hown' A m cx news hl (hxc A rfl) h1 h63 hb (Nat.le_refl _)
        exact ⟨v', w', hrun, ho, hg.os, hg.tape, hg.output, hg.size, fun j hj _ => hg.block j hj (by simp [Value.ownBlock])⟩
      | some B =>
        obtain ⟨v', w', hrun, ho, hg⟩ := run_append_arg_grows (P := P) w ty ty e i z size bytes ti0.u hi hz' hs hby hz hpos' B k k cs hcl (hoc B rfl) A m cx news hl (hxc A rfl) (by omega) h63 hb
        exact ⟨v', w', hrun, ho, hg.os, hg.tape, hg.output, hg.size, fun j hj _ => hg.block j hj (by simp)⟩
    obtain ⟨v', w', hrun, ho, hE⟩ := key
    refine Op1_val rfl rfl hn (w' := w') ?_ (kk v' w' (H.new hE (row_ok (ownsRow_base ho)) fun j hj => ?_))
    · simp [execOp, resolve, invoke, builtin, hx, hy, hrun, Result.andThen]
    · rcases ho.2 with ⟨hv, _⟩ | ⟨g2, c2, cur2, hv, hb2, _⟩
      · subst hv; simp [Value.ownBlock] at hj
      · subst hv; simp [Value.ownBlock] at hj; omega
end

theorem Src.dropRow {w : World} {e size : Nat} {a : Option Addr} {n c : Nat} {cs : List Value} (h : w.ownsRow 0 e size (.slice a n c) n cs) (i : Nat) (hi : i ≤ n) : Src w (.slice (cutA a c i size) (n - i) (c - i)) (n - i) (cs.drop (i * size)) := by
  rcases h.2 with ⟨hv, h0⟩ | ⟨g', cap, cur, hv, _, hh, hc, hm, hsz, ht⟩
  · injection hv with h1 h2 h3; subst h1 h2 h3
    rw [cutA_none]
    exact ⟨none, _, rfl, fun _ => ⟨by omega, by omega⟩, fun A e => (by cases e)⟩
  · injection hv with h1 h2 h3; subst h1 h3
    rw [cutA_some]
    have hC : Cells w g' 0 cs := Cells.of hh (by rw [List.drop_zero, h.1]; exact ht)
    by_cases hci : c = i
    · subst hci
      obtain rfl : n = c := by omega
      have e0 : cs.drop (n * size) = [] := List.drop_of_length_le (by rw [h.1]; exact Nat.le_refl _)
      rw [if_pos rfl, e0]
      exact ⟨_, _, rfl, fun h => (by cases h), fun A e j u hu => by simp at hu⟩
    · rw [if_neg hci]
      exact Src.cells (hC.take (i * size) (by rw [List.take_of_length_le (Nat.le_refl _)])) _ _
theorem Src.takeRow {w : World} {e size : Nat} {a : Option Addr} {n c : Nat} {cs : List Value} (h : w.ownsRow 0 e size (.slice a n c) n cs) (i : Nat) (hi : i ≤ n) : Src w (.slice (cutA a i 0 size) i i) i (cs.take (i * size)) := by
  rw [cutA_zero]
  rcases h.2 with ⟨hv, h0⟩ | ⟨g', cap, cur, hv, _, hh, hc, hm, hsz, ht⟩
  · injection hv with h1 h2 h3; subst h1 h2 h3
    exact ⟨none, _, rfl, fun _ => ⟨by omega, by omega⟩, fun A e => (by cases e)⟩
  · injection hv with h1 h2 h3; subst h1 h3
    have hC : Cells w g' 0 cs := Cells.of hh (by rw [List.drop_zero, h.1]; exact ht)
    have hl : i * size ≤ cs.length := by rw [h.1]; exact Nat.mul_le_mul_right _ hi
    exact Src.cells (hC.take 0 (by rw [List.drop_zero, List.length_take, Nat.min_eq_left hl])) _ _

theorem Els.take {α : Type} {T : Ty α} {Z : Nat → Prop} {w : World} {cs : List Value} {xs : List α} (h : Els T Z w cs xs) (k : Nat) (hk : k ≤ xs.length) : Els T Z w (cs.take (k * T.sz)) (xs.take k) := by
  have hle : k * T.sz ≤ cs.length := by rw [h.1]; exact Nat.mul_le_mul_right _ hk
  refine ⟨by rw [List.length_take, List.length_take, Nat.min_eq_left hle, Nat.min_eq_left hk], fun i x hx => ?_⟩
  have hi := (List.getElem?_eq_some_iff.1 hx).1
  rw [List.length_take] at hi
  rw [List.getElem?_take_of_lt (by omega)] at hx
  have := h.2 i x hx
  have hb : i * T.sz + T.sz ≤ k * T.sz := by have := Nat.mul_le_mul_right T.sz (show i + 1 ≤ k by omega); rw [Nat.add_mul] at this; omega
  rwa [List.drop_take, List.take_take, Nat.min_eq_left (by omega)]

theorem flat_drop {α : Type} {g : α → List Value} {m : Nat} (hg : ∀ x, (g x).length = m) : ∀ (l : List α) (i : Nat), (l.flatMap g).drop (i * m) = (l.drop i).flatMap g
  | [], i => by simp
  | x :: l, 0 => by simp
  | x :: l, i + 1 => by
    rw [List.flatMap_cons, List.drop_succ_cons, ← flat_drop hg l i, show (i + 1) * m = (g x).length + i * m by rw [hg, Nat.add_mul]; omega, List.drop_length_add_append]
theorem flat_take {α : Type} {g : α → List Value} {m : Nat} (hg : ∀ x, (g x).length = m) : ∀ (l : List α) (i : Nat), (l.flatMap g).take (i * m) = (l.take i).flatMap g
  | [], i => by simp
  | x :: l, 0 => by simp
  | x :: l, i + 1 => by
    rw [List.flatMap_cons, List.take_succ_cons, List.flatMap_cons, ← flat_take hg l i, show (i + 1) * m = (g x).length + i * m by rw [hg, Nat.add_mul]; omega, List.take_length_add_append]

/-! ### Texts held against each other -/
theorem bytesLess_lt : ∀ {a b : List UInt8}, Op.bytesLess a b = true ↔ a < b
  | a, [] => by cases a <;> simp [Op.bytesLess]
  | [], b :: y => by simp [Op.bytesLess]
  | a :: x, b :: y => by
    rw [Op.bytesLess, List.cons_lt_cons_iff, Bool.or_eq_true, Bool.and_eq_true, decide_eq_true_iff, beq_iff_eq, bytesLess_lt]
def bLt (a b : ByteArray) : Prop := a.data.toList < b.data.toList
instance (a b : ByteArray) : Decidable (bLt a b) := inferInstanceAs (Decidable (a.data.toList < b.data.toList))
theorem bLess_dec (a b : ByteArray) : Op.bytesLess a.toList b.toList = decide (bLt a b) := by
  rw [ByteArray.toList_eq, ByteArray.toList_eq, Bool.eq_iff_iff, bytesLess_lt, decide_eq_true_iff]; exact Iff.rfl
section
variable {P : Program} {f : Fr} {w : World} {d t t' ty : Nat} {p : String} {af : Array Edge} {g : Option (Nat × Bool)} {x y : Operand}
theorem y_lssS {a b : ByteArray} (hx : ev f x = .string a) (hy : ev f y = .string b) : Yd P ⟨some d, .binOp .lss t x y t', ty, p, af, g⟩ f w (.bool (decide (bLt a b))) :=
  ⟨rfl, by
    have := bLess_dec a b
    simp [execOp, hx, hy, eqGuard, binOp, Op.stringOp, Result.andThen]
    simpa using this⟩
theorem y_leqS {a b : ByteArray} (hx : ev f x = .string a) (hy : ev f y = .string b) : Yd P ⟨some d, .binOp .leq t x y t', ty, p, af, g⟩ f w (.bool (decide (bLt a b ∨ a = b))) :=
  ⟨rfl, by
    have h1 := bLess_dec a b
    have h2 : (a.toList == b.toList) = decide (a = b) := by
      rw [Bool.eq_iff_iff, decide_eq_true_iff, beq_iff_eq]
      exact ⟨fun h => bytes_toList_inj h, fun h => by rw [h]⟩
    have h3 : (Op.bytesLess a.toList b.toList || a.toList == b.toList) = decide (bLt a b ∨ a = b) := by rw [h1, h2]; simp
    simp only [execOp, hx, hy, eqGuard, binOp, Op.stringOp, Result.andThen, h3]
    rfl⟩
end
end Go.Wk
