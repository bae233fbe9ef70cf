/- THE GROUND OF THE WALKS, 9: maps of one's own: made, looked up, written, deleted from, as lists of pairs with distinct keys. -/
import Derived.Test.YtngnplhdokboiaaWk8
namespace Go.Wk
open Go
set_option linter.unusedVariables false
set_option linter.unusedSimpArgs false
set_option linter.unusedSectionVars false

theorem sameBits_int (n : Nat) (k : IntKind) (a : Int) : Instr.sameBits n (.int k a) (.int k a) = true := by cases n <;> simp [Instr.sameBits]
theorem bytes_beq (a b : ByteArray) : (a == b) = decide (a = b) := by
  obtain ⟨a⟩ := a
  obtain ⟨b⟩ := b
  rw [Bool.eq_iff_iff, decide_eq_true_iff, ByteArray.mk.injEq]
  show (a == b) = true ↔ _
  exact beq_iff_eq
theorem sameBits_str (n : Nat) (a : ByteArray) : Instr.sameBits n (.string a) (.string a) = true := by cases n <;> simp [Instr.sameBits, bytes_beq]
theorem eraseIdx_map' {α β : Type} (f : α → β) : ∀ (l : List α) (j : Nat), (l.map f).eraseIdx j = (l.eraseIdx j).map f
  | [], _ => by simp
  | x :: l, 0 => by simp
  | x :: l, j + 1 => by simp [eraseIdx_map' f l j]
theorem checkKey_int {P : Program} {t : TypeId} {k : IntKind} (h : P.underlying t = some (.int k)) (e : Bool) (n : Nat) (a : Int) (w : World) : (Instr.checkKey e (n + 1) t (.int k a)).run P w = .ok () w := by
  simp only [Instr.checkKey, Sem.run_bind, run_underlying h, Result.andThen]; rfl
theorem checkKey_str {P : Program} {t : TypeId} (h : P.underlying t = some .string) (e : Bool) (n : Nat) (a : ByteArray) (w : World) : (Instr.checkKey e (n + 1) t (.string a)).run P w = .ok () w := by
  simp only [Instr.checkKey, Sem.run_bind, run_underlying h, Result.andThen]; rfl

/-- The keys of a map: how they are written; two are compared at once. -/
structure KeyOK (P : Program) (t : TypeId) {κ : Type} [DecidableEq κ] (K : κ → Value) : Prop where
  same : ∃ d, P.underlying t = some d ∧ ∀ a b, Instr.sameNow d (K a) (K b) = some (decide (a = b))
  chk : ∀ e a w, (Instr.checkKey e 10000 t (K a)).run P w = .ok () w
  bits : ∀ a, Instr.sameBits 10000 (K a) (K a) = true
theorem KeyOK.int {P : Program} {t : TypeId} {k : IntKind} (h : P.underlying t = some (.int k)) : KeyOK P t (Value.int k) :=
  ⟨⟨_, h, fun a b => by simp [Instr.sameNow, beq_dec]⟩, fun e a w => checkKey_int h e 9999 a w, fun a => sameBits_int _ _ _⟩
theorem KeyOK.str {P : Program} {t : TypeId} (h : P.underlying t = some .string) : KeyOK P t Value.string :=
  ⟨⟨_, h, fun a b => by
    simp only [Instr.sameNow, bytes_beq]⟩, fun e a w => checkKey_str h e 9999 a w, fun a => sameBits_str _ _⟩

section
variable {κ : Type} [DecidableEq κ]
def mget (m : List (κ × Value)) (k : κ) : Option Value := (m.find? fun x => decide (x.1 = k)).map (·.2)
def mset (m : List (κ × Value)) (k : κ) (v : Value) : List (κ × Value) := if k ∈ m.map (·.1) then m.map (fun x => if x.1 = k then (k, v) else x) else m ++ [(k, v)]
def mdel (m : List (κ × Value)) (k : κ) : List (κ × Value) := m.filter fun x => decide (x.1 ≠ k)

/-- The object is a map that reads as m. -/
def MapObj (K : κ → Value) (m : List (κ × Value)) (o : Obj) : Prop := ∃ es clock, o = .map es clock ∧ es.toList.map (fun e => (e.key, e.val)) = m.map (fun x => (K x.1, x.2)) ∧ (m.map (·.1)).Nodup ∧
  es.toList.Pairwise (fun a b => a.born < b.born) ∧ ∀ e ∈ es.toList, e.born < clock
abbrev mp (K : κ → Value) (b : Nat) (m : List (κ × Value)) : Atom := ⟨true, fun k => k = b, fun w => ∃ o, w.heap[b]? = some o ∧ MapObj K m o⟩
theorem mp_stable (K : κ → Value) (b : Nat) (m : List (κ × Value)) : (mp K b m).stable := by
  rintro w w' hs _ _ _ h ⟨o, hp, ho⟩
  exact ⟨o, (h b rfl (own_lt hp)).trans hp, ho⟩
theorem mp_ok {w : World} {K : κ → Value} {b : Nat} {m : List (κ × Value)} {o : Obj} (h : w.heap[b]? = some o) (ho : MapObj K m o) : (mp K b m).ok w := ⟨⟨o, h, ho⟩, fun k hk => by simp only at hk; subst hk; exact own_lt h, mp_stable _ _ _⟩

/-- Where a key stands. -/
theorem findNow_eq {P : Program} {t : TypeId} {K : κ → Value} {d : TypeDesc} (hd : ∀ a b, Instr.sameNow d (K a) (K b) = some (decide (a = b))) (k : κ) : ∀ (es : List MapEntry) (m : List (κ × Value)) (i : Nat), es.map (fun e => (e.key, e.val)) = m.map (fun x => (K x.1, x.2)) →
    Instr.findNow d (K k) es i = some ((m.findIdx? fun x => decide (x.1 = k)).bind fun j => (m[j]?).map fun x => (i + j, x.2))
  | [], m, i, h => by
    cases m with
    | nil => rfl
    | cons x m => simp at h
  | e :: es, m, i, h => by
    cases m with
    | nil => simp at h
    | cons x m =>
      simp only [List.map_cons, List.cons.injEq, Prod.mk.injEq] at h
      obtain ⟨⟨h1, h2⟩, h3⟩ := h
      simp only [Instr.findNow, h1, hd, List.findIdx?_cons]
      by_cases hx : x.1 = k
      · subst hx; simp [h2]
      · have hk : ¬ k = x.1 := fun e => hx e.symm
        simp only [hx, hk, decide_false]
        rw [findNow_eq (P := P) (t := t) hd k es m (i + 1) h3]
        simp only [Bool.false_eq_true, if_false]
        cases hf : m.findIdx? fun x => decide (x.1 = k) with
        | none => simp
        | some j => simp [Nat.add_assoc, Nat.add_comm 1 j]
theorem run_findKey {P : Program} {t : TypeId} {K : κ → Value} (hk : KeyOK P t K) (k : κ) {es : List MapEntry} {m : List (κ × Value)} (h : es.map (fun e => (e.key, e.val)) = m.map (fun x => (K x.1, x.2))) (w : World) :
    (Instr.findKey t (K k) es).run P w = .ok ((m.findIdx? fun x => decide (x.1 = k)).bind fun j => (m[j]?).map fun x => (j, x.2)) w := by
  obtain ⟨d, hd, hs⟩ := hk.same
  simp only [Instr.findKey, Sem.run_bind, run_underlying hd, Result.andThen]
  rw [findNow_eq (P := P) (t := t) hs k es m 0 h]
  simp
theorem mget_idx (m : List (κ × Value)) (k : κ) : mget m k = ((m.findIdx? fun x => decide (x.1 = k)).bind fun j => m[j]?).map (·.2) := by
  unfold mget
  congr 1
  induction m with
  | nil => rfl
  | cons x m ih =>
    simp only [List.find?_cons, List.findIdx?_cons]
    by_cases hx : x.1 = k
    · simp [hx]
    · simp only [hx, decide_false, Bool.false_eq_true, if_false]
      rw [ih]
      cases m.findIdx? fun x => decide (x.1 = k) <;> simp
theorem findIdx_mem {m : List (κ × Value)} {k : κ} : (m.findIdx? fun x => decide (x.1 = k)) = none ↔ k ∉ m.map (·.1) := by
  rw [List.findIdx?_eq_none_iff]
  simp only [decide_eq_false_iff_not, List.mem_map, not_exists, not_and]
theorem modify_key {m : List (κ × Value)} {k : κ} {j : Nat} (hn : (m.map (·.1)).Nodup) (hj : (m.findIdx? fun x => decide (x.1 = k)) = some j) (v : Value) : m.set j (k, v) = m.map (fun x => if x.1 = k then (k, v) else x) := by
  induction m generalizing j with
  | nil => simp at hj
  | cons x m ih =>
    simp only [List.map_cons, List.nodup_cons] at hn
    simp only [List.findIdx?_cons] at hj
    by_cases hx : x.1 = k
    · simp only [hx, decide_true, if_true, Option.some.injEq] at hj
      subst hj
      simp only [List.set_cons_zero, List.map_cons, hx, if_true]
      congr 1
      symm
      rw [List.map_congr_left (g := id)]
      · simp
      · intro y hy
        have : y.1 ≠ k := by rintro rfl; exact hn.1 (hx ▸ List.mem_map.2 ⟨y, hy, rfl⟩)
        simp [this]
    · simp only [hx, decide_false, Bool.false_eq_true, if_false, Option.map_eq_some_iff] at hj
      obtain ⟨i, hi, rfl⟩ := hj
      simp only [List.set_cons_succ, List.map_cons, hx, if_false]
      rw [ih hn.2 hi]
theorem erase_key {m : List (κ × Value)} {k : κ} {j : Nat} (hn : (m.map (·.1)).Nodup) (hj : (m.findIdx? fun x => decide (x.1 = k)) = some j) : m.eraseIdx j = mdel m k := by
  induction m generalizing j with
  | nil => simp at hj
  | cons x m ih =>
    simp only [List.map_cons, List.nodup_cons] at hn
    simp only [List.findIdx?_cons] at hj
    by_cases hx : x.1 = k
    · simp only [hx, decide_true, if_true, Option.some.injEq] at hj
      subst hj
      simp only [List.eraseIdx_cons_zero, mdel, List.filter_cons, hx, ne_eq, not_true, decide_false, Bool.false_eq_true, if_false]
      symm
      rw [List.filter_eq_self]
      intro y hy
      have : y.1 ≠ k := by rintro rfl; exact hn.1 (hx ▸ List.mem_map.2 ⟨y, hy, rfl⟩)
      simp [this]
    · simp only [hx, decide_false, Bool.false_eq_true, if_false, Option.map_eq_some_iff] at hj
      obtain ⟨i, hi, rfl⟩ := hj
      simp only [List.eraseIdx_cons_succ, mdel, List.filter_cons, hx, ne_eq, not_false_iff, decide_true, if_true]
      congr 1
      exact ih hn.2 hi
end

section
variable {κ : Type} [DecidableEq κ] {P : Program} {n : Nat} {PKk : PK} {f : Fr} {ds : List Deferred} {w : World} {d ty : Nat} {p : String} {af : Array Edge} {g : Option (Nat × Bool)} {t kt et size bytes size' bytes' : Nat} {zero zero' : Value} {dd : TypeDesc} {x y z : Operand} {L : List Atom} {K : κ → Value} {b : Nat} {m : List (κ × Value)} {k : κ}

theorem Holds.map (H : Holds w L) (i : Nat) (hi : L[i]? = some (mp K b m)) : ∃ es clock, w.heap[b]? = some (.map es clock) ∧ es.toList.map (fun e => (e.key, e.val)) = m.map (fun x => (K x.1, x.2)) ∧ (m.map (·.1)).Nodup ∧
    es.toList.Pairwise (fun a b => a.born < b.born) ∧ ∀ e ∈ es.toList, e.born < clock := by
  obtain ⟨o, ho, es, clock, rfl, h⟩ := H.get hi
  exact ⟨es, clock, ho, h⟩
theorem op_makeMap (K : κ → Value) (H : Holds w L) (hn : d < n) (k : ∀ b w', Holds w' (mp K b [] :: L) → PKk (upd f d (.map (some b))) ds w') : Op1 P n ⟨some d, .makeMap t none, ty, p, af, g⟩ f ds w PKk := by
  refine Op1_val rfl rfl hn (w' := w.alloc (.map #[] 0)) (v := .map (some w.heap.size)) (by simp [execOp, Instr.makeMap, Result.andThen, run_newObj_alloc]) (k _ _ (H.new (Ext.alloc _ _ _) (mp_ok (World.alloc_heap_new _ _) ⟨#[], 0, rfl, rfl, by simp, by simp, by simp⟩) ?_))
  intro j hj; simp only at hj; omega
theorem run_getObj_map {es : Array MapEntry} {c : Nat} (h : w.heap[b]? = some (.map es c)) : (getObj b).run P w = .ok (.map es c) w := by simp [getObj, Sem.run, h]
theorem run_setObj_map {es : Array MapEntry} {c : Nat} (o : Obj) (h : w.heap[b]? = some (.map es c)) : (setObj b o).run P w = .ok () (w.putObj b o) := by simp [setObj, Sem.run, h, World.putObj]

theorem run_lookup (H : Holds w L) (i : Nat) (hi : L[i]? = some (mp K b m)) (tm : TI P t size bytes zero (.map kt et)) (te : TI P et size' bytes' zero' dd) (hk : KeyOK P kt K) (ok : Bool) :
    (Instr.lookup t (.map (some b)) (K k) ok).run P w = .ok (if ok then .tuple #[(mget m k).getD zero', .bool (mget m k).isSome] else (mget m k).getD zero') w := by
  obtain ⟨es, c, hb, he, hnd, -, -⟩ := H.map i hi
  simp only [Instr.lookup, Sem.run_bind, tm.run_underlying, Result.andThen, run_getObj_map hb, Sem.run_pure, hk.chk, run_findKey hk k he]
  rw [mget_idx]
  cases hf : m.findIdx? fun x => decide (x.1 = k) with
  | none =>
    simp only [Option.bind_none, Option.map_none, Sem.run_bind, te.run_zero, Result.andThen, Sem.run_pure]
    cases ok <;> simp
  | some j =>
    have hj : j < m.length := (List.findIdx?_eq_some_iff_getElem.1 hf).1
    simp only [Option.bind_some, List.getElem?_eq_getElem hj, Option.map_some, Sem.run_pure, Result.andThen]
    cases ok <;> simp
/-- m[k]. -/
theorem y_lookup (H : Holds w L) (i : Nat) (hi : L[i]? = some (mp K b m)) (tm : TI P t size bytes zero (.map kt et)) (te : TI P et size' bytes' zero' dd) (hk : KeyOK P kt K) (hx : ev f x = .map (some b)) (hy : ev f y = K k) :
    Yd P ⟨some d, .lookup t x y false, ty, p, af, g⟩ f w ((mget m k).getD zero') :=
  ⟨rfl, by simp only [execOp, hx, hy, Sem.run_bind, run_lookup H i hi tm te hk false, Result.andThen]; rfl⟩
/-- v, ok := m[k]. -/
theorem y_lookupOk (H : Holds w L) (i : Nat) (hi : L[i]? = some (mp K b m)) (tm : TI P t size bytes zero (.map kt et)) (te : TI P et size' bytes' zero' dd) (hk : KeyOK P kt K) (hx : ev f x = .map (some b)) (hy : ev f y = K k) :
    Yd P ⟨some d, .lookup t x y true, ty, p, af, g⟩ f w (.tuple #[(mget m k).getD zero', .bool (mget m k).isSome]) :=
  ⟨rfl, by simp only [execOp, hx, hy, Sem.run_bind, run_lookup H i hi tm te hk true, Result.andThen]; rfl⟩

theorem run_keyThatStays (hk : KeyOK P kt K) : (Instr.keyThatStays (K k) (K k)).run P w = .ok (K k) w := by simp [Instr.keyThatStays, hk.bits]
/-- m[k] = v. -/
theorem op_mapUpdate (H : Holds w L) (i : Nat) (hi : L[i]? = some (mp K b m)) (tm : TI P t size bytes zero (.map kt et)) (hk : KeyOK P kt K) {v : Value} (hx : ev f x = .map (some b)) (hy : ev f y = K k) (hz : ev f z = v)
    (kk : ∀ w', Holds w' (L.set i (mp K b (mset m k v))) → PKk f ds w') : Op1 P n ⟨none, .mapUpdate t x y z, ty, p, af, g⟩ f ds w PKk := by
  obtain ⟨es, c, hb, he, hnd, hpw, hcl⟩ := H.map i hi
  have hlen : es.size = m.length := by have := congrArg List.length he; simpa using this
  cases hf : m.findIdx? fun x => decide (x.1 = k) with
  | none =>
    have hnin := findIdx_mem.1 hf
    have hset : mset m k v = m ++ [(k, v)] := by simp only [mset, if_neg hnin]
    refine Op1_skip rfl rfl (w' := w.putObj b (.map (es.push { key := K k, val := v, born := c }) (c + 1))) ?_ (kk _ (H.step i hi rfl (Ext.put w b _) (fun _ _ h => h) (mp_ok (World.putObj_heap_same (own_lt hb)) ⟨_, _, rfl, ?_, ?_, ?_, ?_⟩) fun _ h => .inl h))
    · simp only [execOp, hx, hy, hz, Instr.mapUpdate, Sem.run_bind, tm.run_underlying, Result.andThen, run_getObj_map hb, hk.chk, run_findKey hk k he, hf, Option.bind_none, run_setObj_map _ hb]
      rfl
    · rw [hset]; simp [he]
    · rw [hset]; simp only [List.map_append, List.map_cons, List.map_nil]; rw [List.nodup_append]
      exact ⟨hnd, by simp, fun a ha b' hb' => by simp at hb'; subst hb'; rintro rfl; exact hnin ha⟩
    · simp only [Array.toList_push, List.pairwise_append]
      exact ⟨hpw, by simp, fun a ha b' hb' => by simp at hb'; subst hb'; exact hcl a ha⟩
    · intro e hm
      simp only [Array.toList_push, List.mem_append, List.mem_singleton] at hm
      rcases hm with hm | rfl
      · have := hcl e hm; omega
      · simp
  | some j =>
    obtain ⟨hj, hjk, -⟩ := List.findIdx?_eq_some_iff_getElem.1 hf
    have hjk' : m[j].1 = k := of_decide_eq_true hjk
    have hin : k ∈ m.map (·.1) := List.mem_map.2 ⟨m[j], List.getElem_mem hj, hjk'⟩
    have hset : mset m k v = m.set j (k, v) := by simp only [mset, if_pos hin, modify_key hnd hf]
    have hje : j < es.size := by omega
    have hkey : es[j].key = K k := by
      have := congrArg (·[j]?) he
      simp [hj, hje] at this
      rw [this.1, hjk']
    refine Op1_skip rfl rfl (w' := w.putObj b (.map (es.modify j fun e => { e with key := K k, val := v }) c)) ?_ (kk _ (H.step i hi rfl (Ext.put w b _) (fun _ _ h => h) (mp_ok (World.putObj_heap_same (own_lt hb)) ⟨_, _, rfl, ?_, ?_, ?_, ?_⟩) fun _ h => .inl h))
    · have hst : (Instr.keyThatStays (((es[j]?).map (·.key)).getD (K k)) (K k)).run P w = .ok (K k) w := by
        rw [Array.getElem?_eq_getElem hje]; simp only [Option.map_some, Option.getD_some, hkey]; exact run_keyThatStays hk
      simp only [execOp, hx, hy, hz, Instr.mapUpdate, Sem.run_bind, tm.run_underlying, Result.andThen, run_getObj_map hb, hk.chk, run_findKey hk k he, hf, Option.bind_some, List.getElem?_eq_getElem hj, Option.map_some, hst, run_setObj_map _ hb]
      rfl
    · rw [hset]
      apply List.ext_getElem?
      intro i'
      simp only [List.getElem?_map, List.getElem?_set, Array.getElem?_toList, Array.getElem?_modify]
      have hi' := congrArg (·[i']?) he
      simp only [List.getElem?_map, Array.getElem?_toList] at hi'
      by_cases e : j = i'
      · subst e; simp [hj, hje]
      · simp only [e, if_false, hi']
    · rw [hset]
      have : (m.set j (k, v)).map (·.1) = m.map (·.1) := by
        rw [List.map_set]
        apply List.ext_getElem?
        intro i'
        rw [List.getElem?_set]
        by_cases e : j = i'
        · subst e; simp [hj, hjk']
        · simp [e]
      rw [this]; exact hnd
    · have hbn : (es.modify j fun e => { e with key := K k, val := v }).toList.map (·.born) = es.toList.map (·.born) := by
        apply List.ext_getElem?
        intro i'
        simp only [List.getElem?_map, Array.getElem?_toList, Array.getElem?_modify]
        by_cases e : j = i'
        · subst e; simp [hje]
        · simp [e]
      have h1 : (es.toList.map (·.born)).Pairwise (· < ·) := List.pairwise_map.2 hpw
      rw [← hbn] at h1
      exact List.pairwise_map.1 h1
    · intro e hm
      obtain ⟨i', hi', rfl⟩ := List.getElem_of_mem hm
      simp only [Array.getElem_toList, Array.getElem_modify]
      have hl : i' < es.size := by simpa using hi'
      have := hcl es[i'] (by simp)
      split <;> exact this
/-- delete(m, k). -/
theorem op_delete (H : Holds w L) (i : Nat) (hi : L[i]? = some (mp K b m)) {tys : Array TypeId} (ht : tys[0]? = some t) (tm : TI P t size bytes zero (.map kt et)) (hk : KeyOK P kt K) {dst : Option Nat} (hd : ∀ d, dst = some d → d < n) (hx : ev f x = .map (some b)) (hy : ev f y = K k)
    (kk : ∀ w', Holds w' (L.set i (mp K b (mdel m k))) → PKk (updO f dst (.tuple #[])) ds w') : Op1 P n ⟨dst, .call { callee := .builtin .delete, args := #[x, y], argTypes := tys }, ty, p, af, g⟩ f ds w PKk := by
  obtain ⟨es, c, hb, he, hnd, hpw, hcl⟩ := H.map i hi
  have hlen : es.size = m.length := by have := congrArg List.length he; simpa using this
  cases hf : m.findIdx? fun x => decide (x.1 = k) with
  | none =>
    have hnin := findIdx_mem.1 hf
    have hset : mdel m k = m := by
      unfold mdel; rw [List.filter_eq_self]; intro u hu
      simp only [decide_eq_true_eq]; rintro rfl; exact hnin (List.mem_map.2 ⟨u, hu, rfl⟩)
    refine Op1_valO rfl hd (v := .tuple #[]) (w' := w.putObj b (.map es c)) ?_ (kk _ (H.step i hi rfl (Ext.put w b _) (fun _ _ h => h) (mp_ok (World.putObj_heap_same (own_lt hb)) ⟨es, c, rfl, by rw [hset]; exact he, by rw [hset]; exact hnd, hpw, hcl⟩) fun _ h => .inl h))
    simp only [execOp, resolve, invoke, builtin, Sem.run_bind, Sem.run_pure, Result.andThen, List.map_toArray, List.map_cons, List.map_nil, hx, hy, Builtin.delete_, ht, tm.run_underlying, List.getElem?_toArray, List.getElem?_cons_zero, List.getElem?_cons_succ]
    simp [run_getObj_map hb, hk.chk, run_findKey hk k he, hf, run_setObj_map _ hb, Result.andThen, tm.run_underlying]
  | some j =>
    obtain ⟨hj, hjk, -⟩ := List.findIdx?_eq_some_iff_getElem.1 hf
    have hje : j < es.size := by omega
    refine Op1_valO rfl hd (v := .tuple #[]) (w' := w.putObj b (.map (es.eraseIdxIfInBounds j) c)) ?_ (kk _ (H.step i hi rfl (Ext.put w b _) (fun _ _ h => h) (mp_ok (World.putObj_heap_same (own_lt hb)) ⟨_, c, rfl, ?_, ?_, ?_, ?_⟩) fun _ h => .inl h))
    · simp only [execOp, resolve, invoke, builtin, Sem.run_bind, Sem.run_pure, Result.andThen, List.map_toArray, List.map_cons, List.map_nil, hx, hy, Builtin.delete_, ht, tm.run_underlying, List.getElem?_toArray, List.getElem?_cons_zero, List.getElem?_cons_succ]
      simp [run_getObj_map hb, hk.chk, run_findKey hk k he, hf, run_setObj_map _ hb, Result.andThen, tm.run_underlying, List.getElem?_eq_getElem hj]
    · have e1 : (es.eraseIdxIfInBounds j).toList = es.toList.eraseIdx j := by simp [Array.eraseIdxIfInBounds, hje]
      rw [e1, ← eraseIdx_map', he, ← erase_key hnd hf, eraseIdx_map']
    · rw [← erase_key hnd hf, ← eraseIdx_map']
      exact hnd.sublist (List.eraseIdx_sublist _ _)
    · have e1 : (es.eraseIdxIfInBounds j).toList = es.toList.eraseIdx j := by simp [Array.eraseIdxIfInBounds, hje]
      rw [e1]; exact hpw.sublist (List.eraseIdx_sublist _ _)
    · have e1 : (es.eraseIdxIfInBounds j).toList = es.toList.eraseIdx j := by simp [Array.eraseIdxIfInBounds, hje]
      rw [e1]; intro e hm; exact hcl e (List.mem_of_mem_eraseIdx hm)
end

section
variable {κ : Type} [DecidableEq κ]
/-! what a map tells behind a write -/
theorem mset_keys (m : List (κ × Value)) (k : κ) (v : Value) : (mset m k v).map (·.1) = if k ∈ m.map (·.1) then m.map (·.1) else m.map (·.1) ++ [k] := by
  unfold mset
  split
  · rw [List.map_map]
    apply List.map_congr_left
    intro x hx
    simp only [Function.comp]
    split
    · rename_i h; exact h.symm
    · rfl
  · simp
theorem mget_mset_same (m : List (κ × Value)) (k : κ) (v : Value) : mget (mset m k v) k = some v := by
  unfold mset
  split
  · rename_i h
    unfold mget
    induction m with
    | nil => simp at h
    | cons x m ih =>
      simp only [List.map_cons, List.find?_cons]
      by_cases hx : x.1 = k
      · simp [hx]
      · simp only [hx, if_false, decide_false]
        simp only [List.map_cons, List.mem_cons] at h
        exact ih (h.resolve_left fun e => hx e.symm)
  · rename_i h
    unfold mget
    rw [List.find?_append, List.find?_eq_none.2]
    · simp
    · intro x hx; simp only [decide_eq_true_eq]; rintro rfl; exact h (List.mem_map.2 ⟨x, hx, rfl⟩)
theorem mget_map_ne {k k' : κ} (v : Value) (h : k' ≠ k) (m : List (κ × Value)) : mget (m.map (fun x => if x.1 = k then (k, v) else x)) k' = mget m k' := by
  unfold mget
  congr 1
  induction m with
  | nil => rfl
  | cons x m ih =>
    simp only [List.map_cons, List.find?_cons]
    by_cases hx : x.1 = k
    · have h1 : ¬ x.1 = k' := fun e => h (e.symm.trans hx)
      simp only [hx, if_true, Ne.symm h, decide_false]
      exact ih
    · simp only [hx, if_false]
      by_cases hx' : x.1 = k'
      · simp only [hx', decide_true]
      · simp only [hx', decide_false]; exact ih
theorem mget_mset_ne (m : List (κ × Value)) {k k' : κ} (v : Value) (h : k' ≠ k) : mget (mset m k v) k' = mget m k' := by
  unfold mset
  split
  · exact mget_map_ne v h m
  · unfold mget
    rw [List.find?_append]
    cases hf : List.find? (fun x => decide (x.1 = k')) m with
    | some y => simp
    | none => simp [Ne.symm h]
theorem mget_none {m : List (κ × Value)} {k : κ} : mget m k = none ↔ k ∉ m.map (·.1) := by
  unfold mget
  rw [Option.map_eq_none_iff, List.find?_eq_none]
  simp only [decide_eq_true_eq, List.mem_map, not_exists, not_and]
theorem mget_mdel_same (m : List (κ × Value)) (k : κ) : mget (mdel m k) k = none := by rw [mget_none]; unfold mdel; simp
theorem mget_mdel_ne (m : List (κ × Value)) {k k' : κ} (h : k' ≠ k) : mget (mdel m k) k' = mget m k' := by
  unfold mget mdel
  congr 1
  induction m with
  | nil => rfl
  | cons x m ih =>
    simp only [List.filter_cons]
    by_cases hx : x.1 = k
    · have h1 : ¬ k = k' := fun e => h e.symm
      simp only [hx, ne_eq, not_true, decide_false, Bool.false_eq_true, if_false, List.find?_cons, h1]
      exact ih
    · simp only [hx, ne_eq, not_false_iff, decide_true, if_true, List.find?_cons]
      by_cases hx' : x.1 = k'
      · simp [hx']
      · simp only [hx', decide_false]; exact ih
end
end Go.Wk
