/- THE GROUND OF THE WALKS, 25: scopes of labels; bytes.Compare's entry; deletions while a map is ranged over. -/
import Derived.Test.YtngnplhdokboiaaWko
import Derived.Scope
import Derived.Lib.BytesEntry
import Derived.Laws.Externs
namespace Go.Wk
open Go
set_option linter.unusedVariables false
set_option linter.unusedSimpArgs false

def noGotoQ (Q : PQ) : PQ
  | .goto _, _, _, _ => False
  | e, f, ds, w => Q e f ds w
section
variable {P : Program} {l : Option Nat} {n : Nat} {Q : PQ} {f : Fr} {ds : List Deferred} {w : World}
theorem stepR_scope {b : Frame} {a : Act} {k : List Item} {cs : List Frame} {c : Code} : step P (lone (b.atR a (.code (.scope c) :: k)) cs w) = .next (lone (b.atR a (.code c :: .inScope c :: k)) cs w) :=
  step_lone_go (by simp [stepG, stepG.exec, Frame.atR])
theorem stepR_inScope {b : Frame} {a : Act} {k : List Item} {cs : List Frame} {c : Code} : step P (lone (b.atR a (.inScope c :: k)) cs w) = .next (lone (b.atR a k) cs w) :=
  step_lone_go (by simp [stepG, stepG.exec, Frame.atR])
/-- A scope of labels to which nothing goes. -/
theorem W_scope {c : Code} (h : W P l n c (noGotoQ Q) f ds w) : W P l n (.scope c) Q f ds w := by
  intro a ha hd b k cs hro hb hr
  obtain ⟨e, a₁, w₁, ⟨f₁, hf₁, hq⟩, harr⟩ := h a ha hd b (.inScope c :: k) cs hro hb hr
  cases e with
  | normal => exact ⟨.normal, a₁, w₁, ⟨f₁, hf₁, hq⟩, .of_steps (.one (fenced_calm hb hr rfl) stepR_scope) (StepsIn.trans harr (.one (fenced_calm hb hr rfl) stepR_inScope))⟩
  | exit id => exact ⟨.exit id, a₁, w₁, ⟨f₁, hf₁, hq⟩, .of_steps (.one (fenced_calm hb hr rfl) stepR_scope) ⟨fun k' hk => harr.1 k' (by simpa [exitTo] using hk), fun h1 h2 => harr.2 h1 (by simpa [exitTo] using h2)⟩⟩
  | goto id => exact hq.elim
  | ret => exact ⟨.ret, a₁, w₁, ⟨f₁, hf₁, hq⟩, .of_steps (.one (fenced_calm hb hr rfl) stepR_scope) harr⟩
  | panic ch => exact ⟨.panic ch, a₁, w₁, ⟨f₁, hf₁, hq⟩, .of_steps (.one (fenced_calm hb hr rfl) stepR_scope) harr⟩
  | outgrown => exact ⟨.outgrown, a₁, w₁, ⟨f₁, hf₁, hq⟩, .of_steps (.one (fenced_calm hb hr rfl) stepR_scope) harr⟩
end

/-! ### bytes.Compare's entry -/
theorem run_bytesOf {P : Program} {Z : Nat → Prop} {w : World} {v : Value} {k : List Int} (h : SlR (tInt .u8) 1 Z w v k) : (Extern.Bytes.bytesOf v).run P w = .ok (kb k) w := by
  by_cases hk : k = []
  · subst hk
    obtain ⟨a, c, rfl, _⟩ := h
    cases a with
    | none => rfl
    | some a => rfl
  · obtain ⟨b, o, c, news, rfl, _, hc, hE⟩ := h.row hk
    have hn := hE.ints
    have := Lib.run_loadBytesX (P := P) w k ⟨b, o, none⟩ .empty (fun j x hx => by
      rw [add_spot]; exact hc.cell j (by rw [hn, List.getElem?_map, hx]; rfl))
    show (Extern.Bytes.loadBytes ⟨b, o, none⟩ k.length .empty).run P w = _
    rw [this]
    congr 1
    show (⟨#[] ++ (Lib.bytesOf k).toArray⟩ : ByteArray) = _
    unfold kb Lib.bytesOf
    simp
theorem cmpB_lt : ∀ {a b : List UInt8}, (Lib.compareBytes a b < 0 ↔ a < b) ∧ (Lib.compareBytes a b = 0 ↔ a = b)
  | [], [] => by simp [Lib.compareBytes]
  | [], b :: y => by simp [Lib.compareBytes]
  | a :: x, [] => by simp [Lib.compareBytes]
  | a :: x, b :: y => by
    obtain ⟨h1, h2⟩ := cmpB_lt (a := x) (b := y)
    unfold Lib.compareBytes
    by_cases hab : a < b
    · have hne : a ≠ b := fun e => UInt8.lt_irrefl _ (e ▸ hab)
      simp [hab, hne, List.cons_lt_cons_iff]
    · by_cases hba : b < a
      · have hne : a ≠ b := fun e => UInt8.lt_irrefl _ (e ▸ hba)
        simp [hab, hba, hne, List.cons_lt_cons_iff]
      · have he : a = b := UInt8.le_antisymm (UInt8.not_lt.1 hba) (UInt8.not_lt.1 hab)
        subst he
        simp [List.cons_lt_cons_iff, h1, h2]
/-- How two keys stand to one another. -/
def cmpK (a b : List Int) : Int := Lib.compareBytes (kb a).data.toList (kb b).data.toList
theorem cmpK_lt {a b : List Int} : cmpK a b < 0 ↔ bLt (kb a) (kb b) := cmpB_lt.1
theorem cmpK_eq {a b : List Int} : cmpK a b = 0 ↔ kb a = kb b := by
  unfold cmpK; rw [cmpB_lt.2]; exact ⟨bytes_ext, fun h => by rw [h]⟩
theorem cmpK_ge {a b : List Int} : 0 ≤ cmpK a b ↔ ¬ bLt (kb a) (kb b) := by rw [← cmpK_lt]; omega
/-- A call of bytes.Compare's entry (a function without a body). -/
theorem op_compare {P : Program} {n : Nat} {K : PK} {f : Fr} {ds : List Deferred} {w : World} {d ty : Nat} {p : String} {af : Array Edge} {g : Option (Nat × Bool)} {x y : Operand} {tys : Array TypeId} (k : FuncId) {fn : Func} {Z Z' : Nat → Prop} {va vb : Value} {a b : List Int} (hf : P.funcs[k]? = some fn) (hname : (fn.name == "runtime.NumGoroutine") = false)
    (hb : fn.body.isNone = true) (hn : Extern.findNext fn = none) (he : Extern.find fn = some Extern.BytealgCompare.compare) (hx : ev f x = va) (hy : ev f y = vb) (h1 : SlR (tInt .u8) 1 Z w va a) (h2 : SlR (tInt .u8) 1 Z' w vb b) (hd : d < n)
    (kk : K (upd f d (.int .i64 (cmpK a b))) ds w) : Op1 P n ⟨some d, .call { callee := .value (.func k), args := #[x, y], argTypes := tys }, ty, p, af, g⟩ f ds w K := by
  refine Op1_val rfl rfl hd (w' := w) ?_ kk
  have hr : (Extern.BytealgCompare.compare #[va, vb]).run P w = .ok (.int .i64 (cmpK a b)) w := by
    change Sem.run P (do pure (goInt (Extern.BytealgCompare.cmp (← Extern.Bytes.bytesOf va) (← Extern.Bytes.bytesOf vb)))) w = _
    simp only [Sem.run_bind, run_bytesOf h1, run_bytesOf h2, Sem.run_pure, Result.andThen]
    rw [Lib.cmp_eq]
    rfl
  have hc := run_callFunc_extern (P := P) (f := k) hf hname hb hn he #[va, vb] w
  rw [hr] at hc
  have hfn : ev f (.func k) = .func (.func k) #[] #[] := rfl
  simp [execOp, resolve, Deferred.ofValue, invoke, hx, hy, hfn, hc, Result.andThen]

/-! ### Look-ups whose answer is known -/
section
variable {κ : Type} [DecidableEq κ] {P : Program} {f : Fr} {w : World} {d ty : Nat} {p : String} {af : Array Edge} {g : Option (Nat × Bool)} {t kt et size bytes size' bytes' : Nat} {zero zero' : Value} {dd : TypeDesc} {x y : Operand} {L : List Atom} {K : κ → Value} {b : Nat} {m : List (κ × Value)} {k : κ}
theorem y_lookupOkS {v : Value} (hg : mget m k = some v) (H : Holds w L) (i : Nat) (hi : L[i]? = some (mp K b m)) (tm : TI P t size bytes zero (.map kt et)) (te : TI P et size' bytes' zero' dd) (hk : KeyOK P kt K) (hx : ev f x = .map (some b)) (hy : ev f y = K k) :
    Yd P ⟨some d, .lookup t x y true, ty, p, af, g⟩ f w (.tuple #[v, .bool true]) := by
  have := y_lookupOk (d := d) (ty := ty) (p := p) (af := af) (g := g) H i hi tm te hk hx hy; rwa [hg] at this
theorem y_lookupOkN (hg : mget m k = none) (H : Holds w L) (i : Nat) (hi : L[i]? = some (mp K b m)) (tm : TI P t size bytes zero (.map kt et)) (te : TI P et size' bytes' zero' dd) (hk : KeyOK P kt K) (hx : ev f x = .map (some b)) (hy : ev f y = K k) :
    Yd P ⟨some d, .lookup t x y true, ty, p, af, g⟩ f w (.tuple #[zero', .bool false]) := by
  have := y_lookupOk (d := d) (ty := ty) (p := p) (af := af) (g := g) H i hi tm te hk hx hy; rwa [hg] at this
theorem y_lookupS {v : Value} (hg : mget m k = some v) (H : Holds w L) (i : Nat) (hi : L[i]? = some (mp K b m)) (tm : TI P t size bytes zero (.map kt et)) (te : TI P et size' bytes' zero' dd) (hk : KeyOK P kt K) (hx : ev f x = .map (some b)) (hy : ev f y = K k) :
    Yd P ⟨some d, .lookup t x y false, ty, p, af, g⟩ f w v := by
  have := y_lookup (d := d) (ty := ty) (p := p) (af := af) (g := g) H i hi tm te hk hx hy; rwa [hg] at this
theorem y_lookupN (hg : mget m k = none) (H : Holds w L) (i : Nat) (hi : L[i]? = some (mp K b m)) (tm : TI P t size bytes zero (.map kt et)) (te : TI P et size' bytes' zero' dd) (hk : KeyOK P kt K) (hx : ev f x = .map (some b)) (hy : ev f y = K k) :
    Yd P ⟨some d, .lookup t x y false, ty, p, af, g⟩ f w zero' := by
  have := y_lookup (d := d) (ty := ty) (p := p) (af := af) (g := g) H i hi tm te hk hx hy; rwa [hg] at this
end

/-! ### Deletions while a map is ranged over -/
section
variable {κ : Type} [DecidableEq κ] {P : Program} {n : Nat} {PKk : PK} {f : Fr} {ds : List Deferred} {w : World} {d ty : Nat} {p : String} {af : Array Edge} {g : Option (Nat × Bool)} {t kt et size bytes : Nat} {zero : Value} {x y : Operand} {L : List Atom} {K : κ → Value} {b : Nat} {m : List (κ × Value)} {k : κ} {es : Array MapEntry} {c : Nat}
theorem filter_erase {α : Type} {q : α → Bool} : ∀ {l : List α} {j : Nat}, (∀ x, l[j]? = some x → q x = false) → (l.eraseIdx j).filter q = l.filter q
  | [], _, _ => by simp
  | x :: l, 0, h => by rw [List.eraseIdx_cons_zero, List.filter_cons, h x rfl]; simp
  | x :: l, j + 1, h => by
    rw [List.eraseIdx_cons_succ, List.filter_cons, List.filter_cons, filter_erase (l := l) (j := j) fun y hy => h y (by simpa using hy)]
theorem op_deleteO (H : Holds w L) (i : Nat) (hi : L[i]? = some (own b (.map es c))) (hm : MapObj K m (.map es c)) {tys : Array TypeId} (ht : tys[0]? = some t) (tm : TI P t size bytes zero (.map kt et)) (hk : KeyOK P kt K) {dst : Option Nat} (hd : ∀ d, dst = some d → d < n) (hx : ev f x = .map (some b)) (hy : ev f y = K k)
    (kk : ∀ es' w', Holds w' (L.set i (own b (.map es' c))) → MapObj K (mdel m k) (.map es' c) → (∀ since seen left, (∀ e ∈ es.toList, e.key = K k → seen.contains e.born = true) → Rng K es since seen left → Rng K es' since seen left) → PKk (updO f dst (.tuple #[])) ds w') :
    Op1 P n ⟨dst, .call { callee := .builtin .delete, args := #[x, y], argTypes := tys }, ty, p, af, g⟩ f ds w PKk := by
  have hb := H.getOwn i hi
  obtain ⟨es0, c0, e0, he, hnd, hpw, hcl⟩ := hm
  cases e0
  have hlen : es.size = m.length := by have := congrArg List.length he; simpa using this
  cases hf : m.findIdx? fun x => decide (x.1 = k) with
  | none =>
    have hnin := findIdx_mem.1 hf
    have hset : mdel m k = m := by
      unfold mdel; rw [List.filter_eq_self]; intro u hu
      simp only [decide_eq_true_eq]; rintro rfl; exact hnin (List.mem_map.2 ⟨u, hu, rfl⟩)
    refine Op1_valO rfl hd (v := .tuple #[]) (w' := w.putObj b (.map es c)) ?_ (kk es _ (H.put i hi _) ⟨es, c, rfl, by rw [hset]; exact he, by rw [hset]; exact hnd, hpw, hcl⟩ fun _ _ _ _ h => h)
    simp only [execOp, resolve, invoke, builtin, Sem.run_bind, Sem.run_pure, Result.andThen, List.map_toArray, List.map_cons, List.map_nil, hx, hy, Builtin.delete_, ht, tm.run_underlying, List.getElem?_toArray, List.getElem?_cons_zero, List.getElem?_cons_succ]
    simp [run_getObj_map hb, hk.chk, run_findKey hk k he, hf, run_setObj_map _ hb, Result.andThen, tm.run_underlying]
  | some j =>
    obtain ⟨hj, hjk, -⟩ := List.findIdx?_eq_some_iff_getElem.1 hf
    have hjk' : m[j].1 = k := of_decide_eq_true hjk
    have hje : j < es.size := by omega
    have e1 : (es.eraseIdxIfInBounds j).toList = es.toList.eraseIdx j := by simp [Array.eraseIdxIfInBounds, hje]
    have hkey : es[j].key = K k := by
      have := congrArg (·[j]?) he
      simp [hj, hje] at this
      rw [this.1, hjk']
    refine Op1_valO rfl hd (v := .tuple #[]) (w' := w.putObj b (.map (es.eraseIdxIfInBounds j) c)) ?_ (kk (es.eraseIdxIfInBounds j) _ (H.put i hi _) ⟨_, c, rfl, ?_, ?_, ?_, ?_⟩ ?_)
    · simp only [execOp, resolve, invoke, builtin, Sem.run_bind, Sem.run_pure, Result.andThen, List.map_toArray, List.map_cons, List.map_nil, hx, hy, Builtin.delete_, ht, tm.run_underlying, List.getElem?_toArray, List.getElem?_cons_zero, List.getElem?_cons_succ]
      simp [run_getObj_map hb, hk.chk, run_findKey hk k he, hf, run_setObj_map _ hb, Result.andThen, tm.run_underlying, List.getElem?_eq_getElem hj]
    · rw [e1, ← eraseIdx_map', he, ← erase_key hnd hf, eraseIdx_map']
    · rw [← erase_key hnd hf, ← eraseIdx_map']
      exact hnd.sublist (List.eraseIdx_sublist _ _)
    · rw [e1]; exact hpw.sublist (List.eraseIdx_sublist _ _)
    · rw [e1]; intro e hm; exact hcl e (List.mem_of_mem_eraseIdx hm)
    · intro since seen left hseen hr
      refine ⟨fun e hm => hr.old e (by rw [e1] at hm; exact List.mem_of_mem_eraseIdx hm), by rw [e1]; exact hr.born.sublist (List.eraseIdx_sublist _ _), ?_⟩
      have := hr.left
      unfold leftOf at this ⊢
      rw [Array.toList_filter] at this ⊢
      rw [e1, filter_erase]
      · exact this
      · intro e hej
        have h1 : es[j]? = some e := by simpa using hej
        have h2 : e = es[j] := by rw [Array.getElem?_eq_getElem hje] at h1; exact (Option.some.inj h1).symm
        have := hseen es[j] (by simp) hkey
        rw [h2, this]; rfl
end
end Go.Wk
namespace Go.Wk
open Go
section
variable {P : Program} {f : Fr} {w : World} {d t t' ty : Nat} {p : String} {af : Array Edge} {g : Option (Nat × Bool)} {x y : Operand}
theorem y_geqS {a b : ByteArray} (hx : ev f x = .string a) (hy : ev f y = .string b) : Yd P ⟨some d, .binOp .geq t x y t', ty, p, af, g⟩ f w (.bool (decide (¬ bLt a b))) :=
  ⟨rfl, by
    have h3 : (!(Op.bytesLess a.toList b.toList)) = decide (¬ bLt a b) := by rw [bLess_dec]; simp
    simp only [execOp, hx, hy, eqGuard, binOp, Op.stringOp, Result.andThen, h3]
    rfl⟩
theorem y_geqST {a b : ByteArray} (h : ¬ bLt a b) (hx : ev f x = .string a) (hy : ev f y = .string b) : Yd P ⟨some d, .binOp .geq t x y t', ty, p, af, g⟩ f w (.bool true) := by
  have := y_geqS (P := P) (w := w) (d := d) (t := t) (t' := t') (ty := ty) (p := p) (af := af) (g := g) hx hy; rwa [decide_eq_true h] at this
theorem y_geqSF {a b : ByteArray} (h : bLt a b) (hx : ev f x = .string a) (hy : ev f y = .string b) : Yd P ⟨some d, .binOp .geq t x y t', ty, p, af, g⟩ f w (.bool false) := by
  have := y_geqS (P := P) (w := w) (d := d) (t := t) (t' := t') (ty := ty) (p := p) (af := af) (g := g) hx hy; rwa [decide_eq_false (fun hn => hn h)] at this
theorem y_lssST {a b : ByteArray} (h : bLt a b) (hx : ev f x = .string a) (hy : ev f y = .string b) : Yd P ⟨some d, .binOp .lss t x y t', ty, p, af, g⟩ f w (.bool true) := by
  have := y_lssS (P := P) (w := w) (d := d) (t := t) (t' := t') (ty := ty) (p := p) (af := af) (g := g) hx hy; rwa [decide_eq_true h] at this
theorem y_lssSF {a b : ByteArray} (h : ¬ bLt a b) (hx : ev f x = .string a) (hy : ev f y = .string b) : Yd P ⟨some d, .binOp .lss t x y t', ty, p, af, g⟩ f w (.bool false) := by
  have := y_lssS (P := P) (w := w) (d := d) (t := t) (t' := t') (ty := ty) (p := p) (af := af) (g := g) hx hy; rwa [decide_eq_false h] at this
theorem y_eqlST {a b : ByteArray} (h : a = b) (hx : ev f x = .string a) (hy : ev f y = .string b) : Yd P ⟨some d, .binOp .eql t x y t', ty, p, af, g⟩ f w (.bool true) := by
  have := y_eqlS (P := P) (w := w) (d := d) (t := t) (t' := t') (ty := ty) (p := p) (af := af) (g := g) hx hy; rwa [decide_eq_true h] at this
theorem y_eqlSF {a b : ByteArray} (h : a ≠ b) (hx : ev f x = .string a) (hy : ev f y = .string b) : Yd P ⟨some d, .binOp .eql t x y t', ty, p, af, g⟩ f w (.bool false) := by
  have := y_eqlS (P := P) (w := w) (d := d) (t := t) (t' := t') (ty := ty) (p := p) (af := af) (g := g) hx hy; rwa [decide_eq_false h] at this
theorem y_neqST {a b : ByteArray} (h : a ≠ b) (hx : ev f x = .string a) (hy : ev f y = .string b) : Yd P ⟨some d, .binOp .neq t x y t', ty, p, af, g⟩ f w (.bool true) := by
  have := y_neqS (P := P) (w := w) (d := d) (t := t) (t' := t') (ty := ty) (p := p) (af := af) (g := g) hx hy; rwa [decide_eq_true h] at this
theorem y_neqSF {a b : ByteArray} (h : a = b) (hx : ev f x = .string a) (hy : ev f y = .string b) : Yd P ⟨some d, .binOp .neq t x y t', ty, p, af, g⟩ f w (.bool false) := by
  have := y_neqS (P := P) (w := w) (d := d) (t := t) (t' := t') (ty := ty) (p := p) (af := af) (g := g) hx hy; rwa [decide_eq_false (fun hn => hn h)] at this
end
end Go.Wk
