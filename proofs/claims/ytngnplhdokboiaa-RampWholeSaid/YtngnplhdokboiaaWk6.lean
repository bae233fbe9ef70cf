/- THE GROUND OF THE WALKS, 6: literals, calls, and regions whose order is drawn. -/
import Derived.Test.YtngnplhdokboiaaWk5
import Derived.OrdersHeld
import Derived.OrdersIn
import Derived.KernelRfl
namespace Go.Wk
open Go
set_option linter.unusedVariables false
set_option linter.unusedSimpArgs false

theorem laid_toList (C : Array Value) (o : Nat) (vs : List Value) (h : o + vs.length ≤ C.size) : (laid C o vs).toList = C.toList.take o ++ vs ++ C.toList.drop (o + vs.length) := by
  induction vs generalizing C o with
  | nil => simp [laid]
  | cons v r ih =>
    simp only [List.length_cons] at h
    rw [laid, ih _ _ (by simp; omega)]
    simp only [Array.toList_setIfInBounds, List.length_cons]
    rw [List.drop_set_of_lt (by omega)]
    have e1 : List.take (o + 1) (C.toList.set o v) = List.take o C.toList ++ [v] := by
      rw [List.take_set, List.take_add_one, List.set_append]
      have hl : (List.take o C.toList).length = o := by simp; omega
      rw [hl, if_neg (Nat.lt_irrefl _)]
      have : C.toList[o]? = some (C[o]'(by omega)) := by simp
      rw [this]; simp
    rw [e1, show o + (r.length + 1) = o + 1 + r.length from by omega]
    simp
theorem foldl_laid (vs : List Value) : ∀ (k off : Nat) (A : Array Value), (vs.zipIdx k).foldl (fun cs (x : Value × Nat) => cs.setIfInBounds (off + x.2) x.1) A = laid A (off + k) vs := by
  induction vs with
  | nil => intros; rfl
  | cons v r ih => intro k off A; simp only [List.zipIdx_cons, List.foldl_cons, laid]; rw [ih, Nat.add_assoc]
theorem foldl_laidA (vs : Array Value) (off : Nat) (A : Array Value) : vs.zipIdx.foldl (fun cs (x : Value × Nat) => cs.setIfInBounds (off + x.2) x.1) A = laid A off vs.toList := by
  rw [← Array.foldl_toList, Array.toList_zipIdx]
  exact foldl_laid vs.toList 0 off A

/-- What parts laid one behind the other, each of 'size' cells, come to. -/
theorem fill_parts (size : Nat) : ∀ (vs : List Value) (k : Nat) (A : Array Value), (∀ v ∈ vs, v.cells.size = size) → (k + vs.length) * size ≤ A.size →
    ∃ B, Instr.fill (fun i => some (i * size, size)) A ((vs.zipIdx k).map fun x => (x.2, x.1)) = some B ∧ B.toList = A.toList.take (k * size) ++ vs.flatMap (fun v => v.cells.toList) ++ A.toList.drop ((k + vs.length) * size)
  | [], k, A, _, h => ⟨A, rfl, by simp⟩
  | v :: r, k, A, hv, h => by
    have hs := hv v (by simp)
    have hm : (k + 1) * size ≤ A.size := Nat.le_trans (Nat.mul_le_mul_right _ (by simp only [List.length_cons]; omega)) h
    rw [Nat.add_mul, Nat.one_mul] at hm
    obtain ⟨B, h1, h2⟩ := fill_parts size r (k + 1) (laid A (k * size) v.cells.toList) (fun u hu => hv u (by simp [hu])) (by rw [laid_size]; simp only [List.length_cons] at h; rw [show k + 1 + r.length = k + (r.length + 1) from by omega]; exact h)
    refine ⟨B, ?_, ?_⟩
    · simp only [List.zipIdx_cons, List.map_cons, Instr.fill]
      rw [if_neg (by simp [hs]; omega)]
      rw [show (v.cells.zipIdx.foldl (fun cs x => match x with | (c, j) => cs.setIfInBounds (k * size + j) c) A) = laid A (k * size) v.cells.toList from foldl_laidA _ _ _]
      exact h1
    · rw [h2]
      have hl : k * size + v.cells.toList.length = (k + 1) * size := by rw [Array.length_toList, hs, Nat.add_mul, Nat.one_mul]
      have hle : k * size + v.cells.toList.length ≤ A.size := by rw [Array.length_toList, hs]; exact hm
      rw [laid_toList _ _ _ hle, hl]
      have e1 : (List.take (k * size) A.toList ++ v.cells.toList ++ List.drop ((k + 1) * size) A.toList).take ((k + 1) * size) = List.take (k * size) A.toList ++ v.cells.toList := by
        have hx : (List.take (k * size) A.toList ++ v.cells.toList).length = (k + 1) * size := by rw [List.length_append, List.length_take, ← hl]; simp; omega
        rw [← hx, List.take_left]
      have e2 : (List.take (k * size) A.toList ++ v.cells.toList ++ List.drop ((k + 1) * size) A.toList).drop ((k + 1 + r.length) * size) = A.toList.drop ((k + (v :: r).length) * size) := by
        have hx : (List.take (k * size) A.toList ++ v.cells.toList).length = (k + 1) * size := by rw [List.length_append, List.length_take, ← hl]; simp; omega
        rw [show (k + 1 + r.length) * size = (k + 1) * size + r.length * size from by rw [Nat.add_mul]]
        rw [← List.drop_drop, ← hx, List.drop_left, List.drop_drop, hx, ← Nat.add_mul]
        congr 2; simp only [List.length_cons]; omega
      rw [e1, e2]
      simp

section
variable {P : Program} {n : Nat} {K : PK} {f : Fr} {ds : List Deferred} {w : World} {d ty : Nat} {p : String} {af : Array Edge} {g : Option (Nat × Bool)} {t size bytes : Nat} {zero : Value} {dd : TypeDesc} {x y : Operand} {L : List Atom}

/-- A slice written out: a row of one's own. -/
theorem op_buildSlice (H : Holds w L) {e len size' bytes' : Nat} {z' : Value} {dd' : TypeDesc} {parts : Array (Nat × Operand)} (vs : List Value) (ti : TI P t size bytes zero (.slice e)) (ti' : TI P e size' bytes' z' dd') (hz : z'.cells.size = size')
    (hp' : (parts.toList.map fun x => (x.1, ev f x.2)) = vs.zipIdx.map fun x => (x.2, x.1)) (hlen : vs.length = len) (hs : ∀ v ∈ vs, v.cells.size = size') (hm : Nat.ble (len * size') 16777216 = true) (hpos : Nat.ble 1 size' = true) (hn : d < n)
    (k : ∀ b w', Holds w' (row e size' (.slice (some ⟨b, 0, none⟩) len len) len (vs.flatMap fun v => v.cells.toList) :: L) → K (upd f d (.slice (some ⟨b, 0, none⟩) len len)) ds w') : Op1 P n ⟨some d, .buildSlice t len parts, ty, p, af, g⟩ f ds w K := by
  subst hlen
  have hp : (parts.map fun x => (x.1, ev f x.2)).toList = vs.zipIdx.map fun x => (x.2, x.1) := by rw [← hp']; simp
  have hm' := Nat.le_of_ble_eq_true hm
  have hpos' := Nat.le_of_ble_eq_true hpos
  obtain ⟨B, hB, hBl⟩ := fill_parts size' vs 0 ((Array.range (vs.length * size')).map (z'.cells[· % z'.cells.size]!)) hs (by simp)
  have hBl' : B.toList = vs.flatMap fun v => v.cells.toList := by rw [hBl]; simp
  have hlB : (vs.flatMap fun v => v.cells.toList).length = vs.length * size' := by
    clear hBl hBl' hB hm hm' hp hp' k
    induction vs with
    | nil => simp
    | cons v r ih => simp only [List.flatMap_cons, List.length_append, List.length_cons]; rw [ih fun u hu => hs u (by simp [hu]), Array.length_toList, hs v (by simp), Nat.add_mul]; omega
  refine Op1_val rfl rfl hn (v := .slice (some ⟨w.heap.size, 0, none⟩) vs.length vs.length) (w' := w.alloc (.cells B e)) ?_ (k w.heap.size _ (H.new (Ext.alloc _ _ _) (row_ok ⟨hlB, .inr ⟨w.heap.size, vs.length, B, rfl, Nat.zero_le _, World.alloc_heap_new _ _, Nat.le_refl _, ?_, ?_, ?_⟩⟩) ?_))
  · have hz0 : (if vs.length * size' = 0 then pure #[] else do pure (← zeroValue e).cells : Sem (Array Value)).run P w = .ok (if vs.length * size' = 0 then #[] else z'.cells) w := by
      split
      · rfl
      · simp [ti'.run_zero, Result.andThen]
    have hfill : Instr.fill (fun i => some (i * size', size')) ((Array.range (vs.length * size')).map ((if vs.length * size' = 0 then #[] else z'.cells)[· % (if vs.length * size' = 0 then #[] else z'.cells).size]!)) (parts.map fun x => (x.1, ev f x.2)).toList = some B := by
      rw [hp, ← hB]
      by_cases h0 : vs.length * size' = 0
      · rw [h0]; have e0 : Array.range 0 = #[] := rfl
        rw [e0]; simp only [Array.map_empty]
      · simp only [h0, if_false]
    simp only [execOp, Instr.buildSlice, Sem.run_bind, ti.run_underlying, ti'.run_size, Result.andThen]
    rw [if_neg (by omega)]
    by_cases h0 : vs.length * size' = 0
    · rw [if_pos h0] at hfill ⊢
      simp only [Sem.run_bind, Sem.run_pure, Result.andThen, hfill, newRow, run_newObj_alloc]
    · rw [if_neg h0] at hfill ⊢
      simp only [Sem.run_bind, Sem.run_pure, Result.andThen, ti'.run_zero, hfill, newRow, run_newObj_alloc]
  · have : vs.length * 1 ≤ vs.length * size' := Nat.mul_le_mul_left _ hpos'
    simp only [maxLen]; omega
  · rw [← Array.length_toList, hBl', hlB]
  · rw [hBl', ← hlB, List.take_length]
  · intro j hj; simp [Value.ownBlock] at hj; omega

/-- A struct written out. -/
def Places (P : Program) (fs : Array Field) (pl : Array (Nat × Nat)) : Prop := ∀ w, (fs.mapM fun f => do pure (f.offset, ← sizeOf f.type) : Sem (Array (Nat × Nat))).run P w = .ok pl w
theorem y_build {fs : Array Field} {pl : Array (Nat × Nat)} {parts : Array (Nat × Operand)} {cells : Array Value} (ti : TI P t size bytes zero (.struct fs)) (hpl : Places P fs pl) (hf' : Instr.fill (pl[·]?) zero.cells (parts.toList.map fun x => (x.1, ev f x.2)) = some cells) :
    Yd P ⟨some d, .build t parts, ty, p, af, g⟩ f w (.agg cells) :=
  ⟨rfl, by
    have hf : Instr.fill (pl[·]?) zero.cells (parts.map fun x => (x.1, ev f x.2)).toList = some cells := by rw [← hf']; simp
    simp only [execOp, Instr.build, Sem.run_bind, ti.run_zero, ti.run_underlying, hpl w, hf, Result.andThen, Sem.run_pure]⟩

/-! ### Calls -/
/-- Function k has a body: a call enters it. -/
def En (P : Program) (k : FuncId) : Prop := ∀ args w, (callFunc k args).run P w = .ok (.enter k args) w
theorem En.of {k : FuncId} {fn : Func} (hf : P.funcs[k]? = some fn) (h1 : (fn.name == "runtime.NumGoroutine") = false) (h2 : fn.body.isNone = false) : En P k := fun args w => by
  simp only [callFunc, Sem.run_bind, program, Sem.run, Result.andThen, hf, h1, h2]
  simp
theorem op_call (k : FuncId) {args : Array Operand} {tys : Array TypeId} {cap : Array Value} (en : En P k) (hx : ev f x = .func (.func k) #[] cap) (vs : List Value) (hv' : args.toList.map (ev f) ++ cap.toList = vs) (hn : d < n)
    (hc : Calls P k vs.toArray w fun e w' => ∃ v, e = .returned v ∧ K (upd f d v) ds w') : Op1 P n ⟨some d, .call { callee := .value x, args := args, argTypes := tys }, ty, p, af, g⟩ f ds w K := by
  have hv : args.map (ev f) ++ cap = vs.toArray := by rw [← hv']; simp
  exact Op1_enter rfl (fun _ h => by injection h with h; subst h; exact hn) (w' := w) (by simp [execOp, resolve, Deferred.ofValue, invoke, hx, hv, en vs.toArray w, Result.andThen]) hc
end

/-! ### Regions whose order is drawn: where all operations leave values alone -/
/-- A list of operations that leave values alone, in the world w: to a frame that K takes. -/
def QL (P : Program) (n : Nat) (all : Array Oper) : List Oper → Fr → World → (Fr → Prop) → Prop
  | [], f, _, K => K f
  | o :: rest, f, w, K => ∃ v, (∀ a, Fits n f a → (Region.wanted o (yielded all a.tmps) = true ∧ (execOp (ev f) o).run P w = .ok (.value v) w) ∨ (Region.wanted o (yielded all a.tmps) = false ∧ v = undef)) ∧ (∀ d, o.dst = some d → d < n) ∧ QL P n all rest (updO f o.dst v) w K

def okQ (md : Region.Mode) (ops : Array Oper) : Array Bool → List Nat → Bool
  | listed, [] => (Region.ready md ops listed).isEmpty
  | listed, i :: r => Region.free md ops listed i && (Region.ready md ops listed).contains i && okQ md ops (listed.setIfInBounds i true) r

section
variable {P : Program} {l : Option Nat} {n : Nat} {Q : PQ} {K : Fr → Prop} {f : Fr} {ds : List Deferred} {w : World} {all : Array Oper} {rest : List Oper} {o : Oper} {L : List Atom}

theorem QL_nil (h : K f) : QL P n all [] f w K := h
theorem QL_y {op : Op} {ty : Nat} {p : String} {af : Array Edge} {d : Nat} {v : Value} (h : Yd P ⟨some d, op, ty, p, af, none⟩ f w v) (hn : d < n) (k : QL P n all rest (upd f d v) w K) : QL P n all (⟨some d, op, ty, p, af, none⟩ :: rest) f w K :=
  ⟨v, fun a _ => .inl ⟨wanted_none rfl _, h.run⟩, fun _ e => by injection e with e; subst e; exact hn, k⟩
theorem QL_yg {op : Op} {ty : Nat} {p : String} {af : Array Edge} {d : Nat} {v : Value} {j dj : Nat} {b : Bool} (hj : (all[j]?).bind (·.dst) = some dj) (hdj : dj < n) (hb : f dj = .bool b) (h : Yd P ⟨some d, op, ty, p, af, some (j, b)⟩ f w v) (hn : d < n)
    (k : QL P n all rest (upd f d v) w K) : QL P n all (⟨some d, op, ty, p, af, some (j, b)⟩ :: rest) f w K :=
  ⟨v, fun a ha => .inl ⟨by simp [Region.wanted, yielded_at ha hj hdj hb], h.run⟩, fun _ e => by injection e with e; subst e; exact hn, k⟩
theorem QL_s {dst : Option Nat} {op : Op} {ty : Nat} {p : String} {af : Array Edge} {j dj : Nat} {b b' : Bool} (hj : (all[j]?).bind (·.dst) = some dj) (hdj : dj < n) (hb : f dj = .bool b') (hne : (b' == b) = false) (hdst : ∀ d, dst = some d → d < n)
    (k : QL P n all rest (updO f dst undef) w K) : QL P n all (⟨dst, op, ty, p, af, some (j, b)⟩ :: rest) f w K :=
  ⟨undef, fun a ha => .inr ⟨by simp only [Region.wanted, yielded_at ha hj hdj hb]; cases b <;> cases b' <;> simp_all, rfl⟩, hdst, k⟩

theorem wpAnyH_done' {P : Program} {md : Region.Mode} {ops : Array Oper} {Q : Exit → Act → World → Prop} {S : World → Prop} {listed : Array Bool} {a : Act} {w : World} {fuel : Nat} (hr : Region.ready md ops listed = []) (h : Q .normal a w) : wpAnyH P md ops Q S fuel listed a w := wpAnyH_done hr h fuel

theorem wpAny_of_QL {ops : Array Oper} (hs : Region.noSelect ops = true) {Q' : Exit → Act → World → Prop} (hQ : ∀ c a w, ¬ Q' (.panic c) a w) : ∀ (ops' : List Oper) (k : Nat) (listed : Array Bool) (f : Fr) (a : Act) (fuel : Nat), (∀ j, ops'[j]? = ops[k + j]?) → okQ .any ops listed (List.range' k ops'.length) = true → ops'.length ≤ fuel →
    Fits n f a → QL P n ops ops' f w (fun f' => ∀ a', Fits n f' a' → a'.defers = a.defers → Q' .normal a' w) → wpAnyH P .any ops Q' (fun w' => w' = w) fuel listed a w
  | [], k, listed, f, a, fuel, _, hok, _, ha, h => wpAnyH_done (by simpa [okQ] using hok) (h a ha rfl) fuel
  | o :: r, k, listed, f, a, fuel, hops, hok, hfu, ha, h => by
    obtain ⟨v, hv, hd, h⟩ := h
    simp only [List.length_cons, List.range'_succ, okQ, Bool.and_eq_true] at hok
    obtain ⟨⟨h1, h2⟩, h3⟩ := hok
    obtain ⟨fuel, rfl⟩ : ∃ m, fuel = m + 1 := ⟨fuel - 1, by simp at hfu; omega⟩
    have hi : ops[k]? = some o := by have := hops 0; simpa using this.symm
    refine wpAnyH_take (v := v) hi hs h1 h2 (fun c a w h => (hQ _ _ _ h).elim) ?_ rfl ?_
    · rcases hv a ha with ⟨hw, hr⟩ | ⟨hw, hu⟩
      · exact .inl ⟨hw, fun w' e => by subst e; rw [ha.eval]; exact hr⟩
      · exact .inr ⟨hw, hu⟩
    · have hdef : (a.put o.dst v).defers = a.defers := by cases o.dst <;> rfl
      refine wpAny_of_QL hs hQ r (k + 1) _ (updO f o.dst v) _ fuel (fun j => by have := hops (j + 1); simpa [Nat.add_assoc, Nat.add_comm 1 j] using this) h3 (by simp at hfu; omega) (ha.putO hd v) ?_
      rw [hdef]; exact h

/-- The plain word of a drawn region, to the fenced one: where the end is no panic and no outgrowing. -/
theorem wpOpIn_of_wpOp {ops : Array Oper} {Q' : Exit → Act → World → Prop} (hout : ∀ a w, ¬ Q' .outgrown a w) {i : Nat} {Kk : Act → World → Prop} {a : Act} (hnd : ∀ (j : Nat) o, ops[j]? = some o → ndefer o.op = true) (h : wpOp P ops Q' i Kk a w) : wpOpIn (fe l) 0 P ops Q' i Kk a w := by
  unfold wpOp at h
  unfold wpOpIn
  cases hi : ops[i]? with
  | none => rw [hi] at h; exact h
  | some o =>
    rw [hi] at h
    simp only at h ⊢
    split at h
    · rename_i hw
      rw [if_pos hw]
      rcases h with h | ⟨_, a0, w0, h0⟩
      · exact wpIn_of_wp (hnd i o hi) h
      · exact (hout _ _ h0).elim
    · rename_i hw
      rw [if_neg hw]
      exact ⟨fun g _ => fe_fn l g, h⟩
theorem wpAnyIn_of_wpAny {ops : Array Oper} {Q' : Exit → Act → World → Prop} (hout : ∀ a w, ¬ Q' .outgrown a w) (hnd : ∀ (j : Nat) o, ops[j]? = some o → ndefer o.op = true) : ∀ (fuel : Nat) (listed : Array Bool) (a : Act) (w : World), wpAny P .any ops Q' fuel listed a w → wpAnyIn (fe l) 0 P .any ops Q' fuel listed a w
  | 0, _, _, _, h => h
  | fuel + 1, listed, a, w, h => ⟨h.1, fun i hi => wpOpIn_mono (fun a w h => wpAnyIn_of_wpAny hout hnd fuel _ a w h) (wpOpIn_of_wpOp hout hnd (h.2 i hi))⟩

def okD (ops : List Oper) : Bool := ops.all (fun o => ndefer o.op) && Region.noSelect ops.toArray
theorem okD_nd {ops : List Oper} (h : okD ops = true) (j : Nat) (o : Oper) (hj : ops.toArray[j]? = some o) : ndefer o.op = true := by
  simp only [okD, Bool.and_eq_true, List.all_eq_true] at h
  exact h.1 o (List.mem_of_getElem? (by simpa using hj))
def noPan (Q : Exit → Act → World → Prop) : Exit → Act → World → Prop
  | .panic _, _, _ => False
  | .outgrown, _, _ => False
  | e, a, w => Q e a w
/-- The region: from a world that differs from w in the draw alone. -/
theorem W_drawH {id : Nat} {ops : List Oper} (hm : P.follows .mixedOrders = true) (hok : okD ops = true) (S : World → Prop)
    (h : ∀ a, Fits n f a → a.defers = ds → wpAnyH P .any ops.toArray (noPan (lift n Q)) S ops.length (Array.replicate ops.length false) a (w.drewN 1)) : W P l n (.region id ops.toArray true) Q f ds w := fun a ha hd => by
  have h1 := wpAny_of_held _ _ _ _ (h a ha hd)
  have h2 := wpAnyIn_of_wpAny (l := l) (fun a w h => h) (okD_nd hok) _ _ _ _ h1
  refine wpIn_mono (wpIn_region_any (Q := noPan (lift n Q)) hm (by rw [List.size_toArray]; exact h2)) fun e a w q => ?_
  cases e with
  | panic c => exact q.elim
  | outgrown => exact q.elim
  | _ => exact q
/-- All operations leave values alone: in the order of the text. -/
theorem W_drawQ {id : Nat} {ops : List Oper} (H : Holds w L) (hm : P.follows .mixedOrders = true) (hok : okD ops = true) (hq : okQ .any ops.toArray (Array.replicate ops.length false) (List.range' 0 ops.length) = true)
    (h : ∀ w', Holds w' L → QL P n ops.toArray ops f w' (fun f' => Q .normal f' ds w')) : W P l n (.region id ops.toArray true) Q f ds w := by
  refine W_drawH hm hok (fun w' => w' = w.drewN 1) fun a ha hd => ?_
  simp only [okD, Bool.and_eq_true] at hok
  refine wpAny_of_QL hok.2 (fun c a w h => h) ops 0 _ f a _ (fun j => by simp) hq (Nat.le_refl _) ha ?_
  have := h _ (H.drew 1)
  revert this
  generalize w.drewN 1 = w1
  clear ha hq
  intro hh
  have key : ∀ (ops' : List Oper) (f : Fr), QL P n ops.toArray ops' f w1 (fun f' => Q .normal f' ds w1) → QL P n ops.toArray ops' f w1 (fun f' => ∀ a', Fits n f' a' → a'.defers = a.defers → noPan (lift n Q) .normal a' w1) := by
    intro ops'
    induction ops' with
    | nil => intro f h a' ha' hd'; exact ⟨f, ha', by rw [hd', hd]; exact h⟩
    | cons o r ih => rintro f ⟨v, h1, h2, h3⟩; exact ⟨v, h1, h2, ih _ h3⟩
  exact key _ _ hh
end
end Go.Wk
