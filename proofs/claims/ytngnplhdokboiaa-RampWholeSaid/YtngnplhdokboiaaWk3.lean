/- THE GROUND OF THE WALKS, 3: regions in the order of their text, single operations, and the rules for operations that touch no memory. -/
import Derived.Test.YtngnplhdokboiaaWk2
import Derived.TacticsIn
import Derived.WalkSpells
import Derived.WalkLawsBesides
namespace Go.Wk
open Go
set_option linter.unusedVariables false
set_option linter.unusedSimpArgs false

theorem beq_dec (a b : Int) : (a == b) = decide (a = b) := by rw [Bool.eq_iff_iff]; simp

def updO (f : Fr) : Option Nat → Value → Fr
  | some d, v => upd f d v
  | none, _ => f
theorem Fits.putO {n : Nat} {f : Fr} {a : Act} (h : Fits n f a) {dst : Option Nat} (hd : ∀ d, dst = some d → d < n) (v : Value) : Fits n (updO f dst v) (a.put dst v) := by
  cases dst with
  | none => exact h
  | some d => exact h.put (hd d rfl) v

/-- What is left of a region, in the order of its text. -/
def OL (P : Program) (l : Option Nat) (n : Nat) (all : Array Oper) (Q : PQ) (ops : List Oper) : PK := fun f ds w => ∀ a, Fits n f a → a.defers = ds → wpListIn (fe l) 0 P all (lift n Q) ops a w
def ndefer : Op → Bool
  | .defer _ => false
  | _ => true
theorem ndefer_spec {o : Op} (h : ndefer o = true) (c : Call) : o ≠ .defer c := by rintro rfl; cases h

/-- One operation that is carried out, and does not panic. -/
def Op1 (P : Program) (n : Nat) (o : Oper) (f : Fr) (ds : List Deferred) (w : World) (K : PK) : Prop := ndefer o.op = true ∧ ∀ a, Fits n f a → a.defers = ds → ∀ Q, o.wp P a w (liftK n K) Q
/-- One operation that leaves a value, and touches no memory. -/
structure Yd (P : Program) (o : Oper) (f : Fr) (w : World) (v : Value) : Prop where
  nd : ndefer o.op = true
  run : (execOp (ev f) o).run P w = .ok (.value v) w

theorem rows_in {P : Program} {F : Fence} (hF : ∀ m : Machine, m.fenced P F) {row : String} {args : Array Value} {w : World} {R : Value → World → Prop} (h : Rows P row args w R) : RowsIn F 0 P row args w R :=
  fun c cs _ => let ⟨v, w', r, s⟩ := h c cs; ⟨v, w', r, (StepsIn.of_steps s).mono fun m _ => hF m⟩
theorem fe_fenced (P : Program) (l : Option Nat) (m : Machine) : m.fenced P (fe l) := by
  cases l with
  | none => exact fenced_wide P m
  | some l => exact fenced_wide P m
theorem calls_in {P : Program} {l : Option Nat} {g : FuncId} {args : Array Value} {w : World} {R : Ending → World → Prop} (hc : Calls P g args w R) : CallsIn (fe l) 0 P g args w R := by
  cases l with
  | none => exact callsIn_wide.2 hc
  | some l => exact CallsIn.inRound l (callsIn_wide.2 hc)
/-- From the plain word of an operation to the fenced one. -/
theorem wpIn_of_wp {P : Program} {l : Option Nat} {o : Oper} {a : Act} {w : World} {K : Act → World → Prop} {Q : Exit → Act → World → Prop} (hnd : ndefer o.op = true) (h : o.wp P a w K Q) : o.wpIn (fe l) 0 P a w K Q := by
  refine ⟨fun g _ => fe_fn l g, ?_⟩
  rw [Oper.semAt_eq _ _ _ (ndefer_spec hnd)]
  unfold Oper.wp at h
  revert h
  have hd : (fe l).depth.isSome = true → 1 ≤ 0 := fun h => by rw [fe_depth] at h; cases h
  cases hr : (execOp a.eval o).run P w with
  | ok v w' =>
    cases v with
    | enter g args => exact fun h => ⟨hd, calls_in h⟩
    | row row args => exact fun h => ⟨hd, rows_in (fe_fenced P l) h⟩
    | value v => exact fun h => h
    | skip => exact fun h => h
    | defer d => exact fun h => h
    | _ => exact fun h => h.elim
  | halt hh w' => cases hh <;> exact fun h => h

section
variable {P : Program} {l : Option Nat} {n : Nat} {Q : PQ} {K : PK} {f : Fr} {ds : List Deferred} {w : World} {all : Array Oper} {rest : List Oper} {o : Oper}

theorem Oper.wp_mono' {a : Act} {K K' : Act → World → Prop} {Q : Exit → Act → World → Prop} (h : ∀ a w, K a w → K' a w) (hh : ∀ Q, o.wp P a w K Q) : o.wp P a w K' Q := by
  have h1 := hh (fun _ _ _ => False)
  unfold Oper.wp at h1 ⊢
  revert h1
  cases hr : (execOp a.eval o).run P w with
  | ok v w' =>
    cases v with
    | value v => exact fun h1 => h _ _ h1
    | skip => exact fun h1 => h _ _ h1
    | defer d => exact fun h1 => h _ _ h1
    | enter g args =>
      exact fun h1 => Calls.mono h1 fun e w' r => by
        cases e with
        | returned v => exact h _ _ r
        | panicked c => exact r.elim
        | outgrown => obtain ⟨a0, w0, h0⟩ := r; exact h0.elim
    | row row args => exact fun h1 => Rows.mono h1 fun v w' r => h _ _ r
    | _ => exact fun h1 => h1.elim
  | halt hh w' => cases hh <;> exact fun h1 => h1.elim

theorem OL_nil (h : Q .normal f ds w) : OL P l n all Q [] f ds w := fun a ha hd => wpListIn_nil ⟨f, ha, hd ▸ h⟩
theorem OL_op (hw : ∀ a, Fits n f a → Region.wanted o (yielded all a.tmps) = true) (h : Op1 P n o f ds w (OL P l n all Q rest)) : OL P l n all Q (o :: rest) f ds w := fun a ha hd =>
  wpListIn_step fun K hK => by rw [if_pos (hw a ha)]; exact wpIn_of_wp h.1 (Oper.wp_mono' (fun a w ⟨f, hf, k⟩ => hK _ _ (k a hf rfl)) (h.2 a ha hd))
theorem wanted_none (hg : o.guard = none) (y : Nat → Option Bool) : Region.wanted o y = true := by simp [Region.wanted, hg]
/-- An operation with no guard. -/
theorem OL_c {dst : Option Nat} {op : Op} {ty : Nat} {p : String} {af : Array Edge} (h : Op1 P n ⟨dst, op, ty, p, af, none⟩ f ds w (OL P l n all Q rest)) : OL P l n all Q (⟨dst, op, ty, p, af, none⟩ :: rest) f ds w :=
  OL_op (fun a _ => wanted_none rfl _) h
theorem yielded_at {a : Act} {j d : Nat} {b : Bool} (ha : Fits n f a) (hj : (all[j]?).bind (·.dst) = some d) (hd : d < n) (hb : f d = .bool b) : yielded all a.tmps j = some b := by
  unfold yielded
  rw [hj]
  have : a.tmps[d]? = some (f d) := by
    rw [← ha.2 d, Array.getD_eq_getD_getElem?]
    rw [Array.getElem?_eq_getElem (by rw [ha.1]; exact hd)]; rfl
  simp only [Option.bind_some, this, hb]
/-- A guarded operation that is carried out; one that is passed over. -/
theorem OL_g {dst : Option Nat} {op : Op} {ty : Nat} {p : String} {af : Array Edge} {j d : Nat} {b : Bool} (hj : (all[j]?).bind (·.dst) = some d) (hd : d < n) (hb : f d = .bool b)
    (h : Op1 P n ⟨dst, op, ty, p, af, some (j, b)⟩ f ds w (OL P l n all Q rest)) : OL P l n all Q (⟨dst, op, ty, p, af, some (j, b)⟩ :: rest) f ds w :=
  OL_op (fun a ha => by simp [Region.wanted, yielded_at ha hj hd hb]) h
theorem OL_s {dst : Option Nat} {op : Op} {ty : Nat} {p : String} {af : Array Edge} {j d : Nat} {b b' : Bool} (hj : (all[j]?).bind (·.dst) = some d) (hd : d < n) (hb : f d = .bool b') (hne : (b' == b) = false) (hdst : ∀ d, dst = some d → d < n)
    (h : OL P l n all Q rest (updO f dst undef) ds w) : OL P l n all Q (⟨dst, op, ty, p, af, some (j, b)⟩ :: rest) f ds w := fun a ha hd' =>
  wpListIn_step fun K hK => by
    rw [if_neg (by simp only [Region.wanted, yielded_at ha hj hd hb]; cases b <;> cases b' <;> simp_all)]
    exact ⟨fun g _ => fe_fn l g, hK _ _ (h _ (ha.putO hdst _) (by cases dst <;> exact hd'))⟩
theorem W_region {id : Nat} {ops : List Oper} (h : OL P l n ops.toArray Q ops f ds w) : W P l n (.region id ops.toArray false) Q f ds w := fun a ha hd => wpIn_region_lit (h a ha hd)

/-- An operation that leaves a value and touches no memory: with no guard; with a guard that says yes. -/
theorem OL_y {op : Op} {ty : Nat} {p : String} {af : Array Edge} {d : Nat} {v : Value} (h : Yd P ⟨some d, op, ty, p, af, none⟩ f w v) (hn : d < n) (k : OL P l n all Q rest (upd f d v) ds w) : OL P l n all Q (⟨some d, op, ty, p, af, none⟩ :: rest) f ds w :=
  OL_c ⟨h.nd, fun a ha he Q => by unfold Oper.wp; rw [ha.eval, h.run]; exact ⟨_, ha.put hn v, by show OL P l n all _ rest _ a.defers _; rw [he]; exact k⟩⟩
theorem OL_yg {op : Op} {ty : Nat} {p : String} {af : Array Edge} {d : Nat} {v : Value} {j dj : Nat} {b : Bool} (hj : (all[j]?).bind (·.dst) = some dj) (hdj : dj < n) (hb : f dj = .bool b) (h : Yd P ⟨some d, op, ty, p, af, some (j, b)⟩ f w v) (hn : d < n)
    (k : OL P l n all Q rest (upd f d v) ds w) : OL P l n all Q (⟨some d, op, ty, p, af, some (j, b)⟩ :: rest) f ds w :=
  OL_g hj hdj hb ⟨h.nd, fun a ha he Q => by unfold Oper.wp; rw [ha.eval, h.run]; exact ⟨_, ha.put hn v, by show OL P l n all _ rest _ a.defers _; rw [he]; exact k⟩⟩

/-! ### One operation, by its run -/
theorem Op1_val {d : Nat} {v : Value} {w' : World} (hnd : ndefer o.op = true) (hd : o.dst = some d) (hn : d < n) (hrun : (execOp (ev f) o).run P w = .ok (.value v) w') (k : K (upd f d v) ds w') : Op1 P n o f ds w K := ⟨hnd, fun a ha he Q => by
  unfold Oper.wp
  rw [ha.eval, hrun]
  exact ⟨_, by rw [hd]; exact ha.put hn v, by rw [hd]; show K _ a.defers _; rw [he]; exact k⟩⟩
theorem Op1_valO {v : Value} {w' : World} (hnd : ndefer o.op = true) (hn : ∀ d, o.dst = some d → d < n) (hrun : (execOp (ev f) o).run P w = .ok (.value v) w') (k : K (updO f o.dst v) ds w') : Op1 P n o f ds w K := ⟨hnd, fun a ha he Q => by
  unfold Oper.wp
  rw [ha.eval, hrun]
  refine ⟨_, ha.putO hn v, ?_⟩
  have : (a.put o.dst v).defers = ds := by cases o.dst <;> exact he
  rw [this]; exact k⟩
theorem Op1_skip {w' : World} (hnd : ndefer o.op = true) (hd : o.dst = none) (hrun : (execOp (ev f) o).run P w = .ok .skip w') (k : K f ds w') : Op1 P n o f ds w K := ⟨hnd, fun a ha he Q => by
  unfold Oper.wp
  rw [ha.eval, hrun]
  exact ⟨f, by rw [hd]; exact ha, by rw [hd]; show K _ a.defers _; rw [he]; exact k⟩⟩
theorem Op1_enter {g : FuncId} {args : Array Value} {w' : World} (hnd : ndefer o.op = true) (hn : ∀ d, o.dst = some d → d < n) (hrun : (execOp (ev f) o).run P w = .ok (.enter g args) w')
    (hc : Calls P g args w' fun e w'' => ∃ v, e = .returned v ∧ K (updO f o.dst v) ds w'') : Op1 P n o f ds w K := ⟨hnd, fun a ha he Q => by
  unfold Oper.wp
  rw [ha.eval, hrun]
  refine Calls.mono hc ?_
  rintro e w'' ⟨v, rfl, k⟩
  refine ⟨_, ha.putO hn v, ?_⟩
  have : (a.put o.dst v).defers = ds := by cases o.dst <;> exact he
  rw [this]; exact k⟩
/-- A call of yield: a round. -/
theorem OL_round {l' : Nat} {g : FuncId} {tmps : Array Value} {assign body : Code} {w' : World} (hnd : ndefer o.op = true) (hg : o.guard = none) (hn : ∀ d, o.dst = some d → d < n) (hrun : (execOp (ev f) o).run P w = .ok (.round l' g tmps assign body) w')
    (hc : RoundIn Fence.wide 0 P l' g tmps assign body w' fun e w'' => ∃ v, e = .returned v ∧ OL P l n all Q rest (updO f o.dst v) ds w'') : OL P l n all Q (o :: rest) f ds w := fun a ha he =>
  wpListIn_step fun K hK => by
    rw [if_pos (wanted_none hg _)]
    refine ⟨fun g _ => fe_fn l g, ?_⟩
    rw [Oper.semAt_eq _ _ _ (ndefer_spec hnd), ha.eval, hrun]
    refine ⟨fun h => (by rw [fe_depth] at h; cases h), ?_⟩
    have hc' : RoundIn (fe l) 0 P l' g tmps assign body w' fun e w'' => ∃ v, e = .returned v ∧ OL P l n all Q rest (updO f o.dst v) ds w'' := by
      cases l with
      | none => exact hc
      | some l => exact hc
    refine hc'.mono ?_
    rintro e w'' ⟨v, rfl, k⟩
    have : (a.put o.dst v).defers = ds := by cases o.dst <;> exact he
    exact hK _ _ (k _ (ha.putO hn v) this)
theorem Op1_mono {K' : PK} (h : Op1 P n o f ds w K) (hk : ∀ f ds w, K f ds w → K' f ds w) : Op1 P n o f ds w K' := ⟨h.1, fun a ha he Q =>
  Oper.wp_mono' (fun a w ⟨f, hf, k⟩ => ⟨f, hf, hk _ _ _ k⟩) (h.2 a ha he)⟩
end

/-! ### Operations that touch no memory -/
section
variable {P : Program} {f : Fr} {w : World} {d ty : Nat} {p : String} {af : Array Edge} {g : Option (Nat × Bool)}

theorem y_move {x : Operand} {v : Value} (hx : ev f x = v) : Yd P ⟨some d, .move x, ty, p, af, g⟩ f w (v) :=
  ⟨rfl, by simp [execOp, hx]⟩
theorem y_assign {x : Operand} {v : Value} (hx : ev f x = v) : Yd P ⟨some d, .assign x, ty, p, af, g⟩ f w (v) :=
  ⟨rfl, by simp [execOp, hx]⟩
theorem y_pick {c x y : Operand} {b : Bool} {v : Value} (hc : ev f c = .bool b) (hv : (cond b (ev f x) (ev f y)) = v) : Yd P ⟨some d, .pick c x y, ty, p, af, g⟩ f w (v) :=
  ⟨rfl, by subst hv; cases b <;> simp [execOp, hc, asBool, Result.andThen]⟩
theorem y_not {x : Operand} {t : Nat} {b : Bool} (hx : ev f x = .bool b) : Yd P ⟨some d, .unOp .not t x, ty, p, af, g⟩ f w ((.bool !b)) :=
  ⟨rfl, by simp [execOp, hx, Op.unary, Result.andThen]⟩
theorem y_extract {x : Operand} {i : Nat} {vs : Array Value} {v : Value} (hx : ev f x = .tuple vs) (hv : vs[i]? = some v) : Yd P ⟨some d, .extract x i, ty, p, af, g⟩ f w (v) :=
  ⟨rfl, by simp [execOp, hx, Instr.extract, hv, Result.andThen]⟩
theorem y_makeFunc {fn : Fn} {cs : Array Operand} {vs : List Value} (hv : cs.toList.map (ev f) = vs) : Yd P ⟨some d, .makeFunc fn #[] cs, ty, p, af, g⟩ f w (.func fn #[] vs.toArray) :=
  ⟨rfl, by
    have h : cs.map (ev f) = vs.toArray := by rw [← hv, ← Array.toList_map]
    simp [execOp, Instr.makeFunc, Result.andThen, h]⟩
theorem y_nilCheck {x : Operand} {v : Value} (hx : ev f x = v) (hv : ∃ a, v = .pointer (some a)) : Yd P ⟨some d, .nilCheck x, ty, p, af, g⟩ f w v := by
  obtain ⟨a, rfl⟩ := hv
  exact ⟨rfl, by simp [execOp, hx, Result.andThen]⟩

/-! numbers -/
variable {x y : Operand} {a b : Int} {t t' : Nat} {kd : IntKind}
theorem y_lss (hx : ev f x = .int kd a) (hy : ev f y = .int kd b) : Yd P ⟨some d, .binOp .lss t x y t', ty, p, af, g⟩ f w (.bool (decide (a < b))) :=
  ⟨rfl, by simp [execOp, hx, hy, eqGuard, binOp, Op.intCmp, Result.andThen]⟩
theorem y_leq (hx : ev f x = .int kd a) (hy : ev f y = .int kd b) : Yd P ⟨some d, .binOp .leq t x y t', ty, p, af, g⟩ f w ((.bool (decide (a ≤ b)))) :=
  ⟨rfl, by simp [execOp, hx, hy, eqGuard, binOp, Op.intCmp, Result.andThen]⟩
theorem y_gtr (hx : ev f x = .int kd a) (hy : ev f y = .int kd b) : Yd P ⟨some d, .binOp .gtr t x y t', ty, p, af, g⟩ f w ((.bool (decide (b < a)))) :=
  ⟨rfl, by simp [execOp, hx, hy, eqGuard, binOp, Op.intCmp, Result.andThen]⟩
theorem y_geq (hx : ev f x = .int kd a) (hy : ev f y = .int kd b) : Yd P ⟨some d, .binOp .geq t x y t', ty, p, af, g⟩ f w ((.bool (decide (b ≤ a)))) :=
  ⟨rfl, by simp [execOp, hx, hy, eqGuard, binOp, Op.intCmp, Result.andThen]⟩
theorem y_eql (hx : ev f x = .int kd a) (hy : ev f y = .int kd b) : Yd P ⟨some d, .binOp .eql t x y t', ty, p, af, g⟩ f w ((.bool (decide (a = b)))) :=
  ⟨rfl, by simp [execOp, hx, hy, eqGuard, binOp, Op.intCmp, Result.andThen]; exact beq_dec a b⟩
theorem y_neq (hx : ev f x = .int kd a) (hy : ev f y = .int kd b) : Yd P ⟨some d, .binOp .neq t x y t', ty, p, af, g⟩ f w ((.bool (decide (a ≠ b)))) :=
  ⟨rfl, by simp [execOp, hx, hy, eqGuard, binOp, Op.intCmp, Result.andThen]; simp [bne, beq_dec]⟩
theorem y_addw (hx : ev f x = .int kd a) (hy : ev f y = .int kd b) : Yd P ⟨some d, .binOp .add t x y t', ty, p, af, g⟩ f w ((.int kd (kd.wrap (a + b)))) :=
  ⟨rfl, by simp [execOp, hx, hy, eqGuard, binOp, Op.intArith, Result.andThen]⟩
theorem y_subw (hx : ev f x = .int kd a) (hy : ev f y = .int kd b) : Yd P ⟨some d, .binOp .sub t x y t', ty, p, af, g⟩ f w ((.int kd (kd.wrap (a - b)))) :=
  ⟨rfl, by simp [execOp, hx, hy, eqGuard, binOp, Op.intArith, Result.andThen]⟩
theorem y_mulw (hx : ev f x = .int kd a) (hy : ev f y = .int kd b) : Yd P ⟨some d, .binOp .mul t x y t', ty, p, af, g⟩ f w ((.int kd (kd.wrap (a * b)))) :=
  ⟨rfl, by simp [execOp, hx, hy, eqGuard, binOp, Op.intArith, Result.andThen]⟩
end
end Go.Wk
