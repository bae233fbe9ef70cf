/- THE GROUND OF THE WALKS, 12: regions whose order is drawn, with operations that touch memory among them. S0: what holds of the world until one of the operations 'bs' (that break it) has come up; operations that lean on it come up before those. -/
import Derived.Test.YtngnplhdokboiaaWkb
namespace Go.Wk
open Go
set_option linter.unusedVariables false
set_option linter.unusedSimpArgs false

/-- What has come up has all it waits for behind it. -/
def ClosedL (ops : Array Oper) (listed : Array Bool) : Prop := ∀ d o, ops[d]? = some o → listed.getD d false = true → ∀ e ∈ o.after, Region.binds .any e = true → listed.getD e.on false = true
def reachB (ops : Array Oper) : Nat → Nat → Nat → Bool
  | 0, _, _ => false
  | k + 1, d, i => match ops[d]? with
    | none => false
    | some o => o.after.any fun e => Region.binds .any e && (e.on == i || reachB ops k e.on i)
theorem reach_listed {ops : Array Oper} {listed : Array Bool} (hc : ClosedL ops listed) {i : Nat} : ∀ k d, reachB ops k d i = true → listed.getD d false = true → listed.getD i false = true
  | 0, _, h, _ => by simp [reachB] at h
  | k + 1, d, h, hd => by
    simp only [reachB] at h
    cases ho : ops[d]? with
    | none => rw [ho] at h; simp at h
    | some o =>
      rw [ho] at h
      obtain ⟨e, he, hb⟩ := Array.any_eq_true'.1 h
      simp only [Bool.and_eq_true, Bool.or_eq_true, beq_iff_eq] at hb
      have h1 := hc d o ho hd e he hb.1
      rcases hb.2 with h2 | h2
      · rw [← h2]; exact h1
      · exact reach_listed hc k e.on h2 h1
theorem ready_deps {ops : Array Oper} {listed : Array Bool} {i : Nat} (h : i ∈ Region.ready .any ops listed) : ∃ o, ops[i]? = some o ∧ ∀ e ∈ o.after, Region.binds .any e = true → listed.getD e.on false = true := by
  obtain ⟨_, o, ho, ha⟩ := mem_ready.1 h
  exact ⟨o, ho, ha⟩
theorem ClosedL.set {ops : Array Oper} {listed : Array Bool} (hc : ClosedL ops listed) {i : Nat} (hi : i ∈ Region.ready .any ops listed) : ClosedL ops (listed.setIfInBounds i true) := by
  intro d o ho hd e he hb
  obtain ⟨oi, hoi, hdep⟩ := ready_deps hi
  have up : ∀ j, listed.getD j false = true → (listed.setIfInBounds i true).getD j false = true := fun j => getD_set_true
  by_cases hdi : i = d
  · subst hdi
    rw [hoi] at ho; injection ho with ho; subst ho
    exact up _ (hdep e he hb)
  · rw [getD_set_ne false hdi] at hd
    exact up _ (hc d o ho hd e he hb)
theorem ClosedL.start (ops : Array Oper) (k : Nat) : ClosedL ops (Array.replicate k false) := by
  intro d o _ hd
  rw [Array.getD_eq_getD_getElem?] at hd
  rw [Array.getElem?_replicate] at hd
  split at hd <;> simp at hd

section
variable {P : Program} {ops : Array Oper} {Q : Exit → Act → World → Prop} {S : Array Bool → World → Prop}
def wpAnyS (P : Program) (ops : Array Oper) (Q : Exit → Act → World → Prop) (S : Array Bool → World → Prop) : Nat → Array Bool → Act → World → Prop
  | 0, listed, a, w => Region.ready .any ops listed = [] ∧ Q .normal a w
  | fuel + 1, listed, a, w =>
    (Region.ready .any ops listed = [] → Q .normal a w) ∧
    ∀ i ∈ Region.ready .any ops listed, wpOp P ops Q i (fun a' w' => S (listed.setIfInBounds i true) w' ∧ wpAnyS P ops Q S fuel (listed.setIfInBounds i true) a' w') a w
theorem wpAny_of_S : ∀ (fuel : Nat) (listed : Array Bool) (a : Act) (w : World), wpAnyS P ops Q S fuel listed a w → wpAny P .any ops Q fuel listed a w
  | 0, _, _, _, h => h
  | fuel + 1, _, _, _, h => ⟨h.1, fun i hi => wpOp_mono (fun a' w' h' => wpAny_of_S fuel _ a' w' h'.2) (h.2 i hi)⟩

theorem wpAnyS_first {i : Nat} {oi : Oper} {v : Value} (hi : ops[i]? = some oi) (hsel : ∀ (j : Nat) (o : Oper) cs b, ops[j]? = some o → o.op ≠ .select cs b)
    (hQ : ∀ c a w, Q (.panic c) (a.put oi.dst v) w → Q (.panic c) a w) (hm : ∀ listed w, S (listed.setIfInBounds i true) w ↔ S listed w) :
    ∀ (fuel : Nat) (listed : Array Bool) (a : Act) (w : World), ClosedL ops listed →
      (∀ j oj, ops[j]? = some oj → j ≠ i → listed.getD j true = false → (∀ e ∈ oj.after, Region.binds .any e = true → e.on ≠ i) → oi.apart ops oj = true) →
      i ∈ Region.ready .any ops listed → YieldsIf P ops (fun w => ∃ l', ClosedL ops l' ∧ l'.getD i true = false ∧ S l' w) oi v a → S listed w →
      wpAnyS P ops Q S fuel (listed.setIfInBounds i true) (a.put oi.dst v) w → wpAnyS P ops Q S (fuel + 1) listed a w := by
  intro fuel
  induction fuel with
  | zero =>
    intro listed a w hcl _ hr hy hS H
    refine ⟨fun h => (by rw [h] at hr; cases hr), fun j hj => ?_⟩
    by_cases hji : j = i
    · subst hji; exact hy.wpOp hi ⟨listed, hcl, (mem_ready.1 hr).1, hS⟩ ⟨(hm _ _).2 hS, H⟩
    · have := ready_mono hj hji
      rw [H.1] at this
      cases this
  | succ fuel ih =>
    intro listed a w hcl hfree hr hy hS H
    refine ⟨fun h => (by rw [h] at hr; cases hr), fun j hj => ?_⟩
    by_cases hji : j = i
    · subst hji; exact hy.wpOp hi ⟨listed, hcl, (mem_ready.1 hr).1, hS⟩ ⟨(hm _ _).2 hS, H⟩
    · have h1 := H.2 j (ready_mono hj hji)
      obtain ⟨hjun, oj, hoj, hall⟩ := mem_ready.1 hj
      have hnot : ∀ e ∈ oj.after, Region.binds .any e = true → e.on ≠ i := fun e he hb heq => by
        have h1 := hall e he hb
        have h0 := (mem_ready.1 hr).1
        rw [heq] at h1
        rcases Nat.lt_or_ge i listed.size with h' | h'
        · simp [h'] at h0 h1; rw [h0] at h1; cases h1
        · simp [Array.getElem?_eq_none h'] at h1
      have h2 := wpOp_putIf hoj (hfree j oj hoj hji hjun hnot) (fun cs b => hsel i oi cs b hi) (fun cs b => hsel j oj cs b hoj) hQ hy h1
      have hfree' : ∀ k ok, ops[k]? = some ok → k ≠ i → (listed.setIfInBounds j true).getD k true = false →
          (∀ e ∈ ok.after, Region.binds .any e = true → e.on ≠ i) → oi.apart ops ok = true := fun k ok hk hki hun hno => by
        refine hfree k ok hk hki ?_ hno
        by_cases hjk : j = k
        · subst hjk; exact hjun
        · rw [getD_set_ne true hjk] at hun; exact hun
      refine wpOp_mono (fun a' w' h3 => ?_) h2
      have hS' : S (listed.setIfInBounds j true) w' := by
        have := h3.2.1
        rw [Array.setIfInBounds_comm _ _ (Ne.symm hji)] at this
        exact (hm _ _).1 this
      refine ⟨hS', ih (listed.setIfInBounds j true) a' w' (hcl.set hj) hfree' (ready_mono hr (Ne.symm hji)) h3.1 hS' ?_⟩
      rw [Array.setIfInBounds_comm _ _ hji]
      exact h3.2.2
end

/-- As long as none of 'bs' has come up, S0 holds. -/
def Sx (bs : List Nat) (S0 : World → Prop) (listed : Array Bool) (w : World) : Prop := (∀ d ∈ bs, listed.getD d false = false) → S0 w
theorem Sx_set {bs : List Nat} {S0 : World → Prop} {i : Nat} (hi : i ∉ bs) (listed : Array Bool) (w : World) : Sx bs S0 (listed.setIfInBounds i true) w ↔ Sx bs S0 listed w := by
  have e : ∀ d ∈ bs, (listed.setIfInBounds i true).getD d false = listed.getD d false := fun d hd => getD_set_ne false (by rintro rfl; exact hi hd)
  exact ⟨fun h hb => h fun d hd => by rw [e d hd]; exact hb d hd, fun h hb => h fun d hd => by rw [← e d hd]; exact hb d hd⟩

/-- The region's state: 'listed' have come up; the rest is to be shown. -/
def DA (P : Program) (n : Nat) (ops : List Oper) (bs : List Nat) (S0 : World → Prop) (Q : PQ) (fuel : Nat) (listed : List Bool) : PK := fun f ds w =>
  ClosedL ops.toArray listed.toArray → ∀ a, Fits n f a → a.defers = ds → wpAnyS P ops.toArray (noPan (lift n Q)) (Sx bs S0) fuel listed.toArray a w

section
variable {P : Program} {l : Option Nat} {n : Nat} {Q : PQ} {f : Fr} {ds : List Deferred} {w : World} {ops : List Oper} {bs : List Nat} {S0 : World → Prop} {fuel : Nat} {listed : List Bool} {L : List Atom}

/-- The begin. -/
theorem W_drawD {id : Nat} (H : Holds w L) (hm : P.follows .mixedOrders = true) (hok : okD ops = true) (bs : List Nat) (S0 : World → World → Prop)
    (h : ∀ w', Holds w' L → Ext none' w w' → DA P n ops bs (S0 w') Q ops.length (List.replicate ops.length false) f ds w') : W P l n (.region id ops.toArray true) Q f ds w := fun a ha hd => by
  have h0 := h _ (H.drew 1) (Ext.drew _ _ _) (by rw [List.toArray_replicate]; exact ClosedL.start _ _) a ha hd
  rw [List.toArray_replicate] at h0
  have h1 := wpAny_of_S _ _ _ _ h0
  have h2 := wpAnyIn_of_wpAny (l := l) (fun a w h => h) (okD_nd hok) _ _ _ _ h1
  refine wpIn_mono (wpIn_region_any (Q := noPan (lift n Q)) hm (by rw [List.size_toArray]; exact h2)) fun e a w q => ?_
  cases e with
  | panic c => exact q.elim
  | outgrown => exact q.elim
  | _ => exact q

def okT (ops : List Oper) (listed : List Bool) (i : Nat) : Bool := Region.noSelect ops.toArray && Region.free .any ops.toArray listed.toArray i && (Region.ready .any ops.toArray listed.toArray).contains i
/-- One of those that leave values alone: it leans on S0, and comes up before the breaking ones; or on no world at all. -/
theorem DA_q (i : Nat) {o : Oper} {v : Value} (hi : ops[i]? = some o) (hok : okT ops listed i = true) (hb : bs.contains i = false) (hw : ∀ a, Fits n f a → Region.wanted o (yielded ops.toArray a.tmps) = true)
    (hy : (bs.all (fun d => reachB ops.toArray ops.length d i) = true ∧ ∀ w', S0 w' → (execOp (ev f) o).run P w' = .ok (.value v) w') ∨ ∀ w', (execOp (ev f) o).run P w' = .ok (.value v) w') (hS : Sx bs S0 listed.toArray w) (hd : ∀ d, o.dst = some d → d < n)
    (k : Sx bs S0 (listed.set i true).toArray w → DA P n ops bs S0 Q fuel (listed.set i true) (updO f o.dst v) ds w) : DA P n ops bs S0 Q (fuel + 1) listed f ds w := fun hc a ha he => by
  simp only [okT, Bool.and_eq_true] at hok
  obtain ⟨⟨h1, h2⟩, h3⟩ := hok
  have hi' : ops.toArray[i]? = some o := by simpa using hi
  have hr : i ∈ Region.ready .any ops.toArray listed.toArray := by simpa using h3
  have hnb : i ∉ bs := fun h => by rw [List.contains_eq_mem, decide_eq_false_iff_not] at hb; exact hb h
  have hset : (listed.set i true).toArray = listed.toArray.setIfInBounds i true := by simp
  have hS2 : Sx bs S0 (listed.set i true).toArray w := by rw [hset]; exact (Sx_set hnb _ _).2 hS
  refine wpAnyS_first hi' (Region.noSelect_spec h1) (fun c a w h => h.elim) (Sx_set hnb) fuel _ a w hc (Region.free_spec hi' h2) hr ?_ hS ?_ (v := v)
  · refine .inl ⟨hw a ha, fun w' ⟨l', hcl, hun, hSl⟩ => ?_⟩
    rw [ha.eval]
    rcases hy with ⟨hreach, hy⟩ | hy
    · refine hy w' (hSl fun d hdb => ?_)
      have hrd : reachB ops.toArray ops.length d i = true := List.all_eq_true.1 hreach d hdb
      cases hdl : l'.getD d false with
      | false => rfl
      | true =>
        have := reach_listed hcl _ d hrd hdl
        rcases Nat.lt_or_ge i l'.size with h' | h'
        · simp [h'] at hun this; rw [hun] at this; cases this
        · simp [Array.getElem?_eq_none h'] at this
    · exact hy w'
  · have := k hS2 (by rw [hset]; exact hc.set hr) _ (ha.putO hd v) (by cases o.dst <;> exact he)
    rw [hset] at this; exact this
/-- It leans on S0. -/
theorem DA_y (i : Nat) {op : Op} {ty : Nat} {p : String} {af : Array Edge} {d : Nat} {v : Value} (hi : ops[i]? = some ⟨some d, op, ty, p, af, none⟩) (hok : okT ops listed i = true) (hb : bs.contains i = false) (hreach : bs.all (fun d => reachB ops.toArray ops.length d i) = true)
    (hy : ∀ w', S0 w' → Yd P ⟨some d, op, ty, p, af, none⟩ f w' v) (hS : Sx bs S0 listed.toArray w) (hd : d < n) (k : Sx bs S0 (listed.set i true).toArray w → DA P n ops bs S0 Q fuel (listed.set i true) (upd f d v) ds w) : DA P n ops bs S0 Q (fuel + 1) listed f ds w :=
  DA_q i hi hok hb (fun a _ => wanted_none rfl _) (.inl ⟨hreach, fun w' h => (hy w' h).run⟩) hS (fun _ e => by injection e with e; subst e; exact hd) k
/-- It leans on no world. -/
theorem DA_p (i : Nat) {op : Op} {ty : Nat} {p : String} {af : Array Edge} {d : Nat} {v : Value} (hi : ops[i]? = some ⟨some d, op, ty, p, af, none⟩) (hok : okT ops listed i = true) (hb : bs.contains i = false)
    (hy : ∀ w', Yd P ⟨some d, op, ty, p, af, none⟩ f w' v) (hS : Sx bs S0 listed.toArray w) (hd : d < n) (k : Sx bs S0 (listed.set i true).toArray w → DA P n ops bs S0 Q fuel (listed.set i true) (upd f d v) ds w) : DA P n ops bs S0 Q (fuel + 1) listed f ds w :=
  DA_q i hi hok hb (fun a _ => wanted_none rfl _) (.inr fun w' => (hy w').run) hS (fun _ e => by injection e with e; subst e; exact hd) k
/-- All that may come up now: each is carried out, and leaves S0 unless it is one of those that break it. -/
theorem DA_all (rs : List Nat) (hr : Region.ready .any ops.toArray listed.toArray = rs) (hne : rs ≠ []) (h : ∀ i ∈ rs, ∃ o, ops[i]? = some o ∧ (∀ a, Fits n f a → Region.wanted o (yielded ops.toArray a.tmps) = true) ∧
      Op1 P n o f ds w fun f' ds' w' => Sx bs S0 (listed.set i true).toArray w' ∧ DA P n ops bs S0 Q fuel (listed.set i true) f' ds' w') : DA P n ops bs S0 Q (fuel + 1) listed f ds w := fun hc a ha he => by
  refine ⟨fun h0 => absurd (hr ▸ h0) hne, fun i hi => ?_⟩
  obtain ⟨o, ho, hw, hop⟩ := h i (hr ▸ hi)
  have ho' : ops.toArray[i]? = some o := by simpa using ho
  have hset : (listed.set i true).toArray = listed.toArray.setIfInBounds i true := by simp
  unfold wpOp
  rw [ho']
  simp only
  rw [if_pos (hw a ha)]
  refine .inl (Oper.wp_mono' (fun a' w' ⟨f', hf', hS, k⟩ => ?_) (hop.2 a ha he))
  rw [← hset]
  exact ⟨hS, k (by rw [hset]; exact hc.set hi) a' hf' rfl⟩
theorem DA_one (i : Nat) {dst : Option Nat} {op : Op} {ty : Nat} {p : String} {af : Array Edge} (hr : Region.ready .any ops.toArray listed.toArray = [i]) (hi : ops[i]? = some ⟨dst, op, ty, p, af, none⟩)
    (h : Op1 P n ⟨dst, op, ty, p, af, none⟩ f ds w fun f' ds' w' => Sx bs S0 (listed.set i true).toArray w' ∧ DA P n ops bs S0 Q fuel (listed.set i true) f' ds' w') : DA P n ops bs S0 Q (fuel + 1) listed f ds w :=
  DA_all [i] hr (by simp) fun j hj => by
    simp only [List.mem_singleton] at hj; subst hj
    exact ⟨_, hi, fun a _ => wanted_none rfl _, h⟩
theorem DA_two (i j : Nat) {dst dst' : Option Nat} {op op' : Op} {ty ty' : Nat} {p p' : String} {af af' : Array Edge} (hr : Region.ready .any ops.toArray listed.toArray = [i, j]) (hi : ops[i]? = some ⟨dst, op, ty, p, af, none⟩) (hj : ops[j]? = some ⟨dst', op', ty', p', af', none⟩)
    (h : Op1 P n ⟨dst, op, ty, p, af, none⟩ f ds w fun f' ds' w' => Sx bs S0 (listed.set i true).toArray w' ∧ DA P n ops bs S0 Q fuel (listed.set i true) f' ds' w')
    (h' : Op1 P n ⟨dst', op', ty', p', af', none⟩ f ds w fun f' ds' w' => Sx bs S0 (listed.set j true).toArray w' ∧ DA P n ops bs S0 Q fuel (listed.set j true) f' ds' w') : DA P n ops bs S0 Q (fuel + 1) listed f ds w :=
  DA_all [i, j] hr (by simp) fun k hk => by
    simp only [List.mem_cons, List.not_mem_nil, or_false] at hk
    rcases hk with rfl | rfl
    · exact ⟨_, hi, fun a _ => wanted_none rfl _, h⟩
    · exact ⟨_, hj, fun a _ => wanted_none rfl _, h'⟩
theorem DA_done (hr : Region.ready .any ops.toArray listed.toArray = []) (h : Q .normal f ds w) : DA P n ops bs S0 Q fuel listed f ds w := fun _ a ha he => by
  cases fuel with
  | zero => exact ⟨hr, f, ha, he ▸ h⟩
  | succ k => exact ⟨fun _ => ⟨f, ha, he ▸ h⟩, by rw [hr]; simp⟩
end
end Go.Wk
