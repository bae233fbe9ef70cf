/- Part 6 of the texts that a law of the seat leans on: the ground of the walks, the facts of the program, its functions one by one. -/
import Derived.Test.YtpandioolpnihaaWho5
/- Small: what is let in. -/
namespace Go.Wk
open Go
theorem y_lenStr {P : Program} {f : Fr} {w : World} {d ty : Nat} {p : String} {af : Array Edge} {g : Option (Nat × Bool)} {x : Operand} {tys : Array TypeId} {t0 : TypeId} (ht : tys[0]? = some t0) (hu : P.underlying t0 = some .string) {s : ByteArray} (hx : ev f x = .string s) :
    Yd P ⟨some d, .call { callee := .builtin .len, args := #[x], argTypes := tys }, ty, p, af, g⟩ f w (.int .i64 s.size) :=
  ⟨rfl, by simp [execOp, resolve, invoke, builtin, hx, Builtin.len_, ht, run_underlying hu, goInt, Result.andThen]⟩
end Go.Wk
namespace Go.Proofs.Ytpandioolpnihaa
open Go Go.Wk
set_option linter.unusedVariables false
set_option linter.unusedSimpArgs false

def Smc (c : Cmd) : Prop := c.lo.length ≤ 300 ∧ c.writes.length ≤ 10 ∧ ∀ x ∈ c.writes, x.key.length ≤ 300

set_option maxHeartbeats 16000000 in
theorem f29_calls {Z : Nat → Prop} {w : World} {vl : Value} {l : List Cmd} (hl : SlR tCmd 320 Z w vl l) :
    Calls Try.prog 29 [vl].toArray w fun e w' => ∃ bb : Bool, e = .returned (.bool bb) ∧ Ext none' w w' ∧ (bb = true → l.length ≤ 40 ∧ ∀ c ∈ l, Smc c) := by
  obtain ⟨al, cl, rfl, hll, hml⟩ := hl.len
  have H := Holds.start w
  refine calls_of_W' Try.func29 rfl Try.ntmps29 rfl ?_
  refine W_seq ?_
  refine W_region ?_
  refine OL_y (v := .bool false) (y_assign rfl) (by decide) ?_
  refine OL_nil ?_
  refine W_seq ?_
  refine W_seq ?_
  refine W_region ?_
  refine OL_y (y_move rfl) (by decide) ?_
  refine OL_y (y_len rfl ti57 rfl) (by decide) ?_
  refine OL_y (y_move rfl) (by decide) ?_
  refine OL_nil ?_
  refine W_range (N := l.length) (by simp only [maxLen] at hml ⊢; omega) (fun j f ds w' => f 0 = .slice al l.length cl ∧ f 11 = .slice al l.length cl ∧ ds = [] ∧ (∀ x ∈ l.take j, Smc x) ∧ Holds w' [shr (fun k => k < w.heap.size) w])
      ⟨rfl, rfl, rfl, by simp, H⟩
      rfl rfl (by decide) (by decide) (by decide) rfl rfl ?_ rfl rfl ?_
  · rintro j f ds w3 hj ⟨h0, h11, rfl, hok, H⟩ hti htn
    have hxj := List.getElem?_eq_getElem hj
    have hsn : l.take (j + 1) = l.take j ++ [l[j]] := by rw [List.take_add_one, hxj]; rfl
    obtain ⟨bx, ox, cs9, e9, hz9, hc9, hr9⟩ := hl.at hxj
    have hc9' := hc9.ext ((H.keepsAll 0 rfl (fun _ => True)).2 _ trivial hc9.lt)
    generalize l[j] = c at *
    have hone9 := tCmd.one hr9
    obtain ⟨vll, vlh, vlo, vhi, vtx, vwr, vke, vco, vix, rfl, hcl, hsq, hkd, htx, hts, ⟨-, -, -, hkl, hkh⟩, hlo, hhi, htxs, hwr, hke, -, -, hco, -, hix⟩ := cmd_cells.1 hr9
    have q1 := hkl.len1 (by decide)
    have q2 := hkh.len1 (by decide)
    have q3 := hlo.len1 (by decide)
    have q4 := hhi.len1 (by decide)
    obtain ⟨a1, c1, rfl, -, -⟩ := hkl.len
    obtain ⟨a2, c2, rfl, -, -⟩ := hkh.len
    obtain ⟨a3, c3, rfl, -, -⟩ := hlo.len
    obtain ⟨a4, c4, rfl, -, -⟩ := hhi.len
    obtain ⟨a5, c5, rfl, -, -⟩ := htxs.len
    obtain ⟨a6, c6, rfl, hl6, hm6⟩ := hwr.len
    obtain ⟨a7, c7, rfl, hl7, hm7⟩ := hke.len
    obtain ⟨a8, c8, rfl, hl8, hm8⟩ := hco.len
    obtain ⟨a9, c9, rfl, -, -⟩ := hix.len
    have h11' := h11.trans (congrArg (Value.slice · _ _) e9)
    refine W_block ?_
    refine W_seq ?_
    refine W_region ?_
    refine OL_y (y_indexAddr ti57 ti78 h11' hti (by omega) (by omega)) (by decide) ?_
    refine OL_y (y_loadA (cs := [.int .u64 c.client, .int .u64 c.seq, .int .i64 c.kind, .int .u64 c.txn, .int .u64 c.ts, .bool c.flag, .int .u64 c.lk.txn, .int .i64 c.lk.level, .int .i64 c.lk.mode, .slice a1 c.lk.lo.length c1, .slice a2 c.lk.hi.length c2, .slice a3 c.lo.length c3, .slice a4 c.hi.length c4, .slice a5 c.txns.length c5, .slice a6 c.writes.length c6, .slice a7 c.keys.length c7, .int .i64 c.tb.id, .string c.tb.name, .slice a8 c.tb.cols.length c8, .int .i64 c.tb.key, .slice a9 c.tb.idx.length c9]) ti78 rfl rfl hc9' rfl) (by decide) ?_
    refine OL_var (v := .agg #[.int .u64 c.client, .int .u64 c.seq, .int .i64 c.kind, .int .u64 c.txn, .int .u64 c.ts, .bool c.flag, .int .u64 c.lk.txn, .int .i64 c.lk.level, .int .i64 c.lk.mode, .slice a1 c.lk.lo.length c1, .slice a2 c.lk.hi.length c2, .slice a3 c.lo.length c3, .slice a4 c.hi.length c4, .slice a5 c.txns.length c5, .slice a6 c.writes.length c6, .slice a7 c.keys.length c7, .int .i64 c.tb.id, .string c.tb.name, .slice a8 c.tb.cols.length c8, .int .i64 c.tb.key, .slice a9 c.tb.idx.length c9]) H ti78 rfl (by decide) (fun _ => rfl) rfl (hone9) fun b4 w3_2 H => ?_
    refine OL_nil ?_
    refine W_seq ?_
    refine W_seq ?_
    by_cases haa : (200 : Int) < ((c.lo.length : Nat) : Int) + (c.hi.length : Nat) + (c.lk.lo.length : Nat) + (c.lk.hi.length : Nat)
    · refine W_region ?_
      refine OL_y (y_fieldAddr ti78 rfl ti23 rfl rfl) (by decide) ?_
      refine OL_y (y_loadS (v := .slice a3 c.lo.length c3) ti23 rfl rfl (Cells.unit (H.getOwn 0 rfl) rfl)) (by decide) ?_
      refine OL_y (y_len rfl ti23 rfl) (by decide) ?_
      refine OL_y (y_fieldAddr ti78 rfl ti23 rfl rfl) (by decide) ?_
      refine OL_y (y_loadS (v := .slice a4 c.hi.length c4) ti23 rfl rfl (Cells.unit (H.getOwn 0 rfl) rfl)) (by decide) ?_
      refine OL_y (y_len rfl ti23 rfl) (by decide) ?_
      refine OL_y (y_add64 rfl rfl (by omega) (by omega)) (by decide) ?_
      refine OL_y (y_fieldAddr ti78 rfl ti70 rfl rfl) (by decide) ?_
      refine OL_y (y_fieldAddr ti70 rfl ti23 rfl rfl) (by decide) ?_
      refine OL_y (y_loadS (v := .slice a1 c.lk.lo.length c1) ti23 rfl rfl (Cells.unit (H.getOwn 0 rfl) rfl)) (by decide) ?_
      refine OL_y (y_len rfl ti23 rfl) (by decide) ?_
      refine OL_y (y_add64 rfl rfl (by omega) (by omega)) (by decide) ?_
      refine OL_y (y_fieldAddr ti78 rfl ti70 rfl rfl) (by decide) ?_
      refine OL_y (y_fieldAddr ti70 rfl ti23 rfl rfl) (by decide) ?_
      refine OL_y (y_loadS (v := .slice a2 c.lk.hi.length c2) ti23 rfl rfl (Cells.unit (H.getOwn 0 rfl) rfl)) (by decide) ?_
      refine OL_y (y_len rfl ti23 rfl) (by decide) ?_
      refine OL_y (y_add64 rfl rfl (by omega) (by omega)) (by decide) ?_
      refine OL_y (v := .bool true) (y_gtrT haa rfl rfl) (by decide) ?_
      refine OL_y (v := .bool true) (y_move rfl) (by decide) ?_
      refine OL_s rfl (by decide) rfl rfl (by simp) ?_
      refine OL_s rfl (by decide) rfl rfl (by simp) ?_
      refine OL_s rfl (by decide) rfl rfl (by simp) ?_
      refine OL_s rfl (by decide) rfl rfl (by simp) ?_
      refine OL_y (y_pick (b := true) (v := .bool true) rfl rfl) (by decide) ?_
      refine OL_y (v := .bool true) (y_move rfl) (by decide) ?_
      refine OL_s rfl (by decide) rfl rfl (by simp) ?_
      refine OL_s rfl (by decide) rfl rfl (by simp) ?_
      refine OL_s rfl (by decide) rfl rfl (by simp) ?_
      refine OL_s rfl (by decide) rfl rfl (by simp) ?_
      refine OL_y (y_pick (b := true) (v := .bool true) rfl rfl) (by decide) ?_
      refine OL_y (v := .bool true) (y_move rfl) (by decide) ?_
      refine OL_s rfl (by decide) rfl rfl (by simp) ?_
      refine OL_s rfl (by decide) rfl rfl (by simp) ?_
      refine OL_s rfl (by decide) rfl rfl (by simp) ?_
      refine OL_s rfl (by decide) rfl rfl (by simp) ?_
      refine OL_y (y_pick (b := true) (v := .bool true) rfl rfl) (by decide) ?_
      refine OL_y (v := .bool true) (y_move rfl) (by decide) ?_
      refine OL_s rfl (by decide) rfl rfl (by simp) ?_
      refine OL_s rfl (by decide) rfl rfl (by simp) ?_
      refine OL_s rfl (by decide) rfl rfl (by simp) ?_
      refine OL_s rfl (by decide) rfl rfl (by simp) ?_
      refine OL_s rfl (by decide) rfl rfl (by simp) ?_
      refine OL_y (y_pick (b := true) (v := .bool true) rfl rfl) (by decide) ?_
      refine OL_y (v := .bool true) (y_move rfl) (by decide) ?_
      refine OL_s rfl (by decide) rfl rfl (by simp) ?_
      refine OL_s rfl (by decide) rfl rfl (by simp) ?_
      refine OL_s rfl (by decide) rfl rfl (by simp) ?_
      refine OL_s rfl (by decide) rfl rfl (by simp) ?_
      refine OL_s rfl (by decide) rfl rfl (by simp) ?_
      refine OL_y (y_pick (b := true) (v := .bool true) rfl rfl) (by decide) ?_
      refine OL_y (v := .bool true) (y_move rfl) (by decide) ?_
      refine OL_s rfl (by decide) rfl rfl (by simp) ?_
      refine OL_s rfl (by decide) rfl rfl (by simp) ?_
      refine OL_s rfl (by decide) rfl rfl (by simp) ?_
      refine OL_s rfl (by decide) rfl rfl (by simp) ?_
      refine OL_s rfl (by decide) rfl rfl (by simp) ?_
      refine OL_y (y_pick (b := true) (v := .bool true) rfl rfl) (by decide) ?_
      refine OL_nil ?_
      refine W_condt rfl ?_
      refine W_seq ?_
      refine W_region ?_
      refine OL_y (v := .bool false) (y_assign rfl) (by decide) ?_
      refine OL_nil ?_
      refine W_ret ?_
      show RetOK _ _ _ _ _ _
      exact ret1 (v := .bool false) Try.results29 rfl ⟨false, rfl, H.ext_of 1 rfl, fun h => by cases h⟩
    · by_cases hbb : (10 : Int) < ((c.txns.length : Nat) : Int)
      · refine W_region ?_
        refine OL_y (y_fieldAddr ti78 rfl ti23 rfl rfl) (by decide) ?_
        refine OL_y (y_loadS (v := .slice a3 c.lo.length c3) ti23 rfl rfl (Cells.unit (H.getOwn 0 rfl) rfl)) (by decide) ?_
        refine OL_y (y_len rfl ti23 rfl) (by decide) ?_
        refine OL_y (y_fieldAddr ti78 rfl ti23 rfl rfl) (by decide) ?_
        refine OL_y (y_loadS (v := .slice a4 c.hi.length c4) ti23 rfl rfl (Cells.unit (H.getOwn 0 rfl) rfl)) (by decide) ?_
        refine OL_y (y_len rfl ti23 rfl) (by decide) ?_
        refine OL_y (y_add64 rfl rfl (by omega) (by omega)) (by decide) ?_
        refine OL_y (y_fieldAddr ti78 rfl ti70 rfl rfl) (by decide) ?_
        refine OL_y (y_fieldAddr ti70 rfl ti23 rfl rfl) (by decide) ?_
        refine OL_y (y_loadS (v := .slice a1 c.lk.lo.length c1) ti23 rfl rfl (Cells.unit (H.getOwn 0 rfl) rfl)) (by decide) ?_
        refine OL_y (y_len rfl ti23 rfl) (by decide) ?_
        refine OL_y (y_add64 rfl rfl (by omega) (by omega)) (by decide) ?_
        refine OL_y (y_fieldAddr ti78 rfl ti70 rfl rfl) (by decide) ?_
        refine OL_y (y_fieldAddr ti70 rfl ti23 rfl rfl) (by decide) ?_
        refine OL_y (y_loadS (v := .slice a2 c.lk.hi.length c2) ti23 rfl rfl (Cells.unit (H.getOwn 0 rfl) rfl)) (by decide) ?_
        refine OL_y (y_len rfl ti23 rfl) (by decide) ?_
        refine OL_y (y_add64 rfl rfl (by omega) (by omega)) (by decide) ?_
        refine OL_y (v := .bool false) (y_gtrF haa rfl rfl) (by decide) ?_
        refine OL_y (v := .bool false) (y_move rfl) (by decide) ?_
        refine OL_yg rfl (by decide) rfl (y_fieldAddr ti78 rfl ti71 rfl rfl) (by decide) ?_
        refine OL_yg rfl (by decide) rfl (y_loadS (v := .slice a5 c.txns.length c5) ti71 rfl rfl (Cells.unit (H.getOwn 0 rfl) rfl)) (by decide) ?_
        refine OL_yg rfl (by decide) rfl (y_len rfl ti71 rfl) (by decide) ?_
        refine OL_yg (v := .bool true) rfl (by decide) rfl (y_gtrT hbb rfl rfl) (by decide) ?_
        refine OL_y (y_pick (b := false) (v := .bool true) rfl rfl) (by decide) ?_
        refine OL_y (v := .bool true) (y_move rfl) (by decide) ?_
        refine OL_s rfl (by decide) rfl rfl (by simp) ?_
        refine OL_s rfl (by decide) rfl rfl (by simp) ?_
        refine OL_s rfl (by decide) rfl rfl (by simp) ?_
        refine OL_s rfl (by decide) rfl rfl (by simp) ?_
        refine OL_y (y_pick (b := true) (v := .bool true) rfl rfl) (by decide) ?_
        refine OL_y (v := .bool true) (y_move rfl) (by decide) ?_
        refine OL_s rfl (by decide) rfl rfl (by simp) ?_
        refine OL_s rfl (by decide) rfl rfl (by simp) ?_
        refine OL_s rfl (by decide) rfl rfl (by simp) ?_
        refine OL_s rfl (by decide) rfl rfl (by simp) ?_
        refine OL_y (y_pick (b := true) (v := .bool true) rfl rfl) (by decide) ?_
        refine OL_y (v := .bool true) (y_move rfl) (by decide) ?_
        refine OL_s rfl (by decide) rfl rfl (by simp) ?_
        refine OL_s rfl (by decide) rfl rfl (by simp) ?_
        refine OL_s rfl (by decide) rfl rfl (by simp) ?_
        refine OL_s rfl (by decide) rfl rfl (by simp) ?_
        refine OL_s rfl (by decide) rfl rfl (by simp) ?_
        refine OL_y (y_pick (b := true) (v := .bool true) rfl rfl) (by decide) ?_
        refine OL_y (v := .bool true) (y_move rfl) (by decide) ?_
        refine OL_s rfl (by decide) rfl rfl (by simp) ?_
        refine OL_s rfl (by decide) rfl rfl (by simp) ?_
        refine OL_s rfl (by decide) rfl rfl (by simp) ?_
        refine OL_s rfl (by decide) rfl rfl (by simp) ?_
        refine OL_s rfl (by decide) rfl rfl (by simp) ?_
        refine OL_y (y_pick (b := true) (v := .bool true) rfl rfl) (by decide) ?_
        refine OL_y (v := .bool true) (y_move rfl) (by decide) ?_
        refine OL_s rfl (by decide) rfl rfl (by simp) ?_
        refine OL_s rfl (by decide) rfl rfl (by simp) ?_
        refine OL_s rfl (by decide) rfl rfl (by simp) ?_
        refine OL_s rfl (by decide) rfl rfl (by simp) ?_
        refine OL_s rfl (by decide) rfl rfl (by simp) ?_
        refine OL_y (y_pick (b := true) (v := .bool true) rfl rfl) (by decide) ?_
        refine OL_nil ?_
        refine W_condt rfl ?_
        refine W_seq ?_
        refine W_region ?_
        refine OL_y (v := .bool false) (y_assign rfl) (by decide) ?_
        refine OL_nil ?_
        refine W_ret ?_
        show RetOK _ _ _ _ _ _
        exact ret1 (v := .bool false) Try.results29 rfl ⟨false, rfl, H.ext_of 1 rfl, fun h => by cases h⟩
      · by_cases hdd : (10 : Int) < ((c.writes.length : Nat) : Int)
        · refine W_region ?_
          refine OL_y (y_fieldAddr ti78 rfl ti23 rfl rfl) (by decide) ?_
          refine OL_y (y_loadS (v := .slice a3 c.lo.length c3) ti23 rfl rfl (Cells.unit (H.getOwn 0 rfl) rfl)) (by decide) ?_
          refine OL_y (y_len rfl ti23 rfl) (by decide) ?_
          refine OL_y (y_fieldAddr ti78 rfl ti23 rfl rfl) (by decide) ?_
          refine OL_y (y_loadS (v := .slice a4 c.hi.length c4) ti23 rfl rfl (Cells.unit (H.getOwn 0 rfl) rfl)) (by decide) ?_
          refine OL_y (y_len rfl ti23 rfl) (by decide) ?_
          refine OL_y (y_add64 rfl rfl (by omega) (by omega)) (by decide) ?_
          refine OL_y (y_fieldAddr ti78 rfl ti70 rfl rfl) (by decide) ?_
          refine OL_y (y_fieldAddr ti70 rfl ti23 rfl rfl) (by decide) ?_
          refine OL_y (y_loadS (v := .slice a1 c.lk.lo.length c1) ti23 rfl rfl (Cells.unit (H.getOwn 0 rfl) rfl)) (by decide) ?_
          refine OL_y (y_len rfl ti23 rfl) (by decide) ?_
          refine OL_y (y_add64 rfl rfl (by omega) (by omega)) (by decide) ?_
          refine OL_y (y_fieldAddr ti78 rfl ti70 rfl rfl) (by decide) ?_
          refine OL_y (y_fieldAddr ti70 rfl ti23 rfl rfl) (by decide) ?_
          refine OL_y (y_loadS (v := .slice a2 c.lk.hi.length c2) ti23 rfl rfl (Cells.unit (H.getOwn 0 rfl) rfl)) (by decide) ?_
          refine OL_y (y_len rfl ti23 rfl) (by decide) ?_
          refine OL_y (y_add64 rfl rfl (by omega) (by omega)) (by decide) ?_
          refine OL_y (v := .bool false) (y_gtrF haa rfl rfl) (by decide) ?_
          refine OL_y (v := .bool false) (y_move rfl) (by decide) ?_
          refine OL_yg rfl (by decide) rfl (y_fieldAddr ti78 rfl ti71 rfl rfl) (by decide) ?_
          refine OL_yg rfl (by decide) rfl (y_loadS (v := .slice a5 c.txns.length c5) ti71 rfl rfl (Cells.unit (H.getOwn 0 rfl) rfl)) (by decide) ?_
          refine OL_yg rfl (by decide) rfl (y_len rfl ti71 rfl) (by decide) ?_
          refine OL_yg (v := .bool false) rfl (by decide) rfl (y_gtrF hbb rfl rfl) (by decide) ?_
          refine OL_y (y_pick (b := false) (v := .bool false) rfl rfl) (by decide) ?_
          refine OL_y (v := .bool false) (y_move rfl) (by decide) ?_
          refine OL_yg rfl (by decide) rfl (y_fieldAddr ti78 rfl ti72 rfl rfl) (by decide) ?_
          refine OL_yg rfl (by decide) rfl (y_loadS (v := .slice a6 c.writes.length c6) ti72 rfl rfl (Cells.unit (H.getOwn 0 rfl) rfl)) (by decide) ?_
          refine OL_yg rfl (by decide) rfl (y_len rfl ti72 rfl) (by decide) ?_
          refine OL_yg (v := .bool true) rfl (by decide) rfl (y_gtrT hdd rfl rfl) (by decide) ?_
          refine OL_y (y_pick (b := false) (v := .bool true) rfl rfl) (by decide) ?_
          refine OL_y (v := .bool true) (y_move rfl) (by decide) ?_
          refine OL_s rfl (by decide) rfl rfl (by simp) ?_
          refine OL_s rfl (by decide) rfl rfl (by simp) ?_
          refine OL_s rfl (by decide) rfl rfl (by simp) ?_
          refine OL_s rfl (by decide) rfl rfl (by simp) ?_
          refine OL_y (y_pick (b := true) (v := .bool true) rfl rfl) (by decide) ?_
          refine OL_y (v := .bool true) (y_move rfl) (by decide) ?_
          refine OL_s rfl (by decide) rfl rfl (by simp) ?_
          refine OL_s rfl (by decide) rfl rfl (by simp) ?_
          refine OL_s rfl (by decide) rfl rfl (by simp) ?_
          refine OL_s rfl (by decide) rfl rfl (by simp) ?_
          refine OL_s rfl (by decide) rfl rfl (by simp) ?_
          refine OL_y (y_pick (b := true) (v := .bool true) rfl rfl) (by decide) ?_
          refine OL_y (v := .bool true) (y_move rfl) (by decide) ?_
          refine OL_s rfl (by decide) rfl rfl (by simp) ?_
          refine OL_s rfl (by decide) rfl rfl (by simp) ?_
          refine OL_s rfl (by decide) rfl rfl (by simp) ?_
          refine OL_s rfl (by decide) rfl rfl (by simp) ?_
          refine OL_s rfl (by decide) rfl rfl (by simp) ?_
          refine OL_y (y_pick (b := true) (v := .bool true) rfl rfl) (by decide) ?_
          refine OL_y (v := .bool true) (y_move rfl) (by decide) ?_
          refine OL_s rfl (by decide) rfl rfl (by simp) ?_
          refine OL_s rfl (by decide) rfl rfl (by simp) ?_
          refine OL_s rfl (by decide) rfl rfl (by simp) ?_
          refine OL_s rfl (by decide) rfl rfl (by simp) ?_
          refine OL_s rfl (by decide) rfl rfl (by simp) ?_
          refine OL_y (y_pick (b := true) (v := .bool true) rfl rfl) (by decide) ?_
          refine OL_nil ?_
          refine W_condt rfl ?_
          refine W_seq ?_
          refine W_region ?_
          refine OL_y (v := .bool false) (y_assign rfl) (by decide) ?_
          refine OL_nil ?_
          refine W_ret ?_
          show RetOK _ _ _ _ _ _
          exact ret1 (v := .bool false) Try.results29 rfl ⟨false, rfl, H.ext_of 1 rfl, fun h => by cases h⟩
        · by_cases hee : (10 : Int) < ((c.keys.length : Nat) : Int)
          · refine W_region ?_
            refine OL_y (y_fieldAddr ti78 rfl ti23 rfl rfl) (by decide) ?_
            refine OL_y (y_loadS (v := .slice a3 c.lo.length c3) ti23 rfl rfl (Cells.unit (H.getOwn 0 rfl) rfl)) (by decide) ?_
            refine OL_y (y_len rfl ti23 rfl) (by decide) ?_
            refine OL_y (y_fieldAddr ti78 rfl ti23 rfl rfl) (by decide) ?_
            refine OL_y (y_loadS (v := .slice a4 c.hi.length c4) ti23 rfl rfl (Cells.unit (H.getOwn 0 rfl) rfl)) (by decide) ?_
            refine OL_y (y_len rfl ti23 rfl) (by decide) ?_
            refine OL_y (y_add64 rfl rfl (by omega) (by omega)) (by decide) ?_
            refine OL_y (y_fieldAddr ti78 rfl ti70 rfl rfl) (by decide) ?_
            refine OL_y (y_fieldAddr ti70 rfl ti23 rfl rfl) (by decide) ?_
            refine OL_y (y_loadS (v := .slice a1 c.lk.lo.length c1) ti23 rfl rfl (Cells.unit (H.getOwn 0 rfl) rfl)) (by decide) ?_
            refine OL_y (y_len rfl ti23 rfl) (by decide) ?_
            refine OL_y (y_add64 rfl rfl (by omega) (by omega)) (by decide) ?_
            refine OL_y (y_fieldAddr ti78 rfl ti70 rfl rfl) (by decide) ?_
            refine OL_y (y_fieldAddr ti70 rfl ti23 rfl rfl) (by decide) ?_
            refine OL_y (y_loadS (v := .slice a2 c.lk.hi.length c2) ti23 rfl rfl (Cells.unit (H.getOwn 0 rfl) rfl)) (by decide) ?_
            refine OL_y (y_len rfl ti23 rfl) (by decide) ?_
            refine OL_y (y_add64 rfl rfl (by omega) (by omega)) (by decide) ?_
            refine OL_y (v := .bool false) (y_gtrF haa rfl rfl) (by decide) ?_
            refine OL_y (v := .bool false) (y_move rfl) (by decide) ?_
            refine OL_yg rfl (by decide) rfl (y_fieldAddr ti78 rfl ti71 rfl rfl) (by decide) ?_
            refine OL_yg rfl (by decide) rfl (y_loadS (v := .slice a5 c.txns.length c5) ti71 rfl rfl (Cells.unit (H.getOwn 0 rfl) rfl)) (by decide) ?_
            refine OL_yg rfl (by decide) rfl (y_len rfl ti71 rfl) (by decide) ?_
            refine OL_yg (v := .bool false) rfl (by decide) rfl (y_gtrF hbb rfl rfl) (by decide) ?_
            refine OL_y (y_pick (b := false) (v := .bool false) rfl rfl) (by decide) ?_
            refine OL_y (v := .bool false) (y_move rfl) (by decide) ?_
            refine OL_yg rfl (by decide) rfl (y_fieldAddr ti78 rfl ti72 rfl rfl) (by decide) ?_
            refine OL_yg rfl (by decide) rfl (y_loadS (v := .slice a6 c.writes.length c6) ti72 rfl rfl (Cells.unit (H.getOwn 0 rfl) rfl)) (by decide) ?_
            refine OL_yg rfl (by decide) rfl (y_len rfl ti72 rfl) (by decide) ?_
            refine OL_yg (v := .bool false) rfl (by decide) rfl (y_gtrF hdd rfl rfl) (by decide) ?_
            refine OL_y (y_pick (b := false) (v := .bool false) rfl rfl) (by decide) ?_
            refine OL_y (v := .bool false) (y_move rfl) (by decide) ?_
            refine OL_yg rfl (by decide) rfl (y_fieldAddr ti78 rfl ti30 rfl rfl) (by decide) ?_
            refine OL_yg rfl (by decide) rfl (y_loadS (v := .slice a7 c.keys.length c7) ti30 rfl rfl (Cells.unit (H.getOwn 0 rfl) rfl)) (by decide) ?_
            refine OL_yg rfl (by decide) rfl (y_len rfl ti30 rfl) (by decide) ?_
            refine OL_yg (v := .bool true) rfl (by decide) rfl (y_gtrT hee rfl rfl) (by decide) ?_
            refine OL_y (y_pick (b := false) (v := .bool true) rfl rfl) (by decide) ?_
            refine OL_y (v := .bool true) (y_move rfl) (by decide) ?_
            refine OL_s rfl (by decide) rfl rfl (by simp) ?_
            refine OL_s rfl (by decide) rfl rfl (by simp) ?_
            refine OL_s rfl (by decide) rfl rfl (by simp) ?_
            refine OL_s rfl (by decide) rfl rfl (by simp) ?_
            refine OL_s rfl (by decide) rfl rfl (by simp) ?_
            refine OL_y (y_pick (b := true) (v := .bool true) rfl rfl) (by decide) ?_
            refine OL_y (v := .bool true) (y_move rfl) (by decide) ?_
            refine OL_s rfl (by decide) rfl rfl (by simp) ?_
            refine OL_s rfl (by decide) rfl rfl (by simp) ?_
            refine OL_s rfl (by decide) rfl rfl (by simp) ?_
            refine OL_s rfl (by decide) rfl rfl (by simp) ?_
            refine OL_s rfl (by decide) rfl rfl (by simp) ?_
            refine OL_y (y_pick (b := true) (v := .bool true) rfl rfl) (by decide) ?_
            refine OL_y (v := .bool true) (y_move rfl) (by decide) ?_
            refine OL_s rfl (by decide) rfl rfl (by simp) ?_
            refine OL_s rfl (by decide) rfl rfl (by simp) ?_
            refine OL_s rfl (by decide) rfl rfl (by simp) ?_
            refine OL_s rfl (by decide) rfl rfl (by simp) ?_
            refine OL_s rfl (by decide) rfl rfl (by simp) ?_
            refine OL_y (y_pick (b := true) (v := .bool true) rfl rfl) (by decide) ?_
            refine OL_nil ?_
            refine W_condt rfl ?_
            refine W_seq ?_
            refine W_region ?_
            refine OL_y (v := .bool false) (y_assign rfl) (by decide) ?_
            refine OL_nil ?_
            refine W_ret ?_
            show RetOK _ _ _ _ _ _
            exact ret1 (v := .bool false) Try.results29 rfl ⟨false, rfl, H.ext_of 1 rfl, fun h => by cases h⟩
          · by_cases hgg : (14 : Int) < ((c.tb.cols.length : Nat) : Int)
            · refine W_region ?_
              refine OL_y (y_fieldAddr ti78 rfl ti23 rfl rfl) (by decide) ?_
              refine OL_y (y_loadS (v := .slice a3 c.lo.length c3) ti23 rfl rfl (Cells.unit (H.getOwn 0 rfl) rfl)) (by decide) ?_
              refine OL_y (y_len rfl ti23 rfl) (by decide) ?_
              refine OL_y (y_fieldAddr ti78 rfl ti23 rfl rfl) (by decide) ?_
              refine OL_y (y_loadS (v := .slice a4 c.hi.length c4) ti23 rfl rfl (Cells.unit (H.getOwn 0 rfl) rfl)) (by decide) ?_
              refine OL_y (y_len rfl ti23 rfl) (by decide) ?_
              refine OL_y (y_add64 rfl rfl (by omega) (by omega)) (by decide) ?_
              refine OL_y (y_fieldAddr ti78 rfl ti70 rfl rfl) (by decide) ?_
              refine OL_y (y_fieldAddr ti70 rfl ti23 rfl rfl) (by decide) ?_
              refine OL_y (y_loadS (v := .slice a1 c.lk.lo.length c1) ti23 rfl rfl (Cells.unit (H.getOwn 0 rfl) rfl)) (by decide) ?_
              refine OL_y (y_len rfl ti23 rfl) (by decide) ?_
              refine OL_y (y_add64 rfl rfl (by omega) (by omega)) (by decide) ?_
              refine OL_y (y_fieldAddr ti78 rfl ti70 rfl rfl) (by decide) ?_
              refine OL_y (y_fieldAddr ti70 rfl ti23 rfl rfl) (by decide) ?_
              refine OL_y (y_loadS (v := .slice a2 c.lk.hi.length c2) ti23 rfl rfl (Cells.unit (H.getOwn 0 rfl) rfl)) (by decide) ?_
              refine OL_y (y_len rfl ti23 rfl) (by decide) ?_
              refine OL_y (y_add64 rfl rfl (by omega) (by omega)) (by decide) ?_
              refine OL_y (v := .bool false) (y_gtrF haa rfl rfl) (by decide) ?_
              refine OL_y (v := .bool false) (y_move rfl) (by decide) ?_
              refine OL_yg rfl (by decide) rfl (y_fieldAddr ti78 rfl ti71 rfl rfl) (by decide) ?_
              refine OL_yg rfl (by decide) rfl (y_loadS (v := .slice a5 c.txns.length c5) ti71 rfl rfl (Cells.unit (H.getOwn 0 rfl) rfl)) (by decide) ?_
              refine OL_yg rfl (by decide) rfl (y_len rfl ti71 rfl) (by decide) ?_
              refine OL_yg (v := .bool false) rfl (by decide) rfl (y_gtrF hbb rfl rfl) (by decide) ?_
              refine OL_y (y_pick (b := false) (v := .bool false) rfl rfl) (by decide) ?_
              refine OL_y (v := .bool false) (y_move rfl) (by decide) ?_
              refine OL_yg rfl (by decide) rfl (y_fieldAddr ti78 rfl ti72 rfl rfl) (by decide) ?_
              refine OL_yg rfl (by decide) rfl (y_loadS (v := .slice a6 c.writes.length c6) ti72 rfl rfl (Cells.unit (H.getOwn 0 rfl) rfl)) (by decide) ?_
              refine OL_yg rfl (by decide) rfl (y_len rfl ti72 rfl) (by decide) ?_
              refine OL_yg (v := .bool false) rfl (by decide) rfl (y_gtrF hdd rfl rfl) (by decide) ?_
              refine OL_y (y_pick (b := false) (v := .bool false) rfl rfl) (by decide) ?_
              refine OL_y (v := .bool false) (y_move rfl) (by decide) ?_
              refine OL_yg rfl (by decide) rfl (y_fieldAddr ti78 rfl ti30 rfl rfl) (by decide) ?_
              refine OL_yg rfl (by decide) rfl (y_loadS (v := .slice a7 c.keys.length c7) ti30 rfl rfl (Cells.unit (H.getOwn 0 rfl) rfl)) (by decide) ?_
              refine OL_yg rfl (by decide) rfl (y_len rfl ti30 rfl) (by decide) ?_
              refine OL_yg (v := .bool false) rfl (by decide) rfl (y_gtrF hee rfl rfl) (by decide) ?_
              refine OL_y (y_pick (b := false) (v := .bool false) rfl rfl) (by decide) ?_
              refine OL_y (v := .bool false) (y_move rfl) (by decide) ?_
              refine OL_yg rfl (by decide) rfl (y_fieldAddr ti78 rfl ti76 rfl rfl) (by decide) ?_
              refine OL_yg rfl (by decide) rfl (y_fieldAddr ti76 rfl ti73 rfl rfl) (by decide) ?_
              refine OL_yg rfl (by decide) rfl (y_loadS (v := .slice a8 c.tb.cols.length c8) ti73 rfl rfl (Cells.unit (H.getOwn 0 rfl) rfl)) (by decide) ?_
              refine OL_yg rfl (by decide) rfl (y_len rfl ti73 rfl) (by decide) ?_
              refine OL_yg (v := .bool true) rfl (by decide) rfl (y_gtrT hgg rfl rfl) (by decide) ?_
              refine OL_y (y_pick (b := false) (v := .bool true) rfl rfl) (by decide) ?_
              refine OL_y (v := .bool true) (y_move rfl) (by decide) ?_
              refine OL_s rfl (by decide) rfl rfl (by simp) ?_
              refine OL_s rfl (by decide) rfl rfl (by simp) ?_
              refine OL_s rfl (by decide) rfl rfl (by simp) ?_
              refine OL_s rfl (by decide) rfl rfl (by simp) ?_
              refine OL_s rfl (by decide) rfl rfl (by simp) ?_
              refine OL_y (y_pick (b := true) (v := .bool true) rfl rfl) (by decide) ?_
              refine OL_y (v := .bool true) (y_move rfl) (by decide) ?_
              refine OL_s rfl (by decide) rfl rfl (by simp) ?_
              refine OL_s rfl (by decide) rfl rfl (by simp) ?_
              refine OL_s rfl (by decide) rfl rfl (by simp) ?_
              refine OL_s rfl (by decide) rfl rfl (by simp) ?_
              refine OL_s rfl (by decide) rfl rfl (by simp) ?_
              refine OL_y (y_pick (b := true) (v := .bool true) rfl rfl) (by decide) ?_
              refine OL_nil ?_
              refine W_condt rfl ?_
              refine W_seq ?_
              refine W_region ?_
              refine OL_y (v := .bool false) (y_assign rfl) (by decide) ?_
              refine OL_nil ?_
              refine W_ret ?_
              show RetOK _ _ _ _ _ _
              exact ret1 (v := .bool false) Try.results29 rfl ⟨false, rfl, H.ext_of 1 rfl, fun h => by cases h⟩
            · by_cases hhh : (6 : Int) < ((c.tb.idx.length : Nat) : Int)
              · refine W_region ?_
                refine OL_y (y_fieldAddr ti78 rfl ti23 rfl rfl) (by decide) ?_
                refine OL_y (y_loadS (v := .slice a3 c.lo.length c3) ti23 rfl rfl (Cells.unit (H.getOwn 0 rfl) rfl)) (by decide) ?_
                refine OL_y (y_len rfl ti23 rfl) (by decide) ?_
                refine OL_y (y_fieldAddr ti78 rfl ti23 rfl rfl) (by decide) ?_
                refine OL_y (y_loadS (v := .slice a4 c.hi.length c4) ti23 rfl rfl (Cells.unit (H.getOwn 0 rfl) rfl)) (by decide) ?_
                refine OL_y (y_len rfl ti23 rfl) (by decide) ?_
                refine OL_y (y_add64 rfl rfl (by omega) (by omega)) (by decide) ?_
                refine OL_y (y_fieldAddr ti78 rfl ti70 rfl rfl) (by decide) ?_
                refine OL_y (y_fieldAddr ti70 rfl ti23 rfl rfl) (by decide) ?_
                refine OL_y (y_loadS (v := .slice a1 c.lk.lo.length c1) ti23 rfl rfl (Cells.unit (H.getOwn 0 rfl) rfl)) (by decide) ?_
                refine OL_y (y_len rfl ti23 rfl) (by decide) ?_
                refine OL_y (y_add64 rfl rfl (by omega) (by omega)) (by decide) ?_
                refine OL_y (y_fieldAddr ti78 rfl ti70 rfl rfl) (by decide) ?_
                refine OL_y (y_fieldAddr ti70 rfl ti23 rfl rfl) (by decide) ?_
                refine OL_y (y_loadS (v := .slice a2 c.lk.hi.length c2) ti23 rfl rfl (Cells.unit (H.getOwn 0 rfl) rfl)) (by decide) ?_
                refine OL_y (y_len rfl ti23 rfl) (by decide) ?_
                refine OL_y (y_add64 rfl rfl (by omega) (by omega)) (by decide) ?_
                refine OL_y (v := .bool false) (y_gtrF haa rfl rfl) (by decide) ?_
                refine OL_y (v := .bool false) (y_move rfl) (by decide) ?_
                refine OL_yg rfl (by decide) rfl (y_fieldAddr ti78 rfl ti71 rfl rfl) (by decide) ?_
                refine OL_yg rfl (by decide) rfl (y_loadS (v := .slice a5 c.txns.length c5) ti71 rfl rfl (Cells.unit (H.getOwn 0 rfl) rfl)) (by decide) ?_
                refine OL_yg rfl (by decide) rfl (y_len rfl ti71 rfl) (by decide) ?_
                refine OL_yg (v := .bool false) rfl (by decide) rfl (y_gtrF hbb rfl rfl) (by decide) ?_
                refine OL_y (y_pick (b := false) (v := .bool false) rfl rfl) (by decide) ?_
                refine OL_y (v := .bool false) (y_move rfl) (by decide) ?_
                refine OL_yg rfl (by decide) rfl (y_fieldAddr ti78 rfl ti72 rfl rfl) (by decide) ?_
                refine OL_yg rfl (by decide) rfl (y_loadS (v := .slice a6 c.writes.length c6) ti72 rfl rfl (Cells.unit (H.getOwn 0 rfl) rfl)) (by decide) ?_
                refine OL_yg rfl (by decide) rfl (y_len rfl ti72 rfl) (by decide) ?_
                refine OL_yg (v := .bool false) rfl (by decide) rfl (y_gtrF hdd rfl rfl) (by decide) ?_
                refine OL_y (y_pick (b := false) (v := .bool false) rfl rfl) (by decide) ?_
                refine OL_y (v := .bool false) (y_move rfl) (by decide) ?_
                refine OL_yg rfl (by decide) rfl (y_fieldAddr ti78 rfl ti30 rfl rfl) (by decide) ?_
                refine OL_yg rfl (by decide) rfl (y_loadS (v := .slice a7 c.keys.length c7) ti30 rfl rfl (Cells.unit (H.getOwn 0 rfl) rfl)) (by decide) ?_
                refine OL_yg rfl (by decide) rfl (y_len rfl ti30 rfl) (by decide) ?_
                refine OL_yg (v := .bool false) rfl (by decide) rfl (y_gtrF hee rfl rfl) (by decide) ?_
                refine OL_y (y_pick (b := false) (v := .bool false) rfl rfl) (by decide) ?_
                refine OL_y (v := .bool false) (y_move rfl) (by decide) ?_
                refine OL_yg rfl (by decide) rfl (y_fieldAddr ti78 rfl ti76 rfl rfl) (by decide) ?_
                refine OL_yg rfl (by decide) rfl (y_fieldAddr ti76 rfl ti73 rfl rfl) (by decide) ?_
                refine OL_yg rfl (by decide) rfl (y_loadS (v := .slice a8 c.tb.cols.length c8) ti73 rfl rfl (Cells.unit (H.getOwn 0 rfl) rfl)) (by decide) ?_
                refine OL_yg rfl (by decide) rfl (y_len rfl ti73 rfl) (by decide) ?_
                refine OL_yg (v := .bool false) rfl (by decide) rfl (y_gtrF hgg rfl rfl) (by decide) ?_
                refine OL_y (y_pick (b := false) (v := .bool false) rfl rfl) (by decide) ?_
                refine OL_y (v := .bool false) (y_move rfl) (by decide) ?_
                refine OL_yg rfl (by decide) rfl (y_fieldAddr ti78 rfl ti76 rfl rfl) (by decide) ?_
                refine OL_yg rfl (by decide) rfl (y_fieldAddr ti76 rfl ti74 rfl rfl) (by decide) ?_
                refine OL_yg rfl (by decide) rfl (y_loadS (v := .slice a9 c.tb.idx.length c9) ti74 rfl rfl (Cells.unit (H.getOwn 0 rfl) rfl)) (by decide) ?_
                refine OL_yg rfl (by decide) rfl (y_len rfl ti74 rfl) (by decide) ?_
                refine OL_yg (v := .bool true) rfl (by decide) rfl (y_gtrT hhh rfl rfl) (by decide) ?_
                refine OL_y (y_pick (b := false) (v := .bool true) rfl rfl) (by decide) ?_
                refine OL_y (v := .bool true) (y_move rfl) (by decide) ?_
                refine OL_s rfl (by decide) rfl rfl (by simp) ?_
                refine OL_s rfl (by decide) rfl rfl (by simp) ?_
                refine OL_s rfl (by decide) rfl rfl (by simp) ?_
                refine OL_s rfl (by decide) rfl rfl (by simp) ?_
                refine OL_s rfl (by decide) rfl rfl (by simp) ?_
                refine OL_y (y_pick (b := true) (v := .bool true) rfl rfl) (by decide) ?_
                refine OL_nil ?_
                refine W_condt rfl ?_
                refine W_seq ?_
                refine W_region ?_
                refine OL_y (v := .bool false) (y_assign rfl) (by decide) ?_
                refine OL_nil ?_
                refine W_ret ?_
                show RetOK _ _ _ _ _ _
                exact ret1 (v := .bool false) Try.results29 rfl ⟨false, rfl, H.ext_of 1 rfl, fun h => by cases h⟩
              · by_cases hkk : (100 : Int) < ((c.tb.name.size : Nat) : Int)
                · refine W_region ?_
                  refine OL_y (y_fieldAddr ti78 rfl ti23 rfl rfl) (by decide) ?_
                  refine OL_y (y_loadS (v := .slice a3 c.lo.length c3) ti23 rfl rfl (Cells.unit (H.getOwn 0 rfl) rfl)) (by decide) ?_
                  refine OL_y (y_len rfl ti23 rfl) (by decide) ?_
                  refine OL_y (y_fieldAddr ti78 rfl ti23 rfl rfl) (by decide) ?_
                  refine OL_y (y_loadS (v := .slice a4 c.hi.length c4) ti23 rfl rfl (Cells.unit (H.getOwn 0 rfl) rfl)) (by decide) ?_
                  refine OL_y (y_len rfl ti23 rfl) (by decide) ?_
                  refine OL_y (y_add64 rfl rfl (by omega) (by omega)) (by decide) ?_
                  refine OL_y (y_fieldAddr ti78 rfl ti70 rfl rfl) (by decide) ?_
                  refine OL_y (y_fieldAddr ti70 rfl ti23 rfl rfl) (by decide) ?_
                  refine OL_y (y_loadS (v := .slice a1 c.lk.lo.length c1) ti23 rfl rfl (Cells.unit (H.getOwn 0 rfl) rfl)) (by decide) ?_
                  refine OL_y (y_len rfl ti23 rfl) (by decide) ?_
                  refine OL_y (y_add64 rfl rfl (by omega) (by omega)) (by decide) ?_
                  refine OL_y (y_fieldAddr ti78 rfl ti70 rfl rfl) (by decide) ?_
                  refine OL_y (y_fieldAddr ti70 rfl ti23 rfl rfl) (by decide) ?_
                  refine OL_y (y_loadS (v := .slice a2 c.lk.hi.length c2) ti23 rfl rfl (Cells.unit (H.getOwn 0 rfl) rfl)) (by decide) ?_
                  refine OL_y (y_len rfl ti23 rfl) (by decide) ?_
                  refine OL_y (y_add64 rfl rfl (by omega) (by omega)) (by decide) ?_
                  refine OL_y (v := .bool false) (y_gtrF haa rfl rfl) (by decide) ?_
                  refine OL_y (v := .bool false) (y_move rfl) (by decide) ?_
                  refine OL_yg rfl (by decide) rfl (y_fieldAddr ti78 rfl ti71 rfl rfl) (by decide) ?_
                  refine OL_yg rfl (by decide) rfl (y_loadS (v := .slice a5 c.txns.length c5) ti71 rfl rfl (Cells.unit (H.getOwn 0 rfl) rfl)) (by decide) ?_
                  refine OL_yg rfl (by decide) rfl (y_len rfl ti71 rfl) (by decide) ?_
                  refine OL_yg (v := .bool false) rfl (by decide) rfl (y_gtrF hbb rfl rfl) (by decide) ?_
                  refine OL_y (y_pick (b := false) (v := .bool false) rfl rfl) (by decide) ?_
                  refine OL_y (v := .bool false) (y_move rfl) (by decide) ?_
                  refine OL_yg rfl (by decide) rfl (y_fieldAddr ti78 rfl ti72 rfl rfl) (by decide) ?_
                  refine OL_yg rfl (by decide) rfl (y_loadS (v := .slice a6 c.writes.length c6) ti72 rfl rfl (Cells.unit (H.getOwn 0 rfl) rfl)) (by decide) ?_
                  refine OL_yg rfl (by decide) rfl (y_len rfl ti72 rfl) (by decide) ?_
                  refine OL_yg (v := .bool false) rfl (by decide) rfl (y_gtrF hdd rfl rfl) (by decide) ?_
                  refine OL_y (y_pick (b := false) (v := .bool false) rfl rfl) (by decide) ?_
                  refine OL_y (v := .bool false) (y_move rfl) (by decide) ?_
                  refine OL_yg rfl (by decide) rfl (y_fieldAddr ti78 rfl ti30 rfl rfl) (by decide) ?_
                  refine OL_yg rfl (by decide) rfl (y_loadS (v := .slice a7 c.keys.length c7) ti30 rfl rfl (Cells.unit (H.getOwn 0 rfl) rfl)) (by decide) ?_
                  refine OL_yg rfl (by decide) rfl (y_len rfl ti30 rfl) (by decide) ?_
                  refine OL_yg (v := .bool false) rfl (by decide) rfl (y_gtrF hee rfl rfl) (by decide) ?_
                  refine OL_y (y_pick (b := false) (v := .bool false) rfl rfl) (by decide) ?_
                  refine OL_y (v := .bool false) (y_move rfl) (by decide) ?_
                  refine OL_yg rfl (by decide) rfl (y_fieldAddr ti78 rfl ti76 rfl rfl) (by decide) ?_
                  refine OL_yg rfl (by decide) rfl (y_fieldAddr ti76 rfl ti73 rfl rfl) (by decide) ?_
                  refine OL_yg rfl (by decide) rfl (y_loadS (v := .slice a8 c.tb.cols.length c8) ti73 rfl rfl (Cells.unit (H.getOwn 0 rfl) rfl)) (by decide) ?_
                  refine OL_yg rfl (by decide) rfl (y_len rfl ti73 rfl) (by decide) ?_
                  refine OL_yg (v := .bool false) rfl (by decide) rfl (y_gtrF hgg rfl rfl) (by decide) ?_
                  refine OL_y (y_pick (b := false) (v := .bool false) rfl rfl) (by decide) ?_
                  refine OL_y (v := .bool false) (y_move rfl) (by decide) ?_
                  refine OL_yg rfl (by decide) rfl (y_fieldAddr ti78 rfl ti76 rfl rfl) (by decide) ?_
                  refine OL_yg rfl (by decide) rfl (y_fieldAddr ti76 rfl ti74 rfl rfl) (by decide) ?_
                  refine OL_yg rfl (by decide) rfl (y_loadS (v := .slice a9 c.tb.idx.length c9) ti74 rfl rfl (Cells.unit (H.getOwn 0 rfl) rfl)) (by decide) ?_
                  refine OL_yg rfl (by decide) rfl (y_len rfl ti74 rfl) (by decide) ?_
                  refine OL_yg (v := .bool false) rfl (by decide) rfl (y_gtrF hhh rfl rfl) (by decide) ?_
                  refine OL_y (y_pick (b := false) (v := .bool false) rfl rfl) (by decide) ?_
                  refine OL_y (v := .bool false) (y_move rfl) (by decide) ?_
                  refine OL_yg rfl (by decide) rfl (y_fieldAddr ti78 rfl ti76 rfl rfl) (by decide) ?_
                  refine OL_yg rfl (by decide) rfl (y_fieldAddr ti76 rfl ti9 rfl rfl) (by decide) ?_
                  refine OL_yg rfl (by decide) rfl (y_loadS (v := .string c.tb.name) ti9 rfl rfl (Cells.unit (H.getOwn 0 rfl) rfl)) (by decide) ?_
                  refine OL_yg rfl (by decide) rfl (y_lenStr rfl Try.underlying9 rfl) (by decide) ?_
                  refine OL_yg (v := .bool true) rfl (by decide) rfl (y_gtrT hkk rfl rfl) (by decide) ?_
                  refine OL_y (y_pick (b := false) (v := .bool true) rfl rfl) (by decide) ?_
                  refine OL_nil ?_
                  refine W_condt rfl ?_
                  refine W_seq ?_
                  refine W_region ?_
                  refine OL_y (v := .bool false) (y_assign rfl) (by decide) ?_
                  refine OL_nil ?_
                  refine W_ret ?_
                  show RetOK _ _ _ _ _ _
                  exact ret1 (v := .bool false) Try.results29 rfl ⟨false, rfl, H.ext_of 1 rfl, fun h => by cases h⟩
                · refine W_region ?_
                  refine OL_y (y_fieldAddr ti78 rfl ti23 rfl rfl) (by decide) ?_
                  refine OL_y (y_loadS (v := .slice a3 c.lo.length c3) ti23 rfl rfl (Cells.unit (H.getOwn 0 rfl) rfl)) (by decide) ?_
                  refine OL_y (y_len rfl ti23 rfl) (by decide) ?_
                  refine OL_y (y_fieldAddr ti78 rfl ti23 rfl rfl) (by decide) ?_
                  refine OL_y (y_loadS (v := .slice a4 c.hi.length c4) ti23 rfl rfl (Cells.unit (H.getOwn 0 rfl) rfl)) (by decide) ?_
                  refine OL_y (y_len rfl ti23 rfl) (by decide) ?_
                  refine OL_y (y_add64 rfl rfl (by omega) (by omega)) (by decide) ?_
                  refine OL_y (y_fieldAddr ti78 rfl ti70 rfl rfl) (by decide) ?_
                  refine OL_y (y_fieldAddr ti70 rfl ti23 rfl rfl) (by decide) ?_
                  refine OL_y (y_loadS (v := .slice a1 c.lk.lo.length c1) ti23 rfl rfl (Cells.unit (H.getOwn 0 rfl) rfl)) (by decide) ?_
                  refine OL_y (y_len rfl ti23 rfl) (by decide) ?_
                  refine OL_y (y_add64 rfl rfl (by omega) (by omega)) (by decide) ?_
                  refine OL_y (y_fieldAddr ti78 rfl ti70 rfl rfl) (by decide) ?_
                  refine OL_y (y_fieldAddr ti70 rfl ti23 rfl rfl) (by decide) ?_
                  refine OL_y (y_loadS (v := .slice a2 c.lk.hi.length c2) ti23 rfl rfl (Cells.unit (H.getOwn 0 rfl) rfl)) (by decide) ?_
                  refine OL_y (y_len rfl ti23 rfl) (by decide) ?_
                  refine OL_y (y_add64 rfl rfl (by omega) (by omega)) (by decide) ?_
                  refine OL_y (v := .bool false) (y_gtrF haa rfl rfl) (by decide) ?_
                  refine OL_y (v := .bool false) (y_move rfl) (by decide) ?_
                  refine OL_yg rfl (by decide) rfl (y_fieldAddr ti78 rfl ti71 rfl rfl) (by decide) ?_
                  refine OL_yg rfl (by decide) rfl (y_loadS (v := .slice a5 c.txns.length c5) ti71 rfl rfl (Cells.unit (H.getOwn 0 rfl) rfl)) (by decide) ?_
                  refine OL_yg rfl (by decide) rfl (y_len rfl ti71 rfl) (by decide) ?_
                  refine OL_yg (v := .bool false) rfl (by decide) rfl (y_gtrF hbb rfl rfl) (by decide) ?_
                  refine OL_y (y_pick (b := false) (v := .bool false) rfl rfl) (by decide) ?_
                  refine OL_y (v := .bool false) (y_move rfl) (by decide) ?_
                  refine OL_yg rfl (by decide) rfl (y_fieldAddr ti78 rfl ti72 rfl rfl) (by decide) ?_
                  refine OL_yg rfl (by decide) rfl (y_loadS (v := .slice a6 c.writes.length c6) ti72 rfl rfl (Cells.unit (H.getOwn 0 rfl) rfl)) (by decide) ?_
                  refine OL_yg rfl (by decide) rfl (y_len rfl ti72 rfl) (by decide) ?_
                  refine OL_yg (v := .bool false) rfl (by decide) rfl (y_gtrF hdd rfl rfl) (by decide) ?_
                  refine OL_y (y_pick (b := false) (v := .bool false) rfl rfl) (by decide) ?_
                  refine OL_y (v := .bool false) (y_move rfl) (by decide) ?_
                  refine OL_yg rfl (by decide) rfl (y_fieldAddr ti78 rfl ti30 rfl rfl) (by decide) ?_
                  refine OL_yg rfl (by decide) rfl (y_loadS (v := .slice a7 c.keys.length c7) ti30 rfl rfl (Cells.unit (H.getOwn 0 rfl) rfl)) (by decide) ?_
                  refine OL_yg rfl (by decide) rfl (y_len rfl ti30 rfl) (by decide) ?_
                  refine OL_yg (v := .bool false) rfl (by decide) rfl (y_gtrF hee rfl rfl) (by decide) ?_
                  refine OL_y (y_pick (b := false) (v := .bool false) rfl rfl) (by decide) ?_
                  refine OL_y (v := .bool false) (y_move rfl) (by decide) ?_
                  refine OL_yg rfl (by decide) rfl (y_fieldAddr ti78 rfl ti76 rfl rfl) (by decide) ?_
                  refine OL_yg rfl (by decide) rfl (y_fieldAddr ti76 rfl ti73 rfl rfl) (by decide) ?_
                  refine OL_yg rfl (by decide) rfl (y_loadS (v := .slice a8 c.tb.cols.length c8) ti73 rfl rfl (Cells.unit (H.getOwn 0 rfl) rfl)) (by decide) ?_
                  refine OL_yg rfl (by decide) rfl (y_len rfl ti73 rfl) (by decide) ?_
                  refine OL_yg (v := .bool false) rfl (by decide) rfl (y_gtrF hgg rfl rfl) (by decide) ?_
                  refine OL_y (y_pick (b := false) (v := .bool false) rfl rfl) (by decide) ?_
                  refine OL_y (v := .bool false) (y_move rfl) (by decide) ?_
                  refine OL_yg rfl (by decide) rfl (y_fieldAddr ti78 rfl ti76 rfl rfl) (by decide) ?_
                  refine OL_yg rfl (by decide) rfl (y_fieldAddr ti76 rfl ti74 rfl rfl) (by decide) ?_
                  refine OL_yg rfl (by decide) rfl (y_loadS (v := .slice a9 c.tb.idx.length c9) ti74 rfl rfl (Cells.unit (H.getOwn 0 rfl) rfl)) (by decide) ?_
                  refine OL_yg rfl (by decide) rfl (y_len rfl ti74 rfl) (by decide) ?_
                  refine OL_yg (v := .bool false) rfl (by decide) rfl (y_gtrF hhh rfl rfl) (by decide) ?_
                  refine OL_y (y_pick (b := false) (v := .bool false) rfl rfl) (by decide) ?_
                  refine OL_y (v := .bool false) (y_move rfl) (by decide) ?_
                  refine OL_yg rfl (by decide) rfl (y_fieldAddr ti78 rfl ti76 rfl rfl) (by decide) ?_
                  refine OL_yg rfl (by decide) rfl (y_fieldAddr ti76 rfl ti9 rfl rfl) (by decide) ?_
                  refine OL_yg rfl (by decide) rfl (y_loadS (v := .string c.tb.name) ti9 rfl rfl (Cells.unit (H.getOwn 0 rfl) rfl)) (by decide) ?_
                  refine OL_yg rfl (by decide) rfl (y_lenStr rfl Try.underlying9 rfl) (by decide) ?_
                  refine OL_yg (v := .bool false) rfl (by decide) rfl (y_gtrF hkk rfl rfl) (by decide) ?_
                  refine OL_y (y_pick (b := false) (v := .bool false) rfl rfl) (by decide) ?_
                  refine OL_nil ?_
                  refine W_condf rfl ?_
                  refine W_skip ?_
                  refine W_seq ?_
                  refine W_seq ?_
                  refine W_region ?_
                  refine OL_y (y_fieldAddr ti78 rfl ti72 rfl rfl) (by decide) ?_
                  refine OL_y (y_loadS (v := .slice a6 c.writes.length c6) ti72 rfl rfl (Cells.unit (H.getOwn 0 rfl) rfl)) (by decide) ?_
                  refine OL_y (y_len rfl ti72 rfl) (by decide) ?_
                  refine OL_y (y_move rfl) (by decide) ?_
                  refine OL_nil ?_
                  refine W_range (N := c.writes.length) (by simp only [maxLen]; omega) (fun k f ds w' => f 0 = .slice al l.length cl ∧ f 4 = .pointer (some ⟨b4, 0, none⟩) ∧ f 11 = .slice al l.length cl ∧ f 12 = .int .i64 (l.length : Nat) ∧ f 13 = .int .i64 (j : Nat) ∧ f 75 = .slice a6 c.writes.length c6 ∧ ds = [] ∧ (∀ x ∈ c.writes.take k, x.key.length ≤ 300) ∧ Holds w' [own b4 (.cells #[.int .u64 c.client, .int .u64 c.seq, .int .i64 c.kind, .int .u64 c.txn, .int .u64 c.ts, .bool c.flag, .int .u64 c.lk.txn, .int .i64 c.lk.level, .int .i64 c.lk.mode, .slice a1 c.lk.lo.length c1, .slice a2 c.lk.hi.length c2, .slice a3 c.lo.length c3, .slice a4 c.hi.length c4, .slice a5 c.txns.length c5, .slice a6 c.writes.length c6, .slice a7 c.keys.length c7, .int .i64 c.tb.id, .string c.tb.name, .slice a8 c.tb.cols.length c8, .int .i64 c.tb.key, .slice a9 c.tb.idx.length c9] 78), shr (fun k => k < w.heap.size) w])
                      ⟨h0, rfl, h11, htn, hti, rfl, rfl, by simp, H⟩
                      rfl rfl (by decide) (by decide) (by decide) rfl rfl ?_ rfl rfl ?_
                  · rintro k f ds w5 hk2 ⟨h0, h4, h11, h12, h13, h75, rfl, hok2, H⟩ htk htn2
                    have hxk := List.getElem?_eq_getElem hk2
                    have hsn2 : c.writes.take (k + 1) = c.writes.take k ++ [c.writes[k]] := by rw [List.take_add_one, hxk]; rfl
                    obtain ⟨by_, oy, csy, ey, hzy, hcy, hry⟩ := hwr.at hxk
                    have hcy' := hcy.ext ((H.keepsAll 1 rfl (fun _ => True)).2 _ trivial hcy.lt)
                    generalize c.writes[k] = x at *
                    have honey := tWr.one hry
                    obtain ⟨vk, vv, rfl, hk9, hv9⟩ := wr_cells.1 hry
                    have q5 := hk9.len1 (by decide)
                    have q6 := hv9.len1 (by decide)
                    obtain ⟨ak9, ck9, rfl, -, -⟩ := hk9.len
                    obtain ⟨av9, cv9, rfl, -, -⟩ := hv9.len
                    have h75' := h75.trans (congrArg (Value.slice · _ _) ey)
                    refine W_block ?_
                    refine W_seq ?_
                    refine W_region ?_
                    refine OL_y (y_indexAddr ti72 ti89 h75' htk (by omega) (by omega)) (by decide) ?_
                    refine OL_y (y_loadA (cs := [.slice ak9 x.key.length ck9, .bool x.dead, .slice av9 x.val.length cv9]) ti89 rfl rfl hcy' rfl) (by decide) ?_
                    refine OL_var (v := .agg #[.slice ak9 x.key.length ck9, .bool x.dead, .slice av9 x.val.length cv9]) H ti89 rfl (by decide) (fun _ => rfl) rfl (honey) fun b6 w8_2 H => ?_
                    refine OL_nil ?_
                    refine W_seq ?_
                    by_cases hw : (300 : Int) < ((x.key.length : Nat) : Int) + (x.val.length : Nat)
                    · refine W_region ?_
                      refine OL_y (y_fieldAddr ti89 rfl ti23 rfl rfl) (by decide) ?_
                      refine OL_y (y_loadS (v := .slice ak9 x.key.length ck9) ti23 rfl rfl (Cells.unit (H.getOwn 0 rfl) rfl)) (by decide) ?_
                      refine OL_y (y_len rfl ti23 rfl) (by decide) ?_
                      refine OL_y (y_fieldAddr ti89 rfl ti23 rfl rfl) (by decide) ?_
                      refine OL_y (y_loadS (v := .slice av9 x.val.length cv9) ti23 rfl rfl (Cells.unit (H.getOwn 0 rfl) rfl)) (by decide) ?_
                      refine OL_y (y_len rfl ti23 rfl) (by decide) ?_
                      refine OL_y (y_add64 rfl rfl (by omega) (by omega)) (by decide) ?_
                      refine OL_y (v := .bool true) (y_gtrT hw rfl rfl) (by decide) ?_
                      refine OL_nil ?_
                      refine W_condt rfl ?_
                      refine W_seq ?_
                      refine W_region ?_
                      refine OL_y (v := .bool false) (y_assign rfl) (by decide) ?_
                      refine OL_nil ?_
                      refine W_ret ?_
                      show RetOK _ _ _ _ _ _
                      exact ret1 (v := .bool false) Try.results29 rfl ⟨false, rfl, H.ext_of 2 rfl, fun h => by cases h⟩
                    · refine W_region ?_
                      refine OL_y (y_fieldAddr ti89 rfl ti23 rfl rfl) (by decide) ?_
                      refine OL_y (y_loadS (v := .slice ak9 x.key.length ck9) ti23 rfl rfl (Cells.unit (H.getOwn 0 rfl) rfl)) (by decide) ?_
                      refine OL_y (y_len rfl ti23 rfl) (by decide) ?_
                      refine OL_y (y_fieldAddr ti89 rfl ti23 rfl rfl) (by decide) ?_
                      refine OL_y (y_loadS (v := .slice av9 x.val.length cv9) ti23 rfl rfl (Cells.unit (H.getOwn 0 rfl) rfl)) (by decide) ?_
                      refine OL_y (y_len rfl ti23 rfl) (by decide) ?_
                      refine OL_y (y_add64 rfl rfl (by omega) (by omega)) (by decide) ?_
                      refine OL_y (v := .bool false) (y_gtrF hw rfl rfl) (by decide) ?_
                      refine OL_nil ?_
                      refine W_condf rfl ?_
                      refine W_skip ?_
                      refine ⟨htk, htn2, h0, h4, h11, h12, h13, h75, rfl, fun y hy => ?_, H.tail⟩
                      rw [hsn2] at hy
                      rcases List.mem_append.1 hy with hy | hy
                      · exact hok2 y hy
                      · have : y = x := by simpa using hy
                        subst this; omega
                  · rintro f ds w5 ⟨h0, h4, h11, h12, h13, h75, rfl, hok2, H⟩ htk htn2
                    rw [List.take_length] at hok2
                    have hcc : Smc c := ⟨by omega, by omega, hok2⟩
                    refine W_seq ?_
                    refine W_seq ?_
                    refine W_region ?_
                    refine OL_y (y_fieldAddr ti78 rfl ti30 rfl h4) (by decide) ?_
                    refine OL_y (y_loadS (v := .slice a7 c.keys.length c7) ti30 rfl rfl (Cells.unit (H.getOwn 0 rfl) rfl)) (by decide) ?_
                    refine OL_y (y_len rfl ti30 rfl) (by decide) ?_
                    refine OL_y (y_move rfl) (by decide) ?_
                    refine OL_nil ?_
                    refine W_range (N := c.keys.length) (by simp only [maxLen]; omega) (fun k f ds w' => f 0 = .slice al l.length cl ∧ f 4 = .pointer (some ⟨b4, 0, none⟩) ∧ f 11 = .slice al l.length cl ∧ f 12 = .int .i64 (l.length : Nat) ∧ f 13 = .int .i64 (j : Nat) ∧ f 91 = .slice a7 c.keys.length c7 ∧ ds = [] ∧ Holds w' [own b4 (.cells #[.int .u64 c.client, .int .u64 c.seq, .int .i64 c.kind, .int .u64 c.txn, .int .u64 c.ts, .bool c.flag, .int .u64 c.lk.txn, .int .i64 c.lk.level, .int .i64 c.lk.mode, .slice a1 c.lk.lo.length c1, .slice a2 c.lk.hi.length c2, .slice a3 c.lo.length c3, .slice a4 c.hi.length c4, .slice a5 c.txns.length c5, .slice a6 c.writes.length c6, .slice a7 c.keys.length c7, .int .i64 c.tb.id, .string c.tb.name, .slice a8 c.tb.cols.length c8, .int .i64 c.tb.key, .slice a9 c.tb.idx.length c9] 78), shr (fun k => k < w.heap.size) w])
                        ⟨h0, h4, h11, h12, h13, rfl, rfl, H⟩
                        rfl rfl (by decide) (by decide) (by decide) rfl rfl ?_ rfl rfl ?_
                    · rintro k f ds w6 hk2 ⟨h0, h4, h11, h12, h13, h91, rfl, H⟩ htk htn2
                      have hxk := List.getElem?_eq_getElem hk2
                      obtain ⟨by_, oy, csy, ey, hzy, hcy, vk, rfl, hk9⟩ := hke.at hxk
                      have hcy' := hcy.ext ((H.keepsAll 1 rfl (fun _ => True)).2 _ trivial hcy.lt)
                      generalize c.keys[k] = x at *
                      obtain ⟨ak9, ck9, rfl, -, -⟩ := hk9.len
                      have h91' := h91.trans (congrArg (Value.slice · _ _) ey)
                      refine W_block ?_
                      refine W_seq ?_
                      refine W_region ?_
                      refine OL_y (y_indexAddr ti30 ti23 h91' htk (by omega) (by omega)) (by decide) ?_
                      refine OL_y (y_loadS (v := .slice ak9 x.length ck9) ti23 rfl rfl hcy') (by decide) ?_
                      refine OL_y (y_assign rfl) (by decide) ?_
                      refine OL_nil ?_
                      refine W_seq ?_
                      by_cases hw : (100 : Int) < ((x.length : Nat) : Int)
                      · refine W_region ?_
                        refine OL_y (y_move rfl) (by decide) ?_
                        refine OL_y (y_len rfl ti23 rfl) (by decide) ?_
                        refine OL_y (v := .bool true) (y_gtrT hw rfl rfl) (by decide) ?_
                        refine OL_nil ?_
                        refine W_condt rfl ?_
                        refine W_seq ?_
                        refine W_region ?_
                        refine OL_y (v := .bool false) (y_assign rfl) (by decide) ?_
                        refine OL_nil ?_
                        refine W_ret ?_
                        show RetOK _ _ _ _ _ _
                        exact ret1 (v := .bool false) Try.results29 rfl ⟨false, rfl, H.ext_of 1 rfl, fun h => by cases h⟩
                      · refine W_region ?_
                        refine OL_y (y_move rfl) (by decide) ?_
                        refine OL_y (y_len rfl ti23 rfl) (by decide) ?_
                        refine OL_y (v := .bool false) (y_gtrF hw rfl rfl) (by decide) ?_
                        refine OL_nil ?_
                        refine W_condf rfl ?_
                        refine W_skip ?_
                        exact ⟨htk, htn2, h0, h4, h11, h12, h13, h91, rfl, H⟩
                    · rintro f ds w6 ⟨h0, h4, h11, h12, h13, h91, rfl, H⟩ htk htn2
                      refine W_seq ?_
                      refine W_region ?_
                      refine OL_y (y_fieldAddr ti78 rfl ti76 rfl h4) (by decide) ?_
                      refine OL_y (y_fieldAddr ti76 rfl ti73 rfl rfl) (by decide) ?_
                      refine OL_y (y_loadS (v := .slice a8 c.tb.cols.length c8) ti73 rfl rfl (Cells.unit (H.getOwn 0 rfl) rfl)) (by decide) ?_
                      refine OL_y (y_len rfl ti73 rfl) (by decide) ?_
                      refine OL_y (y_move rfl) (by decide) ?_
                      refine OL_nil ?_
                      refine W_range (N := c.tb.cols.length) (by simp only [maxLen]; omega) (fun k f ds w' => f 0 = .slice al l.length cl ∧ f 4 = .pointer (some ⟨b4, 0, none⟩) ∧ f 11 = .slice al l.length cl ∧ f 12 = .int .i64 (l.length : Nat) ∧ f 13 = .int .i64 (j : Nat) ∧ f 103 = .slice a8 c.tb.cols.length c8 ∧ ds = [] ∧ Holds w' [own b4 (.cells #[.int .u64 c.client, .int .u64 c.seq, .int .i64 c.kind, .int .u64 c.txn, .int .u64 c.ts, .bool c.flag, .int .u64 c.lk.txn, .int .i64 c.lk.level, .int .i64 c.lk.mode, .slice a1 c.lk.lo.length c1, .slice a2 c.lk.hi.length c2, .slice a3 c.lo.length c3, .slice a4 c.hi.length c4, .slice a5 c.txns.length c5, .slice a6 c.writes.length c6, .slice a7 c.keys.length c7, .int .i64 c.tb.id, .string c.tb.name, .slice a8 c.tb.cols.length c8, .int .i64 c.tb.key, .slice a9 c.tb.idx.length c9] 78), shr (fun k => k < w.heap.size) w])
                          ⟨h0, h4, h11, h12, h13, rfl, rfl, H⟩
                          rfl rfl (by decide) (by decide) (by decide) rfl rfl ?_ rfl rfl ?_
                      · rintro k f ds w7 hk2 ⟨h0, h4, h11, h12, h13, h103, rfl, H⟩ htk htn2
                        have hxk := List.getElem?_eq_getElem hk2
                        obtain ⟨by_, oy, csy, ey, hzy, hcy, hry⟩ := hco.at hxk
                        have hcy' := hcy.ext ((H.keepsAll 1 rfl (fun _ => True)).2 _ trivial hcy.lt)
                        generalize c.tb.cols[k] = x at *
                        have honey := tCo.one hry
                        obtain ⟨_, _, rfl, ⟨rfl, -⟩, _, _, rfl, ⟨rfl, -⟩, ⟨rfl, -⟩⟩ := hry
                        have h103' := h103.trans (congrArg (Value.slice · _ _) ey)
                        refine W_block ?_
                        refine W_seq ?_
                        refine W_region ?_
                        refine OL_y (y_indexAddr ti73 ti120 h103' htk (by omega) (by omega)) (by decide) ?_
                        refine OL_y (y_loadA (cs := [.string x.name, .int .i64 x.kind, .bool x.nn]) ti120 rfl rfl hcy' rfl) (by decide) ?_
                        refine OL_var (v := .agg #[.string x.name, .int .i64 x.kind, .bool x.nn]) H ti120 rfl (by decide) (fun _ => rfl) rfl (honey) fun b10 w20_2 H => ?_
                        refine OL_nil ?_
                        refine W_seq ?_
                        by_cases hw : (100 : Int) < ((x.name.size : Nat) : Int)
                        · refine W_region ?_
                          refine OL_y (y_fieldAddr ti120 rfl ti9 rfl rfl) (by decide) ?_
                          refine OL_y (y_loadS (v := .string x.name) ti9 rfl rfl (Cells.unit (H.getOwn 0 rfl) rfl)) (by decide) ?_
                          refine OL_y (y_lenStr rfl Try.underlying9 rfl) (by decide) ?_
                          refine OL_y (v := .bool true) (y_gtrT hw rfl rfl) (by decide) ?_
                          refine OL_nil ?_
                          refine W_condt rfl ?_
                          refine W_seq ?_
                          refine W_region ?_
                          refine OL_y (v := .bool false) (y_assign rfl) (by decide) ?_
                          refine OL_nil ?_
                          refine W_ret ?_
                          show RetOK _ _ _ _ _ _
                          exact ret1 (v := .bool false) Try.results29 rfl ⟨false, rfl, H.ext_of 2 rfl, fun h => by cases h⟩
                        · refine W_region ?_
                          refine OL_y (y_fieldAddr ti120 rfl ti9 rfl rfl) (by decide) ?_
                          refine OL_y (y_loadS (v := .string x.name) ti9 rfl rfl (Cells.unit (H.getOwn 0 rfl) rfl)) (by decide) ?_
                          refine OL_y (y_lenStr rfl Try.underlying9 rfl) (by decide) ?_
                          refine OL_y (v := .bool false) (y_gtrF hw rfl rfl) (by decide) ?_
                          refine OL_nil ?_
                          refine W_condf rfl ?_
                          refine W_skip ?_
                          exact ⟨htk, htn2, h0, h4, h11, h12, h13, h103, rfl, H.tail⟩
                      · rintro f ds w7 ⟨h0, h4, h11, h12, h13, h103, rfl, H⟩ htk htn2
                        refine ⟨h13, h12, h0, h11, rfl, fun y hy => ?_, H.tail⟩
                        rw [hsn] at hy
                        rcases List.mem_append.1 hy with hy | hy
                        · exact hok y hy
                        · have : y = c := by simpa using hy
                          subst this; exact hcc
  · rintro f ds w3 ⟨h0, h11, rfl, hok, H⟩ hti htn
    rw [List.take_length] at hok
    refine W_seq ?_
    refine W_region ?_
    refine OL_y (y_move h0) (by decide) ?_
    refine OL_y (y_len rfl ti57 rfl) (by decide) ?_
    refine OL_y (y_leq rfl rfl) (by decide) ?_
    refine OL_y (y_assign rfl) (by decide) ?_
    refine OL_nil ?_
    refine W_ret ?_
    show RetOK _ _ _ _ _ _
    exact ret1 (v := .bool (decide (((l.length : Nat) : Int) ≤ 40))) Try.results29 rfl ⟨_, rfl, H.ext_of 0 rfl, fun h => ⟨by have := of_decide_eq_true h; omega, hok⟩⟩
end Go.Proofs.Ytpandioolpnihaa

/- Rows of cells compared. -/
namespace Go.Proofs.Ytpandioolpnihaa
open Go Go.Wk
set_option linter.unusedVariables false
set_option linter.unusedSimpArgs false

set_option maxHeartbeats 16000000 in
theorem f24_calls {Z Z' : Nat → Prop} {w : World} {va vb : Value} {xs ys : List Cl} (hx : SlR tCl 120 Z w va xs) (hy : SlR tCl 120 Z' w vb ys) :
    Calls Try.prog 24 [va, vb].toArray w fun e w' => e = .returned (.bool (decide (xs = ys))) ∧ Ext none' w w' := by
  have H := Holds.start w
  have hN := hx.len1 (by decide)
  have hM := hy.len1 (by decide)
  obtain ⟨a0, c0, rfl, hl0, hm0⟩ := hx.len
  obtain ⟨a1, c1, rfl, hl1, hm1⟩ := hy.len
  refine calls_of_W' Try.func24 rfl Try.ntmps24 rfl ?_
  refine W_seq ?_
  refine W_region ?_
  refine OL_y (v := .bool false) (y_assign rfl) (by decide) ?_
  refine OL_nil ?_
  refine W_seq ?_
  refine W_seq ?_
  refine W_region ?_
  refine OL_y (y_move rfl) (by decide) ?_
  refine OL_y (y_len rfl ti49 rfl) (by decide) ?_
  refine OL_y (y_move rfl) (by decide) ?_
  refine OL_y (y_len rfl ti49 rfl) (by decide) ?_
  refine OL_y (y_neq rfl rfl) (by decide) ?_
  refine OL_nil ?_
  refine W_cond rfl (fun hc => ?_) (fun hc => ?_)
  · refine W_seq ?_
    refine W_region ?_
    refine OL_y (v := .bool false) (y_assign rfl) (by decide) ?_
    refine OL_nil ?_
    refine W_ret ?_
    show RetOK _ _ _ _ _ _
    have hc := of_decide_eq_true hc
    exact ret1 (v := .bool false) Try.results24 rfl ⟨by rw [decide_eq_false (fun h => hc (by rw [h]))], H.ext_of 0 rfl⟩
  · refine W_skip ?_
    refine W_seq ?_
    refine W_seq ?_
    have hlen : xs.length = ys.length := by have := of_decide_eq_false hc; omega
    refine W_region ?_
    refine OL_y (y_move rfl) (by decide) ?_
    refine OL_y (y_len rfl ti49 rfl) (by decide) ?_
    refine OL_y (y_move rfl) (by decide) ?_
    refine OL_nil ?_
    refine W_range (N := xs.length) (by omega) (fun j f ds w' => f 0 = .slice a0 xs.length c0 ∧ f 1 = .slice a1 ys.length c1 ∧ ds = [] ∧ xs.take j = ys.take j ∧ Holds w' [shr (fun k => k < w.heap.size) w])
        ⟨rfl, rfl, rfl, by simp, H⟩
        rfl rfl (by decide) (by decide) (by decide) rfl rfl ?_ rfl rfl ?_
    · rintro j f ds w2 hj ⟨h0, h1, rfl, heq, H⟩ hti htn
      have hxj := List.getElem?_eq_getElem hj
      have hyj : ys[j]? = some (ys[j]'(by omega)) := List.getElem?_eq_getElem (by omega)
      obtain ⟨b2, o2, cs2, e2, hz2, hc2, hr2⟩ := hx.at hxj
      obtain ⟨b3, o3, cs3, e3, hz3, hc3, hr3⟩ := hy.at hyj
      have htx : xs.take (j + 1) = xs.take j ++ [xs[j]] := by rw [List.take_add_one, hxj]; rfl
      have hty : ys.take (j + 1) = ys.take j ++ [ys[j]'(by omega)] := by rw [List.take_add_one, hyj]; rfl
      generalize xs[j] = x at *
      generalize ys[j]'(by omega) = y at *
      obtain ⟨xk, xv, _, rfl, hxk, hxv, hxi⟩ := cl_cells.1 hr2
      obtain ⟨yk, yv, _, rfl, hyk, hyv, hyi⟩ := cl_cells.1 hr3
      obtain ⟨xa, xb, rfl, -⟩ := ver_cells.1 hxi
      obtain ⟨ya, yb, rfl, -⟩ := ver_cells.1 hyi
      obtain ⟨ax, cx, rfl, hlx, hmx⟩ := hxv.len
      obtain ⟨ay, cy, rfl, hly, hmy⟩ := hyv.len
      have hLx := hxv.len1 (by decide)
      have hLy := hyv.len1 (by decide)
      have hCx : ∀ {w'}, Holds w' [shr (fun k => k < w.heap.size) w] → Cells w' b2 (o2 + j * 7) [xk, .slice ax x.vers.length cx, .int .u64 x.intent.ts, .int .u64 x.intent.txn, .bool x.intent.dead, xa, xb] := fun {w'} h => hc2.ext ((h.keepsAll 0 rfl Z).2 _ hz2 hc2.lt)
      have hCy : ∀ {w'}, Holds w' [shr (fun k => k < w.heap.size) w] → Cells w' b3 (o3 + j * 7) [yk, .slice ay y.vers.length cy, .int .u64 y.intent.ts, .int .u64 y.intent.txn, .bool y.intent.dead, ya, yb] := fun {w'} h => hc3.ext ((h.keepsAll 0 rfl Z').2 _ hz3 hc3.lt)
      refine W_block ?_
      refine W_seq ?_
      refine W_region ?_
      refine OL_y (y_move hti) (by decide) ?_
      refine OL_y (y_assign rfl) (by decide) ?_
      refine OL_nil ?_
      refine W_seq ?_
      refine W_seq ?_
      by_cases hk : kb x.key = kb y.key
      · by_cases hi : x.intent = y.intent
        · by_cases hl : ((x.vers.length : Nat) : Int) = ((y.vers.length : Nat) : Int)
          · refine W_drawD H mixed (by kernel_rfl) [] (fun wq w' => Holds w' [shr (fun k => k < w.heap.size) w]) fun wd6 H hEd => ?_
            have hS : ∀ {ls : Array Bool}, Sx [] (fun w' => Holds w' [shr (fun k => k < w.heap.size) w]) ls wd6 := fun {_} _ => H
            refine DA_p 0 rfl (by kernel_rfl) rfl (fun _ => y_move h0) hS (by decide) fun hS => ?_
            refine DA_p 1 rfl (by kernel_rfl) rfl (fun _ => y_move rfl) hS (by decide) fun hS => ?_
            refine DA_p 2 rfl (by kernel_rfl) rfl (fun _ => y_indexAddr ti49 ti55 (congrArg (Value.slice · _ _) e2) rfl (by omega) (by omega)) hS (by decide) fun hS => ?_
            refine DA_p 3 rfl (by kernel_rfl) rfl (fun _ => y_fieldAddr ti55 rfl ti23 rfl rfl) hS (by decide) fun hS => ?_
            refine DA_y 4 rfl (by kernel_rfl) rfl (by kernel_rfl) (fun w' h => y_loadS (v := xk) ti23 rfl rfl ((hCx h).take 0 rfl)) hS (by decide) fun hS => ?_
            refine DA_y 5 rfl (by kernel_rfl) rfl (by kernel_rfl) (fun w' h => y_toStr (w := w') Try.underlying23 Try.underlying5 Try.underlying9 rfl (hxk.keeps (h.keepsAll 0 rfl _))) hS (by decide) fun hS => ?_
            refine DA_p 6 rfl (by kernel_rfl) rfl (fun _ => y_move h1) hS (by decide) fun hS => ?_
            refine DA_p 7 rfl (by kernel_rfl) rfl (fun _ => y_move rfl) hS (by decide) fun hS => ?_
            refine DA_p 8 rfl (by kernel_rfl) rfl (fun _ => y_indexAddr ti49 ti55 (congrArg (Value.slice · _ _) e3) rfl (by omega) (by omega)) hS (by decide) fun hS => ?_
            refine DA_p 9 rfl (by kernel_rfl) rfl (fun _ => y_fieldAddr ti55 rfl ti23 rfl rfl) hS (by decide) fun hS => ?_
            refine DA_y 10 rfl (by kernel_rfl) rfl (by kernel_rfl) (fun w' h => y_loadS (v := yk) ti23 rfl rfl ((hCy h).take 0 rfl)) hS (by decide) fun hS => ?_
            refine DA_y 11 rfl (by kernel_rfl) rfl (by kernel_rfl) (fun w' h => y_toStr (w := w') Try.underlying23 Try.underlying5 Try.underlying9 rfl (hyk.keeps (h.keepsAll 0 rfl _))) hS (by decide) fun hS => ?_
            refine DA_p (v := .bool false) 12 rfl (by kernel_rfl) rfl (fun _ => y_neqSF hk rfl rfl) hS (by decide) fun hS => ?_
            refine DA_p (v := .bool false) 13 rfl (by kernel_rfl) rfl (fun _ => y_move rfl) hS (by decide) fun hS => ?_
            refine DA_pg 14 rfl rfl (by decide) rfl (by kernel_rfl) rfl (fun _ => y_move h0) hS (by decide) fun hS => ?_
            refine DA_pg 15 rfl rfl (by decide) rfl (by kernel_rfl) rfl (fun _ => y_move rfl) hS (by decide) fun hS => ?_
            refine DA_pg 16 rfl rfl (by decide) rfl (by kernel_rfl) rfl (fun _ => y_indexAddr ti49 ti55 (congrArg (Value.slice · _ _) e2) rfl (by omega) (by omega)) hS (by decide) fun hS => ?_
            refine DA_pg 17 rfl rfl (by decide) rfl (by kernel_rfl) rfl (fun _ => y_fieldAddr ti55 rfl ti32 rfl rfl) hS (by decide) fun hS => ?_
            refine DA_yg 18 rfl rfl (by decide) rfl (by kernel_rfl) rfl (by kernel_rfl) (fun w' h => y_loadA (cs := [.int .u64 x.intent.ts, .int .u64 x.intent.txn, .bool x.intent.dead, xa, xb]) ti32 rfl rfl ((hCx h).take 2 rfl) rfl) hS (by decide) fun hS => ?_
            refine DA_pg 19 rfl rfl (by decide) rfl (by kernel_rfl) rfl (fun _ => y_move h1) hS (by decide) fun hS => ?_
            refine DA_pg 20 rfl rfl (by decide) rfl (by kernel_rfl) rfl (fun _ => y_move rfl) hS (by decide) fun hS => ?_
            refine DA_pg 21 rfl rfl (by decide) rfl (by kernel_rfl) rfl (fun _ => y_indexAddr ti49 ti55 (congrArg (Value.slice · _ _) e3) rfl (by omega) (by omega)) hS (by decide) fun hS => ?_
            refine DA_pg 22 rfl rfl (by decide) rfl (by kernel_rfl) rfl (fun _ => y_fieldAddr ti55 rfl ti32 rfl rfl) hS (by decide) fun hS => ?_
            refine DA_yg 23 rfl rfl (by decide) rfl (by kernel_rfl) rfl (by kernel_rfl) (fun w' h => y_loadA (cs := [.int .u64 y.intent.ts, .int .u64 y.intent.txn, .bool y.intent.dead, ya, yb]) ti32 rfl rfl ((hCy h).take 2 rfl) rfl) hS (by decide) fun hS => ?_
            refine DA_oneg 24 (by kernel_rfl) rfl rfl (by decide) rfl (op_call 15 en15 rfl [.agg #[.int .u64 x.intent.ts, .int .u64 x.intent.txn, .bool x.intent.dead, xa, xb], .agg #[.int .u64 y.intent.ts, .int .u64 y.intent.txn, .bool y.intent.dead, ya, yb]] rfl (by decide) ((f15_calls (tVer.keeps hxi (H.keepsAll 0 rfl _)) (tVer.keeps hyi (H.keepsAll 0 rfl _))).mono ?_))
            rintro e w6_24 ⟨rfl, hE15⟩
            refine ⟨_, rfl, fun _ => H.ext0 hE15, ?_⟩
            have H := H.ext0 hE15
            rw [decide_eq_true hi]
            have hS : ∀ {ls : Array Bool}, Sx [] (fun w' => Holds w' [shr (fun k => k < w.heap.size) w]) ls w6_24 := fun {_} _ => H
            refine DA_pg (v := .bool false) 25 rfl rfl (by decide) rfl (by kernel_rfl) rfl (fun _ => y_not (b := true) rfl) hS (by decide) fun hS => ?_
            refine DA_p 26 rfl (by kernel_rfl) rfl (fun _ => y_pick (b := false) (v := .bool false) rfl rfl) hS (by decide) fun hS => ?_
            refine DA_p (v := .bool false) 27 rfl (by kernel_rfl) rfl (fun _ => y_move rfl) hS (by decide) fun hS => ?_
            refine DA_pg 28 rfl rfl (by decide) rfl (by kernel_rfl) rfl (fun _ => y_move h0) hS (by decide) fun hS => ?_
            refine DA_pg 29 rfl rfl (by decide) rfl (by kernel_rfl) rfl (fun _ => y_move rfl) hS (by decide) fun hS => ?_
            refine DA_pg 30 rfl rfl (by decide) rfl (by kernel_rfl) rfl (fun _ => y_indexAddr ti49 ti55 (congrArg (Value.slice · _ _) e2) rfl (by omega) (by omega)) hS (by decide) fun hS => ?_
            refine DA_pg 31 rfl rfl (by decide) rfl (by kernel_rfl) rfl (fun _ => y_fieldAddr ti55 rfl ti53 rfl rfl) hS (by decide) fun hS => ?_
            refine DA_yg 32 rfl rfl (by decide) rfl (by kernel_rfl) rfl (by kernel_rfl) (fun w' h => y_loadS (v := .slice ax x.vers.length cx) ti53 rfl rfl ((hCx h).take 1 rfl)) hS (by decide) fun hS => ?_
            refine DA_pg 33 rfl rfl (by decide) rfl (by kernel_rfl) rfl (fun _ => y_len rfl ti53 rfl) hS (by decide) fun hS => ?_
            refine DA_pg 34 rfl rfl (by decide) rfl (by kernel_rfl) rfl (fun _ => y_move h1) hS (by decide) fun hS => ?_
            refine DA_pg 35 rfl rfl (by decide) rfl (by kernel_rfl) rfl (fun _ => y_move rfl) hS (by decide) fun hS => ?_
            refine DA_pg 36 rfl rfl (by decide) rfl (by kernel_rfl) rfl (fun _ => y_indexAddr ti49 ti55 (congrArg (Value.slice · _ _) e3) rfl (by omega) (by omega)) hS (by decide) fun hS => ?_
            refine DA_pg 37 rfl rfl (by decide) rfl (by kernel_rfl) rfl (fun _ => y_fieldAddr ti55 rfl ti53 rfl rfl) hS (by decide) fun hS => ?_
            refine DA_yg 38 rfl rfl (by decide) rfl (by kernel_rfl) rfl (by kernel_rfl) (fun w' h => y_loadS (v := .slice ay y.vers.length cy) ti53 rfl rfl ((hCy h).take 1 rfl)) hS (by decide) fun hS => ?_
            refine DA_pg 39 rfl rfl (by decide) rfl (by kernel_rfl) rfl (fun _ => y_len rfl ti53 rfl) hS (by decide) fun hS => ?_
            refine DA_pg (v := .bool false) 40 rfl rfl (by decide) rfl (by kernel_rfl) rfl (fun _ => y_neqF hl rfl rfl) hS (by decide) fun hS => ?_
            refine DA_p 41 rfl (by kernel_rfl) rfl (fun _ => y_pick (b := false) (v := .bool false) rfl rfl) hS (by decide) fun hS => ?_
            refine DA_done (by kernel_rfl) ?_
            refine W_condf rfl ?_
            refine W_skip ?_
            refine W_seq ?_
            refine W_region ?_
            refine OL_y (y_move h0) (by decide) ?_
            refine OL_y (y_move rfl) (by decide) ?_
            refine OL_y (y_indexAddr ti49 ti55 (congrArg (Value.slice · _ _) e2) rfl (by omega) (by omega)) (by decide) ?_
            refine OL_y (y_fieldAddr ti55 rfl ti53 rfl rfl) (by decide) ?_
            refine OL_y (y_loadS (v := .slice ax x.vers.length cx) ti53 rfl rfl ((hCx H).take 1 rfl)) (by decide) ?_
            refine OL_y (y_len rfl ti53 rfl) (by decide) ?_
            refine OL_y (y_move rfl) (by decide) ?_
            refine OL_nil ?_
            refine W_range (N := x.vers.length) (by omega) (fun k f ds w' => f 0 = .slice a0 xs.length c0 ∧ f 1 = .slice a1 ys.length c1 ∧ f 5 = .int .i64 (j : Nat) ∧ f 13 = .int .i64 (xs.length : Nat) ∧ f 14 = .int .i64 (j : Nat) ∧ ds = [] ∧ x.vers.take k = y.vers.take k ∧ Holds w' [shr (fun k => k < w.heap.size) w])
                ⟨h0, h1, rfl, htn, hti, rfl, by simp, H⟩
                rfl rfl (by decide) (by decide) (by decide) rfl rfl ?_ rfl rfl ?_
            · rintro k f ds w9 hk2 ⟨h0, h1, h5, h13, h14, rfl, heq2, H⟩ htk2 htn2
              have hxk2 := List.getElem?_eq_getElem hk2
              have hyk2 : y.vers[k]? = some (y.vers[k]'(by omega)) := List.getElem?_eq_getElem (by omega)
              obtain ⟨b4, o4, cs4, e4, hz4, hc4, hr4⟩ := hxv.at hxk2
              obtain ⟨b5, o5, cs5, e5, hz5, hc5, hr5⟩ := hyv.at hyk2
              have htx2 : x.vers.take (k + 1) = x.vers.take k ++ [x.vers[k]] := by rw [List.take_add_one, hxk2]; rfl
              have hty2 : y.vers.take (k + 1) = y.vers.take k ++ [y.vers[k]'(by omega)] := by rw [List.take_add_one, hyk2]; rfl
              generalize x.vers[k] = u at *
              generalize y.vers[k]'(by omega) = v at *
              refine W_block ?_
              refine W_seq ?_
              refine W_region ?_
              refine OL_y (y_move htk2) (by decide) ?_
              refine OL_y (y_assign rfl) (by decide) ?_
              refine OL_nil ?_
              refine W_seq ?_
              refine W_drawD H mixed (by kernel_rfl) [] (fun wq w' => Holds w' [shr (fun k => k < w.heap.size) w]) fun wd11 H hEd => ?_
              have hS : ∀ {ls : Array Bool}, Sx [] (fun w' => Holds w' [shr (fun k => k < w.heap.size) w]) ls wd11 := fun {_} _ => H
              refine DA_p 0 rfl (by kernel_rfl) rfl (fun _ => y_move h0) hS (by decide) fun hS => ?_
              refine DA_p 1 rfl (by kernel_rfl) rfl (fun _ => y_move h5) hS (by decide) fun hS => ?_
              refine DA_p 2 rfl (by kernel_rfl) rfl (fun _ => y_indexAddr ti49 ti55 (congrArg (Value.slice · _ _) e2) rfl (by omega) (by omega)) hS (by decide) fun hS => ?_
              refine DA_p 3 rfl (by kernel_rfl) rfl (fun _ => y_fieldAddr ti55 rfl ti53 rfl rfl) hS (by decide) fun hS => ?_
              refine DA_y 4 rfl (by kernel_rfl) rfl (by kernel_rfl) (fun w' h => y_loadS (v := .slice ax x.vers.length cx) ti53 rfl rfl ((hCx h).take 1 rfl)) hS (by decide) fun hS => ?_
              refine DA_p 5 rfl (by kernel_rfl) rfl (fun _ => y_move rfl) hS (by decide) fun hS => ?_
              refine DA_p 6 rfl (by kernel_rfl) rfl (fun _ => y_indexAddr ti53 ti32 (congrArg (Value.slice · _ _) e4) rfl (by omega) (by omega)) hS (by decide) fun hS => ?_
              refine DA_y 7 rfl (by kernel_rfl) rfl (by kernel_rfl) (fun w' h => y_loadA (cs := cs4) ti32 rfl rfl (hc4.ext ((h.keepsAll 0 rfl Z).2 _ hz4 hc4.lt)) (tVer.len hr4).symm) hS (by decide) fun hS => ?_
              refine DA_p 8 rfl (by kernel_rfl) rfl (fun _ => y_move h1) hS (by decide) fun hS => ?_
              refine DA_p 9 rfl (by kernel_rfl) rfl (fun _ => y_move h5) hS (by decide) fun hS => ?_
              refine DA_p 10 rfl (by kernel_rfl) rfl (fun _ => y_indexAddr ti49 ti55 (congrArg (Value.slice · _ _) e3) rfl (by omega) (by omega)) hS (by decide) fun hS => ?_
              refine DA_p 11 rfl (by kernel_rfl) rfl (fun _ => y_fieldAddr ti55 rfl ti53 rfl rfl) hS (by decide) fun hS => ?_
              refine DA_y 12 rfl (by kernel_rfl) rfl (by kernel_rfl) (fun w' h => y_loadS (v := .slice ay y.vers.length cy) ti53 rfl rfl ((hCy h).take 1 rfl)) hS (by decide) fun hS => ?_
              refine DA_p 13 rfl (by kernel_rfl) rfl (fun _ => y_move rfl) hS (by decide) fun hS => ?_
              refine DA_p 14 rfl (by kernel_rfl) rfl (fun _ => y_indexAddr ti53 ti32 (congrArg (Value.slice · _ _) e5) rfl (by omega) (by omega)) hS (by decide) fun hS => ?_
              refine DA_y 15 rfl (by kernel_rfl) rfl (by kernel_rfl) (fun w' h => y_loadA (cs := cs5) ti32 rfl rfl (hc5.ext ((h.keepsAll 0 rfl Z').2 _ hz5 hc5.lt)) (tVer.len hr5).symm) hS (by decide) fun hS => ?_
              refine DA_one 16 (by kernel_rfl) rfl (op_call 15 en15 rfl [.agg cs4.toArray, .agg cs5.toArray] rfl (by decide) ((f15_calls (tVer.keeps hr4 (H.keepsAll 0 rfl _)) (tVer.keeps hr5 (H.keepsAll 0 rfl _))).mono ?_))
              rintro e w11_16 ⟨rfl, hE15⟩
              refine ⟨_, rfl, fun _ => H.ext0 hE15, ?_⟩
              have H := H.ext0 hE15
              have hS : ∀ {ls : Array Bool}, Sx [] (fun w' => Holds w' [shr (fun k => k < w.heap.size) w]) ls w11_16 := fun {_} _ => H
              refine DA_p 17 rfl (by kernel_rfl) rfl (fun _ => y_not rfl) hS (by decide) fun hS => ?_
              refine DA_done (by kernel_rfl) ?_
              refine W_cond rfl (fun hc => ?_) (fun hc => ?_)
              · refine W_seq ?_
                refine W_region ?_
                refine OL_y (v := .bool false) (y_assign rfl) (by decide) ?_
                refine OL_nil ?_
                refine W_ret ?_
                show RetOK _ _ _ _ _ _
                have hne : ¬ u = v := by simpa using hc
                refine ret1 (v := .bool false) Try.results24 rfl ⟨?_, H.ext_of 0 rfl⟩
                rw [decide_eq_false]; intro h; subst h
                rw [hxj] at hyj; injection hyj with hyj
                subst hyj
                rw [hxk2] at hyk2; injection hyk2 with hyk2; exact hne hyk2
              · refine W_skip ?_
                have hee : u = v := by simpa using hc
                exact ⟨htk2, htn2, h0, h1, h5, h13, h14, rfl, by rw [htx2, hty2, heq2, hee], H⟩
            · rintro f ds w9 ⟨h0, h1, h5, h13, h14, rfl, heq2, H⟩ htk2 htn2
              rw [List.take_length, show x.vers.length = y.vers.length by omega, List.take_length] at heq2
              have hkk : x.key = y.key := kb_inj hxk.allIn hyk.allIn hk
              have hxy : x = y := by obtain ⟨q1, q2, q3⟩ := x; obtain ⟨q4, q5, q6⟩ := y; simp only at hkk hi heq2; rw [hkk, hi, heq2]
              exact ⟨h14, h13, h0, h1, rfl, by rw [htx, hty, heq, hxy], H⟩
          · refine W_drawD H mixed (by kernel_rfl) [] (fun wq w' => Holds w' [shr (fun k => k < w.heap.size) w]) fun wd6 H hEd => ?_
            have hS : ∀ {ls : Array Bool}, Sx [] (fun w' => Holds w' [shr (fun k => k < w.heap.size) w]) ls wd6 := fun {_} _ => H
            refine DA_p 0 rfl (by kernel_rfl) rfl (fun _ => y_move h0) hS (by decide) fun hS => ?_
            refine DA_p 1 rfl (by kernel_rfl) rfl (fun _ => y_move rfl) hS (by decide) fun hS => ?_
            refine DA_p 2 rfl (by kernel_rfl) rfl (fun _ => y_indexAddr ti49 ti55 (congrArg (Value.slice · _ _) e2) rfl (by omega) (by omega)) hS (by decide) fun hS => ?_
            refine DA_p 3 rfl (by kernel_rfl) rfl (fun _ => y_fieldAddr ti55 rfl ti23 rfl rfl) hS (by decide) fun hS => ?_
            refine DA_y 4 rfl (by kernel_rfl) rfl (by kernel_rfl) (fun w' h => y_loadS (v := xk) ti23 rfl rfl ((hCx h).take 0 rfl)) hS (by decide) fun hS => ?_
            refine DA_y 5 rfl (by kernel_rfl) rfl (by kernel_rfl) (fun w' h => y_toStr (w := w') Try.underlying23 Try.underlying5 Try.underlying9 rfl (hxk.keeps (h.keepsAll 0 rfl _))) hS (by decide) fun hS => ?_
            refine DA_p 6 rfl (by kernel_rfl) rfl (fun _ => y_move h1) hS (by decide) fun hS => ?_
            refine DA_p 7 rfl (by kernel_rfl) rfl (fun _ => y_move rfl) hS (by decide) fun hS => ?_
            refine DA_p 8 rfl (by kernel_rfl) rfl (fun _ => y_indexAddr ti49 ti55 (congrArg (Value.slice · _ _) e3) rfl (by omega) (by omega)) hS (by decide) fun hS => ?_
            refine DA_p 9 rfl (by kernel_rfl) rfl (fun _ => y_fieldAddr ti55 rfl ti23 rfl rfl) hS (by decide) fun hS => ?_
            refine DA_y 10 rfl (by kernel_rfl) rfl (by kernel_rfl) (fun w' h => y_loadS (v := yk) ti23 rfl rfl ((hCy h).take 0 rfl)) hS (by decide) fun hS => ?_
            refine DA_y 11 rfl (by kernel_rfl) rfl (by kernel_rfl) (fun w' h => y_toStr (w := w') Try.underlying23 Try.underlying5 Try.underlying9 rfl (hyk.keeps (h.keepsAll 0 rfl _))) hS (by decide) fun hS => ?_
            refine DA_p (v := .bool false) 12 rfl (by kernel_rfl) rfl (fun _ => y_neqSF hk rfl rfl) hS (by decide) fun hS => ?_
            refine DA_p (v := .bool false) 13 rfl (by kernel_rfl) rfl (fun _ => y_move rfl) hS (by decide) fun hS => ?_
            refine DA_pg 14 rfl rfl (by decide) rfl (by kernel_rfl) rfl (fun _ => y_move h0) hS (by decide) fun hS => ?_
            refine DA_pg 15 rfl rfl (by decide) rfl (by kernel_rfl) rfl (fun _ => y_move rfl) hS (by decide) fun hS => ?_
            refine DA_pg 16 rfl rfl (by decide) rfl (by kernel_rfl) rfl (fun _ => y_indexAddr ti49 ti55 (congrArg (Value.slice · _ _) e2) rfl (by omega) (by omega)) hS (by decide) fun hS => ?_
            refine DA_pg 17 rfl rfl (by decide) rfl (by kernel_rfl) rfl (fun _ => y_fieldAddr ti55 rfl ti32 rfl rfl) hS (by decide) fun hS => ?_
            refine DA_yg 18 rfl rfl (by decide) rfl (by kernel_rfl) rfl (by kernel_rfl) (fun w' h => y_loadA (cs := [.int .u64 x.intent.ts, .int .u64 x.intent.txn, .bool x.intent.dead, xa, xb]) ti32 rfl rfl ((hCx h).take 2 rfl) rfl) hS (by decide) fun hS => ?_
            refine DA_pg 19 rfl rfl (by decide) rfl (by kernel_rfl) rfl (fun _ => y_move h1) hS (by decide) fun hS => ?_
            refine DA_pg 20 rfl rfl (by decide) rfl (by kernel_rfl) rfl (fun _ => y_move rfl) hS (by decide) fun hS => ?_
            refine DA_pg 21 rfl rfl (by decide) rfl (by kernel_rfl) rfl (fun _ => y_indexAddr ti49 ti55 (congrArg (Value.slice · _ _) e3) rfl (by omega) (by omega)) hS (by decide) fun hS => ?_
            refine DA_pg 22 rfl rfl (by decide) rfl (by kernel_rfl) rfl (fun _ => y_fieldAddr ti55 rfl ti32 rfl rfl) hS (by decide) fun hS => ?_
            refine DA_yg 23 rfl rfl (by decide) rfl (by kernel_rfl) rfl (by kernel_rfl) (fun w' h => y_loadA (cs := [.int .u64 y.intent.ts, .int .u64 y.intent.txn, .bool y.intent.dead, ya, yb]) ti32 rfl rfl ((hCy h).take 2 rfl) rfl) hS (by decide) fun hS => ?_
            refine DA_oneg 24 (by kernel_rfl) rfl rfl (by decide) rfl (op_call 15 en15 rfl [.agg #[.int .u64 x.intent.ts, .int .u64 x.intent.txn, .bool x.intent.dead, xa, xb], .agg #[.int .u64 y.intent.ts, .int .u64 y.intent.txn, .bool y.intent.dead, ya, yb]] rfl (by decide) ((f15_calls (tVer.keeps hxi (H.keepsAll 0 rfl _)) (tVer.keeps hyi (H.keepsAll 0 rfl _))).mono ?_))
            rintro e w6_24 ⟨rfl, hE15⟩
            refine ⟨_, rfl, fun _ => H.ext0 hE15, ?_⟩
            have H := H.ext0 hE15
            rw [decide_eq_true hi]
            have hS : ∀ {ls : Array Bool}, Sx [] (fun w' => Holds w' [shr (fun k => k < w.heap.size) w]) ls w6_24 := fun {_} _ => H
            refine DA_pg (v := .bool false) 25 rfl rfl (by decide) rfl (by kernel_rfl) rfl (fun _ => y_not (b := true) rfl) hS (by decide) fun hS => ?_
            refine DA_p 26 rfl (by kernel_rfl) rfl (fun _ => y_pick (b := false) (v := .bool false) rfl rfl) hS (by decide) fun hS => ?_
            refine DA_p (v := .bool false) 27 rfl (by kernel_rfl) rfl (fun _ => y_move rfl) hS (by decide) fun hS => ?_
            refine DA_pg 28 rfl rfl (by decide) rfl (by kernel_rfl) rfl (fun _ => y_move h0) hS (by decide) fun hS => ?_
            refine DA_pg 29 rfl rfl (by decide) rfl (by kernel_rfl) rfl (fun _ => y_move rfl) hS (by decide) fun hS => ?_
            refine DA_pg 30 rfl rfl (by decide) rfl (by kernel_rfl) rfl (fun _ => y_indexAddr ti49 ti55 (congrArg (Value.slice · _ _) e2) rfl (by omega) (by omega)) hS (by decide) fun hS => ?_
            refine DA_pg 31 rfl rfl (by decide) rfl (by kernel_rfl) rfl (fun _ => y_fieldAddr ti55 rfl ti53 rfl rfl) hS (by decide) fun hS => ?_
            refine DA_yg 32 rfl rfl (by decide) rfl (by kernel_rfl) rfl (by kernel_rfl) (fun w' h => y_loadS (v := .slice ax x.vers.length cx) ti53 rfl rfl ((hCx h).take 1 rfl)) hS (by decide) fun hS => ?_
            refine DA_pg 33 rfl rfl (by decide) rfl (by kernel_rfl) rfl (fun _ => y_len rfl ti53 rfl) hS (by decide) fun hS => ?_
            refine DA_pg 34 rfl rfl (by decide) rfl (by kernel_rfl) rfl (fun _ => y_move h1) hS (by decide) fun hS => ?_
            refine DA_pg 35 rfl rfl (by decide) rfl (by kernel_rfl) rfl (fun _ => y_move rfl) hS (by decide) fun hS => ?_
            refine DA_pg 36 rfl rfl (by decide) rfl (by kernel_rfl) rfl (fun _ => y_indexAddr ti49 ti55 (congrArg (Value.slice · _ _) e3) rfl (by omega) (by omega)) hS (by decide) fun hS => ?_
            refine DA_pg 37 rfl rfl (by decide) rfl (by kernel_rfl) rfl (fun _ => y_fieldAddr ti55 rfl ti53 rfl rfl) hS (by decide) fun hS => ?_
            refine DA_yg 38 rfl rfl (by decide) rfl (by kernel_rfl) rfl (by kernel_rfl) (fun w' h => y_loadS (v := .slice ay y.vers.length cy) ti53 rfl rfl ((hCy h).take 1 rfl)) hS (by decide) fun hS => ?_
            refine DA_pg 39 rfl rfl (by decide) rfl (by kernel_rfl) rfl (fun _ => y_len rfl ti53 rfl) hS (by decide) fun hS => ?_
            refine DA_pg (v := .bool true) 40 rfl rfl (by decide) rfl (by kernel_rfl) rfl (fun _ => y_neqT hl rfl rfl) hS (by decide) fun hS => ?_
            refine DA_p 41 rfl (by kernel_rfl) rfl (fun _ => y_pick (b := false) (v := .bool true) rfl rfl) hS (by decide) fun hS => ?_
            refine DA_done (by kernel_rfl) ?_
            refine W_condt rfl ?_
            refine W_seq ?_
            refine W_region ?_
            refine OL_y (v := .bool false) (y_assign rfl) (by decide) ?_
            refine OL_nil ?_
            refine W_ret ?_
            show RetOK _ _ _ _ _ _
            refine ret1 (v := .bool false) Try.results24 rfl ⟨?_, H.ext_of 0 rfl⟩
            rw [decide_eq_false]; intro h; subst h
            rw [hxj] at hyj; injection hyj with hyj; exact hl (by rw [hyj])
        · refine W_drawD H mixed (by kernel_rfl) [] (fun wq w' => Holds w' [shr (fun k => k < w.heap.size) w]) fun wd6 H hEd => ?_
          have hS : ∀ {ls : Array Bool}, Sx [] (fun w' => Holds w' [shr (fun k => k < w.heap.size) w]) ls wd6 := fun {_} _ => H
          refine DA_p 0 rfl (by kernel_rfl) rfl (fun _ => y_move h0) hS (by decide) fun hS => ?_
          refine DA_p 1 rfl (by kernel_rfl) rfl (fun _ => y_move rfl) hS (by decide) fun hS => ?_
          refine DA_p 2 rfl (by kernel_rfl) rfl (fun _ => y_indexAddr ti49 ti55 (congrArg (Value.slice · _ _) e2) rfl (by omega) (by omega)) hS (by decide) fun hS => ?_
          refine DA_p 3 rfl (by kernel_rfl) rfl (fun _ => y_fieldAddr ti55 rfl ti23 rfl rfl) hS (by decide) fun hS => ?_
          refine DA_y 4 rfl (by kernel_rfl) rfl (by kernel_rfl) (fun w' h => y_loadS (v := xk) ti23 rfl rfl ((hCx h).take 0 rfl)) hS (by decide) fun hS => ?_
          refine DA_y 5 rfl (by kernel_rfl) rfl (by kernel_rfl) (fun w' h => y_toStr (w := w') Try.underlying23 Try.underlying5 Try.underlying9 rfl (hxk.keeps (h.keepsAll 0 rfl _))) hS (by decide) fun hS => ?_
          refine DA_p 6 rfl (by kernel_rfl) rfl (fun _ => y_move h1) hS (by decide) fun hS => ?_
          refine DA_p 7 rfl (by kernel_rfl) rfl (fun _ => y_move rfl) hS (by decide) fun hS => ?_
          refine DA_p 8 rfl (by kernel_rfl) rfl (fun _ => y_indexAddr ti49 ti55 (congrArg (Value.slice · _ _) e3) rfl (by omega) (by omega)) hS (by decide) fun hS => ?_
          refine DA_p 9 rfl (by kernel_rfl) rfl (fun _ => y_fieldAddr ti55 rfl ti23 rfl rfl) hS (by decide) fun hS => ?_
          refine DA_y 10 rfl (by kernel_rfl) rfl (by kernel_rfl) (fun w' h => y_loadS (v := yk) ti23 rfl rfl ((hCy h).take 0 rfl)) hS (by decide) fun hS => ?_
          refine DA_y 11 rfl (by kernel_rfl) rfl (by kernel_rfl) (fun w' h => y_toStr (w := w') Try.underlying23 Try.underlying5 Try.underlying9 rfl (hyk.keeps (h.keepsAll 0 rfl _))) hS (by decide) fun hS => ?_
          refine DA_p (v := .bool false) 12 rfl (by kernel_rfl) rfl (fun _ => y_neqSF hk rfl rfl) hS (by decide) fun hS => ?_
          refine DA_p (v := .bool false) 13 rfl (by kernel_rfl) rfl (fun _ => y_move rfl) hS (by decide) fun hS => ?_
          refine DA_pg 14 rfl rfl (by decide) rfl (by kernel_rfl) rfl (fun _ => y_move h0) hS (by decide) fun hS => ?_
          refine DA_pg 15 rfl rfl (by decide) rfl (by kernel_rfl) rfl (fun _ => y_move rfl) hS (by decide) fun hS => ?_
          refine DA_pg 16 rfl rfl (by decide) rfl (by kernel_rfl) rfl (fun _ => y_indexAddr ti49 ti55 (congrArg (Value.slice · _ _) e2) rfl (by omega) (by omega)) hS (by decide) fun hS => ?_
          refine DA_pg 17 rfl rfl (by decide) rfl (by kernel_rfl) rfl (fun _ => y_fieldAddr ti55 rfl ti32 rfl rfl) hS (by decide) fun hS => ?_
          refine DA_yg 18 rfl rfl (by decide) rfl (by kernel_rfl) rfl (by kernel_rfl) (fun w' h => y_loadA (cs := [.int .u64 x.intent.ts, .int .u64 x.intent.txn, .bool x.intent.dead, xa, xb]) ti32 rfl rfl ((hCx h).take 2 rfl) rfl) hS (by decide) fun hS => ?_
          refine DA_pg 19 rfl rfl (by decide) rfl (by kernel_rfl) rfl (fun _ => y_move h1) hS (by decide) fun hS => ?_
          refine DA_pg 20 rfl rfl (by decide) rfl (by kernel_rfl) rfl (fun _ => y_move rfl) hS (by decide) fun hS => ?_
          refine DA_pg 21 rfl rfl (by decide) rfl (by kernel_rfl) rfl (fun _ => y_indexAddr ti49 ti55 (congrArg (Value.slice · _ _) e3) rfl (by omega) (by omega)) hS (by decide) fun hS => ?_
          refine DA_pg 22 rfl rfl (by decide) rfl (by kernel_rfl) rfl (fun _ => y_fieldAddr ti55 rfl ti32 rfl rfl) hS (by decide) fun hS => ?_
          refine DA_yg 23 rfl rfl (by decide) rfl (by kernel_rfl) rfl (by kernel_rfl) (fun w' h => y_loadA (cs := [.int .u64 y.intent.ts, .int .u64 y.intent.txn, .bool y.intent.dead, ya, yb]) ti32 rfl rfl ((hCy h).take 2 rfl) rfl) hS (by decide) fun hS => ?_
          refine DA_oneg 24 (by kernel_rfl) rfl rfl (by decide) rfl (op_call 15 en15 rfl [.agg #[.int .u64 x.intent.ts, .int .u64 x.intent.txn, .bool x.intent.dead, xa, xb], .agg #[.int .u64 y.intent.ts, .int .u64 y.intent.txn, .bool y.intent.dead, ya, yb]] rfl (by decide) ((f15_calls (tVer.keeps hxi (H.keepsAll 0 rfl _)) (tVer.keeps hyi (H.keepsAll 0 rfl _))).mono ?_))
          rintro e w6_24 ⟨rfl, hE15⟩
          refine ⟨_, rfl, fun _ => H.ext0 hE15, ?_⟩
          have H := H.ext0 hE15
          rw [decide_eq_false hi]
          have hS : ∀ {ls : Array Bool}, Sx [] (fun w' => Holds w' [shr (fun k => k < w.heap.size) w]) ls w6_24 := fun {_} _ => H
          refine DA_pg (v := .bool true) 25 rfl rfl (by decide) rfl (by kernel_rfl) rfl (fun _ => y_not (b := false) rfl) hS (by decide) fun hS => ?_
          refine DA_p 26 rfl (by kernel_rfl) rfl (fun _ => y_pick (b := false) (v := .bool true) rfl rfl) hS (by decide) fun hS => ?_
          refine DA_p (v := .bool true) 27 rfl (by kernel_rfl) rfl (fun _ => y_move rfl) hS (by decide) fun hS => ?_
          refine DA_s 28 rfl rfl (by decide) rfl rfl (by kernel_rfl) rfl hS (by simp) fun hS => ?_
          refine DA_s 29 rfl rfl (by decide) rfl rfl (by kernel_rfl) rfl hS (by simp) fun hS => ?_
          refine DA_s 30 rfl rfl (by decide) rfl rfl (by kernel_rfl) rfl hS (by simp) fun hS => ?_
          refine DA_s 31 rfl rfl (by decide) rfl rfl (by kernel_rfl) rfl hS (by simp) fun hS => ?_
          refine DA_s 32 rfl rfl (by decide) rfl rfl (by kernel_rfl) rfl hS (by simp) fun hS => ?_
          refine DA_s 33 rfl rfl (by decide) rfl rfl (by kernel_rfl) rfl hS (by simp) fun hS => ?_
          refine DA_s 34 rfl rfl (by decide) rfl rfl (by kernel_rfl) rfl hS (by simp) fun hS => ?_
          refine DA_s 35 rfl rfl (by decide) rfl rfl (by kernel_rfl) rfl hS (by simp) fun hS => ?_
          refine DA_s 36 rfl rfl (by decide) rfl rfl (by kernel_rfl) rfl hS (by simp) fun hS => ?_
          refine DA_s 37 rfl rfl (by decide) rfl rfl (by kernel_rfl) rfl hS (by simp) fun hS => ?_
          refine DA_s 38 rfl rfl (by decide) rfl rfl (by kernel_rfl) rfl hS (by simp) fun hS => ?_
          refine DA_s 39 rfl rfl (by decide) rfl rfl (by kernel_rfl) rfl hS (by simp) fun hS => ?_
          refine DA_s 40 rfl rfl (by decide) rfl rfl (by kernel_rfl) rfl hS (by simp) fun hS => ?_
          refine DA_p 41 rfl (by kernel_rfl) rfl (fun _ => y_pick (b := true) (v := .bool true) rfl rfl) hS (by decide) fun hS => ?_
          refine DA_done (by kernel_rfl) ?_
          refine W_condt rfl ?_
          refine W_seq ?_
          refine W_region ?_
          refine OL_y (v := .bool false) (y_assign rfl) (by decide) ?_
          refine OL_nil ?_
          refine W_ret ?_
          show RetOK _ _ _ _ _ _
          refine ret1 (v := .bool false) Try.results24 rfl ⟨?_, H.ext_of 0 rfl⟩
          rw [decide_eq_false]; intro h; subst h
          rw [hxj] at hyj; injection hyj with hyj; exact hi (by rw [hyj])
      · refine W_drawD H mixed (by kernel_rfl) [] (fun wq w' => Holds w' [shr (fun k => k < w.heap.size) w]) fun wd6 H hEd => ?_
        have hS : ∀ {ls : Array Bool}, Sx [] (fun w' => Holds w' [shr (fun k => k < w.heap.size) w]) ls wd6 := fun {_} _ => H
        refine DA_p 0 rfl (by kernel_rfl) rfl (fun _ => y_move h0) hS (by decide) fun hS => ?_
        refine DA_p 1 rfl (by kernel_rfl) rfl (fun _ => y_move rfl) hS (by decide) fun hS => ?_
        refine DA_p 2 rfl (by kernel_rfl) rfl (fun _ => y_indexAddr ti49 ti55 (congrArg (Value.slice · _ _) e2) rfl (by omega) (by omega)) hS (by decide) fun hS => ?_
        refine DA_p 3 rfl (by kernel_rfl) rfl (fun _ => y_fieldAddr ti55 rfl ti23 rfl rfl) hS (by decide) fun hS => ?_
        refine DA_y 4 rfl (by kernel_rfl) rfl (by kernel_rfl) (fun w' h => y_loadS (v := xk) ti23 rfl rfl ((hCx h).take 0 rfl)) hS (by decide) fun hS => ?_
        refine DA_y 5 rfl (by kernel_rfl) rfl (by kernel_rfl) (fun w' h => y_toStr (w := w') Try.underlying23 Try.underlying5 Try.underlying9 rfl (hxk.keeps (h.keepsAll 0 rfl _))) hS (by decide) fun hS => ?_
        refine DA_p 6 rfl (by kernel_rfl) rfl (fun _ => y_move h1) hS (by decide) fun hS => ?_
        refine DA_p 7 rfl (by kernel_rfl) rfl (fun _ => y_move rfl) hS (by decide) fun hS => ?_
        refine DA_p 8 rfl (by kernel_rfl) rfl (fun _ => y_indexAddr ti49 ti55 (congrArg (Value.slice · _ _) e3) rfl (by omega) (by omega)) hS (by decide) fun hS => ?_
        refine DA_p 9 rfl (by kernel_rfl) rfl (fun _ => y_fieldAddr ti55 rfl ti23 rfl rfl) hS (by decide) fun hS => ?_
        refine DA_y 10 rfl (by kernel_rfl) rfl (by kernel_rfl) (fun w' h => y_loadS (v := yk) ti23 rfl rfl ((hCy h).take 0 rfl)) hS (by decide) fun hS => ?_
        refine DA_y 11 rfl (by kernel_rfl) rfl (by kernel_rfl) (fun w' h => y_toStr (w := w') Try.underlying23 Try.underlying5 Try.underlying9 rfl (hyk.keeps (h.keepsAll 0 rfl _))) hS (by decide) fun hS => ?_
        refine DA_p (v := .bool true) 12 rfl (by kernel_rfl) rfl (fun _ => y_neqST hk rfl rfl) hS (by decide) fun hS => ?_
        refine DA_p (v := .bool true) 13 rfl (by kernel_rfl) rfl (fun _ => y_move rfl) hS (by decide) fun hS => ?_
        refine DA_s 14 rfl rfl (by decide) rfl rfl (by kernel_rfl) rfl hS (by simp) fun hS => ?_
        refine DA_s 15 rfl rfl (by decide) rfl rfl (by kernel_rfl) rfl hS (by simp) fun hS => ?_
        refine DA_s 16 rfl rfl (by decide) rfl rfl (by kernel_rfl) rfl hS (by simp) fun hS => ?_
        refine DA_s 17 rfl rfl (by decide) rfl rfl (by kernel_rfl) rfl hS (by simp) fun hS => ?_
        refine DA_s 18 rfl rfl (by decide) rfl rfl (by kernel_rfl) rfl hS (by simp) fun hS => ?_
        refine DA_s 19 rfl rfl (by decide) rfl rfl (by kernel_rfl) rfl hS (by simp) fun hS => ?_
        refine DA_s 20 rfl rfl (by decide) rfl rfl (by kernel_rfl) rfl hS (by simp) fun hS => ?_
        refine DA_s 21 rfl rfl (by decide) rfl rfl (by kernel_rfl) rfl hS (by simp) fun hS => ?_
        refine DA_s 22 rfl rfl (by decide) rfl rfl (by kernel_rfl) rfl hS (by simp) fun hS => ?_
        refine DA_s 23 rfl rfl (by decide) rfl rfl (by kernel_rfl) rfl hS (by simp) fun hS => ?_
        refine DA_s 24 rfl rfl (by decide) rfl rfl (by kernel_rfl) rfl hS (by simp) fun hS => ?_
        refine DA_s 25 rfl rfl (by decide) rfl rfl (by kernel_rfl) rfl hS (by simp) fun hS => ?_
        refine DA_p 26 rfl (by kernel_rfl) rfl (fun _ => y_pick (b := true) (v := .bool true) rfl rfl) hS (by decide) fun hS => ?_
        refine DA_p (v := .bool true) 27 rfl (by kernel_rfl) rfl (fun _ => y_move rfl) hS (by decide) fun hS => ?_
        refine DA_s 28 rfl rfl (by decide) rfl rfl (by kernel_rfl) rfl hS (by simp) fun hS => ?_
        refine DA_s 29 rfl rfl (by decide) rfl rfl (by kernel_rfl) rfl hS (by simp) fun hS => ?_
        refine DA_s 30 rfl rfl (by decide) rfl rfl (by kernel_rfl) rfl hS (by simp) fun hS => ?_
        refine DA_s 31 rfl rfl (by decide) rfl rfl (by kernel_rfl) rfl hS (by simp) fun hS => ?_
        refine DA_s 32 rfl rfl (by decide) rfl rfl (by kernel_rfl) rfl hS (by simp) fun hS => ?_
        refine DA_s 33 rfl rfl (by decide) rfl rfl (by kernel_rfl) rfl hS (by simp) fun hS => ?_
        refine DA_s 34 rfl rfl (by decide) rfl rfl (by kernel_rfl) rfl hS (by simp) fun hS => ?_
        refine DA_s 35 rfl rfl (by decide) rfl rfl (by kernel_rfl) rfl hS (by simp) fun hS => ?_
        refine DA_s 36 rfl rfl (by decide) rfl rfl (by kernel_rfl) rfl hS (by simp) fun hS => ?_
        refine DA_s 37 rfl rfl (by decide) rfl rfl (by kernel_rfl) rfl hS (by simp) fun hS => ?_
        refine DA_s 38 rfl rfl (by decide) rfl rfl (by kernel_rfl) rfl hS (by simp) fun hS => ?_
        refine DA_s 39 rfl rfl (by decide) rfl rfl (by kernel_rfl) rfl hS (by simp) fun hS => ?_
        refine DA_s 40 rfl rfl (by decide) rfl rfl (by kernel_rfl) rfl hS (by simp) fun hS => ?_
        refine DA_p 41 rfl (by kernel_rfl) rfl (fun _ => y_pick (b := true) (v := .bool true) rfl rfl) hS (by decide) fun hS => ?_
        refine DA_done (by kernel_rfl) ?_
        refine W_condt rfl ?_
        refine W_seq ?_
        refine W_region ?_
        refine OL_y (v := .bool false) (y_assign rfl) (by decide) ?_
        refine OL_nil ?_
        refine W_ret ?_
        show RetOK _ _ _ _ _ _
        refine ret1 (v := .bool false) Try.results24 rfl ⟨?_, H.ext_of 0 rfl⟩
        rw [decide_eq_false]; intro h; subst h
        rw [hxj] at hyj; injection hyj with hyj; exact hk (by rw [hyj])
    · rintro f ds w2 ⟨h0, h1, rfl, heq, H⟩ hti htn
      rw [List.take_length, hlen, List.take_length] at heq
      refine W_seq ?_
      refine W_region ?_
      refine OL_y (v := .bool true) (y_assign rfl) (by decide) ?_
      refine OL_nil ?_
      refine W_ret ?_
      show RetOK _ _ _ _ _ _
      exact ret1 (v := .bool true) Try.results24 rfl ⟨by rw [decide_eq_true heq], H.ext_of 0 rfl⟩
end Go.Proofs.Ytpandioolpnihaa

/- SameResult: of two answers that are the same. -/
namespace Go.Proofs.Ytpandioolpnihaa
open Go Go.Wk
set_option linter.unusedVariables false
set_option linter.unusedSimpArgs false

theorem f24_same {Z Z' : Nat → Prop} {w : World} {va vb : Value} {xs : List Cl} (hx : SlR tCl 120 Z w va xs) (hy : SlR tCl 120 Z' w vb xs) : Calls Try.prog 24 [va, vb].toArray w fun e w' => e = .returned (.bool true) ∧ Ext none' w w' := by
  have := f24_calls hx hy
  rwa [decide_eq_true rfl] at this
theorem f58_calls {w : World} : Calls Try.prog 58 [.slice none 0 0, .slice none 0 0].toArray w fun e w' => e = .returned (.bool true) ∧ Ext none' w w' := by
  have H := Holds.start w
  refine calls_of_W' Try.func58 rfl Try.ntmps58 rfl ?_
  refine W_seq ?_
  refine W_region ?_
  refine OL_y (v := .bool false) (y_assign rfl) (by decide) ?_
  refine OL_nil ?_
  refine W_seq ?_
  refine W_seq ?_
  refine W_region ?_
  refine OL_y (y_move rfl) (by decide) ?_
  refine OL_y (y_len rfl ti82 rfl) (by decide) ?_
  refine OL_y (y_move rfl) (by decide) ?_
  refine OL_y (y_len rfl ti82 rfl) (by decide) ?_
  refine OL_y (v := .bool false) (y_neqF rfl rfl rfl) (by decide) ?_
  refine OL_nil ?_
  refine W_condf rfl ?_
  refine W_skip ?_
  refine W_seq ?_
  refine W_seq ?_
  refine W_region ?_
  refine OL_y (y_move rfl) (by decide) ?_
  refine OL_y (y_len rfl ti82 rfl) (by decide) ?_
  refine OL_y (y_move rfl) (by decide) ?_
  refine OL_nil ?_
  refine W_range (N := 0) (by simp [maxLen]) (fun j f ds w' => ds = [] ∧ w' = w)
      ⟨rfl, rfl⟩
      rfl rfl (by decide) (by decide) (by decide) rfl rfl ?_ rfl rfl ?_
  · rintro j f ds w3 hj
    exact absurd hj (by omega)
  · rintro f ds w3 ⟨rfl, rfl⟩ hti htn
    refine W_seq ?_
    refine W_region ?_
    refine OL_y (v := .bool true) (y_assign rfl) (by decide) ?_
    refine OL_nil ?_
    refine W_ret ?_
    show RetOK _ _ _ _ _ _
    exact ret1 (v := .bool true) Try.results58 rfl ⟨rfl, H.ext_of 0 rfl⟩
set_option maxHeartbeats 16000000 in
theorem f31_calls {Z Z' : Nat → Prop} {w : World} {c1 c2 : List Value} {r : Rs} (h1 : tRes.R Z w c1 r) (h2 : tRes.R Z' w c2 r) :
    Calls Try.prog 31 [.agg c1.toArray, .agg c2.toArray].toArray w fun e w' => e = .returned (.bool true) ∧ Ext none' w w' := by
  have H := Holds.start w
  obtain ⟨v1, rfl, hi1, hs1⟩ := res_cells.1 h1
  obtain ⟨v2, rfl, hi2, hs2⟩ := res_cells.1 h2
  refine calls_of_W' Try.func31 rfl Try.ntmps31 rfl ?_
  refine W_seq ?_
  refine W_region ?_
  refine OL_c (op_box (v := .agg #[.int .i64 r.err, .int .u64 0, .int .u64 0, .bool false, .slice none 0 0, v1, .slice none 0 0]) H rfl (by decide) fun b2 w0_0 H => ?_)
  refine OL_c (op_box (v := .agg #[.int .i64 r.err, .int .u64 0, .int .u64 0, .bool false, .slice none 0 0, v2, .slice none 0 0]) H rfl (by decide) fun b3 w0_1 H => ?_)
  refine OL_y (v := .bool false) (y_assign rfl) (by decide) ?_
  refine OL_nil ?_
  refine W_seq ?_
  refine W_seq ?_
  refine W_region ?_
  refine OL_y (y_fieldAddr ti84 rfl ti80 rfl rfl) (by decide) ?_
  refine OL_y (y_loadS (v := .int .i64 r.err) ti80 rfl rfl (Cells.unit (H.getOwn 1 rfl) rfl)) (by decide) ?_
  refine OL_y (y_fieldAddr ti84 rfl ti80 rfl rfl) (by decide) ?_
  refine OL_y (y_loadS (v := .int .i64 r.err) ti80 rfl rfl (Cells.unit (H.getOwn 0 rfl) rfl)) (by decide) ?_
  refine OL_y (v := .bool false) (y_neqF rfl rfl rfl) (by decide) ?_
  refine OL_y (v := .bool false) (y_move rfl) (by decide) ?_
  refine OL_yg rfl (by decide) rfl (y_fieldAddr ti84 rfl ti24 rfl rfl) (by decide) ?_
  refine OL_yg rfl (by decide) rfl (y_loadS (v := .int .u64 0) ti24 rfl rfl (Cells.unit (H.getOwn 1 rfl) rfl)) (by decide) ?_
  refine OL_yg rfl (by decide) rfl (y_fieldAddr ti84 rfl ti24 rfl rfl) (by decide) ?_
  refine OL_yg rfl (by decide) rfl (y_loadS (v := .int .u64 0) ti24 rfl rfl (Cells.unit (H.getOwn 0 rfl) rfl)) (by decide) ?_
  refine OL_yg (v := .bool false) rfl (by decide) rfl (y_neqF rfl rfl rfl) (by decide) ?_
  refine OL_y (y_pick (b := false) (v := .bool false) rfl rfl) (by decide) ?_
  refine OL_y (v := .bool false) (y_move rfl) (by decide) ?_
  refine OL_yg rfl (by decide) rfl (y_fieldAddr ti84 rfl ti24 rfl rfl) (by decide) ?_
  refine OL_yg rfl (by decide) rfl (y_loadS (v := .int .u64 0) ti24 rfl rfl (Cells.unit (H.getOwn 1 rfl) rfl)) (by decide) ?_
  refine OL_yg rfl (by decide) rfl (y_fieldAddr ti84 rfl ti24 rfl rfl) (by decide) ?_
  refine OL_yg rfl (by decide) rfl (y_loadS (v := .int .u64 0) ti24 rfl rfl (Cells.unit (H.getOwn 0 rfl) rfl)) (by decide) ?_
  refine OL_yg (v := .bool false) rfl (by decide) rfl (y_neqF rfl rfl rfl) (by decide) ?_
  refine OL_y (y_pick (b := false) (v := .bool false) rfl rfl) (by decide) ?_
  refine OL_y (v := .bool false) (y_move rfl) (by decide) ?_
  refine OL_yg rfl (by decide) rfl (y_fieldAddr ti84 rfl ti4 rfl rfl) (by decide) ?_
  refine OL_yg rfl (by decide) rfl (y_loadS (v := .bool false) ti4 rfl rfl (Cells.unit (H.getOwn 1 rfl) rfl)) (by decide) ?_
  refine OL_yg rfl (by decide) rfl (y_fieldAddr ti84 rfl ti4 rfl rfl) (by decide) ?_
  refine OL_yg rfl (by decide) rfl (y_loadS (v := .bool false) ti4 rfl rfl (Cells.unit (H.getOwn 0 rfl) rfl)) (by decide) ?_
  refine OL_yg (v := .bool false) rfl (by decide) rfl (y_neqB Try.underlying4 (a := false) (b := false) rfl rfl) (by decide) ?_
  refine OL_y (y_pick (b := false) (v := .bool false) rfl rfl) (by decide) ?_
  refine OL_y (v := .bool false) (y_move rfl) (by decide) ?_
  refine OL_yg rfl (by decide) rfl (y_fieldAddr ti84 rfl ti81 rfl rfl) (by decide) ?_
  refine OL_yg rfl (by decide) rfl (y_loadS (v := .slice none 0 0) ti81 rfl rfl (Cells.unit (H.getOwn 1 rfl) rfl)) (by decide) ?_
  refine OL_yg rfl (by decide) rfl (y_len rfl ti81 rfl) (by decide) ?_
  refine OL_yg rfl (by decide) rfl (y_fieldAddr ti84 rfl ti81 rfl rfl) (by decide) ?_
  refine OL_yg rfl (by decide) rfl (y_loadS (v := .slice none 0 0) ti81 rfl rfl (Cells.unit (H.getOwn 0 rfl) rfl)) (by decide) ?_
  refine OL_yg rfl (by decide) rfl (y_len rfl ti81 rfl) (by decide) ?_
  refine OL_yg (v := .bool false) rfl (by decide) rfl (y_neqF rfl rfl rfl) (by decide) ?_
  refine OL_y (y_pick (b := false) (v := .bool false) rfl rfl) (by decide) ?_
  refine OL_nil ?_
  refine W_condf rfl ?_
  refine W_skip ?_
  refine W_seq ?_
  refine W_seq ?_
  refine W_region ?_
  refine OL_y (y_fieldAddr ti84 rfl ti81 rfl rfl) (by decide) ?_
  refine OL_y (y_loadS (v := .slice none 0 0) ti81 rfl rfl (Cells.unit (H.getOwn 1 rfl) rfl)) (by decide) ?_
  refine OL_y (y_len rfl ti81 rfl) (by decide) ?_
  refine OL_y (y_move rfl) (by decide) ?_
  refine OL_nil ?_
  refine W_range (N := 0) (by simp [maxLen]) (fun j f ds w' => f 2 = .pointer (some ⟨b2, 0, none⟩) ∧ f 3 = .pointer (some ⟨b3, 0, none⟩) ∧ ds = [] ∧ w' = w0_1)
      ⟨rfl, rfl, rfl, rfl⟩
      rfl rfl (by decide) (by decide) (by decide) rfl rfl ?_ rfl rfl ?_
  · rintro j f ds w3 hj
    exact absurd hj (by omega)
  · rintro f ds w3 ⟨hf2, hf3, rfl, rfl⟩ hti htn
    refine W_seq ?_
    refine W_region ?_
    refine OL_y (y_fieldAddr ti84 rfl ti49 rfl hf2) (by decide) ?_
    refine OL_y (y_loadS (v := v1) ti49 rfl rfl (Cells.unit (H.getOwn 1 rfl) rfl)) (by decide) ?_
    refine OL_y (y_fieldAddr ti84 rfl ti49 rfl hf3) (by decide) ?_
    refine OL_y (y_loadS (v := v2) ti49 rfl rfl (Cells.unit (H.getOwn 0 rfl) rfl)) (by decide) ?_
    refine OL_c (op_call 24 en24 rfl [v1, v2] rfl (by decide) ((f24_same (hs1.keeps (H.keepsAll 2 rfl _)) (hs2.keeps (H.keepsAll 2 rfl _))).mono ?_))
    rintro e w9_4 ⟨rfl, hE24⟩
    refine ⟨_, rfl, ?_⟩
    have H := H.ext0 hE24
    refine OL_y (v := .bool true) (y_move rfl) (by decide) ?_
    refine OL_yg rfl (by decide) rfl (y_fieldAddr ti84 rfl ti82 rfl hf2) (by decide) ?_
    refine OL_yg rfl (by decide) rfl (y_loadS (v := .slice none 0 0) ti82 rfl rfl (Cells.unit (H.getOwn 1 rfl) rfl)) (by decide) ?_
    refine OL_yg rfl (by decide) rfl (y_fieldAddr ti84 rfl ti82 rfl hf3) (by decide) ?_
    refine OL_yg rfl (by decide) rfl (y_loadS (v := .slice none 0 0) ti82 rfl rfl (Cells.unit (H.getOwn 0 rfl) rfl)) (by decide) ?_
    refine OL_g rfl (by decide) rfl (op_call 58 en58 rfl [.slice none 0 0, .slice none 0 0] rfl (by decide) ((f58_calls).mono ?_))
    rintro e w9_10 ⟨rfl, hE58⟩
    refine ⟨_, rfl, ?_⟩
    have H := H.ext0 hE58
    refine OL_y (y_pick (b := true) (v := .bool true) rfl rfl) (by decide) ?_
    refine OL_y (v := .bool true) (y_assign rfl) (by decide) ?_
    refine OL_nil ?_
    refine W_ret ?_
    show RetOK _ _ _ _ _ _
    exact ret1 (v := .bool true) Try.results31 rfl ⟨rfl, H.ext_of 2 rfl⟩
end Go.Proofs.Ytpandioolpnihaa

/- Pick, Parts: the shards of a span; awake. -/
namespace Go.Proofs.Ytpandioolpnihaa
open Go Go.Wk
set_option linter.unusedVariables false
set_option linter.unusedSimpArgs false

def picks (xs : List Key) (k : Key) : Nat := (xs.filter fun x => decide (cmpK x k ≤ 0)).length
set_option maxHeartbeats 16000000 in
theorem f56_calls {Z Z' : Nat → Prop} {w : World} {vx vk : Value} {xs : List Key} {k : Key} (hx : SlR tKey 24 Z w vx xs) (hk : SlR (tInt .u8) 1 Z' w vk k) :
    Calls Try.prog 56 [vx, vk].toArray w fun e w' => e = .returned (.int .i64 (picks xs k)) ∧ Ext none' w w' := by
  obtain ⟨al, cl, rfl, hll, hml⟩ := hx.len
  have hN := hx.len1 (by decide)
  have H := Holds.start w
  refine calls_of_W' Try.func56 rfl Try.ntmps56 rfl ?_
  refine W_seq ?_
  refine W_region ?_
  refine OL_y (y_assign rfl) (by decide) ?_
  refine OL_nil ?_
  refine W_seq ?_
  refine W_region ?_
  refine OL_y (y_assign rfl) (by decide) ?_
  refine OL_nil ?_
  refine W_seq ?_
  refine W_seq ?_
  refine W_region ?_
  refine OL_y (y_move rfl) (by decide) ?_
  refine OL_y (y_len rfl ti30 rfl) (by decide) ?_
  refine OL_y (y_move rfl) (by decide) ?_
  refine OL_nil ?_
  refine W_range (N := xs.length) (by simp only [maxLen] at hml ⊢; omega) (fun j f ds w' => f 1 = vk ∧ f 5 = .int .i64 (picks (xs.take j) k : Nat) ∧ f 8 = .slice al xs.length cl ∧ ds = [] ∧ Holds w' [shr (fun k => k < w.heap.size) w])
      ⟨rfl, rfl, rfl, rfl, H⟩
      rfl rfl (by decide) (by decide) (by decide) rfl rfl ?_ rfl rfl ?_
  · rintro j f ds w3 hj ⟨h1, h5, h8, rfl, H⟩ hti htn
    have hxj := List.getElem?_eq_getElem hj
    have hsn : xs.take (j + 1) = xs.take j ++ [xs[j]] := by rw [List.take_add_one, hxj]; rfl
    have hle : picks (xs.take j) k ≤ xs.length := Nat.le_trans (List.length_filter_le _ _) (by rw [List.length_take]; omega)
    simp only [maxLen] at hml
    obtain ⟨bx, ox, csy, ey, hzy, hcy, vx, rfl, hkx⟩ := hx.at hxj
    have hcy' := hcy.ext ((H.keepsAll 0 rfl (fun _ => True)).2 _ trivial hcy.lt)
    generalize xs[j] = x at *
    obtain ⟨ax, cx, rfl, -, -⟩ := hkx.len
    have h8' := h8.trans (congrArg (Value.slice · _ _) ey)
    refine W_block ?_
    refine W_seq ?_
    refine W_region ?_
    refine OL_y (y_indexAddr ti30 ti23 h8' hti (by omega) (by omega)) (by decide) ?_
    refine OL_y (y_loadS (v := .slice ax x.length cx) ti23 rfl rfl hcy') (by decide) ?_
    refine OL_y (y_assign rfl) (by decide) ?_
    refine OL_nil ?_
    refine W_seq ?_
    by_cases hc : cmpK x k ≤ 0
    · refine W_region ?_
      refine OL_y (y_move rfl) (by decide) ?_
      refine OL_y (y_move h1) (by decide) ?_
      refine OL_c (op_call 74 en74 rfl [.slice ax x.length cx, vk] rfl (by decide) ((f74_calls (hkx.keeps (H.keepsAll 0 rfl _)) (hk.keeps (H.keepsAll 0 rfl _))).mono ?_))
      rintro e w5_2 ⟨rfl, hE⟩
      refine ⟨_, rfl, ?_⟩
      have H := H.ext0 hE
      refine OL_y (v := .bool true) (y_leqT hc rfl rfl) (by decide) ?_
      refine OL_nil ?_
      refine W_condt rfl ?_
      refine W_region ?_
      refine OL_y (y_move h5) (by decide) ?_
      refine OL_y (y_add64 rfl rfl (by omega) (by omega)) (by decide) ?_
      refine OL_y (y_assign rfl) (by decide) ?_
      refine OL_nil ?_
      have e : picks (xs.take (j + 1)) k = picks (xs.take j) k + 1 := by unfold picks; rw [hsn, List.filter_append, List.filter_cons_of_pos (by simpa using hc)]; simp
      refine ⟨hti, htn, h1, ?_, h8, rfl, H⟩
      rw [e]; rfl
    · refine W_region ?_
      refine OL_y (y_move rfl) (by decide) ?_
      refine OL_y (y_move h1) (by decide) ?_
      refine OL_c (op_call 74 en74 rfl [.slice ax x.length cx, vk] rfl (by decide) ((f74_calls (hkx.keeps (H.keepsAll 0 rfl _)) (hk.keeps (H.keepsAll 0 rfl _))).mono ?_))
      rintro e w5_2 ⟨rfl, hE⟩
      refine ⟨_, rfl, ?_⟩
      have H := H.ext0 hE
      refine OL_y (v := .bool false) (y_leqF hc rfl rfl) (by decide) ?_
      refine OL_nil ?_
      refine W_condf rfl ?_
      refine W_skip ?_
      have e : picks (xs.take (j + 1)) k = picks (xs.take j) k := by unfold picks; rw [hsn, List.filter_append, List.filter_cons_of_neg (by simpa using hc)]; simp
      exact ⟨hti, htn, h1, by rw [e]; exact h5, h8, rfl, H⟩
  · rintro f ds w3 ⟨h1, h5, h8, rfl, H⟩ hti htn
    rw [List.take_length] at h5
    refine W_seq ?_
    refine W_region ?_
    refine OL_y (y_move h5) (by decide) ?_
    refine OL_y (y_assign rfl) (by decide) ?_
    refine OL_nil ?_
    refine W_ret ?_
    show RetOK _ _ _ _ _ _
    exact ret1 Try.results56 rfl ⟨rfl, H.ext_of 0 rfl⟩

set_option maxHeartbeats 16000000 in
theorem f57_calls {Z Z' : Nat → Prop} {w : World} {vx vk : Value} {xs : List Key} {lo : Key} (hx : SlR tKey 24 Z w vx xs) (hlo : SlR (tInt .u8) 1 Z' w vk lo) (hxs : xs = [[98]]) (hll : lo = [97]) :
    Calls Try.prog 57 [vx, .agg #[vk, .slice none 0 0]].toArray w fun e w' => ∃ (a : Option Addr) (c : Nat), e = .returned (.slice a 2 c) ∧ Ext none' w w' := by
  have hl1 : xs.length = 1 := by rw [hxs]; rfl
  have hpk : picks xs lo = 0 := by rw [hxs, hll]; decide
  have hwi : withinB [98] lo [] = true := by rw [hll]; decide
  obtain ⟨a0, c0, rfl, -, -⟩ := hx.len
  obtain ⟨a1, c1, rfl, -, -⟩ := hlo.len
  obtain ⟨bx, ox, csy, ey, hzy, hcy, vx, rfl, hkx⟩ := hx.at (i := 0) (x := [98]) (by rw [hxs]; rfl)
  obtain ⟨ax, cx, rfl, -, -⟩ := hkx.len
  have H := Holds.start w
  refine calls_of_W' Try.func57 rfl Try.ntmps57 rfl ?_
  refine W_seq ?_
  refine W_region ?_
  refine OL_c (op_box (v := .agg #[.slice a1 lo.length c1, .slice none 0 0]) H rfl (by decide) fun b3 w0_0 H => ?_)
  refine OL_y (y_assign rfl) (by decide) ?_
  refine OL_nil ?_
  refine W_seq ?_
  refine W_region ?_
  refine OL_y (y_assign rfl) (by decide) ?_
  refine OL_nil ?_
  refine W_seq ?_
  refine W_seq ?_
  refine W_region ?_
  refine OL_y (y_move rfl) (by decide) ?_
  refine OL_y (y_fieldAddr ti118 rfl ti23 rfl rfl) (by decide) ?_
  refine OL_y (y_loadS (v := .slice a1 lo.length c1) ti23 rfl rfl (Cells.unit (H.getOwn 0 rfl) rfl)) (by decide) ?_
  refine OL_c (op_call 56 en56 rfl [.slice a0 xs.length c0, .slice a1 lo.length c1] rfl (by decide) ((f56_calls (hx.keeps (H.keepsAll 1 rfl _)) (hlo.keeps (H.keepsAll 1 rfl _))).mono ?_))
  rintro e w2_3 ⟨rfl, hE56⟩
  refine ⟨_, rfl, ?_⟩
  have H := H.ext0 hE56
  rw [hpk]
  refine OL_y (y_assign rfl) (by decide) ?_
  refine OL_nil ?_
  have H := H.rowNil 3 1
  refine W_block (W_loopN (fun g f ds w' => ∃ (i : Nat) (v5 : Value) (cs5 : List Value), g + i = 2 ∧ f 0 = .slice a0 xs.length c0 ∧ f 3 = .pointer (some ⟨b3, 0, none⟩) ∧ f 5 = v5 ∧ f 6 = .int .i64 (i : Nat) ∧ ds = [] ∧ Holds w' [row 3 1 v5 i cs5, own b3 (.cells #[.slice a1 lo.length c1, .slice none 0 0] 118), shr (fun k => k < w.heap.size) w])
      2 ⟨0, _, _, rfl, rfl, rfl, rfl, rfl, rfl, H⟩
      ?_)
  rintro g f ds w3 ⟨i, v5, cs5, hg, h0, h3, h5, h6, rfl, H⟩
  refine W_seq ?_
  refine W_seq ?_
  by_cases hp : i = 2
  · refine W_region ?_
    refine OL_y (y_move h6) (by decide) ?_
    refine OL_y (y_move h0) (by decide) ?_
    refine OL_y (y_len rfl ti30 rfl) (by decide) ?_
    refine OL_y (v := .bool false) (y_leqF (show ¬ ((i : Nat) : Int) ≤ ((xs.length : Nat) : Int) by omega) rfl rfl) (by decide) ?_
    refine OL_nil ?_
    refine W_condf rfl ?_
    refine W_exit ?_
    refine W_seq ?_
    refine W_region ?_
    refine OL_y (y_move h5) (by decide) ?_
    refine OL_y (y_assign rfl) (by decide) ?_
    refine OL_nil ?_
    refine W_ret ?_
    show RetOK _ _ _ _ _ _
    obtain ⟨ar, cr, hv, -, -⟩ := H.rowLen 0 rfl
    subst hp
    exact ret1 (v := .slice ar 2 cr) Try.results57 hv ⟨_, _, rfl, H.ext_of 2 rfl⟩
  · rcases (show i = 0 ∨ i = 1 by omega) with rfl | rfl
    · refine W_region ?_
      refine OL_y (y_move h6) (by decide) ?_
      refine OL_y (y_move h0) (by decide) ?_
      refine OL_y (y_len rfl ti30 rfl) (by decide) ?_
      refine OL_y (v := .bool true) (y_leqT (show (((0 : Nat) : Nat) : Int) ≤ ((xs.length : Nat) : Int) by omega) rfl rfl) (by decide) ?_
      refine OL_nil ?_
      refine W_condt rfl ?_
      refine W_skip ?_
      refine W_seq ?_
      refine W_block ?_
      refine W_seq ?_
      refine W_seq ?_
      refine W_drawD H mixed (by kernel_rfl) [] (fun wq w' => w'.heap[b3]? = some (.cells #[.slice a1 lo.length c1, .slice none 0 0] 118) ∧ Ext none' w w') fun wd5 H hEd => ?_
      have hS : ∀ {ls : Array Bool}, Sx [] (fun w' => w'.heap[b3]? = some (.cells #[.slice a1 lo.length c1, .slice none 0 0] 118) ∧ Ext none' w w') ls wd5 := fun {_} _ => ⟨H.getOwn 1 rfl, H.ext_of 2 rfl⟩
      refine DA_p 0 rfl (by kernel_rfl) rfl (fun _ => y_move h6) hS (by decide) fun hS => ?_
      refine DA_p 1 rfl (by kernel_rfl) rfl (fun _ => y_move h0) hS (by decide) fun hS => ?_
      refine DA_p 2 rfl (by kernel_rfl) rfl (fun _ => y_fieldAddr ti118 rfl ti23 rfl h3) hS (by decide) fun hS => ?_
      refine DA_y 3 rfl (by kernel_rfl) rfl (by kernel_rfl) (fun w' h => y_loadS (v := .slice a1 lo.length c1) ti23 rfl rfl (Cells.unit h.1 rfl)) hS (by decide) fun hS => ?_
      refine DA_one 4 (by kernel_rfl) rfl (op_call 56 en56 rfl [.slice a0 xs.length c0, .slice a1 lo.length c1] rfl (by decide) ((f56_calls (hx.keeps (H.keepsAll 2 rfl _)) (hlo.keeps (H.keepsAll 2 rfl _))).mono ?_))
      rintro e w5_4 ⟨rfl, hE56⟩
      refine ⟨_, rfl, fun _ => ⟨(H.ext0 hE56).getOwn 1 rfl, (H.ext0 hE56).ext_of 2 rfl⟩, ?_⟩
      have H := H.ext0 hE56
      rw [hpk]
      have hS : ∀ {ls : Array Bool}, Sx [] (fun w' => w'.heap[b3]? = some (.cells #[.slice a1 lo.length c1, .slice none 0 0] 118) ∧ Ext none' w w') ls w5_4 := fun {_} _ => ⟨H.getOwn 1 rfl, H.ext_of 2 rfl⟩
      refine DA_p (v := .bool false) 5 rfl (by kernel_rfl) rfl (fun _ => y_gtrF (show ¬ (((0 : Nat) : Int) < ((0 : Nat) : Int)) by omega) rfl rfl) hS (by decide) fun hS => ?_
      refine DA_p (v := .bool false) 6 rfl (by kernel_rfl) rfl (fun _ => y_move rfl) hS (by decide) fun hS => ?_
      refine DA_s 7 rfl rfl (by decide) rfl rfl (by kernel_rfl) rfl hS (by simp) fun hS => ?_
      refine DA_s 8 rfl rfl (by decide) rfl rfl (by kernel_rfl) rfl hS (by simp) fun hS => ?_
      refine DA_s 9 rfl rfl (by decide) rfl rfl (by kernel_rfl) rfl hS (by simp) fun hS => ?_
      refine DA_s 10 rfl rfl (by decide) rfl rfl (by kernel_rfl) rfl hS (by simp) fun hS => ?_
      refine DA_s 11 rfl rfl (by decide) rfl rfl (by kernel_rfl) rfl hS (by simp) fun hS => ?_
      refine DA_s 12 rfl rfl (by decide) rfl rfl (by kernel_rfl) rfl hS (by simp) fun hS => ?_
      refine DA_s 13 rfl rfl (by decide) rfl rfl (by kernel_rfl) rfl hS (by simp) fun hS => ?_
      refine DA_s 14 rfl rfl (by decide) rfl rfl (by kernel_rfl) rfl hS (by simp) fun hS => ?_
      refine DA_s 15 rfl rfl (by decide) rfl rfl (by kernel_rfl) rfl hS (by simp) fun hS => ?_
      refine DA_s 16 rfl rfl (by decide) rfl rfl (by kernel_rfl) rfl hS (by simp) fun hS => ?_
      refine DA_s 17 rfl rfl (by decide) rfl rfl (by kernel_rfl) rfl hS (by simp) fun hS => ?_
      refine DA_p 18 rfl (by kernel_rfl) rfl (fun _ => y_pick (b := false) (v := .bool false) rfl rfl) hS (by decide) fun hS => ?_
      refine DA_done (by kernel_rfl) ?_
      refine W_condf rfl ?_
      refine W_skip ?_
      refine W_region ?_
      refine OL_y (y_move h5) (by decide) ?_
      refine OL_y (y_move h6) (by decide) ?_
      refine OL_c (op_buildSlice H [.int .i64 ((0 : Nat) : Int)] ti74 ti3 rfl rfl rfl (by simp [Value.cells]) rfl rfl (by decide) fun b38 w6_2 H => ?_)
      refine OL_c (op_append H 1 rfl rfl ti74 ti3 rfl rfl rfl rfl (Src.row (H.getRow 0 rfl)) rfl (by simp [Value.cells, Value.oneCell']) (by omega) (by simp only [maxLen]; omega) (by decide) fun v39 w6_3 H => ?_)
      refine OL_y (y_assign rfl) (by decide) ?_
      refine OL_nil ?_
      refine W_region ?_
      refine OL_y (y_move h6) (by decide) ?_
      refine OL_y (y_add64 rfl rfl (by omega) (by omega)) (by decide) ?_
      refine OL_y (y_assign rfl) (by decide) ?_
      refine OL_nil ?_
      exact ⟨1, by omega, 1, _, _, rfl, h0, h3, rfl, rfl, rfl, H.tail⟩
    · refine W_region ?_
      refine OL_y (y_move h6) (by decide) ?_
      refine OL_y (y_move h0) (by decide) ?_
      refine OL_y (y_len rfl ti30 rfl) (by decide) ?_
      refine OL_y (v := .bool true) (y_leqT (show (((1 : Nat) : Nat) : Int) ≤ ((xs.length : Nat) : Int) by omega) rfl rfl) (by decide) ?_
      refine OL_nil ?_
      refine W_condt rfl ?_
      refine W_skip ?_
      refine W_seq ?_
      refine W_block ?_
      refine W_seq ?_
      refine W_seq ?_
      refine W_drawD H mixed (by kernel_rfl) [] (fun wq w' => w'.heap[b3]? = some (.cells #[.slice a1 lo.length c1, .slice none 0 0] 118) ∧ Ext none' w w') fun wd5 H hEd => ?_
      have hS : ∀ {ls : Array Bool}, Sx [] (fun w' => w'.heap[b3]? = some (.cells #[.slice a1 lo.length c1, .slice none 0 0] 118) ∧ Ext none' w w') ls wd5 := fun {_} _ => ⟨H.getOwn 1 rfl, H.ext_of 2 rfl⟩
      refine DA_p 0 rfl (by kernel_rfl) rfl (fun _ => y_move h6) hS (by decide) fun hS => ?_
      refine DA_p 1 rfl (by kernel_rfl) rfl (fun _ => y_move h0) hS (by decide) fun hS => ?_
      refine DA_p 2 rfl (by kernel_rfl) rfl (fun _ => y_fieldAddr ti118 rfl ti23 rfl h3) hS (by decide) fun hS => ?_
      refine DA_y 3 rfl (by kernel_rfl) rfl (by kernel_rfl) (fun w' h => y_loadS (v := .slice a1 lo.length c1) ti23 rfl rfl (Cells.unit h.1 rfl)) hS (by decide) fun hS => ?_
      refine DA_one 4 (by kernel_rfl) rfl (op_call 56 en56 rfl [.slice a0 xs.length c0, .slice a1 lo.length c1] rfl (by decide) ((f56_calls (hx.keeps (H.keepsAll 2 rfl _)) (hlo.keeps (H.keepsAll 2 rfl _))).mono ?_))
      rintro e w5_4 ⟨rfl, hE56⟩
      refine ⟨_, rfl, fun _ => ⟨(H.ext0 hE56).getOwn 1 rfl, (H.ext0 hE56).ext_of 2 rfl⟩, ?_⟩
      have H := H.ext0 hE56
      rw [hpk]
      have hS : ∀ {ls : Array Bool}, Sx [] (fun w' => w'.heap[b3]? = some (.cells #[.slice a1 lo.length c1, .slice none 0 0] 118) ∧ Ext none' w w') ls w5_4 := fun {_} _ => ⟨H.getOwn 1 rfl, H.ext_of 2 rfl⟩
      refine DA_p (v := .bool true) 5 rfl (by kernel_rfl) rfl (fun _ => y_gtrT (show (((0 : Nat) : Int) < ((1 : Nat) : Int)) by omega) rfl rfl) hS (by decide) fun hS => ?_
      refine DA_p (v := .bool true) 6 rfl (by kernel_rfl) rfl (fun _ => y_move rfl) hS (by decide) fun hS => ?_
      refine DA_pg 7 rfl rfl (by decide) rfl (by kernel_rfl) rfl (fun _ => y_move h0) hS (by decide) fun hS => ?_
      refine DA_pg 8 rfl rfl (by decide) rfl (by kernel_rfl) rfl (fun _ => y_move h6) hS (by decide) fun hS => ?_
      refine DA_pg 9 rfl rfl (by decide) rfl (by kernel_rfl) rfl (fun _ => y_sub64 rfl rfl (by omega) (by omega)) hS (by decide) fun hS => ?_
      refine DA_pg 10 rfl rfl (by decide) rfl (by kernel_rfl) rfl (fun _ => y_indexAddr ti30 ti23 (congrArg (Value.slice · _ _) ey) rfl (by omega) (by omega)) hS (by decide) fun hS => ?_
      refine DA_yg 11 rfl rfl (by decide) rfl (by kernel_rfl) rfl (by kernel_rfl) (fun w' h => y_loadS (v := .slice ax ([98] : Key).length cx) ti23 rfl rfl (hcy.ext (h.2.blk bx hcy.lt fun h => h))) hS (by decide) fun hS => ?_
      refine DA_pg 12 rfl rfl (by decide) rfl (by kernel_rfl) rfl (fun _ => y_fieldAddr ti118 rfl ti23 rfl h3) hS (by decide) fun hS => ?_
      refine DA_yg 13 rfl rfl (by decide) rfl (by kernel_rfl) rfl (by kernel_rfl) (fun w' h => y_loadS (v := .slice a1 lo.length c1) ti23 rfl rfl (Cells.unit h.1 rfl)) hS (by decide) fun hS => ?_
      refine DA_pg 14 rfl rfl (by decide) rfl (by kernel_rfl) rfl (fun _ => y_fieldAddr ti118 rfl ti23 rfl h3) hS (by decide) fun hS => ?_
      refine DA_yg 15 rfl rfl (by decide) rfl (by kernel_rfl) rfl (by kernel_rfl) (fun w' h => y_loadS (v := .slice none 0 0) ti23 rfl rfl (Cells.unit h.1 rfl)) hS (by decide) fun hS => ?_
      refine DA_oneg 16 (by kernel_rfl) rfl rfl (by decide) rfl (op_call 54 en54 rfl [.slice ax ([98] : Key).length cx, .slice a1 lo.length c1, .slice none 0 0] rfl (by decide) ((f54_calls (hkx.keeps (H.keepsAll 2 rfl _)) (hlo.keeps (H.keepsAll 2 rfl _)) (SlR.nil _ _ _ _)).mono ?_))
      rintro e w5_16 ⟨rfl, hE54⟩
      refine ⟨_, rfl, fun _ => ⟨(H.ext0 hE54).getOwn 1 rfl, (H.ext0 hE54).ext_of 2 rfl⟩, ?_⟩
      have H := H.ext0 hE54
      rw [hwi]
      have hS : ∀ {ls : Array Bool}, Sx [] (fun w' => w'.heap[b3]? = some (.cells #[.slice a1 lo.length c1, .slice none 0 0] 118) ∧ Ext none' w w') ls w5_16 := fun {_} _ => ⟨H.getOwn 1 rfl, H.ext_of 2 rfl⟩
      refine DA_pg (v := .bool false) 17 rfl rfl (by decide) rfl (by kernel_rfl) rfl (fun _ => y_not (b := true) rfl) hS (by decide) fun hS => ?_
      refine DA_p 18 rfl (by kernel_rfl) rfl (fun _ => y_pick (b := true) (v := .bool false) rfl rfl) hS (by decide) fun hS => ?_
      refine DA_done (by kernel_rfl) ?_
      refine W_condf rfl ?_
      refine W_skip ?_
      refine W_region ?_
      refine OL_y (y_move h5) (by decide) ?_
      refine OL_y (y_move h6) (by decide) ?_
      refine OL_c (op_buildSlice H [.int .i64 ((1 : Nat) : Int)] ti74 ti3 rfl rfl rfl (by simp [Value.cells]) rfl rfl (by decide) fun b38 w6_2 H => ?_)
      refine OL_c (op_append H 1 rfl rfl ti74 ti3 rfl rfl rfl rfl (Src.row (H.getRow 0 rfl)) rfl (by simp [Value.cells, Value.oneCell']) (by omega) (by simp only [maxLen]; omega) (by decide) fun v39 w6_3 H => ?_)
      refine OL_y (y_assign rfl) (by decide) ?_
      refine OL_nil ?_
      refine W_region ?_
      refine OL_y (y_move h6) (by decide) ?_
      refine OL_y (y_add64 rfl rfl (by omega) (by omega)) (by decide) ?_
      refine OL_y (y_assign rfl) (by decide) ?_
      refine OL_nil ?_
      exact ⟨0, by omega, 2, _, _, rfl, h0, h3, rfl, rfl, rfl, H.tail⟩

theorem inOne {n : Int} (h : InK .u8 n) : ∀ x ∈ ([n] : Key), InK .u8 x := by intro x hx; rw [List.mem_singleton.1 hx]; exact h
set_option maxHeartbeats 16000000 in
theorem f28_calls {w : World} : Calls Try.prog 28 [].toArray w fun e w' => e = .returned (.bool true) ∧ Ext none' w w' := by
  have H := Holds.start w
  refine calls_of_W' Try.func28 rfl Try.ntmps28 rfl ?_
  refine W_seq ?_
  refine W_region ?_
  refine OL_y (v := .bool false) (y_assign rfl) (by decide) ?_
  refine OL_nil ?_
  refine W_seq ?_
  refine W_region ?_
  refine OL_c (op_buildSlice H [.int .u8 98] ti23 ti5 rfl rfl rfl (by simp [Value.cells]) rfl rfl (by decide) fun b1 w1_0 H => ?_)
  refine OL_c (op_convSame (cs := [.int .u8 98]) H 0 rfl Try.underlying23 Try.underlying5 rfl (by decide) fun C1 fr1 w1_1 hC1 hm1 hc1 H => ?_)
  refine OL_c (op_buildSlice H [.int .u8 100] ti23 ti5 rfl rfl rfl (by simp [Value.cells]) rfl rfl (by decide) fun b3 w1_2 H => ?_)
  refine OL_c (op_convSame (cs := [.int .u8 100]) H 0 rfl Try.underlying23 Try.underlying5 rfl (by decide) fun C3 fr3 w1_3 hC3 hm3 hc3 H => ?_)
  refine OL_c (op_buildSlice H [.slice (some ⟨b1, 0, none⟩) 1 1, .slice (some ⟨b3, 0, none⟩) 1 1] ti30 ti23 rfl rfl rfl (by simp [Value.cells]) rfl rfl (by decide) fun b5 w1_4 H => ?_)
  refine OL_c (op_buildSlice H [.int .u8 99] ti23 ti5 rfl rfl rfl (by simp [Value.cells]) rfl rfl (by decide) fun b6 w1_5 H => ?_)
  refine OL_c (op_convSame (cs := [.int .u8 99]) H 0 rfl Try.underlying23 Try.underlying5 rfl (by decide) fun C6 fr6 w1_6 hC6 hm6 hc6 H => ?_)
  refine OL_c (op_call 56 en56 rfl [.slice (some ⟨b5, 0, none⟩) 2 2, .slice (some ⟨b6, 0, none⟩) 1 1] rfl (by decide) ((f56_calls (xs := [[98], [100]]) (k := [99]) (SlR.ofRow (Z := fun _ => True) (H.getRow 1 rfl) (by decide) (((Els.nil tKey _ _).snoc ⟨_, rfl, (SlR_block (Z := fun _ => True) (H.getOwn 3 rfl) hC1 (inOne (by unfold InK; decide)) rfl (by decide) hc1 (by decide) trivial)⟩).snoc ⟨_, rfl, (SlR_block (Z := fun _ => True) (H.getOwn 2 rfl) hC3 (inOne (by unfold InK; decide)) rfl (by decide) hc3 (by decide) trivial)⟩) (fun _ _ => trivial) (by decide)) (SlR_block (Z := fun _ => True) (H.getOwn 0 rfl) hC6 (inOne (by unfold InK; decide)) rfl (by decide) hc6 (by decide) trivial)).mono ?_))
  rintro e w1_7 ⟨rfl, hE56⟩
  refine ⟨_, rfl, ?_⟩
  have H := H.ext0 hE56
  rw [show picks [[98], [100]] [99] = 1 by decide]
  refine OL_y (v := .bool true) (y_eqlT (show (((1 : Nat) : Int) = 1) by decide) rfl rfl) (by decide) ?_
  refine OL_y (v := .bool true) (y_move rfl) (by decide) ?_
  refine OL_g rfl (by decide) rfl (op_buildSlice H [.int .u8 98] ti23 ti5 rfl rfl rfl (by simp [Value.cells]) rfl rfl (by decide) fun b11 w1_10 H => ?_)
  refine OL_g rfl (by decide) rfl (op_convSame (cs := [.int .u8 98]) H 0 rfl Try.underlying23 Try.underlying5 rfl (by decide) fun C11 fr11 w1_11 hC11 hm11 hc11 H => ?_)
  refine OL_g rfl (by decide) rfl (op_buildSlice H [.slice (some ⟨b11, 0, none⟩) 1 1] ti30 ti23 rfl rfl rfl (by simp [Value.cells]) rfl rfl (by decide) fun b13 w1_12 H => ?_)
  refine OL_g rfl (by decide) rfl (op_buildSlice H [.int .u8 97] ti23 ti5 rfl rfl rfl (by simp [Value.cells]) rfl rfl (by decide) fun b14 w1_13 H => ?_)
  refine OL_g rfl (by decide) rfl (op_convSame (cs := [.int .u8 97]) H 0 rfl Try.underlying23 Try.underlying5 rfl (by decide) fun C14 fr14 w1_14 hC14 hm14 hc14 H => ?_)
  refine OL_yg (v := .agg #[.slice (some ⟨b14, 0, none⟩) 1 1, .slice none 0 0]) rfl (by decide) rfl (y_build ti118 pl118 (by kernel_rfl)) (by decide) ?_
  refine OL_g rfl (by decide) rfl (op_call 57 en57 rfl [.slice (some ⟨b13, 0, none⟩) 1 1, .agg #[.slice (some ⟨b14, 0, none⟩) 1 1, .slice none 0 0]] rfl (by decide) ((f57_calls (xs := [[98]]) (lo := [97]) (SlR.ofRow (Z := fun _ => True) (H.getRow 1 rfl) (by decide) ((Els.nil tKey _ _).snoc ⟨_, rfl, (SlR_block (Z := fun _ => True) (H.getOwn 2 rfl) hC11 (inOne (by unfold InK; decide)) rfl (by decide) hc11 (by decide) trivial)⟩) (fun _ _ => trivial) (by decide)) (SlR_block (Z := fun _ => True) (H.getOwn 0 rfl) hC14 (inOne (by unfold InK; decide)) rfl (by decide) hc14 (by decide) trivial) rfl rfl).mono ?_))
  rintro e w1_16 ⟨a17, c17, rfl, hE57⟩
  refine ⟨_, rfl, ?_⟩
  have H := H.ext0 hE57
  refine OL_yg rfl (by decide) rfl (y_len rfl ti74 rfl) (by decide) ?_
  refine OL_yg (v := .bool true) rfl (by decide) rfl (y_eqlT (show (((2 : Nat) : Int) = 2) by decide) rfl rfl) (by decide) ?_
  refine OL_y (y_pick (b := true) (v := .bool true) rfl rfl) (by decide) ?_
  refine OL_y (v := .bool true) (y_assign rfl) (by decide) ?_
  refine OL_nil ?_
  refine W_ret ?_
  show RetOK _ _ _ _ _ _
  exact ret1 (v := .bool true) Try.results28 rfl ⟨rfl, H.ext_of 7 rfl⟩
end Go.Proofs.Ytpandioolpnihaa

/- The law ShardAgain: a command that is told again is answered the same, and does nothing more. -/
namespace Go.Wk
open Go
theorem y_eqlNil {P : Program} {d t t' ty e : Nat} {p : String} {af : Array Edge} {g : Option (Nat × Bool)} {f : Fr} {x y : Operand} {w : World} {a : Option Addr} (ht : P.underlying t = some (.pointer e)) (hx : ev f x = .pointer a) (hy : ev f y = .pointer none) : Yd P ⟨some d, .binOp .eql t x y t', ty, p, af, g⟩ f w (.bool a.isNone) :=
  ⟨rfl, by
    have hr := run_isNil (w := w) (a := a) ht (by cases a with | none => exact .inl rfl | some x => exact .inr ⟨x, rfl⟩)
    have hg : (eqGuard .eql t x y (.pointer a) (.pointer none)).run P w = .ok () w := by cases a <;> rfl
    have hb : (binOp .eql t (.pointer a) (.pointer none)) = (do pure (.bool (← Op.equal t (.pointer a) (.pointer none)))) := by cases a <;> rfl
    simp only [execOp, hx, hy, Sem.run_bind, hg, Result.andThen, hb, hr, Sem.run_pure]⟩
theorem calls_bool {P : Program} {k : FuncId} {args : Array Value} {w : World} {p : Prop} {K : Value → World → Prop} (h : Calls P k args w fun e w' => ∃ bb : Bool, e = .returned (.bool bb) ∧ Ext none' w w' ∧ (bb = true → p)) (kT : ∀ w', Ext none' w w' → p → K (.bool true) w') (kF : ∀ w', Ext none' w w' → K (.bool false) w') : Calls P k args w fun e w' => ∃ v, e = .returned v ∧ K v w' := by
  refine h.mono ?_
  rintro e w' ⟨bb, rfl, hE, hp⟩
  cases bb with
  | true => exact ⟨_, rfl, kT w' hE (hp rfl)⟩
  | false => exact ⟨_, rfl, kF w' hE⟩
end Go.Wk
namespace Go.Proofs.Ytpandioolpnihaa
open Go Go.Wk
set_option linter.unusedVariables false
set_option linter.unusedSimpArgs false

section
variable {W w0 Wp : World} {F : Nat → Prop} {mb lb sb g1 g2 : Nat} {la : List (Int × Value)} {E : List Ent} {I : List Itn} {x : Atom} {L : List Atom}
theorem mIn1 (H : Holds W (x :: mAt mb lb la sb g1 g2 E I F Wp w0 L)) : Holds W (mAt mb lb la sb g1 g2 E I F Wp w0 (x :: L)) := mInL [x] H
theorem mOut1 (H : Holds W (mAt mb lb la sb g1 g2 E I F Wp w0 (x :: L))) : Holds W (x :: mAt mb lb la sb g1 g2 E I F Wp w0 L) := mOutL [x] H
end
theorem bdLe {j : Nat} (h : j ≤ 43) : bd j ≤ 9460 := bd43 ▸ bd_mono h
set_option maxHeartbeats 16000000 in
theorem f9_calls {Z : Nat → Prop} {w : World} {vl : Value} {l : List Cmd} {cs : List Value} {c : Cmd} (hl : SlR tCmd 320 Z w vl l) (hc : tCmd.R Z w cs c) :
    Calls Try.prog 9 [vl, .agg cs.toArray].toArray w fun e w' => e = .returned (.bool true) ∧ Ext none' w w' := by
  have H := Holds.start w
  have hl := hl.mono (Z' := fun k => k < w.heap.size) fun k h _ => h
  have hc := tCmd.mono (Z' := fun k => k < w.heap.size) hc fun k h _ => h
  have hc0 := hc
  have hone := tCmd.one hc
  have hlen1 := hl.len1 (by decide)
  obtain ⟨al, cl, rfl, hll, hml⟩ := hl.len
  obtain ⟨vll, vlh, vlo, vhi, vtx, vwr, vke, vco, vix, rfl, hcl, -⟩ := cmd_cells.1 hc
  refine calls_of_W' Try.func9 rfl Try.ntmps9 rfl ?_
  refine W_seq ?_
  refine W_region ?_
  refine OL_c (op_box (v := .agg #[.int .u64 c.client, .int .u64 c.seq, .int .i64 c.kind, .int .u64 c.txn, .int .u64 c.ts, .bool c.flag, .int .u64 c.lk.txn, .int .i64 c.lk.level, .int .i64 c.lk.mode, vll, vlh, vlo, vhi, vtx, vwr, vke, .int .i64 c.tb.id, .string c.tb.name, vco, .int .i64 c.tb.key, vix]) H rfl (by decide) fun b3 w0_0 H => ?_)
  refine OL_y (v := .bool false) (y_assign rfl) (by decide) ?_
  refine OL_nil ?_
  refine W_seq ?_
  refine W_seq ?_
  refine W_region ?_
  refine OL_c (op_call 28 en28 rfl [] rfl (by decide) ((f28_calls).mono ?_))
  rintro e w1_0 ⟨rfl, hE28⟩
  refine ⟨_, rfl, ?_⟩
  have H := H.ext0 hE28
  refine OL_y (y_not (b := true) rfl) (by decide) ?_
  refine OL_nil ?_
  refine W_condf rfl ?_
  refine W_skip ?_
  refine W_seq ?_
  refine W_seq ?_
  by_cases hz : c.client = 0
  · refine W_region ?_
    refine OL_y (y_move rfl) (by decide) ?_
    refine OL_c (op_call 29 en29 rfl [.slice al l.length cl] rfl (by decide) (calls_bool (f29_calls (hl.keeps (H.keepsAll 1 rfl _))) (fun w3_1 hE29 hsm => ?_) (fun w3_1 hE29 => ?_)))
    · have H := H.ext0 hE29
      refine OL_y (v := .bool false) (y_not (b := true) rfl) (by decide) ?_
      refine OL_y (v := .bool false) (y_move rfl) (by decide) ?_
      refine OL_yg rfl (by decide) rfl (y_loadA (cs := [.int .u64 c.client, .int .u64 c.seq, .int .i64 c.kind, .int .u64 c.txn, .int .u64 c.ts, .bool c.flag, .int .u64 c.lk.txn, .int .i64 c.lk.level, .int .i64 c.lk.mode, vll, vlh, vlo, vhi, vtx, vwr, vke, .int .i64 c.tb.id, .string c.tb.name, vco, .int .i64 c.tb.key, vix]) ti78 rfl rfl (Cells.of (H.getOwn 0 rfl) rfl) rfl) (by decide) ?_
      refine OL_g rfl (by decide) rfl (op_buildSlice H [.agg #[.int .u64 c.client, .int .u64 c.seq, .int .i64 c.kind, .int .u64 c.txn, .int .u64 c.ts, .bool c.flag, .int .u64 c.lk.txn, .int .i64 c.lk.level, .int .i64 c.lk.mode, vll, vlh, vlo, vhi, vtx, vwr, vke, .int .i64 c.tb.id, .string c.tb.name, vco, .int .i64 c.tb.key, vix]] ti57 ti78 rfl rfl rfl (by simp [Value.cells]) rfl rfl (by decide) fun b20 w3_5 H => ?_)
      refine OL_g rfl (by decide) rfl (op_call 29 en29 rfl [.slice (some ⟨b20, 0, none⟩) 1 1] rfl (by decide) (calls_bool (f29_calls (l := [c]) (SlR.ofRow (Z := fun _ => True) (H.getRow 0 rfl) (by decide) ((Els.nil tCmd _ _).snoc (tCmd.mono (tCmd.keeps hc0 (H.keepsAll 2 rfl _)) fun _ _ _ => trivial)) (fun _ _ => trivial) (by simp))) (fun w3_6 hE29b hsc => ?_) (fun w3_6 hE29b => ?_)))
      · have H := (H.ext0 hE29b).tail
        have hsc := hsc.2 c (by simp)
        refine OL_yg (v := .bool false) rfl (by decide) rfl (y_not (b := true) rfl) (by decide) ?_
        refine OL_y (y_pick (b := false) (v := .bool false) rfl rfl) (by decide) ?_
        refine OL_y (v := .bool false) (y_move rfl) (by decide) ?_
        refine OL_yg rfl (by decide) rfl (y_fieldAddr ti78 rfl ti24 rfl rfl) (by decide) ?_
        refine OL_yg rfl (by decide) rfl (y_loadS (v := .int .u64 c.client) ti24 rfl rfl (Cells.unit (H.getOwn 0 rfl) rfl)) (by decide) ?_
        refine OL_yg (v := .bool true) rfl (by decide) rfl (y_eqlT hz rfl rfl) (by decide) ?_
        refine OL_y (y_pick (b := false) (v := .bool true) rfl rfl) (by decide) ?_
        refine OL_nil ?_
        refine W_condt rfl ?_
        refine W_seq ?_
        refine W_region ?_
        refine OL_y (v := .bool true) (y_assign rfl) (by decide) ?_
        refine OL_nil ?_
        refine W_ret ?_
        show RetOK _ _ _ _ _ _
        exact ret1 (v := .bool true) Try.results9 rfl ⟨rfl, H.ext_of 1 rfl⟩
      · have H := (H.ext0 hE29b).tail
        refine OL_yg (v := .bool true) rfl (by decide) rfl (y_not (b := false) rfl) (by decide) ?_
        refine OL_y (y_pick (b := false) (v := .bool true) rfl rfl) (by decide) ?_
        refine OL_y (v := .bool true) (y_move rfl) (by decide) ?_
        refine OL_s rfl (by decide) rfl rfl (by simp) ?_
        refine OL_s rfl (by decide) rfl rfl (by simp) ?_
        refine OL_s rfl (by decide) rfl rfl (by simp) ?_
        refine OL_y (y_pick (b := true) (v := .bool true) rfl rfl) (by decide) ?_
        refine OL_nil ?_
        refine W_condt rfl ?_
        refine W_seq ?_
        refine W_region ?_
        refine OL_y (v := .bool true) (y_assign rfl) (by decide) ?_
        refine OL_nil ?_
        refine W_ret ?_
        show RetOK _ _ _ _ _ _
        exact ret1 (v := .bool true) Try.results9 rfl ⟨rfl, H.ext_of 1 rfl⟩
    · have H := H.ext0 hE29
      refine OL_y (v := .bool true) (y_not (b := false) rfl) (by decide) ?_
      refine OL_y (v := .bool true) (y_move rfl) (by decide) ?_
      refine OL_s rfl (by decide) rfl rfl (by simp) ?_
      refine OL_s rfl (by decide) rfl rfl (by simp) ?_
      refine OL_s rfl (by decide) rfl rfl (by simp) ?_
      refine OL_s rfl (by decide) rfl rfl (by simp) ?_
      refine OL_y (y_pick (b := true) (v := .bool true) rfl rfl) (by decide) ?_
      refine OL_y (v := .bool true) (y_move rfl) (by decide) ?_
      refine OL_s rfl (by decide) rfl rfl (by simp) ?_
      refine OL_s rfl (by decide) rfl rfl (by simp) ?_
      refine OL_s rfl (by decide) rfl rfl (by simp) ?_
      refine OL_y (y_pick (b := true) (v := .bool true) rfl rfl) (by decide) ?_
      refine OL_nil ?_
      refine W_condt rfl ?_
      refine W_seq ?_
      refine W_region ?_
      refine OL_y (v := .bool true) (y_assign rfl) (by decide) ?_
      refine OL_nil ?_
      refine W_ret ?_
      show RetOK _ _ _ _ _ _
      exact ret1 (v := .bool true) Try.results9 rfl ⟨rfl, H.ext_of 1 rfl⟩
  · refine W_region ?_
    refine OL_y (y_move rfl) (by decide) ?_
    refine OL_c (op_call 29 en29 rfl [.slice al l.length cl] rfl (by decide) (calls_bool (f29_calls (hl.keeps (H.keepsAll 1 rfl _))) (fun w3_1 hE29 hsm => ?_) (fun w3_1 hE29 => ?_)))
    · have H := H.ext0 hE29
      refine OL_y (v := .bool false) (y_not (b := true) rfl) (by decide) ?_
      refine OL_y (v := .bool false) (y_move rfl) (by decide) ?_
      refine OL_yg rfl (by decide) rfl (y_loadA (cs := [.int .u64 c.client, .int .u64 c.seq, .int .i64 c.kind, .int .u64 c.txn, .int .u64 c.ts, .bool c.flag, .int .u64 c.lk.txn, .int .i64 c.lk.level, .int .i64 c.lk.mode, vll, vlh, vlo, vhi, vtx, vwr, vke, .int .i64 c.tb.id, .string c.tb.name, vco, .int .i64 c.tb.key, vix]) ti78 rfl rfl (Cells.of (H.getOwn 0 rfl) rfl) rfl) (by decide) ?_
      refine OL_g rfl (by decide) rfl (op_buildSlice H [.agg #[.int .u64 c.client, .int .u64 c.seq, .int .i64 c.kind, .int .u64 c.txn, .int .u64 c.ts, .bool c.flag, .int .u64 c.lk.txn, .int .i64 c.lk.level, .int .i64 c.lk.mode, vll, vlh, vlo, vhi, vtx, vwr, vke, .int .i64 c.tb.id, .string c.tb.name, vco, .int .i64 c.tb.key, vix]] ti57 ti78 rfl rfl rfl (by simp [Value.cells]) rfl rfl (by decide) fun b20 w3_5 H => ?_)
      refine OL_g rfl (by decide) rfl (op_call 29 en29 rfl [.slice (some ⟨b20, 0, none⟩) 1 1] rfl (by decide) (calls_bool (f29_calls (l := [c]) (SlR.ofRow (Z := fun _ => True) (H.getRow 0 rfl) (by decide) ((Els.nil tCmd _ _).snoc (tCmd.mono (tCmd.keeps hc0 (H.keepsAll 2 rfl _)) fun _ _ _ => trivial)) (fun _ _ => trivial) (by simp))) (fun w3_6 hE29b hsc => ?_) (fun w3_6 hE29b => ?_)))
      · have H := (H.ext0 hE29b).tail
        have hsc := hsc.2 c (by simp)
        refine OL_yg (v := .bool false) rfl (by decide) rfl (y_not (b := true) rfl) (by decide) ?_
        refine OL_y (y_pick (b := false) (v := .bool false) rfl rfl) (by decide) ?_
        refine OL_y (v := .bool false) (y_move rfl) (by decide) ?_
        refine OL_yg rfl (by decide) rfl (y_fieldAddr ti78 rfl ti24 rfl rfl) (by decide) ?_
        refine OL_yg rfl (by decide) rfl (y_loadS (v := .int .u64 c.client) ti24 rfl rfl (Cells.unit (H.getOwn 0 rfl) rfl)) (by decide) ?_
        refine OL_yg (v := .bool false) rfl (by decide) rfl (y_eqlF hz rfl rfl) (by decide) ?_
        refine OL_y (y_pick (b := false) (v := .bool false) rfl rfl) (by decide) ?_
        refine OL_nil ?_
        refine W_condf rfl ?_
        refine W_skip ?_
        refine W_seq ?_
        have hb := H.ext_of 1 rfl
        have hn40 := hsm.1
        have H := (H.perm (List.Perm.swap _ _ _)).pool0
        refine W_region ?_
        refine OL_c (op_call 30 en30 rfl [] rfl (by decide) ((f30_calls H).mono ?_))
        rintro e w5_0 ⟨mb, lb, sb, g1, g2, rfl, H⟩
        refine ⟨_, rfl, ?_⟩
        refine OL_y (y_assign rfl) (by decide) ?_
        refine OL_nil ?_
        refine W_seq ?_
        refine W_seq ?_
        refine W_region ?_
        refine OL_y (y_move rfl) (by decide) ?_
        refine OL_y (y_len rfl ti57 rfl) (by decide) ?_
        refine OL_y (y_move rfl) (by decide) ?_
        refine OL_nil ?_
        refine W_range (N := l.length) (by simp only [maxLen]; omega) (fun j f ds w' => ∃ (la : List (Int × Value)) (lst : Lst) (E : List Ent) (I : List Itn) (F : Nat → Prop) (Wp : World) (a : Abs), f 3 = .pointer (some ⟨b3, 0, none⟩) ∧ f 5 = .pointer (some ⟨mb, 0, none⟩) ∧ f 30 = .slice al l.length cl ∧ ds = [] ∧ CRep w F Wp E I a ∧ LRep w F Wp la lst ∧ a.Ok (bd j) ∧ I.length ≤ 10 * j ∧ E.length ≤ bd j ∧ Holds w' (mAt mb lb la sb g1 g2 E I F Wp w [own b3 (.cells #[.int .u64 c.client, .int .u64 c.seq, .int .i64 c.kind, .int .u64 c.txn, .int .u64 c.ts, .bool c.flag, .int .u64 c.lk.txn, .int .i64 c.lk.level, .int .i64 c.lk.mode, vll, vlh, vlo, vhi, vtx, vwr, vke, .int .i64 c.tb.id, .string c.tb.name, vco, .int .i64 c.tb.key, vix] 78)]))
            ⟨[], fun _ => none, [], [], none', w3_6, Abs.empty, rfl, rfl, rfl, rfl, CRep.new hb, LRep.new _ _ _, empty_ok, by simp, by simp, H⟩
            rfl rfl (by decide) (by decide) (by decide) rfl rfl ?_ rfl rfl ?_
        · rintro j f ds w7 hj ⟨la, lst, E, I, F, Wp, a, h3, h5, h30, rfl, hr, hL, ha, hI, hE, H⟩ hti htn
          have hxj := List.getElem?_eq_getElem hj
          have hsd := hsm.2 _ (List.getElem_mem hj)
          generalize l[j] = d at *
          obtain ⟨bx, ox, cs9, e9, hz9, hc9, hr9⟩ := hl.at hxj
          have hc9' := hc9.ext ((H.keepsAll 6 rfl (fun _ => True)).2 _ trivial hc9.lt)
          have hone9 := tCmd.one hr9
          have hr9' : tCmd.R (Dz w F) Wp _ d := Ty.dzOf hr9 hr.base
          obtain ⟨y1, y2, y3, y4, y5, y6, y7, y8, y9, rfl, -⟩ := cmd_cells.1 hr9
          have hbj := bdLe (show j ≤ 43 by omega)
          have h30' := h30.trans (congrArg (Value.slice · _ _) e9)
          refine W_block ?_
          refine W_seq ?_
          refine W_region ?_
          refine OL_y (y_indexAddr ti57 ti78 h30' hti (by omega) (by omega)) (by decide) ?_
          refine OL_y (y_loadA (cs := [.int .u64 d.client, .int .u64 d.seq, .int .i64 d.kind, .int .u64 d.txn, .int .u64 d.ts, .bool d.flag, .int .u64 d.lk.txn, .int .i64 d.lk.level, .int .i64 d.lk.mode, y1, y2, y3, y4, y5, y6, y7, .int .i64 d.tb.id, .string d.tb.name, y8, .int .i64 d.tb.key, y9]) ti78 rfl rfl hc9' rfl) (by decide) ?_
          refine OL_var (v := .agg #[.int .u64 d.client, .int .u64 d.seq, .int .i64 d.kind, .int .u64 d.txn, .int .u64 d.ts, .bool d.flag, .int .u64 d.lk.txn, .int .i64 d.lk.level, .int .i64 d.lk.mode, y1, y2, y3, y4, y5, y6, y7, .int .i64 d.tb.id, .string d.tb.name, y8, .int .i64 d.tb.key, y9]) H ti78 rfl (by decide) (fun _ => rfl) rfl (hone9) fun b7 w8_2 H => ?_
          refine OL_nil ?_
          refine W_region ?_
          refine OL_y (y_move h5) (by decide) ?_
          refine OL_y (y_loadA (cs := [.int .u64 d.client, .int .u64 d.seq, .int .i64 d.kind, .int .u64 d.txn, .int .u64 d.ts, .bool d.flag, .int .u64 d.lk.txn, .int .i64 d.lk.level, .int .i64 d.lk.mode, y1, y2, y3, y4, y5, y6, y7, .int .i64 d.tb.id, .string d.tb.name, y8, .int .i64 d.tb.key, y9]) ti78 rfl rfl (Cells.of (H.getOwn 0 rfl) rfl) rfl) (by decide) ?_
          refine OL_c (op_call 32 en32 rfl [.pointer (some ⟨mb, 0, none⟩), .agg #[.int .u64 d.client, .int .u64 d.seq, .int .i64 d.kind, .int .u64 d.txn, .int .u64 d.ts, .bool d.flag, .int .u64 d.lk.txn, .int .i64 d.lk.level, .int .i64 d.lk.mode, y1, y2, y3, y4, y5, y6, y7, .int .i64 d.tb.id, .string d.tb.name, y8, .int .i64 d.tb.key, y9]] rfl (by decide) ((f32_calls (mIn1 H) hr hL ha (by omega) (by omega) (by omega) hr9' (by have := hsd.1; omega) (fun x hx => by have := hsd.2.2 x hx; omega)).mono ?_))
          rintro e w9_2 ⟨rcs, r, a', lst', la', E', I', F', Wp', rfl, hdo, H, hr', hL', gr, hR, ha', hI', hE'⟩
          refine ⟨_, rfl, ?_⟩
          have H := (mOut1 H).tail
          have hw10 := hsd.2.1
          refine OL_nil ?_
          exact ⟨hti, htn, la', lst', E', I', F', Wp', a', h3, h5, h30, rfl, hr', hL', ha'.mono (by show bd j + I.length ≤ bd j + 10 * j + 10; omega), by omega, by show E'.length ≤ bd j + 10 * j + 10; omega, H⟩
        · rintro f ds w7 ⟨la, lst, E, I, F, Wp, a, h3, h5, h30, rfl, hr, hL, ha, hI, hE, H⟩ hti htn
          have H := mOut1 H
          have hbn := bdLe (show l.length ≤ 43 by omega)
          have hbn1 := bdLe (show l.length + 1 ≤ 43 by omega)
          have hw10 := hsc.2.1
          have hcd : ∀ {F : Nat → Prop} {Wp : World}, Ext none' w Wp → tCmd.R (Dz w F) Wp [.int .u64 c.client, .int .u64 c.seq, .int .i64 c.kind, .int .u64 c.txn, .int .u64 c.ts, .bool c.flag, .int .u64 c.lk.txn, .int .i64 c.lk.level, .int .i64 c.lk.mode, vll, vlh, vlo, vhi, vtx, vwr, vke, .int .i64 c.tb.id, .string c.tb.name, vco, .int .i64 c.tb.key, vix] c := fun hb => Ty.dzOf hc0 hb
          refine W_seq ?_
          refine W_region ?_
          refine OL_y (y_move h5) (by decide) ?_
          refine OL_y (y_loadA (cs := [.int .u64 c.client, .int .u64 c.seq, .int .i64 c.kind, .int .u64 c.txn, .int .u64 c.ts, .bool c.flag, .int .u64 c.lk.txn, .int .i64 c.lk.level, .int .i64 c.lk.mode, vll, vlh, vlo, vhi, vtx, vwr, vke, .int .i64 c.tb.id, .string c.tb.name, vco, .int .i64 c.tb.key, vix]) ti78 rfl h3 (Cells.of (H.getOwn 0 rfl) rfl) rfl) (by decide) ?_
          refine OL_c (op_call 32 en32 rfl [.pointer (some ⟨mb, 0, none⟩), .agg #[.int .u64 c.client, .int .u64 c.seq, .int .i64 c.kind, .int .u64 c.txn, .int .u64 c.ts, .bool c.flag, .int .u64 c.lk.txn, .int .i64 c.lk.level, .int .i64 c.lk.mode, vll, vlh, vlo, vhi, vtx, vwr, vke, .int .i64 c.tb.id, .string c.tb.name, vco, .int .i64 c.tb.key, vix]] rfl (by decide) ((f32_calls (mIn1 H) hr hL ha (by omega) (by omega) (by omega) (hcd hr.base) (by have := hsc.1; omega) (fun x hx => by have := hsc.2.2 x hx; omega)).mono ?_))
          rintro e w11_2 ⟨rcs1, r1, a1, lst1, la1, E1, I1, F1, W1, rfl, hdo1, H, hr1, hL1, gr1, hR1, ha1, hI1, hE1⟩
          refine ⟨_, rfl, ?_⟩
          have H := mOut1 H
          have hR10 := hR1
          obtain ⟨v1, rfl, hi1, hs1⟩ := res_cells.1 hR1
          refine OL_var (v := .agg #[.int .i64 r1.err, .int .u64 0, .int .u64 0, .bool false, .slice none 0 0, v1, .slice none 0 0]) H ti84 rfl (by decide) (fun _ => rfl) rfl (tRes.one hR10) fun b8 w11_3 H => ?_
          refine OL_nil ?_
          refine W_seq ?_
          refine W_region ?_
          refine OL_y (y_move h5) (by decide) ?_
          refine OL_c (op_call 34 en34 rfl [.pointer (some ⟨mb, 0, none⟩)] rfl (by decide) ((f34_calls (H.getOwn 2 rfl)).mono ?_))
          rintro e w12_1 ⟨rfl, hE34⟩
          refine ⟨_, rfl, ?_⟩
          have H := H.ext0 hE34
          refine OL_y (y_assign rfl) (by decide) ?_
          refine OL_nil ?_
          refine W_seq ?_
          refine W_seq ?_
          refine W_region ?_
          refine OL_y (y_move rfl) (by decide) ?_
          refine OL_y (y_eqlNil (a := some ⟨sb, 0, none⟩) Try.underlying26 rfl rfl) (by decide) ?_
          refine OL_nil ?_
          refine W_condf rfl ?_
          refine W_skip ?_
          refine W_seq ?_
          refine W_region ?_
          refine OL_y (y_move rfl) (by decide) ?_
          refine OL_c (op_call 25 en25 rfl [.pointer (some ⟨sb, 0, none⟩), .slice none 0 0, .slice none 0 0, .int .u64 18446744073709551615] rfl (by decide) ((f25_calls (H.tail.tail.tail.tail) hr1 ha1 (by omega) (by omega) (by omega) (SlR.nil (tInt .u8) 1 (fun _ => True) _) (SlR.nil (tInt .u8) 1 (fun _ => True) _)).mono ?_))
          rintro e w15_1 ⟨vs1, ks1, rfl, hsc1, hS1, hE25⟩
          refine ⟨_, rfl, ?_⟩
          obtain ⟨F2, H, gr2, hF2⟩ := H.poolN hE25 7 8 rfl rfl hr1.base
          have hS1 := hS1.mono fun k h1 h2 => hF2 k h1 (.inr h2)
          have hr2 := hr1.grow gr2
          have hL2 := hL1.grow gr2
          have hR12 := gr2.R hR10
          refine OL_y (y_assign rfl) (by decide) ?_
          refine OL_nil ?_
          refine W_seq ?_
          refine W_region ?_
          refine OL_y (y_move h5) (by decide) ?_
          refine OL_y (y_loadA (cs := [.int .u64 c.client, .int .u64 c.seq, .int .i64 c.kind, .int .u64 c.txn, .int .u64 c.ts, .bool c.flag, .int .u64 c.lk.txn, .int .i64 c.lk.level, .int .i64 c.lk.mode, vll, vlh, vlo, vhi, vtx, vwr, vke, .int .i64 c.tb.id, .string c.tb.name, vco, .int .i64 c.tb.key, vix]) ti78 rfl h3 (Cells.of (H.getOwn 1 rfl) rfl) rfl) (by decide) ?_
          refine OL_c (op_call 32 en32 rfl [.pointer (some ⟨mb, 0, none⟩), .agg #[.int .u64 c.client, .int .u64 c.seq, .int .i64 c.kind, .int .u64 c.txn, .int .u64 c.ts, .bool c.flag, .int .u64 c.lk.txn, .int .i64 c.lk.level, .int .i64 c.lk.mode, vll, vlh, vlo, vhi, vtx, vwr, vke, .int .i64 c.tb.id, .string c.tb.name, vco, .int .i64 c.tb.key, vix]] rfl (by decide) ((f32_calls (mIn2 H) hr2 hL2 ha1 (by omega) (by omega) (by omega) (hcd hr2.base) (by have := hsc.1; omega) (fun x hx => by have := hsc.2.2 x hx; omega)).mono ?_))
          rintro e w16_2 ⟨rcs3, r3, a3, lst3, la3, E3, I3, F3, W3, rfl, hdo3, H, hr3, hL3, gr3, hR3, ha3, hI3, hE3⟩
          refine ⟨_, rfl, ?_⟩
          have H := mOut2 H
          obtain ⟨ea, er⟩ := hdo1.again hz hdo3
          rw [er] at hR3
          rw [ea] at hr3 ha3
          have hR30 := hR3
          obtain ⟨v3, rfl, hi3, hs3⟩ := res_cells.1 hR3
          have hR13 := gr3.R hR12
          refine OL_var (v := .agg #[.int .i64 r1.err, .int .u64 0, .int .u64 0, .bool false, .slice none 0 0, v3, .slice none 0 0]) H ti84 rfl (by decide) (fun _ => rfl) rfl (tRes.one hR30) fun b11 w16_3 H => ?_
          refine OL_nil ?_
          refine W_seq ?_
          refine W_region ?_
          refine OL_y (y_assign rfl) (by decide) ?_
          refine OL_nil ?_
          refine W_seq ?_
          refine W_region ?_
          refine OL_y (y_loadA (cs := [.int .i64 r1.err, .int .u64 0, .int .u64 0, .bool false, .slice none 0 0, v1, .slice none 0 0]) ti84 rfl rfl (Cells.of (H.getOwn 1 rfl) rfl) rfl) (by decide) ?_
          refine OL_y (y_loadA (cs := [.int .i64 r1.err, .int .u64 0, .int .u64 0, .bool false, .slice none 0 0, v3, .slice none 0 0]) ti84 rfl rfl (Cells.of (H.getOwn 0 rfl) rfl) rfl) (by decide) ?_
          refine OL_c (op_call 31 en31 rfl [.agg #[.int .i64 r1.err, .int .u64 0, .int .u64 0, .bool false, .slice none 0 0, v1, .slice none 0 0], .agg #[.int .i64 r1.err, .int .u64 0, .int .u64 0, .bool false, .slice none 0 0, v3, .slice none 0 0]] rfl (by decide) ((f31_calls (tRes.keeps hR13 (H.dz 8 9 rfl rfl hr3.base)) (tRes.keeps hR30 (H.dz 8 9 rfl rfl hr3.base))).mono ?_))
          rintro e w18_2 ⟨rfl, hE31⟩
          refine ⟨_, rfl, ?_⟩
          have H := H.ext0 hE31
          refine OL_y (v := .bool true) (y_move rfl) (by decide) ?_
          refine OL_yg rfl (by decide) rfl (y_move rfl) (by decide) ?_
          refine OL_g rfl (by decide) rfl (op_call 25 en25 rfl [.pointer (some ⟨sb, 0, none⟩), .slice none 0 0, .slice none 0 0, .int .u64 18446744073709551615] rfl (by decide) ((f25_calls (H.tail.tail.tail.tail.tail) hr3 ha3 (by omega) (by omega) (by omega) (SlR.nil (tInt .u8) 1 (fun _ => True) _) (SlR.nil (tInt .u8) 1 (fun _ => True) _)).mono ?_))
          rintro e w18_5 ⟨vs3, ks3, rfl, hsc3, hS3, hE25b⟩
          refine ⟨_, rfl, ?_⟩
          have H := H.ext0 hE25b
          have hks := scan_uni hsc3 hsc1
          rw [hks] at hS3
          refine OL_yg rfl (by decide) rfl (y_move rfl) (by decide) ?_
          refine OL_g rfl (by decide) rfl (op_call 24 en24 rfl [vs3, vs1] rfl (by decide) ((f24_same hS3 ((gr3.slr hS1).keeps (H.dz 8 9 rfl rfl hr3.base))).mono ?_))
          rintro e w18_7 ⟨rfl, hE24⟩
          refine ⟨_, rfl, ?_⟩
          have H := H.ext0 hE24
          refine OL_y (y_pick (b := true) (v := .bool true) rfl rfl) (by decide) ?_
          refine OL_y (v := .bool true) (y_move rfl) (by decide) ?_
          refine OL_yg rfl (by decide) rfl (y_move rfl) (by decide) ?_
          refine OL_yg rfl (by decide) rfl (y_loadA (cs := [.int .u64 c.client, .int .u64 c.seq, .int .i64 c.kind, .int .u64 c.txn, .int .u64 c.ts, .bool c.flag, .int .u64 c.lk.txn, .int .i64 c.lk.level, .int .i64 c.lk.mode, vll, vlh, vlo, vhi, vtx, vwr, vke, .int .i64 c.tb.id, .string c.tb.name, vco, .int .i64 c.tb.key, vix]) ti78 rfl h3 (Cells.of (H.getOwn 2 rfl) rfl) rfl) (by decide) ?_
          refine OL_g rfl (by decide) rfl (op_call 32 en32 rfl [.pointer none, .agg #[.int .u64 c.client, .int .u64 c.seq, .int .i64 c.kind, .int .u64 c.txn, .int .u64 c.ts, .bool c.flag, .int .u64 c.lk.txn, .int .i64 c.lk.level, .int .i64 c.lk.mode, vll, vlh, vlo, vhi, vtx, vwr, vke, .int .i64 c.tb.id, .string c.tb.name, vco, .int .i64 c.tb.key, vix]] rfl (by decide) ((f32_nil hc0).mono ?_))
          rintro e w18_12 ⟨rfl, hE32⟩
          refine ⟨_, rfl, ?_⟩
          have H := H.ext0 hE32
          refine OL_yg rfl (by decide) rfl (y_field ti84 rfl ti80 rfl rfl rfl) (by decide) ?_
          refine OL_yg (v := .bool true) rfl (by decide) rfl (y_eqlT rfl rfl rfl) (by decide) ?_
          refine OL_y (y_pick (b := true) (v := .bool true) rfl rfl) (by decide) ?_
          refine OL_y (v := .bool true) (y_move rfl) (by decide) ?_
          refine OL_yg rfl (by decide) rfl (y_move rfl) (by decide) ?_
          refine OL_g rfl (by decide) rfl (op_call 34 en34 rfl [.pointer none] rfl (by decide) ((f34_nil).mono ?_))
          rintro e w18_18 ⟨rfl, hE34b⟩
          refine ⟨_, rfl, ?_⟩
          have H := H.ext0 hE34b
          refine OL_yg rfl (by decide) rfl (y_eqlNil (a := none) Try.underlying26 rfl rfl) (by decide) ?_
          refine OL_y (y_pick (b := true) (v := .bool true) rfl rfl) (by decide) ?_
          refine OL_y (v := .bool true) (y_assign rfl) (by decide) ?_
          refine OL_nil ?_
          refine W_ret ?_
          show RetOK _ _ _ _ _ _
          exact ret1 (v := .bool true) Try.results9 rfl ⟨rfl, H.ext_of 9 rfl⟩
      · have H := (H.ext0 hE29b).tail
        refine OL_yg (v := .bool true) rfl (by decide) rfl (y_not (b := false) rfl) (by decide) ?_
        refine OL_y (y_pick (b := false) (v := .bool true) rfl rfl) (by decide) ?_
        refine OL_y (v := .bool true) (y_move rfl) (by decide) ?_
        refine OL_s rfl (by decide) rfl rfl (by simp) ?_
        refine OL_s rfl (by decide) rfl rfl (by simp) ?_
        refine OL_s rfl (by decide) rfl rfl (by simp) ?_
        refine OL_y (y_pick (b := true) (v := .bool true) rfl rfl) (by decide) ?_
        refine OL_nil ?_
        refine W_condt rfl ?_
        refine W_seq ?_
        refine W_region ?_
        refine OL_y (v := .bool true) (y_assign rfl) (by decide) ?_
        refine OL_nil ?_
        refine W_ret ?_
        show RetOK _ _ _ _ _ _
        exact ret1 (v := .bool true) Try.results9 rfl ⟨rfl, H.ext_of 1 rfl⟩
    · have H := H.ext0 hE29
      refine OL_y (v := .bool true) (y_not (b := false) rfl) (by decide) ?_
      refine OL_y (v := .bool true) (y_move rfl) (by decide) ?_
      refine OL_s rfl (by decide) rfl rfl (by simp) ?_
      refine OL_s rfl (by decide) rfl rfl (by simp) ?_
      refine OL_s rfl (by decide) rfl rfl (by simp) ?_
      refine OL_s rfl (by decide) rfl rfl (by simp) ?_
      refine OL_y (y_pick (b := true) (v := .bool true) rfl rfl) (by decide) ?_
      refine OL_y (v := .bool true) (y_move rfl) (by decide) ?_
      refine OL_s rfl (by decide) rfl rfl (by simp) ?_
      refine OL_s rfl (by decide) rfl rfl (by simp) ?_
      refine OL_s rfl (by decide) rfl rfl (by simp) ?_
      refine OL_y (y_pick (b := true) (v := .bool true) rfl rfl) (by decide) ?_
      refine OL_nil ?_
      refine W_condt rfl ?_
      refine W_seq ?_
      refine W_region ?_
      refine OL_y (v := .bool true) (y_assign rfl) (by decide) ?_
      refine OL_nil ?_
      refine W_ret ?_
      show RetOK _ _ _ _ _ _
      exact ret1 (v := .bool true) Try.results9 rfl ⟨rfl, H.ext_of 1 rfl⟩
end Go.Proofs.Ytpandioolpnihaa

/- The law ShardWhole: what is prepared is prepared whole, or not at all; it is applied whole, or dropped whole. -/
namespace Go.Proofs.Ytpandioolpnihaa
open Go Go.Wk
set_option linter.unusedVariables false
set_option linter.unusedSimpArgs false

theorem do0 {a a' : Abs} {l l' : Lst} {c : Cmd} {r : Rs} (h : DoR a l c a' l' r) (hc : c.client = 0) : OneR a c a' r := (doR_new h (if_pos hc)).1
theorem of8 {a a' : Abs} {c : Cmd} {r : Rs} (h : OneR a c a' r) (hk : c.kind = 8) : a' = prepA a c ∧ r = ⟨prepE a c, []⟩ := h.uni (one8 hk)
theorem of9 {a a' : Abs} {c : Cmd} {r : Rs} (h : OneR a c a' r) (hk : c.kind = 9) : ∃ ks, IntentsOf a c.txn ks ∧ a' = ks.foldl (Abs.turn1 c.ts) a := by
  unfold OneR at h
  rw [if_neg (by omega), if_pos hk] at h
  obtain ⟨ks, h1, h2, -⟩ := h
  exact ⟨ks, h1, h2⟩
def asPrep (c : Cmd) : Cmd := { c with client := 0, kind := 8 }
def asApply (txn ts : Int) : Cmd := ⟨0, 0, 9, txn, ts, false, ⟨0, 0, 0, [], []⟩, [], [], [], [], [], ⟨0, ByteArray.empty, [], 0, []⟩⟩

set_option maxHeartbeats 16000000 in
theorem f10_calls {Z : Nat → Prop} {w : World} {vl : Value} {l : List Cmd} {cs : List Value} {c : Cmd} {ts : Int} (hl : SlR tCmd 320 Z w vl l) (hc : tCmd.R Z w cs c) (hts : InK .u64 ts) :
    Calls Try.prog 10 [vl, .agg cs.toArray, .int .u64 ts].toArray w fun e w' => e = .returned (.bool true) ∧ Ext none' w w' := by
  have H := Holds.start w
  have hl := hl.mono (Z' := fun k => k < w.heap.size) fun k h _ => h
  have hc := tCmd.mono (Z' := fun k => k < w.heap.size) hc fun k h _ => h
  have hc0 := hc
  have hone := tCmd.one hc
  have hlen1 := hl.len1 (by decide)
  obtain ⟨al, cl, rfl, hll, hml⟩ := hl.len
  obtain ⟨vll, vlh, vlo, vhi, vtx, vwr, vke, vco, vix, rfl, hcl, hsq, hkd, htx, hcts, hlk1, hlo, hhi, htxs, hwr, hke, htb⟩ := cmd_cells.1 hc
  obtain ⟨aw, cw, rfl, hlw, hmw⟩ := hwr.len
  refine calls_of_W' Try.func10 rfl Try.ntmps10 rfl ?_
  refine W_seq ?_
  refine W_region ?_
  refine OL_c (op_box (v := .agg #[.int .u64 c.client, .int .u64 c.seq, .int .i64 c.kind, .int .u64 c.txn, .int .u64 c.ts, .bool c.flag, .int .u64 c.lk.txn, .int .i64 c.lk.level, .int .i64 c.lk.mode, vll, vlh, vlo, vhi, vtx, .slice aw c.writes.length cw, vke, .int .i64 c.tb.id, .string c.tb.name, vco, .int .i64 c.tb.key, vix]) H rfl (by decide) fun b4 w0_0 H => ?_)
  refine OL_y (v := .bool false) (y_assign rfl) (by decide) ?_
  refine OL_nil ?_
  refine W_seq ?_
  refine W_seq ?_
  refine W_region ?_
  refine OL_c (op_call 28 en28 rfl [] rfl (by decide) ((f28_calls).mono ?_))
  rintro e w1_0 ⟨rfl, hE28⟩
  refine ⟨_, rfl, ?_⟩
  have H := H.ext0 hE28
  refine OL_y (y_not (b := true) rfl) (by decide) ?_
  refine OL_nil ?_
  refine W_condf rfl ?_
  refine W_skip ?_
  refine W_seq ?_
  refine W_seq ?_
  refine W_region ?_
  refine OL_y (y_move rfl) (by decide) ?_
  refine OL_c (op_call 29 en29 rfl [.slice al l.length cl] rfl (by decide) (calls_bool (f29_calls (hl.keeps (H.keepsAll 1 rfl _))) (fun w3_1 hE29 hsm => ?_) (fun w3_1 hE29 => ?_)))
  · have H := H.ext0 hE29
    refine OL_y (v := .bool false) (y_not (b := true) rfl) (by decide) ?_
    refine OL_y (v := .bool false) (y_move rfl) (by decide) ?_
    refine OL_yg rfl (by decide) rfl (y_loadA (cs := [.int .u64 c.client, .int .u64 c.seq, .int .i64 c.kind, .int .u64 c.txn, .int .u64 c.ts, .bool c.flag, .int .u64 c.lk.txn, .int .i64 c.lk.level, .int .i64 c.lk.mode, vll, vlh, vlo, vhi, vtx, .slice aw c.writes.length cw, vke, .int .i64 c.tb.id, .string c.tb.name, vco, .int .i64 c.tb.key, vix]) ti78 rfl rfl (Cells.of (H.getOwn 0 rfl) rfl) rfl) (by decide) ?_
    refine OL_g rfl (by decide) rfl (op_buildSlice H [.agg #[.int .u64 c.client, .int .u64 c.seq, .int .i64 c.kind, .int .u64 c.txn, .int .u64 c.ts, .bool c.flag, .int .u64 c.lk.txn, .int .i64 c.lk.level, .int .i64 c.lk.mode, vll, vlh, vlo, vhi, vtx, .slice aw c.writes.length cw, vke, .int .i64 c.tb.id, .string c.tb.name, vco, .int .i64 c.tb.key, vix]] ti57 ti78 rfl rfl rfl (by simp [Value.cells]) rfl rfl (by decide) fun b29 w3_5 H => ?_)
    refine OL_g rfl (by decide) rfl (op_call 29 en29 rfl [.slice (some ⟨b29, 0, none⟩) 1 1] rfl (by decide) (calls_bool (f29_calls (l := [c]) (SlR.ofRow (Z := fun _ => True) (H.getRow 0 rfl) (by decide) ((Els.nil tCmd _ _).snoc (tCmd.mono (tCmd.keeps hc0 (H.keepsAll 2 rfl _)) fun _ _ _ => trivial)) (fun _ _ => trivial) (by simp))) (fun w3_6 hE29b hsc => ?_) (fun w3_6 hE29b => ?_)))
    · have H := (H.ext0 hE29b).tail
      have hsc := hsc.2 c (by simp)
      refine OL_yg (v := .bool false) rfl (by decide) rfl (y_not (b := true) rfl) (by decide) ?_
      refine OL_y (y_pick (b := false) (v := .bool false) rfl rfl) (by decide) ?_
      refine OL_nil ?_
      refine W_condf rfl ?_
      refine W_skip ?_
      refine W_seq ?_
      have hb := H.ext_of 1 rfl
      have hn40 := hsm.1
      have H := (H.perm (List.Perm.swap _ _ _)).pool0
      refine W_region ?_
      refine OL_c (op_call 30 en30 rfl [] rfl (by decide) ((f30_calls H).mono ?_))
      rintro e w5_0 ⟨mb, lb, sb, g1, g2, rfl, H⟩
      refine ⟨_, rfl, ?_⟩
      refine OL_y (y_assign rfl) (by decide) ?_
      refine OL_nil ?_
      refine W_seq ?_
      refine W_seq ?_
      refine W_region ?_
      refine OL_y (y_move rfl) (by decide) ?_
      refine OL_y (y_len rfl ti57 rfl) (by decide) ?_
      refine OL_y (y_move rfl) (by decide) ?_
      refine OL_nil ?_
      refine W_range (N := l.length) (by simp only [maxLen]; omega) (fun j f ds w' => ∃ (la : List (Int × Value)) (lst : Lst) (E : List Ent) (I : List Itn) (F : Nat → Prop) (Wp : World) (a : Abs), f 2 = .int .u64 ts ∧ f 4 = .pointer (some ⟨b4, 0, none⟩) ∧ f 7 = .pointer (some ⟨mb, 0, none⟩) ∧ f 34 = .slice al l.length cl ∧ ds = [] ∧ CRep w F Wp E I a ∧ LRep w F Wp la lst ∧ a.Ok (bd j) ∧ I.length ≤ 10 * j ∧ E.length ≤ bd j ∧ Holds w' (mAt mb lb la sb g1 g2 E I F Wp w [own b4 (.cells #[.int .u64 c.client, .int .u64 c.seq, .int .i64 c.kind, .int .u64 c.txn, .int .u64 c.ts, .bool c.flag, .int .u64 c.lk.txn, .int .i64 c.lk.level, .int .i64 c.lk.mode, vll, vlh, vlo, vhi, vtx, .slice aw c.writes.length cw, vke, .int .i64 c.tb.id, .string c.tb.name, vco, .int .i64 c.tb.key, vix] 78)]))
          ⟨[], fun _ => none, [], [], none', w3_6, Abs.empty, rfl, rfl, rfl, rfl, rfl, CRep.new hb, LRep.new _ _ _, empty_ok, by simp, by simp, H⟩
          rfl rfl (by decide) (by decide) (by decide) rfl rfl ?_ rfl rfl ?_
      · rintro j f ds w7 hj ⟨la, lst, E, I, F, Wp, a, h2, h4, h7, h34, rfl, hr, hL, ha, hI, hE, H⟩ hti htn
        have hxj := List.getElem?_eq_getElem hj
        have hsd := hsm.2 _ (List.getElem_mem hj)
        generalize l[j] = d at *
        obtain ⟨bx, ox, cs9, e9, hz9, hc9, hr9⟩ := hl.at hxj
        have hc9' := hc9.ext ((H.keepsAll 6 rfl (fun _ => True)).2 _ trivial hc9.lt)
        have hone9 := tCmd.one hr9
        have hr9' : tCmd.R (Dz w F) Wp _ d := Ty.dzOf hr9 hr.base
        obtain ⟨y1, y2, y3, y4, y5, y6, y7, y8, y9, rfl, -⟩ := cmd_cells.1 hr9
        have hbj := bdLe (show j ≤ 43 by omega)
        have h34' := h34.trans (congrArg (Value.slice · _ _) e9)
        refine W_block ?_
        refine W_seq ?_
        refine W_region ?_
        refine OL_y (y_indexAddr ti57 ti78 h34' hti (by omega) (by omega)) (by decide) ?_
        refine OL_y (y_loadA (cs := [.int .u64 d.client, .int .u64 d.seq, .int .i64 d.kind, .int .u64 d.txn, .int .u64 d.ts, .bool d.flag, .int .u64 d.lk.txn, .int .i64 d.lk.level, .int .i64 d.lk.mode, y1, y2, y3, y4, y5, y6, y7, .int .i64 d.tb.id, .string d.tb.name, y8, .int .i64 d.tb.key, y9]) ti78 rfl rfl hc9' rfl) (by decide) ?_
        refine OL_var (v := .agg #[.int .u64 d.client, .int .u64 d.seq, .int .i64 d.kind, .int .u64 d.txn, .int .u64 d.ts, .bool d.flag, .int .u64 d.lk.txn, .int .i64 d.lk.level, .int .i64 d.lk.mode, y1, y2, y3, y4, y5, y6, y7, .int .i64 d.tb.id, .string d.tb.name, y8, .int .i64 d.tb.key, y9]) H ti78 rfl (by decide) (fun _ => rfl) rfl (hone9) fun b9 w8_2 H => ?_
        refine OL_nil ?_
        refine W_region ?_
        refine OL_y (y_move h7) (by decide) ?_
        refine OL_y (y_loadA (cs := [.int .u64 d.client, .int .u64 d.seq, .int .i64 d.kind, .int .u64 d.txn, .int .u64 d.ts, .bool d.flag, .int .u64 d.lk.txn, .int .i64 d.lk.level, .int .i64 d.lk.mode, y1, y2, y3, y4, y5, y6, y7, .int .i64 d.tb.id, .string d.tb.name, y8, .int .i64 d.tb.key, y9]) ti78 rfl rfl (Cells.of (H.getOwn 0 rfl) rfl) rfl) (by decide) ?_
        refine OL_c (op_call 32 en32 rfl [.pointer (some ⟨mb, 0, none⟩), .agg #[.int .u64 d.client, .int .u64 d.seq, .int .i64 d.kind, .int .u64 d.txn, .int .u64 d.ts, .bool d.flag, .int .u64 d.lk.txn, .int .i64 d.lk.level, .int .i64 d.lk.mode, y1, y2, y3, y4, y5, y6, y7, .int .i64 d.tb.id, .string d.tb.name, y8, .int .i64 d.tb.key, y9]] rfl (by decide) ((f32_calls (mIn1 H) hr hL ha (by omega) (by omega) (by omega) hr9' (by have := hsd.1; omega) (fun x hx => by have := hsd.2.2 x hx; omega)).mono ?_))
        rintro e w9_2 ⟨rcs, r, a', lst', la', E', I', F', Wp', rfl, hdo, H, hr', hL', gr, hR, ha', hI', hE'⟩
        refine ⟨_, rfl, ?_⟩
        have H := (mOut1 H).tail
        have hw10 := hsd.2.1
        refine OL_nil ?_
        exact ⟨hti, htn, la', lst', E', I', F', Wp', a', h2, h4, h7, h34, rfl, hr', hL', ha'.mono (by show bd j + I.length ≤ bd j + 10 * j + 10; omega), by omega, by show E'.length ≤ bd j + 10 * j + 10; omega, H⟩
      · rintro f ds w7 ⟨la, lst, E, I, F, Wp, a, h2, h4, h7, h34, rfl, hr, hL, ha, hI, hE, H⟩ hti htn
        have H := mOut1 H
        have hbn := bdLe (show l.length ≤ 43 by omega)
        have hbn1 := bdLe (show l.length + 1 ≤ 43 by omega)
        have hbn2 := bdLe (show l.length + 2 ≤ 43 by omega)
        have hs1 : bd (l.length + 1) = bd l.length + 10 * l.length + 10 := rfl
        have hs2 : bd (l.length + 2) = bd (l.length + 1) + 10 * (l.length + 1) + 10 := rfl
        have hw10 := hsc.2.1
        have hcd : ∀ {F : Nat → Prop} {Wp : World}, Ext none' w Wp → tCmd.R (Dz w F) Wp [.int .u64 0, .int .u64 c.seq, .int .i64 8, .int .u64 c.txn, .int .u64 c.ts, .bool c.flag, .int .u64 c.lk.txn, .int .i64 c.lk.level, .int .i64 c.lk.mode, vll, vlh, vlo, vhi, vtx, .slice aw c.writes.length cw, vke, .int .i64 c.tb.id, .string c.tb.name, vco, .int .i64 c.tb.key, vix] (asPrep c) := fun hb => Ty.dzOf (cmd_cells.2 ⟨_, _, _, _, _, _, _, _, _, rfl, rfl, hsq, rfl, htx, hcts, hlk1, hlo, hhi, htxs, hwr, hke, htb⟩) hb
        refine W_seq ?_
        refine W_region ?_
        refine OL_y (y_move h7) (by decide) ?_
        refine OL_c (op_call 34 en34 rfl [.pointer (some ⟨mb, 0, none⟩)] rfl (by decide) ((f34_calls (H.getOwn 1 rfl)).mono ?_))
        rintro e w11_1 ⟨rfl, hE34⟩
        refine ⟨_, rfl, ?_⟩
        have H := H.ext0 hE34
        refine OL_y (y_assign rfl) (by decide) ?_
        refine OL_nil ?_
        refine W_seq ?_
        refine W_seq ?_
        refine W_region ?_
        refine OL_y (y_move rfl) (by decide) ?_
        refine OL_y (y_eqlNil (a := some ⟨sb, 0, none⟩) Try.underlying26 rfl rfl) (by decide) ?_
        refine OL_nil ?_
        refine W_condf rfl ?_
        refine W_skip ?_
        refine W_seq ?_
        refine W_region ?_
        refine OL_y (y_fieldAddr ti78 rfl ti24 rfl h4) (by decide) ?_
        refine OL_c (op_store (v := .int .u64 0) H 0 rfl ti24 rfl rfl rfl (Nat.le_of_ble_eq_true rfl) (by simp [Value.cells, Value.oneCell']) fun w14_1 H => ?_)
        refine OL_y (y_fieldAddr ti78 rfl ti3 rfl h4) (by decide) ?_
        refine OL_c (op_store (v := .int .i64 8) H 0 rfl ti3 rfl rfl rfl (Nat.le_of_ble_eq_true rfl) (by simp [Value.cells, Value.oneCell']) fun w14_3 H => ?_)
        refine OL_nil ?_
        refine W_seq ?_
        refine W_region ?_
        refine OL_y (y_move rfl) (by decide) ?_
        refine OL_c (op_call 25 en25 rfl [.pointer (some ⟨sb, 0, none⟩), .slice none 0 0, .slice none 0 0, .int .u64 18446744073709551615] rfl (by decide) ((f25_calls (H.tail.tail.tail) hr ha (by omega) (by omega) (by omega) (SlR.nil (tInt .u8) 1 (fun _ => True) _) (SlR.nil (tInt .u8) 1 (fun _ => True) _)).mono ?_))
        rintro e w15_1 ⟨vs1, ks1, rfl, hsc1, hS1, hE25⟩
        refine ⟨_, rfl, ?_⟩
        obtain ⟨F2, H, gr2, hF2⟩ := H.poolN hE25 6 7 rfl rfl hr.base
        have hS1 := hS1.mono fun k h1 h2 => hF2 k h1 (.inr h2)
        have hr2 := hr.grow gr2
        have hL2 := hL.grow gr2
        refine OL_y (y_assign rfl) (by decide) ?_
        refine OL_nil ?_
        refine W_seq ?_
        refine W_region ?_
        refine OL_y (y_move h7) (by decide) ?_
        refine OL_y (y_loadA (cs := [.int .u64 0, .int .u64 c.seq, .int .i64 8, .int .u64 c.txn, .int .u64 c.ts, .bool c.flag, .int .u64 c.lk.txn, .int .i64 c.lk.level, .int .i64 c.lk.mode, vll, vlh, vlo, vhi, vtx, .slice aw c.writes.length cw, vke, .int .i64 c.tb.id, .string c.tb.name, vco, .int .i64 c.tb.key, vix]) ti78 rfl h4 (Cells.of (H.getOwn 0 rfl) rfl) rfl) (by decide) ?_
        refine OL_c (op_call 32 en32 rfl [.pointer (some ⟨mb, 0, none⟩), .agg #[.int .u64 0, .int .u64 c.seq, .int .i64 8, .int .u64 c.txn, .int .u64 c.ts, .bool c.flag, .int .u64 c.lk.txn, .int .i64 c.lk.level, .int .i64 c.lk.mode, vll, vlh, vlo, vhi, vtx, .slice aw c.writes.length cw, vke, .int .i64 c.tb.id, .string c.tb.name, vco, .int .i64 c.tb.key, vix]] rfl (by decide) ((f32_calls (mIn1 H) hr2 hL2 ha (by omega) (by omega) (by omega) (hcd hr2.base) (by have := hsc.1; show c.lo.length ≤ 1000; omega) (fun x hx => by have := hsc.2.2 x hx; omega)).mono ?_))
        rintro e w16_2 ⟨rcs3, r3, a3, lst3, la3, E3, I3, F3, W3, rfl, hdo3, H, hr3, hL3, gr3, hR3, ha3, hI3, hE3⟩
        refine ⟨_, rfl, ?_⟩
        have H := mOut1 H
        have hI3 : I3.length ≤ I.length + c.writes.length := hI3
        obtain ⟨ea, er⟩ := of8 (do0 hdo3 rfl) rfl
        rw [er] at hR3
        have hR30 := hR3
        obtain ⟨v3, rfl, hi3, hs3⟩ := res_cells.1 hR3
        refine OL_var (v := .agg #[.int .i64 (prepE a (asPrep c)), .int .u64 0, .int .u64 0, .bool false, .slice none 0 0, v3, .slice none 0 0]) H ti84 rfl (by decide) (fun _ => rfl) rfl (tRes.one hR30) fun b12 w16_3 H => ?_
        refine OL_nil ?_
        refine W_seq ?_
        refine W_seq ?_
        by_cases hz : prepE a (asPrep c) = 0
        · refine W_region ?_
          refine OL_y (y_fieldAddr ti84 rfl ti80 rfl rfl) (by decide) ?_
          refine OL_y (y_loadS (v := .int .i64 (prepE a (asPrep c))) ti80 rfl rfl (Cells.unit (H.getOwn 0 rfl) rfl)) (by decide) ?_
          refine OL_y (v := .bool false) (y_neqF hz rfl rfl) (by decide) ?_
          refine OL_nil ?_
          refine W_condf rfl ?_
          refine W_skip ?_
          refine W_seq ?_
          refine W_seq ?_
          refine W_region ?_
          refine OL_y (y_fieldAddr ti78 rfl ti72 rfl h4) (by decide) ?_
          refine OL_y (y_loadS (v := .slice aw c.writes.length cw) ti72 rfl rfl (Cells.unit (H.getOwn 1 rfl) rfl)) (by decide) ?_
          refine OL_y (y_len rfl ti72 rfl) (by decide) ?_
          refine OL_y (y_move rfl) (by decide) ?_
          refine OL_nil ?_
          refine W_range (N := c.writes.length) (by simp only [maxLen]; omega) (fun j f ds w' => f 2 = .int .u64 ts ∧ f 4 = .pointer (some ⟨b4, 0, none⟩) ∧ f 7 = .pointer (some ⟨mb, 0, none⟩) ∧ f 10 = .pointer (some ⟨sb, 0, none⟩) ∧ f 63 = .slice aw c.writes.length cw ∧ ds = [] ∧ Holds w' (own b4 (.cells #[.int .u64 0, .int .u64 c.seq, .int .i64 8, .int .u64 c.txn, .int .u64 c.ts, .bool c.flag, .int .u64 c.lk.txn, .int .i64 c.lk.level, .int .i64 c.lk.mode, vll, vlh, vlo, vhi, vtx, .slice aw c.writes.length cw, vke, .int .i64 c.tb.id, .string c.tb.name, vco, .int .i64 c.tb.key, vix] 78) :: mAt mb lb la3 sb g1 g2 E3 I3 F3 W3 w []))
              ⟨h2, h4, h7, rfl, rfl, rfl, H.tail⟩
              rfl rfl (by decide) (by decide) (by decide) rfl rfl ?_ rfl rfl ?_
          · rintro j f ds w8 hj ⟨h2, h4, h7, h10, h63, rfl, H⟩ hti htn
            have hxj := List.getElem?_eq_getElem hj
            have hmem := List.getElem_mem hj
            obtain ⟨bx, ox, cs9, e9, hz9, hc9, hr9⟩ := hwr.at hxj
            have hc9' := hc9.ext ((H.keepsAll 7 rfl (fun _ => True)).2 _ trivial hc9.lt)
            generalize c.writes[j] = x at *
            obtain ⟨hcx, hix⟩ := prep_has hz (w := x) hmem
            rw [← ea] at hix
            have hone9 := tWr.one hr9
            obtain ⟨vk, vv, rfl, hk9, hv9⟩ := wr_cells.1 hr9
            obtain ⟨ak9, ck9, rfl, -, -⟩ := hk9.len
            have h63' := h63.trans (congrArg (Value.slice · _ _) e9)
            refine W_block ?_
            refine W_seq ?_
            refine W_region ?_
            refine OL_y (y_indexAddr ti72 ti89 h63' hti (by omega) (by omega)) (by decide) ?_
            refine OL_y (y_loadA (cs := [.slice ak9 x.key.length ck9, .bool x.dead, vv]) ti89 rfl rfl hc9' rfl) (by decide) ?_
            refine OL_var (v := .agg #[.slice ak9 x.key.length ck9, .bool x.dead, vv]) H ti89 rfl (by decide) (fun _ => rfl) rfl (hone9) fun b14 w21_2 H => ?_
            refine OL_nil ?_
            refine W_seq ?_
            refine W_region ?_
            refine OL_y (v := .bool false) (y_assign rfl) (by decide) ?_
            refine OL_nil ?_
            refine W_seq ?_
            refine W_seq ?_
            refine W_region ?_
            refine OL_y (y_move h10) (by decide) ?_
            refine OL_y (y_fieldAddr ti78 rfl ti24 rfl h4) (by decide) ?_
            refine OL_y (y_loadS (v := .int .u64 c.txn) ti24 rfl rfl (Cells.unit (H.getOwn 1 rfl) rfl)) (by decide) ?_
            refine OL_c (op_call 17 en17 rfl [.pointer (some ⟨sb, 0, none⟩), .int .u64 c.txn] rfl (by decide) ((f17_calls (H.tail.tail.tail.tail) hr3 (by omega)).mono ?_))
            rintro e w23_3 ⟨v72, ks, rfl, hks, hS72, hE17⟩
            refine ⟨_, rfl, ?_⟩
            have H := H.addNew hE17
            have q72 := hS72.len1 (by decide)
            obtain ⟨a72, c72, rfl, -, -⟩ := hS72.len
            refine OL_y (y_len rfl ti30 rfl) (by decide) ?_
            refine OL_y (y_move rfl) (by decide) ?_
            refine OL_nil ?_
            refine W_range (N := (ks.map unkb).length) (by simp only [maxLen]; omega) (fun i f ds w' => f 2 = .int .u64 ts ∧ f 4 = .pointer (some ⟨b4, 0, none⟩) ∧ f 7 = .pointer (some ⟨mb, 0, none⟩) ∧ f 10 = .pointer (some ⟨sb, 0, none⟩) ∧ f 14 = .pointer (some ⟨b14, 0, none⟩) ∧ f 15 = .bool ((ks.take i).any fun k => decide (k = kb x.key)) ∧ f 63 = .slice aw c.writes.length cw ∧ f 64 = .int .i64 (c.writes.length : Nat) ∧ f 65 = .int .i64 (j : Nat) ∧ f 72 = .slice a72 (ks.map unkb).length c72 ∧ ds = [] ∧ Holds w' (shr (fun k => w21_2.heap.size ≤ k ∧ k < w23_3.heap.size) w23_3 :: own b14 (.cells #[.slice ak9 x.key.length ck9, .bool x.dead, vv] 89) :: own b4 (.cells #[.int .u64 0, .int .u64 c.seq, .int .i64 8, .int .u64 c.txn, .int .u64 c.ts, .bool c.flag, .int .u64 c.lk.txn, .int .i64 c.lk.level, .int .i64 c.lk.mode, vll, vlh, vlo, vhi, vtx, .slice aw c.writes.length cw, vke, .int .i64 c.tb.id, .string c.tb.name, vco, .int .i64 c.tb.key, vix] 78) :: mAt mb lb la3 sb g1 g2 E3 I3 F3 W3 w []))
                ⟨h2, h4, h7, h10, rfl, rfl, h63, htn, hti, rfl, rfl, H⟩
                rfl rfl (by decide) (by decide) (by decide) rfl rfl ?_ rfl rfl ?_
            · rintro i f ds w9 hi ⟨h2, h4, h7, h10, h14, h15, h63, h64, h65, h72, rfl, H⟩ hti4 htn4
              have hki := List.getElem?_eq_getElem (show i < ks.length by rw [List.length_map] at hi; exact hi)
              have hxi : (ks.map unkb)[i]? = some (unkb (ks[i]'(by rw [List.length_map] at hi; exact hi))) := by rw [List.getElem?_map, hki]; rfl
              have hat := any_take hki fun k => decide (k = kb x.key)
              generalize ks[i]'(by rw [List.length_map] at hi; exact hi) = k at *
              obtain ⟨by_, oy, csy, ey, hzy, hcy, vy, rfl, hky⟩ := hS72.at hxi
              have hcy' := hcy.ext ((H.keepsNew 0 rfl).2 _ hzy hcy.lt)
              obtain ⟨ay, cy, rfl, -, -⟩ := hky.len
              obtain ⟨ab, hab⟩ : ∃ ab, ((ks.take i).any fun k => decide (k = kb x.key)) = ab := ⟨_, rfl⟩
              rw [hab] at h15 hat
              have h72' := h72.trans (congrArg (Value.slice · _ _) ey)
              refine W_block ?_
              refine W_seq ?_
              refine W_region ?_
              refine OL_y (y_indexAddr ti30 ti23 h72' hti4 (by omega) (by omega)) (by decide) ?_
              refine OL_y (y_loadS (v := .slice ay (unkb k).length cy) ti23 rfl rfl hcy') (by decide) ?_
              refine OL_y (y_assign rfl) (by decide) ?_
              refine OL_nil ?_
              rcases ab with _ | _
              · refine W_region ?_
                refine OL_y (y_move (v := .bool false) h15) (by decide) ?_
                refine OL_y (v := .bool false) (y_move rfl) (by decide) ?_
                refine OL_yg rfl (by decide) rfl (y_move rfl) (by decide) ?_
                refine OL_yg rfl (by decide) rfl (y_toStr Try.underlying23 Try.underlying5 Try.underlying9 rfl (hky.keeps (H.keepsNew 0 rfl))) (by decide) ?_
                refine OL_yg rfl (by decide) rfl (y_fieldAddr ti89 rfl ti23 rfl h14) (by decide) ?_
                refine OL_yg rfl (by decide) rfl (y_loadS (v := .slice ak9 x.key.length ck9) ti23 rfl rfl (Cells.unit (H.getOwn 1 rfl) rfl)) (by decide) ?_
                refine OL_yg rfl (by decide) rfl (y_toStr Try.underlying23 Try.underlying5 Try.underlying9 rfl (hk9.keeps (H.keepsAll 9 rfl _))) (by decide) ?_
                refine OL_yg rfl (by decide) rfl (y_eqlS rfl rfl) (by decide) ?_
                refine OL_y (y_pick (b := false) (v := .bool (decide (kb (unkb k) = kb x.key))) rfl rfl) (by decide) ?_
                refine OL_y (y_assign rfl) (by decide) ?_
                refine OL_nil ?_
                refine ⟨hti4, htn4, h2, h4, h7, h10, h14, ?_, h63, h64, h65, h72, rfl, H⟩
                rw [hat, kb_unkb]; rfl
              · refine W_region ?_
                refine OL_y (y_move (v := .bool true) h15) (by decide) ?_
                refine OL_y (v := .bool true) (y_move rfl) (by decide) ?_
                refine OL_s rfl (by decide) rfl rfl (by simp) ?_
                refine OL_s rfl (by decide) rfl rfl (by simp) ?_
                refine OL_s rfl (by decide) rfl rfl (by simp) ?_
                refine OL_s rfl (by decide) rfl rfl (by simp) ?_
                refine OL_s rfl (by decide) rfl rfl (by simp) ?_
                refine OL_s rfl (by decide) rfl rfl (by simp) ?_
                refine OL_y (y_pick (b := true) (v := .bool true) rfl rfl) (by decide) ?_
                refine OL_y (y_assign rfl) (by decide) ?_
                refine OL_nil ?_
                refine ⟨hti4, htn4, h2, h4, h7, h10, h14, ?_, h63, h64, h65, h72, rfl, H⟩
                rw [hat]; rfl
            · rintro f ds w9 ⟨h2, h4, h7, h10, h14, h15, h63, h64, h65, h72, rfl, H⟩ hti4 htn4
              rw [List.length_map, List.take_length, List.any_eq_true.2 ⟨kb x.key, (hks.mem _).2 ⟨hcx, hix⟩, decide_eq_true rfl⟩] at h15
              refine W_seq ?_
              refine W_region ?_
              refine OL_y (v := .bool true) (y_move h15) (by decide) ?_
              refine OL_y (v := .bool false) (y_not (b := true) rfl) (by decide) ?_
              refine OL_nil ?_
              refine W_condf rfl ?_
              refine W_skip ?_
              exact ⟨h65, h64, h2, h4, h7, h10, h63, rfl, H.tail.tail⟩
          · rintro f ds w8 ⟨h2, h4, h7, h10, h63, rfl, H⟩ hti htn
            refine W_seq ?_
            refine W_region ?_
            refine OL_y (y_move h7) (by decide) ?_
            refine OL_y (y_fieldAddr ti78 rfl ti24 rfl h4) (by decide) ?_
            refine OL_y (y_loadS (v := .int .u64 c.txn) ti24 rfl rfl (Cells.unit (H.getOwn 0 rfl) rfl)) (by decide) ?_
            refine OL_y (y_move h2) (by decide) ?_
            refine OL_y (v := .agg #[.int .u64 0, .int .u64 0, .int .i64 9, .int .u64 c.txn, .int .u64 ts, .bool false, .int .u64 0, .int .i64 0, .int .i64 0, .slice none 0 0, .slice none 0 0, .slice none 0 0, .slice none 0 0, .slice none 0 0, .slice none 0 0, .slice none 0 0, .int .i64 0, .string ByteArray.empty, .slice none 0 0, .int .i64 0, .slice none 0 0]) (y_build ti78 pl78 (by kernel_rfl)) (by decide) ?_
            refine OL_c (op_call 32 en32 rfl [.pointer (some ⟨mb, 0, none⟩), .agg #[.int .u64 0, .int .u64 0, .int .i64 9, .int .u64 c.txn, .int .u64 ts, .bool false, .int .u64 0, .int .i64 0, .int .i64 0, .slice none 0 0, .slice none 0 0, .slice none 0 0, .slice none 0 0, .slice none 0 0, .slice none 0 0, .slice none 0 0, .int .i64 0, .string ByteArray.empty, .slice none 0 0, .int .i64 0, .slice none 0 0]] rfl (by decide) ((f32_calls (c := asApply c.txn ts) (mIn1 H) hr3 hL3 ha3 (by omega) (by omega) (by omega) (cmd_cells.2 ⟨_, _, _, _, _, _, _, _, _, rfl, rfl, rfl, rfl, htx, hts, ⟨rfl, rfl, rfl, SlR.nil _ _ _ _, SlR.nil _ _ _ _⟩, SlR.nil _ _ _ _, SlR.nil _ _ _ _, SlR.nil _ _ _ _, SlR.nil _ _ _ _, SlR.nil _ _ _ _, rfl, (show ByteArray.empty.size ≤ 140737488351232 by decide), SlR.nil _ _ _ _, rfl, SlR.nil _ _ _ _⟩) (by show 0 ≤ 1000; omega) (fun x hx => by cases hx)).mono ?_))
            rintro e w31_5 ⟨rcs5, r5, a5, lst5, la5, E5, I5, F5, W5, rfl, hdo5, H, hr5, hL5, gr5, hR5, ha5, hI5, hE5⟩
            refine ⟨_, rfl, ?_⟩
            have H := mOut1 H
            have hI5 : I5.length ≤ I3.length + 0 := hI5
            obtain ⟨ks5, hks5, ea5⟩ := of9 (do0 hdo5 rfl) rfl
            refine OL_nil ?_
            refine W_seq ?_
            refine W_seq ?_
            refine W_region ?_
            refine OL_y (y_fieldAddr ti78 rfl ti72 rfl h4) (by decide) ?_
            refine OL_y (y_loadS (v := .slice aw c.writes.length cw) ti72 rfl rfl (Cells.unit (H.getOwn 0 rfl) rfl)) (by decide) ?_
            refine OL_y (y_len rfl ti72 rfl) (by decide) ?_
            refine OL_y (y_move rfl) (by decide) ?_
            refine OL_nil ?_
            refine W_range (N := c.writes.length) (by simp only [maxLen]; omega) (fun j f ds w' => f 2 = .int .u64 ts ∧ f 4 = .pointer (some ⟨b4, 0, none⟩) ∧ f 10 = .pointer (some ⟨sb, 0, none⟩) ∧ f 98 = .slice aw c.writes.length cw ∧ ds = [] ∧ Holds w' (own b4 (.cells #[.int .u64 0, .int .u64 c.seq, .int .i64 8, .int .u64 c.txn, .int .u64 c.ts, .bool c.flag, .int .u64 c.lk.txn, .int .i64 c.lk.level, .int .i64 c.lk.mode, vll, vlh, vlo, vhi, vtx, .slice aw c.writes.length cw, vke, .int .i64 c.tb.id, .string c.tb.name, vco, .int .i64 c.tb.key, vix] 78) :: mAt mb lb la5 sb g1 g2 E5 I5 F5 W5 w []))
                ⟨h2, h4, h10, rfl, rfl, H⟩
                rfl rfl (by decide) (by decide) (by decide) rfl rfl ?_ rfl rfl ?_
            · rintro j f ds w10 hj ⟨h2, h4, h10, h98, rfl, H⟩ hti htn
              have hxj := List.getElem?_eq_getElem hj
              have hmem := List.getElem_mem hj
              obtain ⟨bx, ox, cs9, e9, hz9, hc9, hr9⟩ := hwr.at hxj
              have hc9' := hc9.ext ((H.keepsAll 7 rfl (fun _ => True)).2 _ trivial hc9.lt)
              generalize c.writes[j] = x at *
              obtain ⟨hcx, hix⟩ := prep_has hz (w := x) hmem
              rw [← ea] at hix
              have hone9 := tWr.one hr9
              obtain ⟨vk, vv, rfl, hk9, hv9⟩ := wr_cells.1 hr9
              have hat : atV a5 (kb x.key) ts = some ((a3.i (kb x.key)).atTs ts) := by rw [ea5]; exact turn_at ts ks5 a3 _ (rise_nodup bLt_irrefl hks5.rise) ((hks5.mem _).2 ⟨hcx, hix⟩)
              obtain ⟨u, hu⟩ : ∃ u, (a3.i (kb x.key)).atTs ts = u := ⟨_, rfl⟩
              have hut : u.txn = c.txn := by rw [← hu]; exact hix
              have hus : u.ts = ts := by rw [← hu]; rfl
              rw [hu] at hat
              have h98' := h98.trans (congrArg (Value.slice · _ _) e9)
              refine W_block ?_
              refine W_seq ?_
              refine W_region ?_
              refine OL_y (y_indexAddr ti72 ti89 h98' hti (by omega) (by omega)) (by decide) ?_
              refine OL_y (y_loadA (cs := [vk, .bool x.dead, vv]) ti89 rfl rfl hc9' rfl) (by decide) ?_
              refine OL_var (v := .agg #[vk, .bool x.dead, vv]) H ti89 rfl (by decide) (fun _ => rfl) rfl (hone9) fun b19 w34_2 H => ?_
              refine OL_nil ?_
              refine W_seq ?_
              refine W_region ?_
              refine OL_y (y_move h10) (by decide) ?_
              refine OL_y (y_fieldAddr ti89 rfl ti23 rfl rfl) (by decide) ?_
              refine OL_y (y_loadS (v := vk) ti23 rfl rfl (Cells.unit (H.getOwn 0 rfl) rfl)) (by decide) ?_
              refine OL_y (y_move h2) (by decide) ?_
              refine OL_c (op_call 13 en13 rfl [.pointer (some ⟨sb, 0, none⟩), vk, .int .u64 ts] rfl (by decide) ((f13_calls (H.tail.tail.tail.tail) hr5 (hk9.dzOf hr5.base) ha5 (by omega)).mono ?_))
              rintro e w35_4 ⟨cs13, rfl, hR13, hE13⟩
              refine ⟨_, rfl, ?_⟩
              have H := H.addNew hE13
              rw [hat] at hR13
              rw [hat]
              obtain ⟨v1, v2, rfl, -⟩ := ver_cells.1 hR13
              refine OL_y (y_move rfl) (by decide) ?_
              refine OL_y (y_extract (v := .agg #[.int .u64 u.ts, .int .u64 u.txn, .bool u.dead, v1, v2]) rfl rfl) (by decide) ?_
              refine OL_y (y_extract (v := .bool true) rfl rfl) (by decide) ?_
              refine OL_var (v := .agg #[.int .u64 u.ts, .int .u64 u.txn, .bool u.dead, v1, v2]) H ti32 rfl (by decide) (fun _ => rfl) rfl (tVer.one hR13) fun b20 w35_8 H => ?_
              refine OL_y (y_assign (v := .bool true) rfl) (by decide) ?_
              refine OL_nil ?_
              refine W_seq ?_
              refine W_region ?_
              refine OL_y (v := .bool true) (y_move rfl) (by decide) ?_
              refine OL_y (v := .bool false) (y_not (b := true) rfl) (by decide) ?_
              refine OL_y (v := .bool false) (y_move rfl) (by decide) ?_
              refine OL_yg rfl (by decide) rfl (y_fieldAddr ti32 rfl ti24 rfl rfl) (by decide) ?_
              refine OL_yg rfl (by decide) rfl (y_loadS (v := .int .u64 u.txn) ti24 rfl rfl (Cells.unit (H.getOwn 0 rfl) rfl)) (by decide) ?_
              refine OL_yg rfl (by decide) rfl (y_fieldAddr ti78 rfl ti24 rfl h4) (by decide) ?_
              refine OL_yg rfl (by decide) rfl (y_loadS (v := .int .u64 c.txn) ti24 rfl rfl (Cells.unit (H.getOwn 3 rfl) rfl)) (by decide) ?_
              refine OL_yg (v := .bool false) rfl (by decide) rfl (y_neqF hut rfl rfl) (by decide) ?_
              refine OL_y (y_pick (b := false) (v := .bool false) rfl rfl) (by decide) ?_
              refine OL_y (v := .bool false) (y_move rfl) (by decide) ?_
              refine OL_yg rfl (by decide) rfl (y_fieldAddr ti32 rfl ti24 rfl rfl) (by decide) ?_
              refine OL_yg rfl (by decide) rfl (y_loadS (v := .int .u64 u.ts) ti24 rfl rfl (Cells.unit (H.getOwn 0 rfl) rfl)) (by decide) ?_
              refine OL_yg rfl (by decide) rfl (y_move h2) (by decide) ?_
              refine OL_yg (v := .bool false) rfl (by decide) rfl (y_neqF hus rfl rfl) (by decide) ?_
              refine OL_y (y_pick (b := false) (v := .bool false) rfl rfl) (by decide) ?_
              refine OL_nil ?_
              refine W_condf rfl ?_
              refine W_skip ?_
              exact ⟨hti, htn, h2, h4, h10, h98, rfl, H.tail.tail.tail⟩
            · rintro f ds w10 ⟨h2, h4, h10, h98, rfl, H⟩ hti htn
              refine W_seq ?_
              refine W_region ?_
              refine OL_y (y_move h10) (by decide) ?_
              refine OL_y (y_fieldAddr ti78 rfl ti24 rfl h4) (by decide) ?_
              refine OL_y (y_loadS (v := .int .u64 c.txn) ti24 rfl rfl (Cells.unit (H.getOwn 0 rfl) rfl)) (by decide) ?_
              refine OL_c (op_call 17 en17 rfl [.pointer (some ⟨sb, 0, none⟩), .int .u64 c.txn] rfl (by decide) ((f17_calls (H.tail.tail.tail) hr5 (by omega)).mono ?_))
              rintro e w39_3 ⟨v131, ks6, rfl, hks6, hS6, hE17⟩
              refine ⟨_, rfl, ?_⟩
              have H := H.ext0 hE17
              rw [ea5] at hks6
              have hks0 := turn_none hks5 hks6
              subst hks0
              obtain ⟨a6, c6, rfl, -, -⟩ := hS6.len
              refine OL_y (y_len rfl ti30 rfl) (by decide) ?_
              refine OL_y (v := .bool true) (y_eqlT (show (((([] : List ByteArray).map unkb).length : Nat) : Int) = 0 from rfl) rfl rfl) (by decide) ?_
              refine OL_y (v := .bool true) (y_assign rfl) (by decide) ?_
              refine OL_nil ?_
              refine W_ret ?_
              show RetOK _ _ _ _ _ _
              exact ret1 (v := .bool true) Try.results10 rfl ⟨rfl, H.ext_of 7 rfl⟩
        · refine W_region ?_
          refine OL_y (y_fieldAddr ti84 rfl ti80 rfl rfl) (by decide) ?_
          refine OL_y (y_loadS (v := .int .i64 (prepE a (asPrep c))) ti80 rfl rfl (Cells.unit (H.getOwn 0 rfl) rfl)) (by decide) ?_
          refine OL_y (v := .bool true) (y_neqT hz rfl rfl) (by decide) ?_
          refine OL_nil ?_
          refine W_condt rfl ?_
          refine W_seq ?_
          refine W_region ?_
          refine OL_y (y_move rfl) (by decide) ?_
          refine OL_c (op_call 25 en25 rfl [.pointer (some ⟨sb, 0, none⟩), .slice none 0 0, .slice none 0 0, .int .u64 18446744073709551615] rfl (by decide) ((f25_calls (H.tail.tail.tail.tail) hr3 ha3 (by omega) (by omega) (by omega) (SlR.nil (tInt .u8) 1 (fun _ => True) _) (SlR.nil (tInt .u8) 1 (fun _ => True) _)).mono ?_))
          rintro e w18_1 ⟨vs3, ks3, rfl, hsc3, hS3, hE25b⟩
          refine ⟨_, rfl, ?_⟩
          have H := H.ext0 hE25b
          rw [ea, prepA_no hz] at hsc3 hS3
          have hks := scan_uni hsc3 hsc1
          rw [hks] at hS3
          refine OL_y (y_move rfl) (by decide) ?_
          refine OL_c (op_call 24 en24 rfl [vs3, vs1] rfl (by decide) ((f24_same hS3 ((gr3.slr hS1).keeps (H.dz 7 8 rfl rfl hr3.base))).mono ?_))
          rintro e w18_3 ⟨rfl, hE24⟩
          refine ⟨_, rfl, ?_⟩
          have H := H.ext0 hE24
          refine OL_y (y_assign rfl) (by decide) ?_
          refine OL_nil ?_
          refine W_ret ?_
          show RetOK _ _ _ _ _ _
          exact ret1 (v := .bool true) Try.results10 rfl ⟨rfl, H.ext_of 8 rfl⟩
    · have H := (H.ext0 hE29b).tail
      refine OL_yg (v := .bool true) rfl (by decide) rfl (y_not (b := false) rfl) (by decide) ?_
      refine OL_y (y_pick (b := false) (v := .bool true) rfl rfl) (by decide) ?_
      refine OL_nil ?_
      refine W_condt rfl ?_
      refine W_seq ?_
      refine W_region ?_
      refine OL_y (v := .bool true) (y_assign rfl) (by decide) ?_
      refine OL_nil ?_
      refine W_ret ?_
      show RetOK _ _ _ _ _ _
      exact ret1 (v := .bool true) Try.results10 rfl ⟨rfl, H.ext_of 1 rfl⟩
  · have H := H.ext0 hE29
    refine OL_y (v := .bool true) (y_not (b := false) rfl) (by decide) ?_
    refine OL_y (v := .bool true) (y_move rfl) (by decide) ?_
    refine OL_s rfl (by decide) rfl rfl (by simp) ?_
    refine OL_s rfl (by decide) rfl rfl (by simp) ?_
    refine OL_s rfl (by decide) rfl rfl (by simp) ?_
    refine OL_s rfl (by decide) rfl rfl (by simp) ?_
    refine OL_y (y_pick (b := true) (v := .bool true) rfl rfl) (by decide) ?_
    refine OL_nil ?_
    refine W_condt rfl ?_
    refine W_seq ?_
    refine W_region ?_
    refine OL_y (v := .bool true) (y_assign rfl) (by decide) ?_
    refine OL_nil ?_
    refine W_ret ?_
    show RetOK _ _ _ _ _ _
    exact ret1 (v := .bool true) Try.results10 rfl ⟨rfl, H.ext_of 1 rfl⟩
end Go.Proofs.Ytpandioolpnihaa
