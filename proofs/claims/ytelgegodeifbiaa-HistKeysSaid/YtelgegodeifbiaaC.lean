/- The end of a run is told. -/
import Derived.Test.YtelgegodeifbiaaX
import Derived.Test.YtelgegodeifbiaaPR
import Derived.Test.YtelgegodeifbiaaWkg
namespace Go.Proofs.Ytelgegodeifbiaa
open Go Go.Wk Pl
set_option linter.unusedVariables false

/-- A run as it lies: what is told, the values of its slices, and the cells of the two that are its own. -/
structure RR where
  r : Rn
  vk : Value
  vs : Value
  vp : Value
  cs : List Value
  cp : List Value
abbrev RR.cells (x : RR) : List Value := [.int .u64 x.r.txn, .int .i64 x.r.level, .int .i64 x.r.state, .int .u64 x.r.start, .int .u64 x.r.ts, x.vk, x.vs, x.vp]
theorem RR.len (x : RR) : x.cells.length = 8 := rfl
abbrev evC (e : Ev) (vl vh vs vk : Value) : Value := .agg #[.int .i64 e.kind, .int .u64 e.txn, .int .i64 e.level, .int .u64 e.ts, vl, vh, vs, vk]
def RR.ended (e : Ev) (vk : Value) (x : RR) : RR := { x with r := endR e x.r, vk := if x.r.state = 0 then vk else x.vk }

set_option maxHeartbeats 2000000 in
theorem f22_calls {w : World} {v : Value} {b m i : Nat} {rs : List RR} {x : RR} {e : Ev} {vl vh vs vk : Value} {kn kc : Nat} {ka : Option Addr} (hrow : w.ownsRow 0 33 8 v m (rs.flatMap RR.cells)) (hv : v.ownBlock = some b) (hi : rs[i]? = some x) (hvk : vk = .slice ka kn kc) :
    Calls Try.prog 22 [.pointer (some ⟨b, i * 8, none⟩), evC e vl vh vs vk].toArray w fun u w' => (∃ y, u = .returned y) ∧ Ext (fun k => v.ownBlock = some k) w w' ∧ w'.ownsRow 0 33 8 v m ((rs.set i (x.ended e vk)).flatMap RR.cells) := by
  have H := Holds.startRow hrow
  have hil := (List.getElem?_eq_some_iff.1 hi).1
  have hcl : (rs.flatMap RR.cells).length = rs.length * 8 := flat_len RR.len rs
  have hg : ∀ c u, c < 8 → x.cells[c]? = some u → (rs.flatMap RR.cells)[i * 8 + c]? = some u := fun c u hc hu => by
    rw [flat_get RR.len rs i c hc, hi]; exact hu
  refine calls_of_W' Try.func22 rfl Try.ntmps22 rfl ?_
  refine W_seq ?_
  refine W_region ?_
  refine OL_c (op_box (v := evC e vl vh vs vk) H rfl (by decide) fun b3 w1 H => ?_)
  refine OL_nil ?_
  refine W_seq ?_
  refine W_seq ?_
  refine W_region ?_
  refine OL_y (y_move rfl) (by decide) ?_
  refine OL_y (y_nilCheck rfl ⟨_, rfl⟩) (by decide) ?_
  refine OL_y (y_fieldAddr ti33 rfl ti3 rfl rfl) (by decide) ?_
  refine OL_y (y_loadS (v := .int .i64 x.r.state) ti3 rfl rfl (rowCell (H.getRow 1 rfl) hv (hg 2 _ (by decide) rfl))) (by decide) ?_
  refine OL_y (y_neq rfl rfl) (by decide) ?_
  refine OL_nil ?_
  refine W_cond rfl (fun hc => ?_) (fun hc => ?_)
  · have hc := of_decide_eq_true hc
    refine W_ret ?_
    show RetOK _ _ _ _ _ _
    refine ret0 Try.results22 ⟨⟨_, rfl⟩, H.ext_row 2 rfl, ?_⟩
    have : rs.set i (x.ended e vk) = rs := by
      have hx : x.ended e vk = x := by unfold RR.ended endR; rw [if_neg hc, if_neg hc]
      rw [hx]
      apply List.ext_getElem?
      intro j; rw [List.getElem?_set]; split
      · rename_i h; subst h; exact hi.symm
      · rfl
    rw [this]; exact H.getRow 1 rfl
  have hc : x.r.state = 0 := by simpa using of_decide_eq_false hc
  refine W_skip ?_
  refine W_seq ?_
  refine W_drawD H mixed (by kernel_rfl) [] (fun w0 w' => w'.heap[b3]? = some (.cells #[.int .i64 e.kind, .int .u64 e.txn, .int .i64 e.level, .int .u64 e.ts, vl, vh, vs, vk] 48)) fun w2 H hE => ?_
  have hS : Sx [] (fun w' => w'.heap[b3]? = some (.cells #[.int .i64 e.kind, .int .u64 e.txn, .int .i64 e.level, .int .u64 e.ts, vl, vh, vs, vk] 48)) (List.replicate 16 false).toArray w2 := fun _ => H.getOwn 0 rfl
  refine DA_p 0 rfl (by kernel_rfl) rfl (fun _ => y_move rfl) hS (by decide) fun hS => ?_
  refine DA_p 1 rfl (by kernel_rfl) rfl (fun _ => y_move rfl) hS (by decide) fun hS => ?_
  refine DA_p 2 rfl (by kernel_rfl) rfl (fun _ => y_move rfl) hS (by decide) fun hS => ?_
  refine DA_p 3 rfl (by kernel_rfl) rfl (fun _ => y_fieldAddr ti48 rfl ti26 rfl rfl) hS (by decide) fun hS => ?_
  refine DA_y (v := .int .u64 e.ts) 4 rfl (by kernel_rfl) rfl (by kernel_rfl) (fun w' h => y_loadS ti26 rfl rfl (Cells.unit h rfl)) hS (by decide) fun hS => ?_
  refine DA_p 5 rfl (by kernel_rfl) rfl (fun _ => y_fieldAddr ti48 rfl ti29 rfl rfl) hS (by decide) fun hS => ?_
  refine DA_y (v := vk) 6 rfl (by kernel_rfl) rfl (by kernel_rfl) (fun w' h => y_loadS ti29 rfl rfl (Cells.unit h rfl)) hS (by decide) fun hS => ?_
  refine DA_p 7 rfl (by kernel_rfl) rfl (fun _ => y_nilCheck rfl ⟨_, rfl⟩) hS (by decide) fun hS => ?_
  refine DA_p 8 rfl (by kernel_rfl) rfl (fun _ => y_fieldAddr ti33 rfl ti3 rfl rfl) hS (by decide) fun hS => ?_
  refine DA_one 9 (by kernel_rfl) rfl (op_storeRow (o := i * 8 + 2) (u := .int .i64 2) H 1 rfl hv ti3 rfl rfl rfl (by rw [hcl]; omega) rfl fun w3 H => ⟨fun _ => H.getOwn 0 rfl, ?_⟩)
  have hS : ∀ ls, Sx [] (fun w' => w'.heap[b3]? = some (.cells #[.int .i64 e.kind, .int .u64 e.txn, .int .i64 e.level, .int .u64 e.ts, vl, vh, vs, vk] 48)) ls w3 := fun _ _ => H.getOwn 0 rfl
  refine DA_p 10 rfl (by kernel_rfl) rfl (fun _ => y_nilCheck rfl ⟨_, rfl⟩) (fun _ => H.getOwn 0 rfl) (by decide) fun _ => ?_
  refine DA_p 11 rfl (by kernel_rfl) rfl (fun _ => y_fieldAddr ti33 rfl ti26 rfl rfl) (fun _ => H.getOwn 0 rfl) (by decide) fun _ => ?_
  refine DA_one 12 (by kernel_rfl) rfl (op_storeRow (o := i * 8 + 4) (u := .int .u64 e.ts) H 1 rfl hv ti26 rfl rfl rfl (by rw [List.length_set, hcl]; omega) rfl fun w4 H => ⟨fun _ => H.getOwn 0 rfl, ?_⟩)
  refine DA_p 13 rfl (by kernel_rfl) rfl (fun _ => y_nilCheck rfl ⟨_, rfl⟩) (fun _ => H.getOwn 0 rfl) (by decide) fun _ => ?_
  refine DA_p 14 rfl (by kernel_rfl) rfl (fun _ => y_fieldAddr ti33 rfl ti29 rfl rfl) (fun _ => H.getOwn 0 rfl) (by decide) fun _ => ?_
  refine DA_one 15 (by kernel_rfl) rfl (op_storeRow (o := i * 8 + 5) (u := vk) H 1 rfl hv ti29 rfl rfl (by rw [hvk]; rfl) (by rw [List.length_set, List.length_set, hcl]; omega) (by rw [hvk]; rfl) fun w5 H => ⟨fun _ => H.getOwn 0 rfl, ?_⟩)
  refine DA_done (by kernel_rfl) ?_
  have h1 : ((((rs.flatMap RR.cells).set (i * 8 + 2) (.int .i64 2)).set (i * 8 + 4) (.int .u64 e.ts)).set (i * 8 + 5) vk) = (rs.set i { x with r := { x.r with state := 2, ts := e.ts, keys := e.keys }, vk := vk }).flatMap RR.cells := by
    rw [flat_set RR.len rs i 2 x { x with r := { x.r with state := 2 } } _ (by decide) hi rfl]
    rw [flat_set RR.len _ i 4 { x with r := { x.r with state := 2 } } { x with r := { x.r with state := 2, ts := e.ts } } _ (by decide) (by rw [List.getElem?_set]; simp [hil]) rfl]
    rw [flat_set RR.len _ i 5 { x with r := { x.r with state := 2, ts := e.ts } } { x with r := { x.r with state := 2, ts := e.ts, keys := e.keys }, vk := vk } _ (by decide) (by rw [List.getElem?_set]; simp [hil]) rfl]
    rw [List.set_set, List.set_set]
  have H : Holds w5 [own b3 (.cells #[.int .i64 e.kind, .int .u64 e.txn, .int .i64 e.level, .int .u64 e.ts, vl, vh, vs, vk] 48), row 33 8 v m ((rs.set i { x with r := { x.r with state := 2, ts := e.ts, keys := e.keys }, vk := vk }).flatMap RR.cells), shr (fun k => k < w.heap.size ∧ v.ownBlock ≠ some k) w] := by
    rw [← h1]; exact H
  refine W_seq ?_
  refine W_region ?_
  refine OL_y (y_fieldAddr ti48 rfl ti3 rfl rfl) (by decide) ?_
  refine OL_y (y_loadS (v := .int .i64 e.kind) ti3 rfl rfl (Cells.unit (H.getOwn 0 rfl) rfl)) (by decide) ?_
  refine OL_y (y_eql rfl rfl) (by decide) ?_
  refine OL_nil ?_
  refine W_cond rfl (fun hc3 => ?_) (fun hc3 => ?_)
  · have hc3 := of_decide_eq_true hc3
    refine W_region ?_
    refine OL_y (y_move rfl) (by decide) ?_
    refine OL_y (y_nilCheck rfl ⟨_, rfl⟩) (by decide) ?_
    refine OL_y (y_fieldAddr ti33 rfl ti3 rfl rfl) (by decide) ?_
    refine OL_c (op_storeRow (o := i * 8 + 2) (u := .int .i64 1) H 1 rfl hv ti3 rfl rfl rfl (by rw [flat_len RR.len, List.length_set]; omega) rfl fun w6 H => ?_)
    refine OL_nil ?_
    show RetOK _ _ _ _ _ _
    refine ret0 Try.results22 ⟨⟨_, rfl⟩, H.ext_row 2 rfl, ?_⟩
    have hh := H.getRow 1 rfl
    have h2 : ((rs.set i { x with r := { x.r with state := 2, ts := e.ts, keys := e.keys }, vk := vk }).flatMap RR.cells).set (i * 8 + 2) (.int .i64 1) = (rs.set i (x.ended e vk)).flatMap RR.cells := by
      rw [flat_set RR.len _ i 2 { x with r := { x.r with state := 2, ts := e.ts, keys := e.keys }, vk := vk } (x.ended e vk) _ (by decide) (by rw [List.getElem?_set]; simp [hil]) (by simp [RR.ended, endR, hc, hc3]), List.set_set]
    rw [← h2]; exact hh
  · have hc3 := of_decide_eq_false hc3
    refine W_skip ?_
    show RetOK _ _ _ _ _ _
    refine ret0 Try.results22 ⟨⟨_, rfl⟩, H.ext_row 2 rfl, ?_⟩
    have hh := H.getRow 1 rfl
    have h2 : ({ x with r := { x.r with state := 2, ts := e.ts, keys := e.keys }, vk := vk } : RR) = x.ended e vk := by simp [RR.ended, endR, hc, hc3]
    rw [← h2]; exact hh
end Go.Proofs.Ytelgegodeifbiaa
