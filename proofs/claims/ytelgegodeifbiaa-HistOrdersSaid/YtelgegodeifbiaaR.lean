/- The law HistRuns: what is told of each transaction, and whether the history is formed. -/
import Derived.Test.YtelgegodeifbiaaE
import Derived.Test.YtelgegodeifbiaaA
import Derived.Test.YtelgegodeifbiaaJ
import Derived.Test.YtelgegodeifbiaaK
import Derived.Test.YtelgegodeifbiaaM
import Derived.Test.YtelgegodeifbiaaN
namespace Go.Proofs.Ytelgegodeifbiaa
open Go Go.Wk Pl
set_option linter.unusedVariables false

theorem small_spec {xs : List Ev} (h : small xs = true) : xs.length ≤ 30 ∧ ∀ e ∈ xs, e.seen.length ≤ 8 := by
  unfold small at h
  rw [Bool.and_eq_true, decide_eq_true_iff] at h
  refine ⟨h.2, fun e he => ?_⟩
  have h1 : xs.any bigEv = false := by simpa using h.1
  have h2 : bigEv e = false := by rw [List.any_eq_false] at h1; simpa using h1 e he
  unfold bigEv bigHead at h2
  rw [Bool.or_eq_false_iff, Bool.or_eq_false_iff, decide_eq_false_iff_not] at h2
  omega

theorem y_eql_same {f : Fr} {w : World} {d t' ty : Nat} {p : String} {af : Array Edge} {g : Option (Nat × Bool)} {x y : Operand} (b : Bool) (hx : ev f x = .bool b) (hy : ev f y = .bool b) : Yd Try.prog ⟨some d, .binOp .eql 4 x y t', ty, p, af, g⟩ f w (.bool true) := by
  have := y_eqlB (P := Try.prog) (w := w) (d := d) (t' := t') (ty := ty) (p := p) (af := af) (g := g) Try.underlying4 hx hy
  rwa [beq_self_eq_true] at this

set_option maxHeartbeats 2000000 in
theorem f4_calls {Z : Nat → Prop} {w : World} {a : Value} {xs : List Ev} {txn : Int} (hx : SlR tEv 128 Z w a xs) (ht : InK .u64 txn) :
    Calls Try.prog 4 [a, .int .u64 txn].toArray w fun e w' => e = .returned (.bool true) ∧ Ext none' w w' := by
  have H := Holds.start w
  have hN := hx.len1 (by decide)
  obtain ⟨a0, c0, rfl, hl0, hm0⟩ := hx.len
  refine calls_of_W' Try.func4 rfl Try.ntmps4 rfl ?_
  refine W_seq ?_
  refine W_region ?_
  refine OL_y (y_assign rfl) (by decide) ?_
  refine OL_nil ?_
  refine W_seq ?_
  refine W_seq ?_
  refine W_region ?_
  refine OL_c (op_call 7 en7 rfl [] rfl (by decide) (f7_calls.mono ?_))
  rintro e w1 ⟨rfl, hE1⟩
  refine ⟨_, rfl, ?_⟩
  refine OL_y (y_not rfl) (by decide) ?_
  refine OL_nil ?_
  refine W_condf rfl ?_
  refine W_skip ?_
  have H := H.ext0 hE1
  refine W_seq ?_
  refine W_seq ?_
  refine W_region ?_
  refine OL_y (y_move rfl) (by decide) ?_
  refine OL_c (op_call 8 en8 rfl [.slice a0 xs.length c0] rfl (by decide) ((f8_calls (hx.keeps (H.keepsAll 0 rfl _))).mono ?_))
  rintro e w2 ⟨rfl, hE2⟩
  refine ⟨_, rfl, ?_⟩
  have H := H.ext0 hE2
  refine OL_y (y_not rfl) (by decide) ?_
  refine OL_nil ?_
  cases hsm : small xs with
  | false =>
    refine W_condt rfl ?_
    refine W_seq ?_
    refine W_region ?_
    refine OL_y (y_assign rfl) (by decide) ?_
    refine OL_nil ?_
    refine W_ret ?_
    show RetOK _ _ _ _ _ _
    exact ret1 (v := .bool true) Try.results4 rfl ⟨rfl, H.ext_of 0 rfl⟩
  | true =>
    obtain ⟨h30, h8⟩ := small_spec hsm
    refine W_condf rfl ?_
    refine W_skip ?_
    refine W_seq ?_
    refine W_region ?_
    refine OL_y (y_move rfl) (by decide) ?_
    refine OL_c (op_call 10 en10 rfl [.slice a0 xs.length c0] rfl (by decide) ((f10_calls (hx.keeps (H.keepsAll 0 rfl _)) h30 h8).mono ?_))
    rintro e w3 ⟨v5, rfl, hv5, hE3⟩
    refine ⟨_, rfl, ?_⟩
    have H := H.ext0 hE3
    refine OL_y (y_move rfl) (by decide) ?_
    refine OL_c (op_call 11 en11 rfl [.slice a0 xs.length c0] rfl (by decide) ((f11_calls (hx.keeps (H.keepsAll 0 rfl _)) h30 h8).mono ?_))
    rintro e w4 ⟨v6, rfl, hv6, hE4⟩
    refine ⟨_, rfl, ?_⟩
    have H := H.ext0 hE4
    have hv5 := (hv5.mono (Z' := fun _ => True) fun _ _ _ => trivial).keeps hE4.keeps0
    have hv6 := hv6.mono (Z' := fun _ => True) fun _ _ _ => trivial
    refine OL_y (y_assign rfl) (by decide) ?_
    refine OL_y (y_assign rfl) (by decide) ?_
    refine OL_nil ?_
    refine W_seq ?_
    refine W_region ?_
    refine OL_y (y_move rfl) (by decide) ?_
    refine OL_y (y_move rfl) (by decide) ?_
    refine OL_c (op_call 12 en12 rfl [v6, .int .u64 txn] rfl (by decide) ((f12_calls (txn := txn) hv6).mono ?_))
    rintro e w5 ⟨cs, rfl, hcs, hE5⟩
    refine ⟨_, rfl, ?_⟩
    have hE05 : Ext none' w w5 := (H.ext0 hE5).ext_of 0 rfl
    have hx := hx.keeps (Z := Z) hE05.keeps0
    have H := Holds.start w5
    have hv5 := hv5.keeps hE5.keeps0
    have hv6 := hv6.keeps hE5.keeps0
    have hcs := tRn.keeps hcs hE5.keeps0
    have hone := tRn.one hcs
    have hlen : cs.length = 8 := tRn.len hcs
    refine OL_y (y_move rfl) (by decide) ?_
    refine OL_y (y_extract rfl rfl) (by decide) ?_
    refine OL_y (y_extract rfl rfl) (by decide) ?_
    refine OL_var (v := .agg cs.toArray) H ti33 rfl (by decide) (fun _ => rfl) hlen hone fun b7 w6 H => ?_
    refine OL_y (y_assign rfl) (by decide) ?_
    refine OL_nil ?_
    refine W_seq ?_
    refine W_region ?_
    refine OL_y (y_move rfl) (by decide) ?_
    refine OL_y (y_move rfl) (by decide) ?_
    refine OL_c (op_call 13 en13 rfl [v6, .int .u64 txn] rfl (by decide) ((f13_calls (txn := txn) (hv6.keeps (H.keepsAll 1 rfl _))).mono ?_))
    rintro e w7 ⟨ds2, rfl, hds0, hE7⟩
    refine ⟨_, rfl, ?_⟩
    have H := H.ext0 hE7
    have hE57 : Ext none' w5 w7 := H.ext_of 1 rfl
    have hE07 : Ext none' w w7 := hE05.trans hE57
    have hb7 : w7.heap[b7]? = some (.cells cs.toArray 33) := H.getOwn 0 rfl
    have hx := hx.keeps (Z := Z) hE57.keeps0
    have hv5 := hv5.keeps hE57.keeps0
    have hv6 := hv6.keeps hE57.keeps0
    have hcs := tRn.keeps hcs hE57.keeps0
    have H := Holds.start w7
    have hds : tRn.R (fun _ => True) w7 ds2 ((findR (runs xs) txn).getD zeroRn) := tRn.keeps hds0 hE7.keeps0
    have hone2 := tRn.one hds
    have hlen2 : ds2.length = 8 := tRn.len hds
    refine OL_y (y_move rfl) (by decide) ?_
    refine OL_y (y_extract rfl rfl) (by decide) ?_
    refine OL_y (y_extract rfl rfl) (by decide) ?_
    refine OL_var (v := .agg ds2.toArray) H ti33 rfl (by decide) (fun _ => rfl) hlen2 hone2 fun b9 w8 H => ?_
    refine OL_y (y_assign rfl) (by decide) ?_
    refine OL_nil ?_
    have k8 : Keeps (fun _ => True) w7 w8 := H.keepsAll 1 rfl _
    refine W_seq ?_
    refine W_region ?_
    refine OL_y (y_move rfl) (by decide) ?_
    refine OL_y (y_move rfl) (by decide) ?_
    refine OL_c (op_call 14 en14 rfl [v5, v6] rfl (by decide) ((f14_same (hv5.keeps k8) (hv6.keeps k8)).mono ?_))
    rintro e w9 ⟨rfl, hE9⟩
    refine ⟨_, rfl, ?_⟩
    have H := H.ext0 hE9
    refine OL_y (y_move rfl) (by decide) ?_
    refine OL_yg rfl (by decide) rfl (y_move rfl) (by decide) ?_
    refine OL_g rfl (by decide) rfl (op_call 9 en9 rfl [.slice a0 xs.length c0] rfl (by decide) ((f9_calls (hx.keeps (H.keepsAll 1 rfl _))).mono ?_))
    rintro e w10 ⟨rfl, hE10⟩
    refine ⟨_, rfl, ?_⟩
    have H := H.ext0 hE10
    refine OL_yg rfl (by decide) rfl (y_move rfl) (by decide) ?_
    refine OL_g rfl (by decide) rfl (op_call 15 en15 rfl [.slice a0 xs.length c0] rfl (by decide) ((f15_calls (hx.keeps (H.keepsAll 1 rfl _))).mono ?_))
    rintro e w11 ⟨rfl, hE11⟩
    refine ⟨_, rfl, ?_⟩
    have H := H.ext0 hE11
    refine OL_yg (v := .bool true) rfl (by decide) rfl (y_eql_same (formed xs) rfl rfl) (by decide) ?_
    refine OL_y (y_pick (b := true) (v := .bool true) rfl rfl) (by decide) ?_
    refine OL_y (y_move rfl) (by decide) ?_
    refine OL_yg rfl (by decide) rfl (y_move rfl) (by decide) ?_
    refine OL_yg rfl (by decide) rfl (y_move rfl) (by decide) ?_
    refine OL_yg (v := .bool true) rfl (by decide) rfl (y_eql_same (findR (runs xs) txn).isSome rfl rfl) (by decide) ?_
    refine OL_y (y_pick (b := true) (v := .bool true) rfl rfl) (by decide) ?_
    refine OL_y (y_move rfl) (by decide) ?_
    have hb7' : w11.heap[b7]? = some (.cells cs.toArray 33) := ((H.keepsAll 1 rfl (fun _ => True)).2 b7 trivial (own_lt hb7)).trans hb7
    refine OL_yg rfl (by decide) rfl (y_loadA (cs := cs) ti33 rfl rfl (Cells.of hb7' (by simp)) hlen.symm) (by decide) ?_
    refine OL_g rfl (by decide) rfl (op_buildSlice H [.agg cs.toArray] ti27 ti33 rfl rfl rfl (by simpa [Value.cells] using hlen) rfl rfl (by decide) fun bA w12 H => ?_)
    refine OL_yg rfl (by decide) rfl (y_loadA (cs := ds2) ti33 rfl rfl (Cells.of (H.getOwn 1 rfl) (by simp [Value.cells])) hlen2.symm) (by decide) ?_
    refine OL_g rfl (by decide) rfl (op_buildSlice H [.agg ds2.toArray] ti27 ti33 rfl rfl rfl (by simpa [Value.cells] using hlen2) rfl rfl (by decide) fun bB w13 H => ?_)
    have k13 : Keeps (fun _ => True) w7 w13 := H.keepsAll 3 rfl _
    have hA : SlR tRn 112 (fun _ => True) w13 (.slice (some ⟨bA, 0, none⟩) 1 1) [(findR (runs xs) txn).getD zeroRn] :=
      SlR.ofRow (H.getRow 1 rfl) (by decide) (by have := (Els.nil tRn (fun _ => True) w13).snoc (tRn.keeps hcs k13); simpa [Value.cells] using this) (fun _ _ => trivial) (by simp)
    have hB : SlR tRn 112 (fun _ => True) w13 (.slice (some ⟨bB, 0, none⟩) 1 1) [(findR (runs xs) txn).getD zeroRn] :=
      SlR.ofRow (H.getRow 0 rfl) (by decide) (by have := (Els.nil tRn (fun _ => True) w13).snoc (tRn.keeps hds k13); simpa [Value.cells] using this) (fun _ _ => trivial) (by simp)
    refine OL_g rfl (by decide) rfl (op_call 14 en14 rfl [.slice (some ⟨bA, 0, none⟩) 1 1, .slice (some ⟨bB, 0, none⟩) 1 1] rfl (by decide) ((f14_same hA hB).mono ?_))
    rintro e w14 ⟨rfl, hE14⟩
    refine ⟨_, rfl, ?_⟩
    have H := H.ext0 hE14
    refine OL_y (y_pick (b := true) (v := .bool true) rfl rfl) (by decide) ?_
    refine OL_y (y_assign rfl) (by decide) ?_
    refine OL_nil ?_
    refine W_ret ?_
    show RetOK _ _ _ _ _ _
    exact ret1 (v := .bool true) Try.results4 rfl ⟨rfl, hE07.trans (H.ext_of 3 rfl)⟩
end Go.Proofs.Ytelgegodeifbiaa
