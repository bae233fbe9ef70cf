/- Part 5 of the texts that a law of the seat leans on: the ground of the walks, the facts of the program, its functions one by one. -/
import Derived.Test.YtpandioolpnihaaDoe4
namespace Go.Proofs.Ytpandioolpnihaa
open Go Go.Wk
set_option linter.unusedVariables false
set_option linter.unusedSimpArgs false

/-- An answer of one cell with one version, by the reference. -/
theorem one_cellS {w w0 Wp : World} {F : Nat → Prop} {rb b1 b2 : Nat} {qv v : Value} {R : List RE} {L P : List Atom} {vk : Value} {ucs : List Value} {key : Key} {u : Ver} (H : Holds w (row 55 7 (.slice (some ⟨b2, 0, none⟩) 1 1) 1 [vk, .slice (some ⟨b1, 0, none⟩) 1 1, .int .u64 0, .int .u64 0, .bool false, .slice none 0 0, .slice none 0 0] :: row 32 5 (.slice (some ⟨b1, 0, none⟩) 1 1) 1 ucs :: (P ++ sAt rb qv v R F Wp w0 L))) (hb : Ext none' w0 Wp) (hk : SlR (tInt .u8) 1 (Dz w0 F) Wp vk key) (hu : tVer.R (Dz w0 F) Wp ucs u) :
    ∃ (F' : Nat → Prop) (Wp' : World), Holds w (sAt rb qv v R F' Wp' w0 L) ∧ Grow w0 F Wp F' Wp' ∧ tRes.R (Dz w0 F') Wp' [.int .i64 0, .int .u64 0, .int .u64 0, .bool false, .slice none 0 0, .slice (some ⟨b2, 0, none⟩) 1 1, .slice none 0 0] ⟨0, [⟨key, [u], noV⟩]⟩ := by
  have h55 := H.getRow 0 rfl
  have h32 := H.getRow 1 rfl
  have H := H.sub (.cons_cons _ (.cons_cons _ (List.sublist_append_right P _)))
  obtain ⟨H, p1⟩ := H.poolX rfl 3 4 rfl rfl hb
  obtain ⟨H, p2⟩ := Holds.poolX (L := sAt rb qv v R _ _ w0 L) H rfl 2 3 rfl rfl p1.base
  refine ⟨_, _, H, p1.trans p2, ?_⟩
  have g := p1.trans p2
  have hu' := g.R hu
  have hk' := g.slr hk
  have h1 : SlR tVer 72 _ w (.slice (some ⟨b1, 0, none⟩) 1 1) [u] := SlR.ofRow h32 (by decide) ((Els.nil _ _ _).snoc hu') (fun k hk => .inr (.inr hk)) (by simp)
  have hn : ∀ {Z : Nat → Prop}, tVer.R Z w [.int .u64 0, .int .u64 0, .bool false, .slice none 0 0, .slice none 0 0] noV := fun {Z} => ver_cells.2 ⟨_, _, rfl, rfl, rfl, SlR.nil _ _ _ _, SlR.nil _ _ _ _⟩
  have hc : tCl.R _ w [vk, .slice (some ⟨b1, 0, none⟩) 1 1, .int .u64 0, .int .u64 0, .bool false, .slice none 0 0, .slice none 0 0] ⟨key, [u], noV⟩ := cl_cells.2 ⟨_, _, _, rfl, hk', h1, hn⟩
  have h2 : SlR tCl 120 _ w (.slice (some ⟨b2, 0, none⟩) 1 1) [⟨key, [u], noV⟩] := SlR.ofRow h55 (by decide) ((Els.nil _ _ _).snoc hc) (fun k hk => .inr (.inl (.inr hk))) (by simp)
  exact res_cells.2 ⟨_, rfl, rfl, h2⟩

set_option maxHeartbeats 16000000 in
theorem f62_calls {w0 w Wp : World} {F : Nat → Prop} {rb m N : Nat} {qv v : Value} {R : List RE} {a : Abs} {L : List Atom} {cs : List Value} {c : Cmd} (H : Holds w (sAt rb qv v R F Wp w0 L)) (hr : RRep w0 F Wp R a) (ha : a.Ok m) (hm : m ≤ 10000) (hRl : R.length ≤ 28000) (hN : ∀ ks, IntentsOf a c.txn ks → ks.length ≤ N) (hN4 : N ≤ 4000) (hc : tCmd.R (Dz w0 F) Wp cs c) (hwn : c.writes.length ≤ 1000) :
    Calls Try.prog 62 [.pointer (some ⟨rb, 0, none⟩), .agg cs.toArray].toArray w fun e w' => ∃ (rcs : List Value) (r : Rs) (a' : Abs) (v' : Value) (R' : List RE) (F' : Nat → Prop) (Wp' : World), e = .returned (.agg rcs.toArray) ∧ OneR a c a' r ∧ Holds w' (sAt rb qv v' R' F' Wp' w0 L) ∧ RRep w0 F' Wp' R' a' ∧ Grow w0 F Wp F' Wp' ∧ tRes.R (Dz w0 F') Wp' rcs r ∧ R'.length ≤ R.length + c.writes.length + 2 * N := by
  have hc0 := hc
  have hNk : ∀ ks, IntentsOf a c.txn ks → ks.length ≤ 4000 := fun ks h => Nat.le_trans (hN ks h) hN4
  obtain ⟨vll, vlh, vlo, vhi, vtx, vwr, vke, vco, vix, rfl, hcl, hsq, hkd, htx, hts, hlk1, hlo, hhi, htxs, hwr, hke, htb⟩ := cmd_cells.1 hc
  obtain ⟨alo, clo, rfl, -, -⟩ := hlo.len
  refine calls_of_W' Try.func62 rfl Try.ntmps62 rfl ?_
  refine W_seq ?_
  refine W_region ?_
  refine OL_c (op_box (v := .agg #[.int .u64 c.client, .int .u64 c.seq, .int .i64 c.kind, .int .u64 c.txn, .int .u64 c.ts, .bool c.flag, .int .u64 c.lk.txn, .int .i64 c.lk.level, .int .i64 c.lk.mode, vll, vlh, .slice alo c.lo.length clo, vhi, vtx, vwr, vke, .int .i64 c.tb.id, .string c.tb.name, vco, .int .i64 c.tb.key, vix]) H rfl (by decide) fun b3 w0_0 H => ?_)
  refine OL_c (op_alloc H ti84 (by decide) fun b4 w0_1 H => ?_)
  refine OL_nil ?_
  refine W_seq ?_
  refine W_seq ?_
  refine W_region ?_
  refine OL_y (y_fieldAddr ti78 rfl ti3 rfl rfl) (by decide) ?_
  refine OL_y (y_loadS (v := .int .i64 c.kind) ti3 rfl rfl (Cells.unit (H.getOwn 1 rfl) rfl)) (by decide) ?_
  refine OL_nil ?_
  refine W_block ?_
  refine W_seq ?_
  by_cases h8 : c.kind = 8
  · refine W_region ?_
    refine OL_y (v := .bool true) (y_eqlT h8 rfl rfl) (by decide) ?_
    refine OL_y (v := .bool true) (y_assign rfl) (by decide) ?_
    refine OL_nil ?_
    refine W_condt rfl ?_
    refine W_seq ?_
    refine W_region ?_
    refine OL_y (y_move rfl) (by decide) ?_
    refine OL_y (y_loadA (cs := [.int .u64 c.client, .int .u64 c.seq, .int .i64 c.kind, .int .u64 c.txn, .int .u64 c.ts, .bool c.flag, .int .u64 c.lk.txn, .int .i64 c.lk.level, .int .i64 c.lk.mode, vll, vlh, .slice alo c.lo.length clo, vhi, vtx, vwr, vke, .int .i64 c.tb.id, .string c.tb.name, vco, .int .i64 c.tb.key, vix]) ti78 rfl rfl (Cells.of (H.getOwn 1 rfl) rfl) rfl) (by decide) ?_
    refine OL_c (op_call 77 en77 rfl [.pointer (some ⟨rb, 0, none⟩), .agg #[.int .u64 c.client, .int .u64 c.seq, .int .i64 c.kind, .int .u64 c.txn, .int .u64 c.ts, .bool c.flag, .int .u64 c.lk.txn, .int .i64 c.lk.level, .int .i64 c.lk.mode, vll, vlh, .slice alo c.lo.length clo, vhi, vtx, vwr, vke, .int .i64 c.tb.id, .string c.tb.name, vco, .int .i64 c.tb.key, vix]] rfl (by decide) ((f77_calls (sIn2 H) hr (by omega) hc0 hwn).mono ?_))
    rintro e w3_2 ⟨rfl, v', R', F', Wp', H, hr', gr, hR'⟩
    refine ⟨_, rfl, ?_⟩
    have H := sOut2 H
    refine OL_y (v := .agg #[.int .i64 (prepE a c), .int .u64 0, .int .u64 0, .bool false, .slice none 0 0, .slice none 0 0, .slice none 0 0]) (y_build ti84 pl84 (by kernel_rfl)) (by decide) ?_
    refine OL_c (op_store (v := .agg #[.int .i64 (prepE a c), .int .u64 0, .int .u64 0, .bool false, .slice none 0 0, .slice none 0 0, .slice none 0 0]) H 0 rfl ti84 rfl rfl rfl (by decide) (by simp [Value.cells, Value.oneCell']) fun w3_4 H => ?_)
    refine OL_nil ?_
    refine W_ret ?_
    show RetOK _ _ _ _ _ _
    exact ret1c Try.results62 rfl (run_loadVarA (cs := [.int .i64 (prepE a c), .int .u64 0, .int .u64 0, .bool false, .slice none 0 0, .slice none 0 0, .slice none 0 0]) ti84 rfl (Cells.of (H.getOwn 0 rfl) rfl) rfl) ⟨_, _, _, v', R', F', Wp', rfl, one8 h8, H.tail.tail, hr', gr, res_cells.2 ⟨_, rfl, prepE_in a c, SlR.nil _ _ _ _⟩, by omega⟩
  · refine W_region ?_
    refine OL_y (v := .bool false) (y_eqlF h8 rfl rfl) (by decide) ?_
    refine OL_y (v := .bool false) (y_assign rfl) (by decide) ?_
    refine OL_nil ?_
    refine W_condf rfl ?_
    refine W_seq ?_
    by_cases h9 : c.kind = 9
    · refine W_region ?_
      refine OL_y (v := .bool true) (y_eqlT h9 rfl rfl) (by decide) ?_
      refine OL_y (v := .bool true) (y_assign rfl) (by decide) ?_
      refine OL_nil ?_
      refine W_condt rfl ?_
      refine W_seq ?_
      refine W_drawD H mixed (by kernel_rfl) [] (fun wq w' => w'.heap[b3]? = some (.cells #[.int .u64 c.client, .int .u64 c.seq, .int .i64 c.kind, .int .u64 c.txn, .int .u64 c.ts, .bool c.flag, .int .u64 c.lk.txn, .int .i64 c.lk.level, .int .i64 c.lk.mode, vll, vlh, .slice alo c.lo.length clo, vhi, vtx, vwr, vke, .int .i64 c.tb.id, .string c.tb.name, vco, .int .i64 c.tb.key, vix] 78)) fun wd5 H hEd => ?_
      have hS : ∀ {ls : Array Bool}, Sx [] (fun w' => w'.heap[b3]? = some (.cells #[.int .u64 c.client, .int .u64 c.seq, .int .i64 c.kind, .int .u64 c.txn, .int .u64 c.ts, .bool c.flag, .int .u64 c.lk.txn, .int .i64 c.lk.level, .int .i64 c.lk.mode, vll, vlh, .slice alo c.lo.length clo, vhi, vtx, vwr, vke, .int .i64 c.tb.id, .string c.tb.name, vco, .int .i64 c.tb.key, vix] 78)) ls wd5 := fun {_} _ => H.getOwn 1 rfl
      refine DA_p 0 rfl (by kernel_rfl) rfl (fun _ => y_move rfl) hS (by decide) fun hS => ?_
      refine DA_p 1 rfl (by kernel_rfl) rfl (fun _ => y_nilCheck rfl ⟨_, rfl⟩) hS (by decide) fun hS => ?_
      refine DA_p 2 rfl (by kernel_rfl) rfl (fun _ => y_fieldAddr ti68 rfl ti66 rfl rfl) hS (by decide) fun hS => ?_
      refine DA_p 3 rfl (by kernel_rfl) rfl (fun _ => y_fieldAddr ti78 rfl ti24 rfl rfl) hS (by decide) fun hS => ?_
      refine DA_y 4 rfl (by kernel_rfl) rfl (by kernel_rfl) (fun w' h => y_loadS (v := .int .u64 c.txn) ti24 rfl rfl (Cells.unit h rfl)) hS (by decide) fun hS => ?_
      refine DA_p 5 rfl (by kernel_rfl) rfl (fun _ => y_fieldAddr ti78 rfl ti24 rfl rfl) hS (by decide) fun hS => ?_
      refine DA_y 6 rfl (by kernel_rfl) rfl (by kernel_rfl) (fun w' h => y_loadS (v := .int .u64 c.ts) ti24 rfl rfl (Cells.unit h rfl)) hS (by decide) fun hS => ?_
      refine DA_one 7 (by kernel_rfl) rfl (op_call 39 en39 rfl [.pointer (some ⟨rb, 1, none⟩), .int .u64 c.txn, .int .u64 c.ts] rfl (by decide) ((f39s_calls (sIn2 H) hr (by omega) hNk ha hm hts).mono ?_))
      rintro e w5_7 ⟨ks, rfl, hks, v', R', F', Wp', H, hr', gr, hR'⟩
      refine ⟨_, rfl, fun _ => (sOut2 H).getOwn 1 rfl, ?_⟩
      have H := sOut2 H
      have hkN := hN ks hks
      refine DA_done (by kernel_rfl) ?_
      refine W_seq ?_
      refine W_region ?_
      refine OL_y (v := .agg #[.int .i64 0, .int .u64 0, .int .u64 0, .bool false, .slice none 0 0, .slice none 0 0, .slice none 0 0]) (y_build ti84 pl84 (by kernel_rfl)) (by decide) ?_
      refine OL_c (op_store (v := .agg #[.int .i64 0, .int .u64 0, .int .u64 0, .bool false, .slice none 0 0, .slice none 0 0, .slice none 0 0]) H 0 rfl ti84 rfl rfl rfl (by decide) (by simp [Value.cells, Value.oneCell']) fun w6_1 H => ?_)
      refine OL_nil ?_
      refine W_ret ?_
      show RetOK _ _ _ _ _ _
      exact ret1c Try.results62 rfl (run_loadVarA (cs := [.int .i64 0, .int .u64 0, .int .u64 0, .bool false, .slice none 0 0, .slice none 0 0, .slice none 0 0]) ti84 rfl (Cells.of (H.getOwn 0 rfl) rfl) rfl) ⟨_, _, _, v', R', F', Wp', rfl, one9 h9 hks, H.tail.tail, hr', gr, res_cells.2 ⟨_, rfl, rfl, SlR.nil _ _ _ _⟩, by omega⟩
    · refine W_region ?_
      refine OL_y (v := .bool false) (y_eqlF h9 rfl rfl) (by decide) ?_
      refine OL_y (v := .bool false) (y_assign rfl) (by decide) ?_
      refine OL_nil ?_
      refine W_condf rfl ?_
      refine W_seq ?_
      by_cases h10 : c.kind = 10
      · refine W_region ?_
        refine OL_y (v := .bool true) (y_eqlT h10 rfl rfl) (by decide) ?_
        refine OL_y (v := .bool true) (y_assign rfl) (by decide) ?_
        refine OL_nil ?_
        refine W_condt rfl ?_
        refine W_seq ?_
        refine W_drawD H mixed (by kernel_rfl) [] (fun wq w' => w'.heap[b3]? = some (.cells #[.int .u64 c.client, .int .u64 c.seq, .int .i64 c.kind, .int .u64 c.txn, .int .u64 c.ts, .bool c.flag, .int .u64 c.lk.txn, .int .i64 c.lk.level, .int .i64 c.lk.mode, vll, vlh, .slice alo c.lo.length clo, vhi, vtx, vwr, vke, .int .i64 c.tb.id, .string c.tb.name, vco, .int .i64 c.tb.key, vix] 78)) fun wd8 H hEd => ?_
        have hS : ∀ {ls : Array Bool}, Sx [] (fun w' => w'.heap[b3]? = some (.cells #[.int .u64 c.client, .int .u64 c.seq, .int .i64 c.kind, .int .u64 c.txn, .int .u64 c.ts, .bool c.flag, .int .u64 c.lk.txn, .int .i64 c.lk.level, .int .i64 c.lk.mode, vll, vlh, .slice alo c.lo.length clo, vhi, vtx, vwr, vke, .int .i64 c.tb.id, .string c.tb.name, vco, .int .i64 c.tb.key, vix] 78)) ls wd8 := fun {_} _ => H.getOwn 1 rfl
        refine DA_p 0 rfl (by kernel_rfl) rfl (fun _ => y_move rfl) hS (by decide) fun hS => ?_
        refine DA_p 1 rfl (by kernel_rfl) rfl (fun _ => y_nilCheck rfl ⟨_, rfl⟩) hS (by decide) fun hS => ?_
        refine DA_p 2 rfl (by kernel_rfl) rfl (fun _ => y_fieldAddr ti68 rfl ti66 rfl rfl) hS (by decide) fun hS => ?_
        refine DA_p 3 rfl (by kernel_rfl) rfl (fun _ => y_fieldAddr ti78 rfl ti24 rfl rfl) hS (by decide) fun hS => ?_
        refine DA_y 4 rfl (by kernel_rfl) rfl (by kernel_rfl) (fun w' h => y_loadS (v := .int .u64 c.txn) ti24 rfl rfl (Cells.unit h rfl)) hS (by decide) fun hS => ?_
        refine DA_one 5 (by kernel_rfl) rfl (op_call 41 en41 rfl [.pointer (some ⟨rb, 1, none⟩), .int .u64 c.txn] rfl (by decide) ((f41s_calls (sIn2 H) hr (by omega) hNk).mono ?_))
        rintro e w8_5 ⟨ks, rfl, hks, v', R', F', Wp', H, hr', gr, hR'⟩
        refine ⟨_, rfl, fun _ => (sOut2 H).getOwn 1 rfl, ?_⟩
        have H := sOut2 H
        have hkN := hN ks hks
        refine DA_done (by kernel_rfl) ?_
        refine W_seq ?_
        refine W_region ?_
        refine OL_y (v := .agg #[.int .i64 0, .int .u64 0, .int .u64 0, .bool false, .slice none 0 0, .slice none 0 0, .slice none 0 0]) (y_build ti84 pl84 (by kernel_rfl)) (by decide) ?_
        refine OL_c (op_store (v := .agg #[.int .i64 0, .int .u64 0, .int .u64 0, .bool false, .slice none 0 0, .slice none 0 0, .slice none 0 0]) H 0 rfl ti84 rfl rfl rfl (by decide) (by simp [Value.cells, Value.oneCell']) fun w9_1 H => ?_)
        refine OL_nil ?_
        refine W_ret ?_
        show RetOK _ _ _ _ _ _
        exact ret1c Try.results62 rfl (run_loadVarA (cs := [.int .i64 0, .int .u64 0, .int .u64 0, .bool false, .slice none 0 0, .slice none 0 0, .slice none 0 0]) ti84 rfl (Cells.of (H.getOwn 0 rfl) rfl) rfl) ⟨_, _, _, v', R', F', Wp', rfl, one10 h10 hks, H.tail.tail, hr', gr, res_cells.2 ⟨_, rfl, rfl, SlR.nil _ _ _ _⟩, by omega⟩
      · refine W_region ?_
        refine OL_y (v := .bool false) (y_eqlF h10 rfl rfl) (by decide) ?_
        refine OL_y (v := .bool false) (y_assign rfl) (by decide) ?_
        refine OL_nil ?_
        refine W_condf rfl ?_
        refine W_seq ?_
        by_cases h11 : c.kind = 11
        · refine W_region ?_
          refine OL_y (v := .bool true) (y_eqlT h11 rfl rfl) (by decide) ?_
          refine OL_y (v := .bool true) (y_assign rfl) (by decide) ?_
          refine OL_nil ?_
          refine W_condt rfl ?_
          refine W_seq ?_
          refine W_drawD H mixed (by kernel_rfl) [] (fun wq w' => w'.heap[b3]? = some (.cells #[.int .u64 c.client, .int .u64 c.seq, .int .i64 c.kind, .int .u64 c.txn, .int .u64 c.ts, .bool c.flag, .int .u64 c.lk.txn, .int .i64 c.lk.level, .int .i64 c.lk.mode, vll, vlh, .slice alo c.lo.length clo, vhi, vtx, vwr, vke, .int .i64 c.tb.id, .string c.tb.name, vco, .int .i64 c.tb.key, vix] 78)) fun wd11 H hEd => ?_
          have hS : ∀ {ls : Array Bool}, Sx [] (fun w' => w'.heap[b3]? = some (.cells #[.int .u64 c.client, .int .u64 c.seq, .int .i64 c.kind, .int .u64 c.txn, .int .u64 c.ts, .bool c.flag, .int .u64 c.lk.txn, .int .i64 c.lk.level, .int .i64 c.lk.mode, vll, vlh, .slice alo c.lo.length clo, vhi, vtx, vwr, vke, .int .i64 c.tb.id, .string c.tb.name, vco, .int .i64 c.tb.key, vix] 78)) ls wd11 := fun {_} _ => H.getOwn 1 rfl
          refine DA_p 0 rfl (by kernel_rfl) rfl (fun _ => y_move rfl) hS (by decide) fun hS => ?_
          refine DA_p 1 rfl (by kernel_rfl) rfl (fun _ => y_nilCheck rfl ⟨_, rfl⟩) hS (by decide) fun hS => ?_
          refine DA_p 2 rfl (by kernel_rfl) rfl (fun _ => y_fieldAddr ti68 rfl ti66 rfl rfl) hS (by decide) fun hS => ?_
          refine DA_p 3 rfl (by kernel_rfl) rfl (fun _ => y_fieldAddr ti78 rfl ti23 rfl rfl) hS (by decide) fun hS => ?_
          refine DA_y 4 rfl (by kernel_rfl) rfl (by kernel_rfl) (fun w' h => y_loadS (v := .slice alo c.lo.length clo) ti23 rfl rfl (Cells.unit h rfl)) hS (by decide) fun hS => ?_
          refine DA_p 5 rfl (by kernel_rfl) rfl (fun _ => y_fieldAddr ti78 rfl ti23 rfl rfl) hS (by decide) fun hS => ?_
          refine DA_y 6 rfl (by kernel_rfl) rfl (by kernel_rfl) (fun w' h => y_loadS (v := vhi) ti23 rfl rfl (Cells.unit h rfl)) hS (by decide) fun hS => ?_
          refine DA_p 7 rfl (by kernel_rfl) rfl (fun _ => y_fieldAddr ti78 rfl ti24 rfl rfl) hS (by decide) fun hS => ?_
          refine DA_y 8 rfl (by kernel_rfl) rfl (by kernel_rfl) (fun w' h => y_loadS (v := .int .u64 c.ts) ti24 rfl rfl (Cells.unit h rfl)) hS (by decide) fun hS => ?_
          refine DA_one 9 (by kernel_rfl) rfl (op_call 26 en26 rfl [.pointer (some ⟨rb, 1, none⟩), .slice alo c.lo.length clo, vhi, .int .u64 c.ts] rfl (by decide) ((f26s_calls H.tail.tail hr (by omega) ha (by omega) (hlo.keeps (H.dz 4 5 rfl rfl hr.base)) (hhi.keeps (H.dz 4 5 rfl rfl hr.base))).mono ?_))
          rintro e w11_9 ⟨v48, ks, rfl, hsc, hS48, hE26⟩
          refine ⟨_, rfl, fun _ => (H.ext0 hE26).getOwn 1 rfl, ?_⟩
          obtain ⟨F1, H, gr, hF1⟩ := H.poolN hE26 4 5 rfl rfl hr.base
          have hS48 := hS48.mono fun k h1 h2 => hF1 k h1 h2
          obtain ⟨a48, c48, rfl, -, -⟩ := hS48.len
          refine DA_p (v := .agg #[.int .i64 0, .int .u64 0, .int .u64 0, .bool false, .slice none 0 0, .slice a48 (ks.map (cellOf a c.ts)).length c48, .slice none 0 0]) 10 rfl (by kernel_rfl) rfl (fun _ => y_build ti84 pl84 (by kernel_rfl)) (fun _ => H.getOwn 1 rfl) (by decide) fun _ => ?_
          refine DA_one 11 (by kernel_rfl) rfl (op_store (v := .agg #[.int .i64 0, .int .u64 0, .int .u64 0, .bool false, .slice none 0 0, .slice a48 (ks.map (cellOf a c.ts)).length c48, .slice none 0 0]) H 0 rfl ti84 rfl rfl rfl (by decide) (by simp [Value.cells, Value.oneCell']) fun w11_11 H => ⟨fun _ => H.getOwn 1 rfl, ?_⟩)
          refine DA_done (by kernel_rfl) ?_
          refine W_ret ?_
          show RetOK _ _ _ _ _ _
          exact ret1c Try.results62 rfl (run_loadVarA (cs := [.int .i64 0, .int .u64 0, .int .u64 0, .bool false, .slice none 0 0, .slice a48 (ks.map (cellOf a c.ts)).length c48, .slice none 0 0]) ti84 rfl (Cells.of (H.getOwn 0 rfl) rfl) rfl) ⟨_, _, _, v, R, F1, _, rfl, one11 h11 hsc, H.tail.tail, hr.grow gr, gr, res_cells.2 ⟨_, rfl, rfl, hS48⟩, by omega⟩
        · refine W_region ?_
          refine OL_y (v := .bool false) (y_eqlF h11 rfl rfl) (by decide) ?_
          refine OL_y (v := .bool false) (y_assign rfl) (by decide) ?_
          refine OL_nil ?_
          refine W_condf rfl ?_
          refine W_seq ?_
          by_cases h13 : c.kind = 13
          · refine W_region ?_
            refine OL_y (v := .bool true) (y_eqlT h13 rfl rfl) (by decide) ?_
            refine OL_y (v := .bool true) (y_assign rfl) (by decide) ?_
            refine OL_nil ?_
            refine W_condt rfl ?_
            refine W_seq ?_
            refine W_drawD H mixed (by kernel_rfl) [] (fun wq w' => w'.heap[b3]? = some (.cells #[.int .u64 c.client, .int .u64 c.seq, .int .i64 c.kind, .int .u64 c.txn, .int .u64 c.ts, .bool c.flag, .int .u64 c.lk.txn, .int .i64 c.lk.level, .int .i64 c.lk.mode, vll, vlh, .slice alo c.lo.length clo, vhi, vtx, vwr, vke, .int .i64 c.tb.id, .string c.tb.name, vco, .int .i64 c.tb.key, vix] 78)) fun wd13 H hEd => ?_
            have hS : ∀ {ls : Array Bool}, Sx [] (fun w' => w'.heap[b3]? = some (.cells #[.int .u64 c.client, .int .u64 c.seq, .int .i64 c.kind, .int .u64 c.txn, .int .u64 c.ts, .bool c.flag, .int .u64 c.lk.txn, .int .i64 c.lk.level, .int .i64 c.lk.mode, vll, vlh, .slice alo c.lo.length clo, vhi, vtx, vwr, vke, .int .i64 c.tb.id, .string c.tb.name, vco, .int .i64 c.tb.key, vix] 78)) ls wd13 := fun {_} _ => H.getOwn 1 rfl
            refine DA_p 0 rfl (by kernel_rfl) rfl (fun _ => y_move rfl) hS (by decide) fun hS => ?_
            refine DA_p 1 rfl (by kernel_rfl) rfl (fun _ => y_nilCheck rfl ⟨_, rfl⟩) hS (by decide) fun hS => ?_
            refine DA_p 2 rfl (by kernel_rfl) rfl (fun _ => y_fieldAddr ti68 rfl ti66 rfl rfl) hS (by decide) fun hS => ?_
            refine DA_p 3 rfl (by kernel_rfl) rfl (fun _ => y_fieldAddr ti78 rfl ti24 rfl rfl) hS (by decide) fun hS => ?_
            refine DA_y 4 rfl (by kernel_rfl) rfl (by kernel_rfl) (fun w' h => y_loadS (v := .int .u64 c.ts) ti24 rfl rfl (Cells.unit h rfl)) hS (by decide) fun hS => ?_
            refine DA_one 5 (by kernel_rfl) rfl (op_call 42 en42 rfl [.pointer (some ⟨rb, 1, none⟩), .int .u64 c.ts] rfl (by decide) ((f42s_calls (sIn2 H) hr (by omega) ha (by omega)).mono ?_))
            rintro e w13_5 ⟨rfl, v', R', F', Wp', H, hr', gr, hR'⟩
            refine ⟨_, rfl, fun _ => (sOut2 H).getOwn 1 rfl, ?_⟩
            have H := sOut2 H
            have hRn : R'.length = R.length := by have := congrArg List.length hR'; rwa [List.length_map, List.length_map] at this
            refine DA_done (by kernel_rfl) ?_
            refine W_seq ?_
            refine W_region ?_
            refine OL_y (v := .agg #[.int .i64 0, .int .u64 0, .int .u64 0, .bool false, .slice none 0 0, .slice none 0 0, .slice none 0 0]) (y_build ti84 pl84 (by kernel_rfl)) (by decide) ?_
            refine OL_c (op_store (v := .agg #[.int .i64 0, .int .u64 0, .int .u64 0, .bool false, .slice none 0 0, .slice none 0 0, .slice none 0 0]) H 0 rfl ti84 rfl rfl rfl (by decide) (by simp [Value.cells, Value.oneCell']) fun w14_1 H => ?_)
            refine OL_nil ?_
            refine W_ret ?_
            show RetOK _ _ _ _ _ _
            exact ret1c Try.results62 rfl (run_loadVarA (cs := [.int .i64 0, .int .u64 0, .int .u64 0, .bool false, .slice none 0 0, .slice none 0 0, .slice none 0 0]) ti84 rfl (Cells.of (H.getOwn 0 rfl) rfl) rfl) ⟨_, _, _, v', R', F', Wp', rfl, one13 h13, H.tail.tail, hr', gr, res_cells.2 ⟨_, rfl, rfl, SlR.nil _ _ _ _⟩, by omega⟩
          · refine W_region ?_
            refine OL_y (v := .bool false) (y_eqlF h13 rfl rfl) (by decide) ?_
            refine OL_y (v := .bool false) (y_assign rfl) (by decide) ?_
            refine OL_nil ?_
            refine W_condf rfl ?_
            refine W_seq ?_
            by_cases h12 : c.kind = 12
            · refine W_region ?_
              refine OL_y (v := .bool true) (y_eqlT h12 rfl rfl) (by decide) ?_
              refine OL_y (v := .bool true) (y_assign rfl) (by decide) ?_
              refine OL_nil ?_
              refine W_condt rfl ?_
              refine W_seq ?_
              refine W_region ?_
              refine OL_y (y_move rfl) (by decide) ?_
              refine OL_y (y_fieldAddr ti78 rfl ti23 rfl rfl) (by decide) ?_
              refine OL_y (y_loadS (v := .slice alo c.lo.length clo) ti23 rfl rfl (Cells.unit (H.getOwn 1 rfl) rfl)) (by decide) ?_
              refine OL_c (op_call 78 en78 rfl [.pointer (some ⟨rb, 0, none⟩), .slice alo c.lo.length clo] rfl (by decide) ((f78_calls H.tail.tail hr hlo (by omega)).mono ?_))
              rintro e w16_3 ⟨cs7, rfl, hT7, hE78⟩
              refine ⟨_, rfl, ?_⟩
              have H := H.ext0 hE78
              have hone7 := tCl.one hT7
              obtain ⟨vk7, vs7, is7, rfl, hk7, hv7, hi7⟩ := cl_cells.1 hT7
              obtain ⟨iv7, ik7, rfl, -⟩ := ver_cells.1 hi7
              have hk7 : SlR (tInt .u8) 1 (Dz w0 F) Wp vk7 c.lo := hk7
              have hv7 : SlR tVer 72 (Dz w0 F) Wp vs7 (a.v (kb c.lo)) := hv7
              obtain ⟨a7, c7, rfl, -, -⟩ := hv7.len
              obtain ⟨ak7, ck7, rfl, -, -⟩ := hk7.len
              have hvm := (ha (kb c.lo)).2
              have hi7 : tVer.R (Dz w0 F) Wp [.int .u64 (a.i (kb c.lo)).ts, .int .u64 (a.i (kb c.lo)).txn, .bool (a.i (kb c.lo)).dead, iv7, ik7] (a.i (kb c.lo)) := hi7
              rw [show (fullCl a c.lo).intent = a.i (kb c.lo) from rfl]
              refine OL_var (v := .agg #[.slice ak7 c.lo.length ck7, .slice a7 (a.v (kb c.lo)).length c7, .int .u64 (a.i (kb c.lo)).ts, .int .u64 (a.i (kb c.lo)).txn, .bool (a.i (kb c.lo)).dead, iv7, ik7]) H ti55 rfl (by decide) (fun _ => rfl) rfl (hone7) fun b5 w16_4 H => ?_
              refine OL_nil ?_
              refine W_seq ?_
              refine W_seq ?_
              refine W_region ?_
              refine OL_y (y_fieldAddr ti55 rfl ti53 rfl rfl) (by decide) ?_
              refine OL_y (y_loadS (v := .slice a7 (a.v (kb c.lo)).length c7) ti53 rfl rfl (Cells.unit (H.getOwn 0 rfl) rfl)) (by decide) ?_
              refine OL_y (y_len rfl ti53 rfl) (by decide) ?_
              refine OL_y (y_move rfl) (by decide) ?_
              refine OL_nil ?_
              refine W_range (N := (a.v (kb c.lo)).length) (by simp only [maxLen]; omega) (fun j f ds w' => f 0 = .pointer (some ⟨rb, 0, none⟩) ∧ f 3 = .pointer (some ⟨b3, 0, none⟩) ∧ f 4 = .pointer (some ⟨b4, 0, none⟩) ∧ f 5 = .pointer (some ⟨b5, 0, none⟩) ∧ f 66 = .slice a7 (a.v (kb c.lo)).length c7 ∧ ds = [] ∧ (∀ y ∈ (a.v (kb c.lo)).take j, decide (y.txn = c.txn) = false) ∧ Holds w' (own b5 (.cells #[.slice ak7 c.lo.length ck7, .slice a7 (a.v (kb c.lo)).length c7, .int .u64 (a.i (kb c.lo)).ts, .int .u64 (a.i (kb c.lo)).txn, .bool (a.i (kb c.lo)).dead, iv7, ik7] 55) :: own b4 (.cells #[.int .i64 0, .int .u64 0, .int .u64 0, .bool false, .slice none 0 0, .slice none 0 0, .slice none 0 0] 84) :: own b3 (.cells #[.int .u64 c.client, .int .u64 c.seq, .int .i64 c.kind, .int .u64 c.txn, .int .u64 c.ts, .bool c.flag, .int .u64 c.lk.txn, .int .i64 c.lk.level, .int .i64 c.lk.mode, vll, vlh, .slice alo c.lo.length clo, vhi, vtx, vwr, vke, .int .i64 c.tb.id, .string c.tb.name, vco, .int .i64 c.tb.key, vix] 78) :: sAt rb qv v R F Wp w0 L))
                  ⟨rfl, rfl, rfl, rfl, rfl, rfl, by simp, H⟩
                  rfl rfl (by decide) (by decide) (by decide) rfl rfl ?_ rfl rfl ?_
              · rintro j f ds w5 hj ⟨h0, h3, h4, h5, h66, rfl, hok, H⟩ hti htn
                have hxj := List.getElem?_eq_getElem hj
                generalize (a.v (kb c.lo))[j] = u at *
                obtain ⟨bx, ox, cs9, e9, hz9, hc9, hr9⟩ := hv7.at hxj
                have hc9' := hc9.ext ((H.dz 5 6 rfl rfl hr.base).2 _ hz9 hc9.lt)
                have hone9 := tVer.one hr9
                have hr9' := hr9
                obtain ⟨uv, uk, rfl, -⟩ := ver_cells.1 hr9
                have h66' := h66.trans (congrArg (Value.slice · _ _) e9)
                refine W_block ?_
                refine W_seq ?_
                refine W_region ?_
                refine OL_y (y_indexAddr ti53 ti32 h66' hti (by omega) (by omega)) (by decide) ?_
                refine OL_y (y_loadA (cs := [.int .u64 u.ts, .int .u64 u.txn, .bool u.dead, uv, uk]) ti32 rfl rfl hc9' rfl) (by decide) ?_
                refine OL_var (v := .agg #[.int .u64 u.ts, .int .u64 u.txn, .bool u.dead, uv, uk]) H ti32 rfl (by decide) (fun _ => rfl) rfl (hone9) fun b7 w19_2 H => ?_
                refine OL_nil ?_
                refine W_seq ?_
                by_cases hy : u.txn = c.txn
                · refine W_region ?_
                  refine OL_y (y_fieldAddr ti32 rfl ti24 rfl rfl) (by decide) ?_
                  refine OL_y (y_loadS (v := .int .u64 u.txn) ti24 rfl rfl (Cells.unit (H.getOwn 0 rfl) rfl)) (by decide) ?_
                  refine OL_y (y_fieldAddr ti78 rfl ti24 rfl h3) (by decide) ?_
                  refine OL_y (y_loadS (v := .int .u64 c.txn) ti24 rfl rfl (Cells.unit (H.getOwn 3 rfl) rfl)) (by decide) ?_
                  refine OL_y (v := .bool true) (y_eqlT hy rfl rfl) (by decide) ?_
                  refine OL_nil ?_
                  refine W_condt rfl ?_
                  refine W_seq ?_
                  refine W_region ?_
                  refine OL_y (y_fieldAddr ti78 rfl ti23 rfl h3) (by decide) ?_
                  refine OL_y (y_loadS (v := .slice alo c.lo.length clo) ti23 rfl rfl (Cells.unit (H.getOwn 3 rfl) rfl)) (by decide) ?_
                  refine OL_y (y_loadA (cs := [.int .u64 u.ts, .int .u64 u.txn, .bool u.dead, uv, uk]) ti32 rfl rfl (Cells.of (H.getOwn 0 rfl) rfl) rfl) (by decide) ?_
                  refine OL_c (op_buildSlice H [.agg #[.int .u64 u.ts, .int .u64 u.txn, .bool u.dead, uv, uk]] ti53 ti32 rfl rfl rfl (by simp [Value.cells]) rfl rfl (by decide) fun b80 w21_3 H => ?_)
                  refine OL_y (v := .agg #[.slice alo c.lo.length clo, .slice (some ⟨b80, 0, none⟩) 1 1, .int .u64 0, .int .u64 0, .bool false, .slice none 0 0, .slice none 0 0]) (y_build ti55 pl55 (by kernel_rfl)) (by decide) ?_
                  refine OL_c (op_buildSlice H [.agg #[.slice alo c.lo.length clo, .slice (some ⟨b80, 0, none⟩) 1 1, .int .u64 0, .int .u64 0, .bool false, .slice none 0 0, .slice none 0 0]] ti49 ti55 rfl rfl rfl (by simp [Value.cells]) rfl rfl (by decide) fun b82 w21_5 H => ?_)
                  refine OL_y (v := .agg #[.int .i64 0, .int .u64 0, .int .u64 0, .bool false, .slice none 0 0, .slice (some ⟨b82, 0, none⟩) 1 1, .slice none 0 0]) (y_build ti84 pl84 (by kernel_rfl)) (by decide) ?_
                  refine OL_c (op_store (v := .agg #[.int .i64 0, .int .u64 0, .int .u64 0, .bool false, .slice none 0 0, .slice (some ⟨b82, 0, none⟩) 1 1, .slice none 0 0]) H 4 rfl ti84 h4 rfl rfl (by decide) (by simp [Value.cells, Value.oneCell']) fun w21_7 H => ?_)
                  refine OL_nil ?_
                  refine W_ret ?_
                  show RetOK _ _ _ _ _ _
                  have hf : foundV a c = some u := find_at hxj hok (decide_eq_true hy)
                  have he : fetchR a c = ⟨0, [⟨c.lo, [u], noV⟩]⟩ := by unfold fetchR; rw [hf]
                  obtain ⟨F2, W2, H2, g2, hT⟩ := one_cellS (P := [_, _, _, _]) H hr.base hlo hr9'
                  exact ret1c Try.results62 h4 (run_loadVarA (cs := [.int .i64 0, .int .u64 0, .int .u64 0, .bool false, .slice none 0 0, .slice (some ⟨b82, 0, none⟩) 1 1, .slice none 0 0]) ti84 rfl (Cells.of (H.getOwn 4 rfl) rfl) rfl) ⟨_, _, _, v, R, F2, W2, rfl, one12 h12, H2, hr.grow g2, g2, by rw [he]; exact hT, by omega⟩
                · refine W_region ?_
                  refine OL_y (y_fieldAddr ti32 rfl ti24 rfl rfl) (by decide) ?_
                  refine OL_y (y_loadS (v := .int .u64 u.txn) ti24 rfl rfl (Cells.unit (H.getOwn 0 rfl) rfl)) (by decide) ?_
                  refine OL_y (y_fieldAddr ti78 rfl ti24 rfl h3) (by decide) ?_
                  refine OL_y (y_loadS (v := .int .u64 c.txn) ti24 rfl rfl (Cells.unit (H.getOwn 3 rfl) rfl)) (by decide) ?_
                  refine OL_y (v := .bool false) (y_eqlF hy rfl rfl) (by decide) ?_
                  refine OL_nil ?_
                  refine W_condf rfl ?_
                  refine W_skip ?_
                  refine ⟨hti, htn, h0, h3, h4, h5, h66, rfl, fun y hy1 => ?_, H.tail⟩
                  rw [List.take_add_one, hxj] at hy1
                  rcases List.mem_append.1 hy1 with hy1 | hy1
                  · exact hok y hy1
                  · have : y = u := by simpa using hy1
                    subst this; exact decide_eq_false hy
              · rintro f ds w5 ⟨h0, h3, h4, h5, h66, rfl, hok, H⟩ hti htn
                rw [List.take_length] at hok
                have hf : foundV a c = none := find_no hok
                refine W_seq ?_
                refine W_seq ?_
                by_cases hz : c.txn = 0
                · refine W_region ?_
                  refine OL_y (y_fieldAddr ti78 rfl ti24 rfl h3) (by decide) ?_
                  refine OL_y (y_loadS (v := .int .u64 c.txn) ti24 rfl rfl (Cells.unit (H.getOwn 2 rfl) rfl)) (by decide) ?_
                  refine OL_y (v := .bool false) (y_neqF hz rfl rfl) (by decide) ?_
                  refine OL_y (v := .bool false) (y_move rfl) (by decide) ?_
                  refine OL_s rfl (by decide) rfl rfl (by simp) ?_
                  refine OL_s rfl (by decide) rfl rfl (by simp) ?_
                  refine OL_s rfl (by decide) rfl rfl (by simp) ?_
                  refine OL_s rfl (by decide) rfl rfl (by simp) ?_
                  refine OL_s rfl (by decide) rfl rfl (by simp) ?_
                  refine OL_s rfl (by decide) rfl rfl (by simp) ?_
                  refine OL_y (y_pick (b := false) (v := .bool false) rfl rfl) (by decide) ?_
                  refine OL_nil ?_
                  refine W_condf rfl ?_
                  refine W_skip ?_
                  refine W_seq ?_
                  refine W_region ?_
                  refine OL_y (v := .agg #[.int .i64 3, .int .u64 0, .int .u64 0, .bool false, .slice none 0 0, .slice none 0 0, .slice none 0 0]) (y_build ti84 pl84 (by kernel_rfl)) (by decide) ?_
                  refine OL_c (op_store (v := .agg #[.int .i64 3, .int .u64 0, .int .u64 0, .bool false, .slice none 0 0, .slice none 0 0, .slice none 0 0]) H 1 rfl ti84 h4 rfl rfl (by decide) (by simp [Value.cells, Value.oneCell']) fun w27_1 H => ?_)
                  refine OL_nil ?_
                  refine W_ret ?_
                  show RetOK _ _ _ _ _ _
                  have he : fetchR a c = ⟨3, []⟩ := by unfold fetchR; rw [hf]; exact if_neg fun h => h.1 hz
                  exact ret1c Try.results62 h4 (run_loadVarA (cs := [.int .i64 3, .int .u64 0, .int .u64 0, .bool false, .slice none 0 0, .slice none 0 0, .slice none 0 0]) ti84 rfl (Cells.of (H.getOwn 1 rfl) rfl) rfl) ⟨_, _, _, v, R, F, Wp, rfl, one12 h12, H.tail.tail.tail, hr, Grow.refl hr.base, by rw [he]; exact res_cells.2 ⟨_, rfl, rfl, SlR.nil _ _ _ _⟩, by omega⟩
                · by_cases hi : (a.i (kb c.lo)).txn = c.txn
                  · refine W_region ?_
                    refine OL_y (y_fieldAddr ti78 rfl ti24 rfl h3) (by decide) ?_
                    refine OL_y (y_loadS (v := .int .u64 c.txn) ti24 rfl rfl (Cells.unit (H.getOwn 2 rfl) rfl)) (by decide) ?_
                    refine OL_y (v := .bool true) (y_neqT hz rfl rfl) (by decide) ?_
                    refine OL_y (v := .bool true) (y_move rfl) (by decide) ?_
                    refine OL_yg rfl (by decide) rfl (y_fieldAddr ti55 rfl ti32 rfl h5) (by decide) ?_
                    refine OL_yg rfl (by decide) rfl (y_fieldAddr ti32 rfl ti24 rfl rfl) (by decide) ?_
                    refine OL_yg rfl (by decide) rfl (y_loadS (v := .int .u64 (a.i (kb c.lo)).txn) ti24 rfl rfl (Cells.unit (H.getOwn 0 rfl) rfl)) (by decide) ?_
                    refine OL_yg rfl (by decide) rfl (y_fieldAddr ti78 rfl ti24 rfl h3) (by decide) ?_
                    refine OL_yg rfl (by decide) rfl (y_loadS (v := .int .u64 c.txn) ti24 rfl rfl (Cells.unit (H.getOwn 2 rfl) rfl)) (by decide) ?_
                    refine OL_yg (v := .bool true) rfl (by decide) rfl (y_eqlT hi rfl rfl) (by decide) ?_
                    refine OL_y (y_pick (b := true) (v := .bool true) rfl rfl) (by decide) ?_
                    refine OL_nil ?_
                    refine W_condt rfl ?_
                    refine W_seq ?_
                    refine W_region ?_
                    refine OL_y (y_fieldAddr ti55 rfl ti32 rfl h5) (by decide) ?_
                    refine OL_y (y_loadA (cs := [.int .u64 (a.i (kb c.lo)).ts, .int .u64 (a.i (kb c.lo)).txn, .bool (a.i (kb c.lo)).dead, iv7, ik7]) ti32 rfl rfl (Cells.of (H.getOwn 0 rfl) rfl) rfl) (by decide) ?_
                    refine OL_var (v := .agg #[.int .u64 (a.i (kb c.lo)).ts, .int .u64 (a.i (kb c.lo)).txn, .bool (a.i (kb c.lo)).dead, iv7, ik7]) H ti32 rfl (by decide) (fun _ => rfl) rfl (tVer.one hi7) fun b8 w24_2 H => ?_
                    refine OL_nil ?_
                    refine W_seq ?_
                    refine W_region ?_
                    refine OL_y (y_fieldAddr ti78 rfl ti24 rfl h3) (by decide) ?_
                    refine OL_y (y_loadS (v := .int .u64 c.ts) ti24 rfl rfl (Cells.unit (H.getOwn 3 rfl) rfl)) (by decide) ?_
                    refine OL_y (y_fieldAddr ti32 rfl ti24 rfl rfl) (by decide) ?_
                    refine OL_c (op_store (v := .int .u64 c.ts) H 0 rfl ti24 rfl rfl rfl (Nat.le_of_ble_eq_true rfl) (by simp [Value.cells, Value.oneCell']) fun w25_3 H => ?_)
                    refine OL_nil ?_
                    refine W_seq ?_
                    refine W_region ?_
                    refine OL_y (y_fieldAddr ti78 rfl ti23 rfl h3) (by decide) ?_
                    refine OL_y (y_loadS (v := .slice alo c.lo.length clo) ti23 rfl rfl (Cells.unit (H.getOwn 3 rfl) rfl)) (by decide) ?_
                    refine OL_y (y_loadA (cs := [.int .u64 c.ts, .int .u64 (a.i (kb c.lo)).txn, .bool (a.i (kb c.lo)).dead, iv7, ik7]) ti32 rfl rfl (Cells.of (H.getOwn 0 rfl) rfl) rfl) (by decide) ?_
                    refine OL_c (op_buildSlice H [.agg #[.int .u64 c.ts, .int .u64 (a.i (kb c.lo)).txn, .bool (a.i (kb c.lo)).dead, iv7, ik7]] ti53 ti32 rfl rfl rfl (by simp [Value.cells]) rfl rfl (by decide) fun b104 w26_3 H => ?_)
                    refine OL_y (v := .agg #[.slice alo c.lo.length clo, .slice (some ⟨b104, 0, none⟩) 1 1, .int .u64 0, .int .u64 0, .bool false, .slice none 0 0, .slice none 0 0]) (y_build ti55 pl55 (by kernel_rfl)) (by decide) ?_
                    refine OL_c (op_buildSlice H [.agg #[.slice alo c.lo.length clo, .slice (some ⟨b104, 0, none⟩) 1 1, .int .u64 0, .int .u64 0, .bool false, .slice none 0 0, .slice none 0 0]] ti49 ti55 rfl rfl rfl (by simp [Value.cells]) rfl rfl (by decide) fun b106 w26_5 H => ?_)
                    refine OL_y (v := .agg #[.int .i64 0, .int .u64 0, .int .u64 0, .bool false, .slice none 0 0, .slice (some ⟨b106, 0, none⟩) 1 1, .slice none 0 0]) (y_build ti84 pl84 (by kernel_rfl)) (by decide) ?_
                    refine OL_c (op_store (v := .agg #[.int .i64 0, .int .u64 0, .int .u64 0, .bool false, .slice none 0 0, .slice (some ⟨b106, 0, none⟩) 1 1, .slice none 0 0]) H 4 rfl ti84 h4 rfl rfl (by decide) (by simp [Value.cells, Value.oneCell']) fun w26_7 H => ?_)
                    refine OL_nil ?_
                    refine W_ret ?_
                    show RetOK _ _ _ _ _ _
                    have he : fetchR a c = ⟨0, [⟨c.lo, [(a.i (kb c.lo)).atTs c.ts], noV⟩]⟩ := by unfold fetchR; rw [hf]; exact if_pos ⟨hz, hi⟩
                    obtain ⟨iv8, ik8, e8, hi1, hi2, hi3, hi4⟩ := ver_cells.1 hi7
                    injection e8 with _ e8; injection e8 with _ e8; injection e8 with _ e8; injection e8 with e8 e9; injection e9 with e9 _
                    subst e8 e9
                    obtain ⟨F2, W2, H2, g2, hT⟩ := one_cellS (P := [_, _, _, _]) (u := (a.i (kb c.lo)).atTs c.ts) H hr.base hlo (ver_cells.2 ⟨_, _, rfl, hts, hi2, hi3, hi4⟩)
                    exact ret1c Try.results62 h4 (run_loadVarA (cs := [.int .i64 0, .int .u64 0, .int .u64 0, .bool false, .slice none 0 0, .slice (some ⟨b106, 0, none⟩) 1 1, .slice none 0 0]) ti84 rfl (Cells.of (H.getOwn 4 rfl) rfl) rfl) ⟨_, _, _, v, R, F2, W2, rfl, one12 h12, H2, hr.grow g2, g2, by rw [he]; exact hT, by omega⟩
                  · refine W_region ?_
                    refine OL_y (y_fieldAddr ti78 rfl ti24 rfl h3) (by decide) ?_
                    refine OL_y (y_loadS (v := .int .u64 c.txn) ti24 rfl rfl (Cells.unit (H.getOwn 2 rfl) rfl)) (by decide) ?_
                    refine OL_y (v := .bool true) (y_neqT hz rfl rfl) (by decide) ?_
                    refine OL_y (v := .bool true) (y_move rfl) (by decide) ?_
                    refine OL_yg rfl (by decide) rfl (y_fieldAddr ti55 rfl ti32 rfl h5) (by decide) ?_
                    refine OL_yg rfl (by decide) rfl (y_fieldAddr ti32 rfl ti24 rfl rfl) (by decide) ?_
                    refine OL_yg rfl (by decide) rfl (y_loadS (v := .int .u64 (a.i (kb c.lo)).txn) ti24 rfl rfl (Cells.unit (H.getOwn 0 rfl) rfl)) (by decide) ?_
                    refine OL_yg rfl (by decide) rfl (y_fieldAddr ti78 rfl ti24 rfl h3) (by decide) ?_
                    refine OL_yg rfl (by decide) rfl (y_loadS (v := .int .u64 c.txn) ti24 rfl rfl (Cells.unit (H.getOwn 2 rfl) rfl)) (by decide) ?_
                    refine OL_yg (v := .bool false) rfl (by decide) rfl (y_eqlF hi rfl rfl) (by decide) ?_
                    refine OL_y (y_pick (b := true) (v := .bool false) rfl rfl) (by decide) ?_
                    refine OL_nil ?_
                    refine W_condf rfl ?_
                    refine W_skip ?_
                    refine W_seq ?_
                    refine W_region ?_
                    refine OL_y (v := .agg #[.int .i64 3, .int .u64 0, .int .u64 0, .bool false, .slice none 0 0, .slice none 0 0, .slice none 0 0]) (y_build ti84 pl84 (by kernel_rfl)) (by decide) ?_
                    refine OL_c (op_store (v := .agg #[.int .i64 3, .int .u64 0, .int .u64 0, .bool false, .slice none 0 0, .slice none 0 0, .slice none 0 0]) H 1 rfl ti84 h4 rfl rfl (by decide) (by simp [Value.cells, Value.oneCell']) fun w27_1 H => ?_)
                    refine OL_nil ?_
                    refine W_ret ?_
                    show RetOK _ _ _ _ _ _
                    have he : fetchR a c = ⟨3, []⟩ := by unfold fetchR; rw [hf]; exact if_neg fun h => hi h.2
                    exact ret1c Try.results62 h4 (run_loadVarA (cs := [.int .i64 3, .int .u64 0, .int .u64 0, .bool false, .slice none 0 0, .slice none 0 0, .slice none 0 0]) ti84 rfl (Cells.of (H.getOwn 1 rfl) rfl) rfl) ⟨_, _, _, v, R, F, Wp, rfl, one12 h12, H.tail.tail.tail, hr, Grow.refl hr.base, by rw [he]; exact res_cells.2 ⟨_, rfl, rfl, SlR.nil _ _ _ _⟩, by omega⟩
            · refine W_region ?_
              refine OL_y (v := .bool false) (y_eqlF h12 rfl rfl) (by decide) ?_
              refine OL_y (v := .bool false) (y_assign rfl) (by decide) ?_
              refine OL_nil ?_
              refine W_condf rfl ?_
              refine W_skip ?_
              refine W_seq ?_
              refine W_region ?_
              refine OL_y (v := .agg #[.int .i64 1, .int .u64 0, .int .u64 0, .bool false, .slice none 0 0, .slice none 0 0, .slice none 0 0]) (y_build ti84 pl84 (by kernel_rfl)) (by decide) ?_
              refine OL_c (op_store (v := .agg #[.int .i64 1, .int .u64 0, .int .u64 0, .bool false, .slice none 0 0, .slice none 0 0, .slice none 0 0]) H 0 rfl ti84 rfl rfl rfl (by decide) (by simp [Value.cells, Value.oneCell']) fun w28_1 H => ?_)
              refine OL_nil ?_
              refine W_ret ?_
              show RetOK _ _ _ _ _ _
              exact ret1c Try.results62 rfl (run_loadVarA (cs := [.int .i64 1, .int .u64 0, .int .u64 0, .bool false, .slice none 0 0, .slice none 0 0, .slice none 0 0]) ti84 rfl (Cells.of (H.getOwn 0 rfl) rfl) rfl) ⟨_, _, _, v, R, F, Wp, rfl, oneNo h8 h9 h10 h11 h12 h13, H.tail.tail, hr, Grow.refl hr.base, res_cells.2 ⟨_, rfl, rfl, SlR.nil _ _ _ _⟩, by omega⟩
end Go.Proofs.Ytpandioolpnihaa

namespace Go.Proofs.Ytpandioolpnihaa
open Go Go.Wk
set_option linter.unusedVariables false
set_option linter.unusedSimpArgs false

/-- What was told, with its values. -/
structure TE where
  t : Told
  v : Value
abbrev TE.rc (e : TE) : List Value := [.int .i64 e.t.r.err, .int .u64 0, .int .u64 0, .bool false, .slice none 0 0, e.v, .slice none 0 0]
abbrev TE.cs (e : TE) : List Value := [.int .u64 e.t.client, .int .u64 e.t.seq, .int .i64 e.t.r.err, .int .u64 0, .int .u64 0, .bool false, .slice none 0 0, e.v, .slice none 0 0]
theorem TE.len (e : TE) : e.cs.length = 9 := rfl
structure TRep (w0 : World) (F : Nat → Prop) (Wp : World) (T : List TE) (l : Lst) : Prop where
  good : ∀ e ∈ T, InK .u64 e.t.client ∧ InK .u64 e.t.seq ∧ tRes.R (Dz w0 F) Wp e.rc e.t.r
  nd : (T.map (·.t.client)).Nodup
  nz : ∀ e ∈ T, e.t.client ≠ 0
  has : ∀ e ∈ T, l e.t.client = some (e.t.seq, e.t.r)
  no : ∀ k, k ∉ T.map (·.t.client) → l k = none
theorem TRep.grow {w0 Wp Wp' : World} {F F' : Nat → Prop} {T : List TE} {l : Lst} (h : TRep w0 F Wp T l) (g : Grow w0 F Wp F' Wp') : TRep w0 F' Wp' T l :=
  ⟨fun e he => ⟨(h.good e he).1, (h.good e he).2.1, g.R (h.good e he).2.2⟩, h.nd, h.nz, h.has, h.no⟩
theorem TRep.new (w0 Wp : World) (F : Nat → Prop) : TRep w0 F Wp [] (fun _ => none) := ⟨by simp, List.Pairwise.nil, by simp, by simp, fun _ _ => rfl⟩
/-- Without a client. -/
abbrev offT (k : Int) (T : List TE) : List TE := T.filter fun e => decide (e.t.client ≠ k)
theorem TRep.off0 {w0 Wp : World} {F : Nat → Prop} {T : List TE} {l : Lst} (h : TRep w0 F Wp T l) : offT 0 T = T := List.filter_eq_self.2 fun e he => decide_eq_true (h.nz e he)
theorem TRep.note {w0 Wp : World} {F : Nat → Prop} {T : List TE} {l : Lst} (h : TRep w0 F Wp T l) {c : Cmd} (hc : c.client ≠ 0) (h1 : InK .u64 c.client) (h2 : InK .u64 c.seq) {r : Rs} {vr : Value} (hr : tRes.R (Dz w0 F) Wp [.int .i64 r.err, .int .u64 0, .int .u64 0, .bool false, .slice none 0 0, vr, .slice none 0 0] r) : TRep w0 F Wp (offT c.client T ++ [⟨⟨c.client, c.seq, r⟩, vr⟩]) (noteL l c r) := by
  have hmem : ∀ e, e ∈ offT c.client T ↔ e ∈ T ∧ e.t.client ≠ c.client := fun e => by rw [List.mem_filter, decide_eq_true_eq]
  unfold noteL
  rw [if_neg hc]
  refine ⟨fun e he => ?_, ?_, fun e he => ?_, fun e he => ?_, fun k hk => ?_⟩
  · rcases List.mem_append.1 he with he | he
    · exact h.good e ((hmem e).1 he).1
    · rw [List.mem_singleton.1 he]; exact ⟨h1, h2, hr⟩
  · rw [List.map_append, List.nodup_append]
    refine ⟨h.nd.sublist (List.Sublist.map _ List.filter_sublist), by simp, fun x hx y hy => ?_⟩
    obtain ⟨e, he, rfl⟩ := List.mem_map.1 hx
    have : y = c.client := by simpa using hy
    rw [this]; exact ((hmem e).1 he).2
  · rcases List.mem_append.1 he with he | he
    · exact h.nz e ((hmem e).1 he).1
    · rw [List.mem_singleton.1 he]; exact hc
  · rcases List.mem_append.1 he with he | he
    · show (if e.t.client = c.client then _ else _) = _
      rw [if_neg ((hmem e).1 he).2]; exact h.has e ((hmem e).1 he).1
    · rw [List.mem_singleton.1 he]; exact if_pos rfl
  · rw [List.map_append, List.mem_append, not_or] at hk
    have hkc : k ≠ c.client := fun e => hk.2 (by simp [e])
    show (if k = c.client then _ else _) = _
    rw [if_neg hkc]
    refine h.no k fun hin => hk.1 ?_
    obtain ⟨e, he, rfl⟩ := List.mem_map.1 hin
    exact List.mem_map.2 ⟨e, (hmem e).2 ⟨he, hkc⟩, rfl⟩
/-- The shard's bundle: the store, and what was told. -/
abbrev shAt (b : Nat) (q : Value) (T : List TE) (v : Value) (R : List RE) (F : Nat → Prop) (Wp w0 : World) (L : List Atom) : List Atom := sAt b q v R F Wp w0 (row 145 9 q T.length (T.flatMap TE.cs) :: L)

set_option maxHeartbeats 16000000 in
theorem f61_calls {w0 w Wp : World} {F : Nat → Prop} {rb : Nat} {q v : Value} {T : List TE} {R : List RE} {l : Lst} {L : List Atom} {Z : Nat → Prop} {Wc : World} {cs : List Value} {c : Cmd} (H : Holds w (shAt rb q T v R F Wp w0 L)) (hb : Ext none' w0 Wp) (hT : TRep w0 F Wp T l) (hTl : T.length ≤ 1000) (hc : tCmd.R Z Wc cs c) :
    Calls Try.prog 61 [.pointer (some ⟨rb, 0, none⟩), .agg cs.toArray].toArray w fun e w' => ∃ (vr : Value) (r : Rs) (b : Bool), e = .returned (.tuple #[.agg #[.int .i64 r.err, .int .u64 0, .int .u64 0, .bool false, .slice none 0 0, vr, .slice none 0 0], .bool b]) ∧ tRes.R (Dz w0 F) Wp [.int .i64 r.err, .int .u64 0, .int .u64 0, .bool false, .slice none 0 0, vr, .slice none 0 0] r ∧ known l c = (if b = true then some r else none) ∧ Ext none' w w' := by
  have H0 := H
  obtain ⟨vll, vlh, vlo, vhi, vtx, vwr, vke, vco, vix, rfl, hcl, hsq, hkd, htx, hts, hlk1, hlo, hhi, htxs, hwr, hke, htb⟩ := cmd_cells.1 hc
  obtain ⟨aq, cq, rfl, hlq, hmq⟩ := H0.rowLen 4 rfl
  have H := Holds.start w
  refine calls_of_W' Try.func61 rfl Try.ntmps61 rfl ?_
  refine W_seq ?_
  refine W_region ?_
  refine OL_c (op_box (v := .agg #[.int .u64 c.client, .int .u64 c.seq, .int .i64 c.kind, .int .u64 c.txn, .int .u64 c.ts, .bool c.flag, .int .u64 c.lk.txn, .int .i64 c.lk.level, .int .i64 c.lk.mode, vll, vlh, vlo, vhi, vtx, vwr, vke, .int .i64 c.tb.id, .string c.tb.name, vco, .int .i64 c.tb.key, vix]) H rfl (by decide) fun b3 w0_0 H => ?_)
  refine OL_c (op_alloc H ti84 (by decide) fun b4 w0_1 H => ?_)
  refine OL_y (v := .bool false) (y_assign rfl) (by decide) ?_
  refine OL_nil ?_
  refine W_seq ?_
  refine W_seq ?_
  refine W_region ?_
  refine OL_y (y_move rfl) (by decide) ?_
  refine OL_y (y_nilCheck rfl ⟨_, rfl⟩) (by decide) ?_
  refine OL_y (y_fieldAddr ti64 rfl ti62 rfl rfl) (by decide) ?_
  refine OL_y (y_loadS (v := .slice aq T.length cq) ti62 rfl rfl (Cells.unit ((H0.ext0 (H.ext_of 2 rfl)).getOwn 0 rfl) rfl)) (by decide) ?_
  refine OL_y (y_len rfl ti62 rfl) (by decide) ?_
  refine OL_y (y_move rfl) (by decide) ?_
  refine OL_nil ?_
  refine W_range (N := T.length) (by simp only [maxLen]; omega) (fun j f ds w' => f 3 = .pointer (some ⟨b3, 0, none⟩) ∧ f 4 = .pointer (some ⟨b4, 0, none⟩) ∧ f 11 = .slice aq T.length cq ∧ ds = [] ∧ (c.client ≠ 0 → ∀ e ∈ T.take j, e.t.client = c.client → e.t.seq < c.seq) ∧ Holds w' [own b4 (.cells #[.int .i64 0, .int .u64 0, .int .u64 0, .bool false, .slice none 0 0, .slice none 0 0, .slice none 0 0] 84), own b3 (.cells #[.int .u64 c.client, .int .u64 c.seq, .int .i64 c.kind, .int .u64 c.txn, .int .u64 c.ts, .bool c.flag, .int .u64 c.lk.txn, .int .i64 c.lk.level, .int .i64 c.lk.mode, vll, vlh, vlo, vhi, vtx, vwr, vke, .int .i64 c.tb.id, .string c.tb.name, vco, .int .i64 c.tb.key, vix] 78), shr (fun k => k < w.heap.size) w])
      ⟨rfl, rfl, rfl, rfl, by simp, H⟩
      rfl rfl (by decide) (by decide) (by decide) rfl rfl ?_ rfl rfl ?_
  · rintro j f ds w5 hj ⟨h3, h4, h11, rfl, hok, H⟩ hti htn
    have hxj := List.getElem?_eq_getElem hj
    have hem := List.getElem_mem hj
    have HS := H0.ext0 (H.ext_of 2 rfl)
    obtain ⟨br, cr, hvr, -, -⟩ := ownsRow_cells (HS.getRow 4 rfl) (by omega)
    have hC := rowElAt TE.len (HS.getRow 4 rfl) (b := br) (by rw [hvr]; rfl) hxj
    have hG := hT.good _ hem
    have hha := hT.has _ hem
    have htk : T.take (j + 1) = T.take j ++ [T[j]] := by rw [List.take_add_one, hxj]; rfl
    generalize T[j] = e at *
    obtain ⟨hG1, hG2, hG3⟩ := hG
    have hone : ∀ u ∈ ([.int .u64 e.t.client, .int .u64 e.t.seq, .int .i64 e.t.r.err, .int .u64 0, .int .u64 0, .bool false, .slice none 0 0, e.v, .slice none 0 0] : List Value), u.oneCell' = true := by
      intro u hu
      rcases List.mem_cons.1 hu with rfl | hu
      · rfl
      rcases List.mem_cons.1 hu with rfl | hu
      · rfl
      exact tRes.one hG3 u hu
    have h11' := h11.trans hvr
    refine W_block ?_
    refine W_seq ?_
    refine W_region ?_
    refine OL_y (y_indexAddr ti62 ti145 h11' hti (by omega) (by omega)) (by decide) ?_
    refine OL_y (y_loadA (cs := [.int .u64 e.t.client, .int .u64 e.t.seq, .int .i64 e.t.r.err, .int .u64 0, .int .u64 0, .bool false, .slice none 0 0, e.v, .slice none 0 0]) ti145 rfl rfl hC rfl) (by decide) ?_
    refine OL_var (v := .agg #[.int .u64 e.t.client, .int .u64 e.t.seq, .int .i64 e.t.r.err, .int .u64 0, .int .u64 0, .bool false, .slice none 0 0, e.v, .slice none 0 0]) H ti145 rfl (by decide) (fun _ => rfl) rfl (hone) fun b7 w3_2 H => ?_
    refine OL_nil ?_
    refine W_seq ?_
    refine W_seq ?_
    by_cases hz : c.client = 0
    · refine W_region ?_
      refine OL_y (y_fieldAddr ti78 rfl ti24 rfl h3) (by decide) ?_
      refine OL_y (y_loadS (v := .int .u64 c.client) ti24 rfl rfl (Cells.unit (H.getOwn 2 rfl) rfl)) (by decide) ?_
      refine OL_y (v := .bool true) (y_eqlT hz rfl rfl) (by decide) ?_
      refine OL_y (v := .bool true) (y_move rfl) (by decide) ?_
      refine OL_s rfl (by decide) rfl rfl (by simp) ?_
      refine OL_s rfl (by decide) rfl rfl (by simp) ?_
      refine OL_s rfl (by decide) rfl rfl (by simp) ?_
      refine OL_s rfl (by decide) rfl rfl (by simp) ?_
      refine OL_s rfl (by decide) rfl rfl (by simp) ?_
      refine OL_y (y_pick (b := true) (v := .bool true) rfl rfl) (by decide) ?_
      refine OL_y (v := .bool true) (y_move rfl) (by decide) ?_
      refine OL_s rfl (by decide) rfl rfl (by simp) ?_
      refine OL_s rfl (by decide) rfl rfl (by simp) ?_
      refine OL_s rfl (by decide) rfl rfl (by simp) ?_
      refine OL_s rfl (by decide) rfl rfl (by simp) ?_
      refine OL_s rfl (by decide) rfl rfl (by simp) ?_
      refine OL_y (y_pick (b := true) (v := .bool true) rfl rfl) (by decide) ?_
      refine OL_nil ?_
      refine W_condt rfl ?_
      refine W_exit ?_
      exact ⟨hti, htn, h3, h4, h11, rfl, fun h => absurd hz h, H.tail⟩
    · by_cases hd : e.t.client = c.client
      · by_cases hg : e.t.seq < c.seq
        · refine W_region ?_
          refine OL_y (y_fieldAddr ti78 rfl ti24 rfl h3) (by decide) ?_
          refine OL_y (y_loadS (v := .int .u64 c.client) ti24 rfl rfl (Cells.unit (H.getOwn 2 rfl) rfl)) (by decide) ?_
          refine OL_y (v := .bool false) (y_eqlF hz rfl rfl) (by decide) ?_
          refine OL_y (v := .bool false) (y_move rfl) (by decide) ?_
          refine OL_yg rfl (by decide) rfl (y_fieldAddr ti145 rfl ti24 rfl rfl) (by decide) ?_
          refine OL_yg rfl (by decide) rfl (y_loadS (v := .int .u64 e.t.client) ti24 rfl rfl (Cells.unit (H.getOwn 0 rfl) rfl)) (by decide) ?_
          refine OL_yg rfl (by decide) rfl (y_fieldAddr ti78 rfl ti24 rfl h3) (by decide) ?_
          refine OL_yg rfl (by decide) rfl (y_loadS (v := .int .u64 c.client) ti24 rfl rfl (Cells.unit (H.getOwn 2 rfl) rfl)) (by decide) ?_
          refine OL_yg (v := .bool false) rfl (by decide) rfl (y_neqF hd rfl rfl) (by decide) ?_
          refine OL_y (y_pick (b := false) (v := .bool false) rfl rfl) (by decide) ?_
          refine OL_y (v := .bool false) (y_move rfl) (by decide) ?_
          refine OL_yg rfl (by decide) rfl (y_fieldAddr ti145 rfl ti24 rfl rfl) (by decide) ?_
          refine OL_yg rfl (by decide) rfl (y_loadS (v := .int .u64 e.t.seq) ti24 rfl rfl (Cells.unit (H.getOwn 0 rfl) rfl)) (by decide) ?_
          refine OL_yg rfl (by decide) rfl (y_fieldAddr ti78 rfl ti24 rfl h3) (by decide) ?_
          refine OL_yg rfl (by decide) rfl (y_loadS (v := .int .u64 c.seq) ti24 rfl rfl (Cells.unit (H.getOwn 2 rfl) rfl)) (by decide) ?_
          refine OL_yg (v := .bool true) rfl (by decide) rfl (y_lssT hg rfl rfl) (by decide) ?_
          refine OL_y (y_pick (b := false) (v := .bool true) rfl rfl) (by decide) ?_
          refine OL_nil ?_
          refine W_condt rfl ?_
          refine W_exit ?_
          refine ⟨hti, htn, h3, h4, h11, rfl, fun h y hy => ?_, H.tail⟩
          rw [htk] at hy
          rcases List.mem_append.1 hy with hy | hy
          · exact hok h y hy
          · rw [List.mem_singleton.1 hy]; exact fun _ => hg
        · refine W_region ?_
          refine OL_y (y_fieldAddr ti78 rfl ti24 rfl h3) (by decide) ?_
          refine OL_y (y_loadS (v := .int .u64 c.client) ti24 rfl rfl (Cells.unit (H.getOwn 2 rfl) rfl)) (by decide) ?_
          refine OL_y (v := .bool false) (y_eqlF hz rfl rfl) (by decide) ?_
          refine OL_y (v := .bool false) (y_move rfl) (by decide) ?_
          refine OL_yg rfl (by decide) rfl (y_fieldAddr ti145 rfl ti24 rfl rfl) (by decide) ?_
          refine OL_yg rfl (by decide) rfl (y_loadS (v := .int .u64 e.t.client) ti24 rfl rfl (Cells.unit (H.getOwn 0 rfl) rfl)) (by decide) ?_
          refine OL_yg rfl (by decide) rfl (y_fieldAddr ti78 rfl ti24 rfl h3) (by decide) ?_
          refine OL_yg rfl (by decide) rfl (y_loadS (v := .int .u64 c.client) ti24 rfl rfl (Cells.unit (H.getOwn 2 rfl) rfl)) (by decide) ?_
          refine OL_yg (v := .bool false) rfl (by decide) rfl (y_neqF hd rfl rfl) (by decide) ?_
          refine OL_y (y_pick (b := false) (v := .bool false) rfl rfl) (by decide) ?_
          refine OL_y (v := .bool false) (y_move rfl) (by decide) ?_
          refine OL_yg rfl (by decide) rfl (y_fieldAddr ti145 rfl ti24 rfl rfl) (by decide) ?_
          refine OL_yg rfl (by decide) rfl (y_loadS (v := .int .u64 e.t.seq) ti24 rfl rfl (Cells.unit (H.getOwn 0 rfl) rfl)) (by decide) ?_
          refine OL_yg rfl (by decide) rfl (y_fieldAddr ti78 rfl ti24 rfl h3) (by decide) ?_
          refine OL_yg rfl (by decide) rfl (y_loadS (v := .int .u64 c.seq) ti24 rfl rfl (Cells.unit (H.getOwn 2 rfl) rfl)) (by decide) ?_
          refine OL_yg (v := .bool false) rfl (by decide) rfl (y_lssF hg rfl rfl) (by decide) ?_
          refine OL_y (y_pick (b := false) (v := .bool false) rfl rfl) (by decide) ?_
          refine OL_nil ?_
          refine W_condf rfl ?_
          refine W_skip ?_
          refine W_seq ?_
          refine W_seq ?_
          by_cases hs : e.t.seq = c.seq
          · refine W_region ?_
            refine OL_y (y_fieldAddr ti145 rfl ti24 rfl rfl) (by decide) ?_
            refine OL_y (y_loadS (v := .int .u64 e.t.seq) ti24 rfl rfl (Cells.unit (H.getOwn 0 rfl) rfl)) (by decide) ?_
            refine OL_y (y_fieldAddr ti78 rfl ti24 rfl h3) (by decide) ?_
            refine OL_y (y_loadS (v := .int .u64 c.seq) ti24 rfl rfl (Cells.unit (H.getOwn 2 rfl) rfl)) (by decide) ?_
            refine OL_y (v := .bool true) (y_eqlT hs rfl rfl) (by decide) ?_
            refine OL_nil ?_
            refine W_condt rfl ?_
            refine W_seq ?_
            refine W_region ?_
            refine OL_y (y_fieldAddr ti145 rfl ti84 rfl rfl) (by decide) ?_
            refine OL_y (y_loadA (cs := [.int .i64 e.t.r.err, .int .u64 0, .int .u64 0, .bool false, .slice none 0 0, e.v, .slice none 0 0]) ti84 rfl rfl (Cells.of (H.getOwn 0 rfl) rfl) rfl) (by decide) ?_
            refine OL_c (op_store (v := .agg #[.int .i64 e.t.r.err, .int .u64 0, .int .u64 0, .bool false, .slice none 0 0, e.v, .slice none 0 0]) H 1 rfl ti84 h4 rfl rfl (by decide) (tRes.one hG3) fun w6_2 H => ?_)
            refine OL_y (v := .bool true) (y_assign rfl) (by decide) ?_
            refine OL_nil ?_
            refine W_ret ?_
            show RetOK _ _ _ _ _ _
            have hkn : known l c = some e.t.r := by unfold known; rw [if_neg hz, ← hd, hha]; exact if_pos hs
            exact ret2ct Try.results61 h4 (run_loadVarA (cs := [.int .i64 e.t.r.err, .int .u64 0, .int .u64 0, .bool false, .slice none 0 0, e.v, .slice none 0 0]) ti84 rfl (Cells.of (H.getOwn 1 rfl) rfl) rfl) rfl ⟨e.v, e.t.r, true, rfl, hG3, hkn, H.ext_of 3 rfl⟩
          · refine W_region ?_
            refine OL_y (y_fieldAddr ti145 rfl ti24 rfl rfl) (by decide) ?_
            refine OL_y (y_loadS (v := .int .u64 e.t.seq) ti24 rfl rfl (Cells.unit (H.getOwn 0 rfl) rfl)) (by decide) ?_
            refine OL_y (y_fieldAddr ti78 rfl ti24 rfl h3) (by decide) ?_
            refine OL_y (y_loadS (v := .int .u64 c.seq) ti24 rfl rfl (Cells.unit (H.getOwn 2 rfl) rfl)) (by decide) ?_
            refine OL_y (v := .bool false) (y_eqlF hs rfl rfl) (by decide) ?_
            refine OL_nil ?_
            refine W_condf rfl ?_
            refine W_skip ?_
            refine W_seq ?_
            refine W_region ?_
            refine OL_y (v := .agg #[.int .i64 1, .int .u64 0, .int .u64 0, .bool false, .slice none 0 0, .slice none 0 0, .slice none 0 0]) (y_build ti84 pl84 (by kernel_rfl)) (by decide) ?_
            refine OL_c (op_store (v := .agg #[.int .i64 1, .int .u64 0, .int .u64 0, .bool false, .slice none 0 0, .slice none 0 0, .slice none 0 0]) H 1 rfl ti84 h4 rfl rfl (by decide) (by simp [Value.cells, Value.oneCell']) fun w7_1 H => ?_)
            refine OL_y (v := .bool true) (y_assign rfl) (by decide) ?_
            refine OL_nil ?_
            refine W_ret ?_
            show RetOK _ _ _ _ _ _
            have hkn : known l c = some ⟨1, []⟩ := by unfold known; rw [if_neg hz, ← hd, hha]; exact (if_neg hs).trans (if_pos (by show c.seq < e.t.seq; omega))
            exact ret2ct Try.results61 h4 (run_loadVarA (cs := [.int .i64 1, .int .u64 0, .int .u64 0, .bool false, .slice none 0 0, .slice none 0 0, .slice none 0 0]) ti84 rfl (Cells.of (H.getOwn 1 rfl) rfl) rfl) rfl ⟨.slice none 0 0, ⟨1, []⟩, true, rfl, res_cells.2 ⟨_, rfl, rfl, SlR.nil _ _ _ _⟩, hkn, H.ext_of 3 rfl⟩
      · refine W_region ?_
        refine OL_y (y_fieldAddr ti78 rfl ti24 rfl h3) (by decide) ?_
        refine OL_y (y_loadS (v := .int .u64 c.client) ti24 rfl rfl (Cells.unit (H.getOwn 2 rfl) rfl)) (by decide) ?_
        refine OL_y (v := .bool false) (y_eqlF hz rfl rfl) (by decide) ?_
        refine OL_y (v := .bool false) (y_move rfl) (by decide) ?_
        refine OL_yg rfl (by decide) rfl (y_fieldAddr ti145 rfl ti24 rfl rfl) (by decide) ?_
        refine OL_yg rfl (by decide) rfl (y_loadS (v := .int .u64 e.t.client) ti24 rfl rfl (Cells.unit (H.getOwn 0 rfl) rfl)) (by decide) ?_
        refine OL_yg rfl (by decide) rfl (y_fieldAddr ti78 rfl ti24 rfl h3) (by decide) ?_
        refine OL_yg rfl (by decide) rfl (y_loadS (v := .int .u64 c.client) ti24 rfl rfl (Cells.unit (H.getOwn 2 rfl) rfl)) (by decide) ?_
        refine OL_yg (v := .bool true) rfl (by decide) rfl (y_neqT hd rfl rfl) (by decide) ?_
        refine OL_y (y_pick (b := false) (v := .bool true) rfl rfl) (by decide) ?_
        refine OL_y (v := .bool true) (y_move rfl) (by decide) ?_
        refine OL_s rfl (by decide) rfl rfl (by simp) ?_
        refine OL_s rfl (by decide) rfl rfl (by simp) ?_
        refine OL_s rfl (by decide) rfl rfl (by simp) ?_
        refine OL_s rfl (by decide) rfl rfl (by simp) ?_
        refine OL_s rfl (by decide) rfl rfl (by simp) ?_
        refine OL_y (y_pick (b := true) (v := .bool true) rfl rfl) (by decide) ?_
        refine OL_nil ?_
        refine W_condt rfl ?_
        refine W_exit ?_
        refine ⟨hti, htn, h3, h4, h11, rfl, fun h y hy => ?_, H.tail⟩
        rw [htk] at hy
        rcases List.mem_append.1 hy with hy | hy
        · exact hok h y hy
        · rw [List.mem_singleton.1 hy]; exact fun h => absurd h hd
  · rintro f ds w5 ⟨h3, h4, h11, rfl, hok, H⟩ hti htn
    rw [List.take_length] at hok
    have hkn : known l c = none := by
      unfold known
      by_cases hz : c.client = 0
      · rw [if_pos hz]
      rw [if_neg hz]
      by_cases hin : c.client ∈ T.map (·.t.client)
      · obtain ⟨e, he, hec⟩ := List.mem_map.1 hin
        have hlt := hok hz e he hec
        rw [← hec, hT.has e he]
        exact (if_neg (show ¬ e.t.seq = c.seq by omega)).trans (if_neg (show ¬ c.seq < e.t.seq by omega))
      · rw [hT.no _ hin]
    refine W_seq ?_
    refine W_region ?_
    refine OL_y (v := .agg #[.int .i64 0, .int .u64 0, .int .u64 0, .bool false, .slice none 0 0, .slice none 0 0, .slice none 0 0]) (y_build ti84 pl84 (by kernel_rfl)) (by decide) ?_
    refine OL_c (op_store (v := .agg #[.int .i64 0, .int .u64 0, .int .u64 0, .bool false, .slice none 0 0, .slice none 0 0, .slice none 0 0]) H 0 rfl ti84 h4 rfl rfl (by decide) (by simp [Value.cells, Value.oneCell']) fun w9_1 H => ?_)
    refine OL_y (v := .bool false) (y_assign rfl) (by decide) ?_
    refine OL_nil ?_
    refine W_ret ?_
    show RetOK _ _ _ _ _ _
    exact ret2ct Try.results61 h4 (run_loadVarA (cs := [.int .i64 0, .int .u64 0, .int .u64 0, .bool false, .slice none 0 0, .slice none 0 0, .slice none 0 0]) ti84 rfl (Cells.of (H.getOwn 0 rfl) rfl) rfl) rfl ⟨.slice none 0 0, ⟨0, []⟩, false, rfl, res_cells.2 ⟨_, rfl, rfl, SlR.nil _ _ _ _⟩, hkn, H.ext_of 2 rfl⟩
section
variable {W w0 Wp : World} {F : Nat → Prop} {b : Nat} {q v : Value} {T : List TE} {R : List RE} {L : List Atom}
theorem shInL (P : List Atom) (H : Holds W (P ++ shAt b q T v R F Wp w0 L)) : Holds W (shAt b q T v R F Wp w0 (P ++ L)) := by
  refine H.perm ?_
  have e : ∀ Y, shAt b q T v R F Wp w0 Y = shAt b q T v R F Wp w0 [] ++ Y := fun Y => by simp
  rw [e L, e (P ++ L), ← List.append_assoc, ← List.append_assoc]
  exact List.perm_append_comm.append_right L
theorem shOutL (P : List Atom) (H : Holds W (shAt b q T v R F Wp w0 (P ++ L))) : Holds W (P ++ shAt b q T v R F Wp w0 L) := by
  refine H.perm ?_
  have e : ∀ Y, shAt b q T v R F Wp w0 Y = shAt b q T v R F Wp w0 [] ++ Y := fun Y => by simp
  rw [e L, e (P ++ L), ← List.append_assoc, ← List.append_assoc]
  exact List.perm_append_comm.append_right L
end
theorem offT_take {T : List TE} {k : Int} {j : Nat} {e : TE} (h : T[j]? = some e) : offT k (T.take (j + 1)) = if e.t.client = k then offT k (T.take j) else offT k (T.take j) ++ [e] := by
  rw [List.take_add_one, h]
  show (T.take j ++ [e]).filter _ = _
  rw [List.filter_append]
  by_cases hk : e.t.client = k
  · rw [if_pos hk, List.filter_cons_of_neg (by simpa using hk)]; exact List.append_nil _
  · rw [if_neg hk, List.filter_cons_of_pos (by simpa using hk)]; rfl

set_option maxHeartbeats 16000000 in
theorem f63_calls {w0 w Wp : World} {F : Nat → Prop} {rb : Nat} {q v : Value} {T : List TE} {R : List RE} {l : Lst} {L : List Atom} {Z : Nat → Prop} {Wc : World} {cs : List Value} {c : Cmd} {vr : Value} {r : Rs} (H : Holds w (shAt rb q T v R F Wp w0 L)) (hT : TRep w0 F Wp T l) (hTl : T.length ≤ 1000) (hc : tCmd.R Z Wc cs c) (hR : tRes.R (Dz w0 F) Wp [.int .i64 r.err, .int .u64 0, .int .u64 0, .bool false, .slice none 0 0, vr, .slice none 0 0] r) :
    Calls Try.prog 63 [.pointer (some ⟨rb, 0, none⟩), .agg cs.toArray, .agg #[.int .i64 r.err, .int .u64 0, .int .u64 0, .bool false, .slice none 0 0, vr, .slice none 0 0]].toArray w fun e w' => e = .returned (.tuple #[]) ∧ ∃ (q' : Value) (T' : List TE), Holds w' (shAt rb q' T' v R F Wp w0 L) ∧ TRep w0 F Wp T' (noteL l c r) ∧ T'.length ≤ T.length + 1 := by
  obtain ⟨vll, vlh, vlo, vhi, vtx, vwr, vke, vco, vix, rfl, hcl, hsq, hkd, htx, hts, hlk1, hlo, hhi, htxs, hwr, hke, htb⟩ := cmd_cells.1 hc
  obtain ⟨aq, cq, rfl, hlq, hmq⟩ := H.rowLen 4 rfl
  have honeR := tRes.one hR
  obtain ⟨vr', er, -, hcr⟩ := res_cells.1 hR
  obtain rfl : vr = vr' := by injection er with _ er; injection er with _ er; injection er with _ er; injection er with _ er; injection er with _ er; injection er with er _
  obtain ⟨ar, cr, rfl, -, -⟩ := hcr.len
  refine calls_of_W' Try.func63 rfl Try.ntmps63 rfl ?_
  refine W_seq ?_
  refine W_region ?_
  refine OL_c (op_box (v := .agg #[.int .u64 c.client, .int .u64 c.seq, .int .i64 c.kind, .int .u64 c.txn, .int .u64 c.ts, .bool c.flag, .int .u64 c.lk.txn, .int .i64 c.lk.level, .int .i64 c.lk.mode, vll, vlh, vlo, vhi, vtx, vwr, vke, .int .i64 c.tb.id, .string c.tb.name, vco, .int .i64 c.tb.key, vix]) H rfl (by decide) fun b4 w0_0 H => ?_)
  refine OL_c (op_box (v := .agg #[.int .i64 r.err, .int .u64 0, .int .u64 0, .bool false, .slice none 0 0, .slice ar r.cells.length cr, .slice none 0 0]) H rfl (by decide) fun b5 w0_1 H => ?_)
  refine OL_nil ?_
  refine W_seq ?_
  refine W_region ?_
  refine OL_y (y_assign rfl) (by decide) ?_
  refine OL_nil ?_
  refine W_seq ?_
  refine W_seq ?_
  have H := H.rowNil 145 9
  refine W_region ?_
  refine OL_y (y_move rfl) (by decide) ?_
  refine OL_y (y_nilCheck rfl ⟨_, rfl⟩) (by decide) ?_
  refine OL_y (y_fieldAddr ti64 rfl ti62 rfl rfl) (by decide) ?_
  refine OL_y (y_loadS (v := .slice aq T.length cq) ti62 rfl rfl (Cells.unit (H.getOwn 3 rfl) rfl)) (by decide) ?_
  refine OL_y (y_len rfl ti62 rfl) (by decide) ?_
  refine OL_y (y_move rfl) (by decide) ?_
  refine OL_nil ?_
  refine W_range (N := T.length) (by simp only [maxLen]; omega) (fun j f ds w' => ∃ v6 : Value, f 0 = .pointer (some ⟨rb, 0, none⟩) ∧ f 4 = .pointer (some ⟨b4, 0, none⟩) ∧ f 5 = .pointer (some ⟨b5, 0, none⟩) ∧ f 6 = v6 ∧ f 12 = .slice aq T.length cq ∧ ds = [] ∧ Holds w' (row 145 9 v6 (offT c.client (T.take j)).length ((offT c.client (T.take j)).flatMap TE.cs) :: own b5 (.cells #[.int .i64 r.err, .int .u64 0, .int .u64 0, .bool false, .slice none 0 0, .slice ar r.cells.length cr, .slice none 0 0] 84) :: own b4 (.cells #[.int .u64 c.client, .int .u64 c.seq, .int .i64 c.kind, .int .u64 c.txn, .int .u64 c.ts, .bool c.flag, .int .u64 c.lk.txn, .int .i64 c.lk.level, .int .i64 c.lk.mode, vll, vlh, vlo, vhi, vtx, vwr, vke, .int .i64 c.tb.id, .string c.tb.name, vco, .int .i64 c.tb.key, vix] 78) :: shAt rb (.slice aq T.length cq) T v R F Wp w0 L))
      ⟨_, rfl, rfl, rfl, rfl, rfl, rfl, H⟩
      rfl rfl (by decide) (by decide) (by decide) rfl rfl ?_ rfl rfl ?_
  · rintro j f ds w5 hj ⟨v6, h0, h4, h5, h6, h12, rfl, H⟩ hti htn
    have hxj := List.getElem?_eq_getElem hj
    have hem := List.getElem_mem hj
    obtain ⟨br, cr', hvr, -, -⟩ := ownsRow_cells (H.getRow 7 rfl) (by omega)
    have hC := rowElAt TE.len (H.getRow 7 rfl) (b := br) (by rw [hvr]; rfl) hxj
    have hG := hT.good _ hem
    have hot := offT_take (k := c.client) hxj
    have hol : (offT c.client (T.take j)).length ≤ 1000 := Nat.le_trans (List.length_filter_le _ _) (by rw [List.length_take]; omega)
    generalize T[j] = e at *
    have hone : ∀ u ∈ ([.int .u64 e.t.client, .int .u64 e.t.seq, .int .i64 e.t.r.err, .int .u64 0, .int .u64 0, .bool false, .slice none 0 0, e.v, .slice none 0 0] : List Value), u.oneCell' = true := by
      intro u hu
      rcases List.mem_cons.1 hu with rfl | hu
      · rfl
      rcases List.mem_cons.1 hu with rfl | hu
      · rfl
      exact tRes.one hG.2.2 u hu
    have h12' := h12.trans hvr
    refine W_block ?_
    refine W_seq ?_
    refine W_region ?_
    refine OL_y (y_indexAddr ti62 ti145 h12' hti (by omega) (by omega)) (by decide) ?_
    refine OL_y (y_loadA (cs := [.int .u64 e.t.client, .int .u64 e.t.seq, .int .i64 e.t.r.err, .int .u64 0, .int .u64 0, .bool false, .slice none 0 0, e.v, .slice none 0 0]) ti145 rfl rfl hC rfl) (by decide) ?_
    refine OL_var (v := .agg #[.int .u64 e.t.client, .int .u64 e.t.seq, .int .i64 e.t.r.err, .int .u64 0, .int .u64 0, .bool false, .slice none 0 0, e.v, .slice none 0 0]) H ti145 rfl (by decide) (fun _ => rfl) rfl (hone) fun b8 w4_2 H => ?_
    refine OL_nil ?_
    refine W_seq ?_
    by_cases hd : e.t.client = c.client
    · refine W_region ?_
      refine OL_y (y_fieldAddr ti145 rfl ti24 rfl rfl) (by decide) ?_
      refine OL_y (y_loadS (v := .int .u64 e.t.client) ti24 rfl rfl (Cells.unit (H.getOwn 0 rfl) rfl)) (by decide) ?_
      refine OL_y (y_fieldAddr ti78 rfl ti24 rfl h4) (by decide) ?_
      refine OL_y (y_loadS (v := .int .u64 c.client) ti24 rfl rfl (Cells.unit (H.getOwn 3 rfl) rfl)) (by decide) ?_
      refine OL_y (v := .bool false) (y_neqF hd rfl rfl) (by decide) ?_
      refine OL_nil ?_
      refine W_condf rfl ?_
      refine W_skip ?_
      rw [if_pos hd] at hot
      exact ⟨hti, htn, v6, h0, h4, h5, h6, h12, rfl, by rw [hot]; exact H.tail⟩
    · refine W_region ?_
      refine OL_y (y_fieldAddr ti145 rfl ti24 rfl rfl) (by decide) ?_
      refine OL_y (y_loadS (v := .int .u64 e.t.client) ti24 rfl rfl (Cells.unit (H.getOwn 0 rfl) rfl)) (by decide) ?_
      refine OL_y (y_fieldAddr ti78 rfl ti24 rfl h4) (by decide) ?_
      refine OL_y (y_loadS (v := .int .u64 c.client) ti24 rfl rfl (Cells.unit (H.getOwn 3 rfl) rfl)) (by decide) ?_
      refine OL_y (v := .bool true) (y_neqT hd rfl rfl) (by decide) ?_
      refine OL_nil ?_
      refine W_condt rfl ?_
      refine W_region ?_
      refine OL_y (y_move h6) (by decide) ?_
      refine OL_y (y_loadA (cs := [.int .u64 e.t.client, .int .u64 e.t.seq, .int .i64 e.t.r.err, .int .u64 0, .int .u64 0, .bool false, .slice none 0 0, e.v, .slice none 0 0]) ti145 rfl rfl (Cells.of (H.getOwn 0 rfl) rfl) rfl) (by decide) ?_
      refine OL_c (op_buildSlice H [.agg #[.int .u64 e.t.client, .int .u64 e.t.seq, .int .i64 e.t.r.err, .int .u64 0, .int .u64 0, .bool false, .slice none 0 0, e.v, .slice none 0 0]] ti62 ti145 rfl rfl rfl (by simp [Value.cells]) rfl rfl (by decide) fun b25 w6_2 H => ?_)
      refine OL_c (op_append H 2 rfl rfl ti62 ti145 rfl rfl rfl rfl (Src.row (H.getRow 0 rfl)) rfl (by intro u hu; exact hone u (by simpa [Value.cells] using hu)) (by omega) (by simp only [maxLen]; omega) (by decide) fun v26 w6_3 H => ?_)
      refine OL_y (y_assign rfl) (by decide) ?_
      refine OL_nil ?_
      rw [if_neg hd] at hot
      refine ⟨hti, htn, v26, h0, h4, h5, rfl, h12, rfl, ?_⟩
      rw [hot, List.length_append, List.flatMap_append, List.flatMap_singleton]
      exact H.tail.tail
  · rintro f ds w5 ⟨v6, h0, h4, h5, h6, h12, rfl, H⟩ hti htn
    rw [List.take_length] at H
    have hol : (offT c.client T).length ≤ 1000 := Nat.le_trans (List.length_filter_le _ _) hTl
    have hole : (offT c.client T).length ≤ T.length := List.length_filter_le _ _
    obtain ⟨a6, c6, rfl, -, -⟩ := H.rowLen 0 rfl
    refine W_seq ?_
    refine W_seq ?_
    by_cases hz : c.client = 0
    · refine W_region ?_
      refine OL_y (y_fieldAddr ti78 rfl ti24 rfl h4) (by decide) ?_
      refine OL_y (y_loadS (v := .int .u64 c.client) ti24 rfl rfl (Cells.unit (H.getOwn 2 rfl) rfl)) (by decide) ?_
      refine OL_y (v := .bool false) (y_neqF hz rfl rfl) (by decide) ?_
      refine OL_nil ?_
      refine W_condf rfl ?_
      refine W_skip ?_
      refine W_region ?_
      refine OL_y (y_move h0) (by decide) ?_
      refine OL_y (y_move h6) (by decide) ?_
      refine OL_y (y_nilCheck rfl ⟨_, rfl⟩) (by decide) ?_
      refine OL_y (y_fieldAddr ti64 rfl ti62 rfl rfl) (by decide) ?_
      refine OL_c (op_store (v := .slice a6 (offT c.client T).length c6) H 3 rfl ti62 rfl rfl rfl (Nat.le_of_ble_eq_true rfl) (by simp [Value.cells, Value.oneCell']) fun w10_4 H => ?_)
      refine OL_nil ?_
      show RetOK _ _ _ _ _ _
      have hoT : offT c.client T = T := by rw [hz]; exact hT.off0
      have H : Holds w10_4 (row 145 9 (.slice a6 (offT c.client T).length c6) (offT c.client T).length ((offT c.client T).flatMap TE.cs) :: own b5 (.cells #[.int .i64 r.err, .int .u64 0, .int .u64 0, .bool false, .slice none 0 0, .slice ar r.cells.length cr, .slice none 0 0] 84) :: own b4 (.cells #[.int .u64 c.client, .int .u64 c.seq, .int .i64 c.kind, .int .u64 c.txn, .int .u64 c.ts, .bool c.flag, .int .u64 c.lk.txn, .int .i64 c.lk.level, .int .i64 c.lk.mode, vll, vlh, vlo, vhi, vtx, vwr, vke, .int .i64 c.tb.id, .string c.tb.name, vco, .int .i64 c.tb.key, vix] 78) :: own rb (.cells #[.slice a6 (offT c.client T).length c6, v] 68) :: row 55 7 v R.length (R.flatMap RE.cs) :: exc F Wp :: shr (fun k => k < w0.heap.size) w0 :: row 145 9 (.slice aq T.length cq) T.length (T.flatMap TE.cs) :: L) := H
      have H := (H.sub (.cons_cons _ (.cons _ (.cons _ (.cons_cons _ (.cons_cons _ (.cons_cons _ (.cons_cons _ (.cons _ (.refl _)))))))))).perm (List.perm_middle (l₁ := [_, _, _, _])).symm
      exact ret0 Try.results63 ⟨rfl, .slice a6 (offT c.client T).length c6, offT c.client T, H, by rw [hoT, show noteL l c r = l from if_pos hz]; exact hT, by omega⟩
    · refine W_region ?_
      refine OL_y (y_fieldAddr ti78 rfl ti24 rfl h4) (by decide) ?_
      refine OL_y (y_loadS (v := .int .u64 c.client) ti24 rfl rfl (Cells.unit (H.getOwn 2 rfl) rfl)) (by decide) ?_
      refine OL_y (v := .bool true) (y_neqT hz rfl rfl) (by decide) ?_
      refine OL_nil ?_
      refine W_condt rfl ?_
      refine W_region ?_
      refine OL_y (y_move h6) (by decide) ?_
      refine OL_y (y_fieldAddr ti78 rfl ti24 rfl h4) (by decide) ?_
      refine OL_y (y_loadS (v := .int .u64 c.client) ti24 rfl rfl (Cells.unit (H.getOwn 2 rfl) rfl)) (by decide) ?_
      refine OL_y (y_fieldAddr ti78 rfl ti24 rfl h4) (by decide) ?_
      refine OL_y (y_loadS (v := .int .u64 c.seq) ti24 rfl rfl (Cells.unit (H.getOwn 2 rfl) rfl)) (by decide) ?_
      refine OL_y (y_loadA (cs := [.int .i64 r.err, .int .u64 0, .int .u64 0, .bool false, .slice none 0 0, .slice ar r.cells.length cr, .slice none 0 0]) ti84 rfl h5 (Cells.of (H.getOwn 1 rfl) rfl) rfl) (by decide) ?_
      refine OL_y (v := .agg #[.int .u64 c.client, .int .u64 c.seq, .int .i64 r.err, .int .u64 0, .int .u64 0, .bool false, .slice none 0 0, .slice ar r.cells.length cr, .slice none 0 0]) (y_build ti145 pl145 (by kernel_rfl)) (by decide) ?_
      refine OL_c (op_buildSlice H [.agg #[.int .u64 c.client, .int .u64 c.seq, .int .i64 r.err, .int .u64 0, .int .u64 0, .bool false, .slice none 0 0, .slice ar r.cells.length cr, .slice none 0 0]] ti62 ti145 rfl rfl rfl (by simp [Value.cells]) rfl rfl (by decide) fun b38 w9_7 H => ?_)
      refine OL_c (op_append H 1 rfl rfl ti62 ti145 rfl rfl rfl rfl (Src.row (H.getRow 0 rfl)) rfl (by simp [Value.cells, Value.oneCell']) (by omega) (by simp only [maxLen]; omega) (by decide) fun v39 w9_8 H => ?_)
      obtain ⟨a39, c39, rfl, -, -⟩ := H.rowLen 1 rfl
      have H := H.tail
      refine OL_y (y_assign rfl) (by decide) ?_
      refine OL_nil ?_
      refine W_region ?_
      refine OL_y (y_move h0) (by decide) ?_
      refine OL_y (y_move rfl) (by decide) ?_
      refine OL_y (y_nilCheck rfl ⟨_, rfl⟩) (by decide) ?_
      refine OL_y (y_fieldAddr ti64 rfl ti62 rfl rfl) (by decide) ?_
      refine OL_c (op_store (v := .slice a39 ((offT c.client T).length + 1) c39) H 3 rfl ti62 rfl rfl rfl (Nat.le_of_ble_eq_true rfl) (by simp [Value.cells, Value.oneCell']) fun w10_4 H => ?_)
      refine OL_nil ?_
      show RetOK _ _ _ _ _ _
      obtain ⟨e0, he0⟩ : ∃ e0 : TE, e0 = ⟨⟨c.client, c.seq, r⟩, .slice ar r.cells.length cr⟩ := ⟨_, rfl⟩
      have hTn : TRep w0 F Wp (offT c.client T ++ [e0]) (noteL l c r) := by rw [he0]; exact hT.note hz hcl hsq hR
      have hln : (offT c.client T ++ [e0]).length = (offT c.client T).length + 1 := by rw [List.length_append]; rfl
      have hfn : (offT c.client T ++ [e0]).flatMap TE.cs = (offT c.client T).flatMap TE.cs ++ [.int .u64 c.client, .int .u64 c.seq, .int .i64 r.err, .int .u64 0, .int .u64 0, .bool false, .slice none 0 0, .slice ar r.cells.length cr, .slice none 0 0] := by rw [List.flatMap_append, List.flatMap_singleton, he0]
      have H : Holds w10_4 (row 145 9 (.slice a39 ((offT c.client T).length + 1) c39) (offT c.client T ++ [e0]).length ((offT c.client T ++ [e0]).flatMap TE.cs) :: own b5 (.cells #[.int .i64 r.err, .int .u64 0, .int .u64 0, .bool false, .slice none 0 0, .slice ar r.cells.length cr, .slice none 0 0] 84) :: own b4 (.cells #[.int .u64 c.client, .int .u64 c.seq, .int .i64 c.kind, .int .u64 c.txn, .int .u64 c.ts, .bool c.flag, .int .u64 c.lk.txn, .int .i64 c.lk.level, .int .i64 c.lk.mode, vll, vlh, vlo, vhi, vtx, vwr, vke, .int .i64 c.tb.id, .string c.tb.name, vco, .int .i64 c.tb.key, vix] 78) :: own rb (.cells #[.slice a39 ((offT c.client T).length + 1) c39, v] 68) :: row 55 7 v R.length (R.flatMap RE.cs) :: exc F Wp :: shr (fun k => k < w0.heap.size) w0 :: row 145 9 (.slice aq T.length cq) T.length (T.flatMap TE.cs) :: L) := by rw [hln, hfn]; exact H
      have H := (H.sub (.cons_cons _ (.cons _ (.cons _ (.cons_cons _ (.cons_cons _ (.cons_cons _ (.cons_cons _ (.cons _ (.refl _)))))))))).perm (List.perm_middle (l₁ := [_, _, _, _])).symm
      exact ret0 Try.results63 ⟨rfl, .slice a39 ((offT c.client T).length + 1) c39, _, H, hTn, by rw [hln]; omega⟩
end Go.Proofs.Ytpandioolpnihaa

namespace Go.Proofs.Ytpandioolpnihaa
open Go Go.Wk
set_option linter.unusedVariables false
set_option linter.unusedSimpArgs false

section
variable {W w0 Wp : World} {F : Nat → Prop} {b : Nat} {q v : Value} {T : List TE} {R : List RE} {x y z u : Atom} {L : List Atom}
theorem shIn1 (H : Holds W (x :: shAt b q T v R F Wp w0 L)) : Holds W (shAt b q T v R F Wp w0 (x :: L)) := shInL [x] H
theorem shOut1 (H : Holds W (shAt b q T v R F Wp w0 (x :: L))) : Holds W (x :: shAt b q T v R F Wp w0 L) := shOutL [x] H
theorem shIn4 (H : Holds W (x :: y :: z :: u :: shAt b q T v R F Wp w0 L)) : Holds W (shAt b q T v R F Wp w0 (x :: y :: z :: u :: L)) := shInL [x, y, z, u] H
theorem shOut4 (H : Holds W (shAt b q T v R F Wp w0 (x :: y :: z :: u :: L))) : Holds W (x :: y :: z :: u :: shAt b q T v R F Wp w0 L) := shOutL [x, y, z, u] H
end

set_option maxHeartbeats 16000000 in
theorem f33_calls {w0 w Wp : World} {F : Nat → Prop} {rb m N : Nat} {q v : Value} {T : List TE} {R : List RE} {l : Lst} {a : Abs} {L : List Atom} {cs : List Value} {c : Cmd} (H : Holds w (shAt rb q T v R F Wp w0 L)) (hr : RRep w0 F Wp R a) (hT : TRep w0 F Wp T l) (hTl : T.length ≤ 999) (ha : a.Ok m) (hm : m ≤ 10000) (hRl : R.length ≤ 28000) (hN : ∀ ks, IntentsOf a c.txn ks → ks.length ≤ N) (hN4 : N ≤ 4000) (hc : tCmd.R (Dz w0 F) Wp cs c) (hwn : c.writes.length ≤ 1000) :
    Calls Try.prog 33 [.pointer (some ⟨rb, 0, none⟩), .agg cs.toArray].toArray w fun e w' => ∃ (rcs : List Value) (r : Rs) (a' : Abs) (l' : Lst) (q' : Value) (T' : List TE) (v' : Value) (R' : List RE) (F' : Nat → Prop) (Wp' : World), e = .returned (.agg rcs.toArray) ∧ DoR a l c a' l' r ∧ Holds w' (shAt rb q' T' v' R' F' Wp' w0 L) ∧ RRep w0 F' Wp' R' a' ∧ TRep w0 F' Wp' T' l' ∧ Grow w0 F Wp F' Wp' ∧ tRes.R (Dz w0 F') Wp' rcs r ∧ R'.length ≤ R.length + c.writes.length + 2 * N ∧ T'.length ≤ T.length + 1 := by
  have hc0 := hc
  obtain ⟨vll, vlh, vlo, vhi, vtx, vwr, vke, vco, vix, rfl, hcl, hsq, hkd, htx, hts, hlk1, hlo, hhi, htxs, hwr, hke, htb⟩ := cmd_cells.1 hc
  refine calls_of_W' Try.func33 rfl Try.ntmps33 rfl ?_
  refine W_seq ?_
  refine W_region ?_
  refine OL_c (op_box (v := .agg #[.int .u64 c.client, .int .u64 c.seq, .int .i64 c.kind, .int .u64 c.txn, .int .u64 c.ts, .bool c.flag, .int .u64 c.lk.txn, .int .i64 c.lk.level, .int .i64 c.lk.mode, vll, vlh, vlo, vhi, vtx, vwr, vke, .int .i64 c.tb.id, .string c.tb.name, vco, .int .i64 c.tb.key, vix]) H rfl (by decide) fun b3 w0_0 H => ?_)
  refine OL_c (op_alloc H ti84 (by decide) fun b4 w0_1 H => ?_)
  refine OL_nil ?_
  refine W_seq ?_
  refine W_seq ?_
  refine W_cut (fun f ds w' => ∃ (b5 : Nat) (vr : Value) (r : Rs) (kn : Bool), f 0 = .pointer (some ⟨rb, 0, none⟩) ∧ f 3 = .pointer (some ⟨b3, 0, none⟩) ∧ f 4 = .pointer (some ⟨b4, 0, none⟩) ∧ f 5 = .pointer (some ⟨b5, 0, none⟩) ∧ f 6 = .bool kn ∧ ds = [] ∧ tRes.R (Dz w0 F) Wp [.int .i64 r.err, .int .u64 0, .int .u64 0, .bool false, .slice none 0 0, vr, .slice none 0 0] r ∧ known l c = (if kn = true then some r else none) ∧ Holds w' (own b5 (.cells #[.int .i64 r.err, .int .u64 0, .int .u64 0, .bool false, .slice none 0 0, vr, .slice none 0 0] 84) :: own b4 (.cells #[.int .i64 0, .int .u64 0, .int .u64 0, .bool false, .slice none 0 0, .slice none 0 0, .slice none 0 0] 84) :: own b3 (.cells #[.int .u64 c.client, .int .u64 c.seq, .int .i64 c.kind, .int .u64 c.txn, .int .u64 c.ts, .bool c.flag, .int .u64 c.lk.txn, .int .i64 c.lk.level, .int .i64 c.lk.mode, vll, vlh, vlo, vhi, vtx, vwr, vke, .int .i64 c.tb.id, .string c.tb.name, vco, .int .i64 c.tb.key, vix] 78) :: shAt rb q T v R F Wp w0 L)) ?_ ?_
  · refine W_drawD H mixed (by kernel_rfl) [] (fun wq w' => w'.heap[b3]? = some (.cells #[.int .u64 c.client, .int .u64 c.seq, .int .i64 c.kind, .int .u64 c.txn, .int .u64 c.ts, .bool c.flag, .int .u64 c.lk.txn, .int .i64 c.lk.level, .int .i64 c.lk.mode, vll, vlh, vlo, vhi, vtx, vwr, vke, .int .i64 c.tb.id, .string c.tb.name, vco, .int .i64 c.tb.key, vix] 78)) fun wd1 H hEd => ?_
    have hS : ∀ {ls : Array Bool}, Sx [] (fun w' => w'.heap[b3]? = some (.cells #[.int .u64 c.client, .int .u64 c.seq, .int .i64 c.kind, .int .u64 c.txn, .int .u64 c.ts, .bool c.flag, .int .u64 c.lk.txn, .int .i64 c.lk.level, .int .i64 c.lk.mode, vll, vlh, vlo, vhi, vtx, vwr, vke, .int .i64 c.tb.id, .string c.tb.name, vco, .int .i64 c.tb.key, vix] 78)) ls wd1 := fun {_} _ => H.getOwn 1 rfl
    refine DA_p 0 rfl (by kernel_rfl) rfl (fun _ => y_move rfl) hS (by decide) fun hS => ?_
    refine DA_p 1 rfl (by kernel_rfl) rfl (fun _ => y_nilCheck rfl ⟨_, rfl⟩) hS (by decide) fun hS => ?_
    refine DA_p 2 rfl (by kernel_rfl) rfl (fun _ => y_fieldAddr ti68 rfl ti64 rfl rfl) hS (by decide) fun hS => ?_
    refine DA_y 3 rfl (by kernel_rfl) rfl (by kernel_rfl) (fun w' h => y_loadA (cs := [.int .u64 c.client, .int .u64 c.seq, .int .i64 c.kind, .int .u64 c.txn, .int .u64 c.ts, .bool c.flag, .int .u64 c.lk.txn, .int .i64 c.lk.level, .int .i64 c.lk.mode, vll, vlh, vlo, vhi, vtx, vwr, vke, .int .i64 c.tb.id, .string c.tb.name, vco, .int .i64 c.tb.key, vix]) ti78 rfl rfl (Cells.of h rfl) rfl) hS (by decide) fun hS => ?_
    refine DA_two 4 8 (by kernel_rfl) rfl rfl ?_ ?_
    · refine op_call 61 en61 rfl [.pointer (some ⟨rb, 0, none⟩), .agg #[.int .u64 c.client, .int .u64 c.seq, .int .i64 c.kind, .int .u64 c.txn, .int .u64 c.ts, .bool c.flag, .int .u64 c.lk.txn, .int .i64 c.lk.level, .int .i64 c.lk.mode, vll, vlh, vlo, vhi, vtx, vwr, vke, .int .i64 c.tb.id, .string c.tb.name, vco, .int .i64 c.tb.key, vix]] rfl (by decide) ((f61_calls H.tail.tail hr.base hT (by omega) hc0).mono ?_)
      rintro e w1_4 ⟨vr, r, kn, rfl, hR, hkn, hE61⟩
      have H := H.ext0 hE61
      refine ⟨_, rfl, fun _ => H.getOwn 1 rfl, ?_⟩
      have hS : ∀ {ls : Array Bool}, Sx [] (fun w' => w'.heap[b3]? = some (.cells #[.int .u64 c.client, .int .u64 c.seq, .int .i64 c.kind, .int .u64 c.txn, .int .u64 c.ts, .bool c.flag, .int .u64 c.lk.txn, .int .i64 c.lk.level, .int .i64 c.lk.mode, vll, vlh, vlo, vhi, vtx, vwr, vke, .int .i64 c.tb.id, .string c.tb.name, vco, .int .i64 c.tb.key, vix] 78)) ls w1_4 := fun {_} _ => H.getOwn 1 rfl
      refine DA_p 5 rfl (by kernel_rfl) rfl (fun _ => y_move rfl) hS (by decide) fun hS => ?_
      refine DA_p 6 rfl (by kernel_rfl) rfl (fun _ => y_extract (v := .agg #[.int .i64 r.err, .int .u64 0, .int .u64 0, .bool false, .slice none 0 0, vr, .slice none 0 0]) rfl rfl) hS (by decide) fun hS => ?_
      refine DA_p 7 rfl (by kernel_rfl) rfl (fun _ => y_extract (v := .bool kn) rfl rfl) hS (by decide) fun hS => ?_
      refine DA_one 8 (by kernel_rfl) rfl (op_alloc H ti84 (by decide) fun b5 w1_8 H => ⟨fun _ => H.getOwn 2 rfl, ?_⟩)
      refine DA_one 9 (by kernel_rfl) rfl (op_store (v := .agg #[.int .i64 r.err, .int .u64 0, .int .u64 0, .bool false, .slice none 0 0, vr, .slice none 0 0]) H 0 rfl ti84 rfl rfl rfl (by decide) (tRes.one hR) fun w1_9 H => ⟨fun _ => H.getOwn 2 rfl, ?_⟩)
      refine DA_p 10 rfl (by kernel_rfl) rfl (fun _ => y_assign rfl) (fun _ => H.getOwn 2 rfl) (by decide) fun hS => ?_
      refine DA_done (by kernel_rfl) ?_
      exact ⟨b5, vr, r, kn, rfl, rfl, rfl, rfl, rfl, rfl, hR, hkn, H⟩
    · refine op_alloc H ti84 (by decide) fun b5 w1_8 H => ⟨fun _ => H.getOwn 2 rfl, ?_⟩
      refine DA_one 4 (by kernel_rfl) rfl (op_call 61 en61 rfl [.pointer (some ⟨rb, 0, none⟩), .agg #[.int .u64 c.client, .int .u64 c.seq, .int .i64 c.kind, .int .u64 c.txn, .int .u64 c.ts, .bool c.flag, .int .u64 c.lk.txn, .int .i64 c.lk.level, .int .i64 c.lk.mode, vll, vlh, vlo, vhi, vtx, vwr, vke, .int .i64 c.tb.id, .string c.tb.name, vco, .int .i64 c.tb.key, vix]] rfl (by decide) ((f61_calls H.tail.tail.tail hr.base hT (by omega) hc0).mono ?_))
      rintro e w1_4 ⟨vr, r, kn, rfl, hR, hkn, hE61⟩
      have H := H.ext0 hE61
      refine ⟨_, rfl, fun _ => H.getOwn 2 rfl, ?_⟩
      have hS : ∀ {ls : Array Bool}, Sx [] (fun w' => w'.heap[b3]? = some (.cells #[.int .u64 c.client, .int .u64 c.seq, .int .i64 c.kind, .int .u64 c.txn, .int .u64 c.ts, .bool c.flag, .int .u64 c.lk.txn, .int .i64 c.lk.level, .int .i64 c.lk.mode, vll, vlh, vlo, vhi, vtx, vwr, vke, .int .i64 c.tb.id, .string c.tb.name, vco, .int .i64 c.tb.key, vix] 78)) ls w1_4 := fun {_} _ => H.getOwn 2 rfl
      refine DA_p 5 rfl (by kernel_rfl) rfl (fun _ => y_move rfl) hS (by decide) fun hS => ?_
      refine DA_p 6 rfl (by kernel_rfl) rfl (fun _ => y_extract (v := .agg #[.int .i64 r.err, .int .u64 0, .int .u64 0, .bool false, .slice none 0 0, vr, .slice none 0 0]) rfl rfl) hS (by decide) fun hS => ?_
      refine DA_p 7 rfl (by kernel_rfl) rfl (fun _ => y_extract (v := .bool kn) rfl rfl) hS (by decide) fun hS => ?_
      refine DA_one 9 (by kernel_rfl) rfl (op_store (v := .agg #[.int .i64 r.err, .int .u64 0, .int .u64 0, .bool false, .slice none 0 0, vr, .slice none 0 0]) H 0 rfl ti84 rfl rfl rfl (by decide) (tRes.one hR) fun w1_9 H => ⟨fun _ => H.getOwn 2 rfl, ?_⟩)
      refine DA_p 10 rfl (by kernel_rfl) rfl (fun _ => y_assign rfl) (fun _ => H.getOwn 2 rfl) (by decide) fun hS => ?_
      refine DA_done (by kernel_rfl) ?_
      exact ⟨b5, vr, r, kn, rfl, rfl, rfl, rfl, rfl, rfl, hR, hkn, H⟩
  rintro f ds w1 ⟨b5, vr, r, kn, h0, h3, h4, h5, h6, rfl, hR, hkn, H⟩
  have honeR := tRes.one hR
  obtain ⟨vr', er, -, hcr⟩ := res_cells.1 hR
  obtain rfl : vr = vr' := by injection er with _ er; injection er with _ er; injection er with _ er; injection er with _ er; injection er with _ er; injection er with er _
  obtain ⟨ar, cr, rfl, -, -⟩ := hcr.len
  refine W_seq ?_
  rcases kn with _ | _
  · have hkn : known l c = none := hkn
    refine W_region ?_
    refine OL_y (v := .bool false) (y_move h6) (by decide) ?_
    refine OL_nil ?_
    refine W_condf rfl ?_
    refine W_skip ?_
    refine W_seq ?_
    refine W_region ?_
    refine OL_y (y_move h0) (by decide) ?_
    refine OL_y (y_loadA (cs := [.int .u64 c.client, .int .u64 c.seq, .int .i64 c.kind, .int .u64 c.txn, .int .u64 c.ts, .bool c.flag, .int .u64 c.lk.txn, .int .i64 c.lk.level, .int .i64 c.lk.mode, vll, vlh, vlo, vhi, vtx, vwr, vke, .int .i64 c.tb.id, .string c.tb.name, vco, .int .i64 c.tb.key, vix]) ti78 rfl h3 (Cells.of (H.getOwn 2 rfl) rfl) rfl) (by decide) ?_
    refine OL_c (op_call 62 en62 rfl [.pointer (some ⟨rb, 0, none⟩), .agg #[.int .u64 c.client, .int .u64 c.seq, .int .i64 c.kind, .int .u64 c.txn, .int .u64 c.ts, .bool c.flag, .int .u64 c.lk.txn, .int .i64 c.lk.level, .int .i64 c.lk.mode, vll, vlh, vlo, vhi, vtx, vwr, vke, .int .i64 c.tb.id, .string c.tb.name, vco, .int .i64 c.tb.key, vix]] rfl (by decide) ((f62_calls (sIn3 H) hr ha hm hRl hN hN4 hc0 hwn).mono ?_))
    rintro e w4_2 ⟨rcs2, r2, a', v', R', F', Wp', rfl, hOne, H, hr', gr, hR2, hRl'⟩
    refine ⟨_, rfl, ?_⟩
    have H := sOut3 H
    have hR20 := hR2
    obtain ⟨vr2, rfl, -, hcr2⟩ := res_cells.1 hR2
    obtain ⟨ar2, cr2, rfl, -, -⟩ := hcr2.len
    refine OL_var (v := .agg #[.int .i64 r2.err, .int .u64 0, .int .u64 0, .bool false, .slice none 0 0, .slice ar2 r2.cells.length cr2, .slice none 0 0]) H ti84 rfl (by decide) (fun _ => rfl) rfl (tRes.one hR20) fun b7 w4_3 H => ?_
    refine OL_nil ?_
    refine W_seq ?_
    refine W_drawD H mixed (by kernel_rfl) [] (fun wq w' => w'.heap[b3]? = some (.cells #[.int .u64 c.client, .int .u64 c.seq, .int .i64 c.kind, .int .u64 c.txn, .int .u64 c.ts, .bool c.flag, .int .u64 c.lk.txn, .int .i64 c.lk.level, .int .i64 c.lk.mode, vll, vlh, vlo, vhi, vtx, vwr, vke, .int .i64 c.tb.id, .string c.tb.name, vco, .int .i64 c.tb.key, vix] 78) ∧ w'.heap[b7]? = some (.cells #[.int .i64 r2.err, .int .u64 0, .int .u64 0, .bool false, .slice none 0 0, .slice ar2 r2.cells.length cr2, .slice none 0 0] 84)) fun wd5 H hEd => ?_
    have hS : ∀ {ls : Array Bool}, Sx [] (fun w' => w'.heap[b3]? = some (.cells #[.int .u64 c.client, .int .u64 c.seq, .int .i64 c.kind, .int .u64 c.txn, .int .u64 c.ts, .bool c.flag, .int .u64 c.lk.txn, .int .i64 c.lk.level, .int .i64 c.lk.mode, vll, vlh, vlo, vhi, vtx, vwr, vke, .int .i64 c.tb.id, .string c.tb.name, vco, .int .i64 c.tb.key, vix] 78) ∧ w'.heap[b7]? = some (.cells #[.int .i64 r2.err, .int .u64 0, .int .u64 0, .bool false, .slice none 0 0, .slice ar2 r2.cells.length cr2, .slice none 0 0] 84)) ls wd5 := fun {_} _ => ⟨H.getOwn 3 rfl, H.getOwn 0 rfl⟩
    refine DA_p 0 rfl (by kernel_rfl) rfl (fun _ => y_move h0) hS (by decide) fun hS => ?_
    refine DA_p 1 rfl (by kernel_rfl) rfl (fun _ => y_nilCheck rfl ⟨_, rfl⟩) hS (by decide) fun hS => ?_
    refine DA_p 2 rfl (by kernel_rfl) rfl (fun _ => y_fieldAddr ti68 rfl ti64 rfl rfl) hS (by decide) fun hS => ?_
    refine DA_y 3 rfl (by kernel_rfl) rfl (by kernel_rfl) (fun w' h => y_loadA (cs := [.int .u64 c.client, .int .u64 c.seq, .int .i64 c.kind, .int .u64 c.txn, .int .u64 c.ts, .bool c.flag, .int .u64 c.lk.txn, .int .i64 c.lk.level, .int .i64 c.lk.mode, vll, vlh, vlo, vhi, vtx, vwr, vke, .int .i64 c.tb.id, .string c.tb.name, vco, .int .i64 c.tb.key, vix]) ti78 rfl h3 (Cells.of h.1 rfl) rfl) hS (by decide) fun hS => ?_
    refine DA_y 4 rfl (by kernel_rfl) rfl (by kernel_rfl) (fun w' h => y_loadA (cs := [.int .i64 r2.err, .int .u64 0, .int .u64 0, .bool false, .slice none 0 0, .slice ar2 r2.cells.length cr2, .slice none 0 0]) ti84 rfl rfl (Cells.of h.2 rfl) rfl) hS (by decide) fun hS => ?_
    refine DA_one 5 (by kernel_rfl) rfl (op_call 63 en63 rfl [.pointer (some ⟨rb, 0, none⟩), .agg #[.int .u64 c.client, .int .u64 c.seq, .int .i64 c.kind, .int .u64 c.txn, .int .u64 c.ts, .bool c.flag, .int .u64 c.lk.txn, .int .i64 c.lk.level, .int .i64 c.lk.mode, vll, vlh, vlo, vhi, vtx, vwr, vke, .int .i64 c.tb.id, .string c.tb.name, vco, .int .i64 c.tb.key, vix], .agg #[.int .i64 r2.err, .int .u64 0, .int .u64 0, .bool false, .slice none 0 0, .slice ar2 r2.cells.length cr2, .slice none 0 0]] rfl (by decide) ((f63_calls (shIn4 H) (hT.grow gr) (by omega) hc0 hR20).mono ?_))
    rintro e w5_5 ⟨rfl, q', T', H, hT', hTl'⟩
    refine ⟨_, rfl, fun _ => ⟨(shOut4 H).getOwn 3 rfl, (shOut4 H).getOwn 0 rfl⟩, ?_⟩
    have H := shOut4 H
    refine DA_done (by kernel_rfl) ?_
    refine W_seq ?_
    refine W_region ?_
    refine OL_y (y_loadA (cs := [.int .i64 r2.err, .int .u64 0, .int .u64 0, .bool false, .slice none 0 0, .slice ar2 r2.cells.length cr2, .slice none 0 0]) ti84 rfl rfl (Cells.of (H.getOwn 0 rfl) rfl) rfl) (by decide) ?_
    refine OL_c (op_store (v := .agg #[.int .i64 r2.err, .int .u64 0, .int .u64 0, .bool false, .slice none 0 0, .slice ar2 r2.cells.length cr2, .slice none 0 0]) H 2 rfl ti84 h4 rfl rfl (by decide) (tRes.one hR20) fun w6_1 H => ?_)
    refine OL_nil ?_
    refine W_ret ?_
    show RetOK _ _ _ _ _ _
    exact ret1c Try.results33 h4 (run_loadVarA (cs := [.int .i64 r2.err, .int .u64 0, .int .u64 0, .bool false, .slice none 0 0, .slice ar2 r2.cells.length cr2, .slice none 0 0]) ti84 rfl (Cells.of (H.getOwn 2 rfl) rfl) rfl) ⟨_, r2, a', _, q', T', v', R', F', Wp', rfl, doNew hkn hOne, H.tail.tail.tail.tail, hr', hT', gr, hR20, hRl', hTl'⟩
  · have hkn : known l c = some r := hkn
    refine W_region ?_
    refine OL_y (v := .bool true) (y_move h6) (by decide) ?_
    refine OL_nil ?_
    refine W_condt rfl ?_
    refine W_seq ?_
    refine W_region ?_
    refine OL_y (y_loadA (cs := [.int .i64 r.err, .int .u64 0, .int .u64 0, .bool false, .slice none 0 0, .slice ar r.cells.length cr, .slice none 0 0]) ti84 rfl h5 (Cells.of (H.getOwn 0 rfl) rfl) rfl) (by decide) ?_
    refine OL_c (op_store (v := .agg #[.int .i64 r.err, .int .u64 0, .int .u64 0, .bool false, .slice none 0 0, .slice ar r.cells.length cr, .slice none 0 0]) H 1 rfl ti84 h4 rfl rfl (by decide) honeR fun w3_1 H => ?_)
    refine OL_nil ?_
    refine W_ret ?_
    show RetOK _ _ _ _ _ _
    exact ret1c Try.results33 h4 (run_loadVarA (cs := [.int .i64 r.err, .int .u64 0, .int .u64 0, .bool false, .slice none 0 0, .slice ar r.cells.length cr, .slice none 0 0]) ti84 rfl (Cells.of (H.getOwn 1 rfl) rfl) rfl) ⟨_, r, a, l, q, T, v, R, F, Wp, rfl, doKnown hkn, H.tail.tail.tail, hr, hT, Grow.refl hr.base, hR, by omega, by omega⟩
end Go.Proofs.Ytpandioolpnihaa

namespace Go.Wk
open Go
theorem y_lenStr {P : Program} {f : Fr} {w : World} {d ty : Nat} {p : String} {af : Array Edge} {g : Option (Nat × Bool)} {x : Operand} {tys : Array TypeId} {t0 : TypeId} (ht : tys[0]? = some t0) (hu : P.underlying t0 = some .string) {s : ByteArray} (hx : ev f x = .string s) :
    Yd P ⟨some d, .call { callee := .builtin .len, args := #[x], argTypes := tys }, ty, p, af, g⟩ f w (.int .i64 s.size) :=
  ⟨rfl, by simp [execOp, resolve, invoke, builtin, hx, Builtin.len_, ht, run_underlying hu, goInt, Result.andThen]⟩
end Go.Wk
namespace Go.Proofs.Ytpandioolpnihaa
open Go Go.Wk
set_option linter.unusedVariables false
set_option linter.unusedSimpArgs false

def Smc (c : Cmd) : Prop := c.lo.length ≤ 300 ∧ c.writes.length ≤ 10 ∧ ∀ x ∈ c.writes, x.key.length ≤ 300

set_option maxHeartbeats 16000000 in
theorem f29_calls {Z : Nat → Prop} {w : World} {vl : Value} {l : List Cmd} (hl : SlR tCmd 320 Z w vl l) :
    Calls Try.prog 29 [vl].toArray w fun e w' => ∃ bb : Bool, e = .returned (.bool bb) ∧ Ext none' w w' ∧ (bb = true → l.length ≤ 40 ∧ ∀ c ∈ l, Smc c) := by
  obtain ⟨al, cl, rfl, hll, hml⟩ := hl.len
  have H := Holds.start w
  refine calls_of_W' Try.func29 rfl Try.ntmps29 rfl ?_
  refine W_seq ?_
  refine W_region ?_
  refine OL_y (v := .bool false) (y_assign rfl) (by decide) ?_
  refine OL_nil ?_
  refine W_seq ?_
  refine W_seq ?_
  refine W_region ?_
  refine OL_y (y_move rfl) (by decide) ?_
  refine OL_y (y_len rfl ti57 rfl) (by decide) ?_
  refine OL_y (y_move rfl) (by decide) ?_
  refine OL_nil ?_
  refine W_range (N := l.length) (by simp only [maxLen] at hml ⊢; omega) (fun j f ds w' => f 0 = .slice al l.length cl ∧ f 11 = .slice al l.length cl ∧ ds = [] ∧ (∀ x ∈ l.take j, Smc x) ∧ Holds w' [shr (fun k => k < w.heap.size) w])
      ⟨rfl, rfl, rfl, by simp, H⟩
      rfl rfl (by decide) (by decide) (by decide) rfl rfl ?_ rfl rfl ?_
  · rintro j f ds w3 hj ⟨h0, h11, rfl, hok, H⟩ hti htn
    have hxj := List.getElem?_eq_getElem hj
    have hsn : l.take (j + 1) = l.take j ++ [l[j]] := by rw [List.take_add_one, hxj]; rfl
    obtain ⟨bx, ox, cs9, e9, hz9, hc9, hr9⟩ := hl.at hxj
    have hc9' := hc9.ext ((H.keepsAll 0 rfl (fun _ => True)).2 _ trivial hc9.lt)
    generalize l[j] = c at *
    have hone9 := tCmd.one hr9
    obtain ⟨vll, vlh, vlo, vhi, vtx, vwr, vke, vco, vix, rfl, hcl, hsq, hkd, htx, hts, ⟨-, -, -, hkl, hkh⟩, hlo, hhi, htxs, hwr, hke, -, -, hco, -, hix⟩ := cmd_cells.1 hr9
    have q1 := hkl.len1 (by decide)
    have q2 := hkh.len1 (by decide)
    have q3 := hlo.len1 (by decide)
    have q4 := hhi.len1 (by decide)
    obtain ⟨a1, c1, rfl, -, -⟩ := hkl.len
    obtain ⟨a2, c2, rfl, -, -⟩ := hkh.len
    obtain ⟨a3, c3, rfl, -, -⟩ := hlo.len
    obtain ⟨a4, c4, rfl, -, -⟩ := hhi.len
    obtain ⟨a5, c5, rfl, -, -⟩ := htxs.len
    obtain ⟨a6, c6, rfl, hl6, hm6⟩ := hwr.len
    obtain ⟨a7, c7, rfl, hl7, hm7⟩ := hke.len
    obtain ⟨a8, c8, rfl, hl8, hm8⟩ := hco.len
    obtain ⟨a9, c9, rfl, -, -⟩ := hix.len
    have h11' := h11.trans (congrArg (Value.slice · _ _) e9)
    refine W_block ?_
    refine W_seq ?_
    refine W_region ?_
    refine OL_y (y_indexAddr ti57 ti78 h11' hti (by omega) (by omega)) (by decide) ?_
    refine OL_y (y_loadA (cs := [.int .u64 c.client, .int .u64 c.seq, .int .i64 c.kind, .int .u64 c.txn, .int .u64 c.ts, .bool c.flag, .int .u64 c.lk.txn, .int .i64 c.lk.level, .int .i64 c.lk.mode, .slice a1 c.lk.lo.length c1, .slice a2 c.lk.hi.length c2, .slice a3 c.lo.length c3, .slice a4 c.hi.length c4, .slice a5 c.txns.length c5, .slice a6 c.writes.length c6, .slice a7 c.keys.length c7, .int .i64 c.tb.id, .string c.tb.name, .slice a8 c.tb.cols.length c8, .int .i64 c.tb.key, .slice a9 c.tb.idx.length c9]) ti78 rfl rfl hc9' rfl) (by decide) ?_
    refine OL_var (v := .agg #[.int .u64 c.client, .int .u64 c.seq, .int .i64 c.kind, .int .u64 c.txn, .int .u64 c.ts, .bool c.flag, .int .u64 c.lk.txn, .int .i64 c.lk.level, .int .i64 c.lk.mode, .slice a1 c.lk.lo.length c1, .slice a2 c.lk.hi.length c2, .slice a3 c.lo.length c3, .slice a4 c.hi.length c4, .slice a5 c.txns.length c5, .slice a6 c.writes.length c6, .slice a7 c.keys.length c7, .int .i64 c.tb.id, .string c.tb.name, .slice a8 c.tb.cols.length c8, .int .i64 c.tb.key, .slice a9 c.tb.idx.length c9]) H ti78 rfl (by decide) (fun _ => rfl) rfl (hone9) fun b4 w3_2 H => ?_
    refine OL_nil ?_
    refine W_seq ?_
    refine W_seq ?_
    by_cases haa : (200 : Int) < ((c.lo.length : Nat) : Int) + (c.hi.length : Nat) + (c.lk.lo.length : Nat) + (c.lk.hi.length : Nat)
    · refine W_region ?_
      refine OL_y (y_fieldAddr ti78 rfl ti23 rfl rfl) (by decide) ?_
      refine OL_y (y_loadS (v := .slice a3 c.lo.length c3) ti23 rfl rfl (Cells.unit (H.getOwn 0 rfl) rfl)) (by decide) ?_
      refine OL_y (y_len rfl ti23 rfl) (by decide) ?_
      refine OL_y (y_fieldAddr ti78 rfl ti23 rfl rfl) (by decide) ?_
      refine OL_y (y_loadS (v := .slice a4 c.hi.length c4) ti23 rfl rfl (Cells.unit (H.getOwn 0 rfl) rfl)) (by decide) ?_
      refine OL_y (y_len rfl ti23 rfl) (by decide) ?_
      refine OL_y (y_add64 rfl rfl (by omega) (by omega)) (by decide) ?_
      refine OL_y (y_fieldAddr ti78 rfl ti70 rfl rfl) (by decide) ?_
      refine OL_y (y_fieldAddr ti70 rfl ti23 rfl rfl) (by decide) ?_
      refine OL_y (y_loadS (v := .slice a1 c.lk.lo.length c1) ti23 rfl rfl (Cells.unit (H.getOwn 0 rfl) rfl)) (by decide) ?_
      refine OL_y (y_len rfl ti23 rfl) (by decide) ?_
      refine OL_y (y_add64 rfl rfl (by omega) (by omega)) (by decide) ?_
      refine OL_y (y_fieldAddr ti78 rfl ti70 rfl rfl) (by decide) ?_
      refine OL_y (y_fieldAddr ti70 rfl ti23 rfl rfl) (by decide) ?_
      refine OL_y (y_loadS (v := .slice a2 c.lk.hi.length c2) ti23 rfl rfl (Cells.unit (H.getOwn 0 rfl) rfl)) (by decide) ?_
      refine OL_y (y_len rfl ti23 rfl) (by decide) ?_
      refine OL_y (y_add64 rfl rfl (by omega) (by omega)) (by decide) ?_
      refine OL_y (v := .bool true) (y_gtrT haa rfl rfl) (by decide) ?_
      refine OL_y (v := .bool true) (y_move rfl) (by decide) ?_
      refine OL_s rfl (by decide) rfl rfl (by simp) ?_
      refine OL_s rfl (by decide) rfl rfl (by simp) ?_
      refine OL_s rfl (by decide) rfl rfl (by simp) ?_
      refine OL_s rfl (by decide) rfl rfl (by simp) ?_
      refine OL_y (y_pick (b := true) (v := .bool true) rfl rfl) (by decide) ?_
      refine OL_y (v := .bool true) (y_move rfl) (by decide) ?_
      refine OL_s rfl (by decide) rfl rfl (by simp) ?_
      refine OL_s rfl (by decide) rfl rfl (by simp) ?_
      refine OL_s rfl (by decide) rfl rfl (by simp) ?_
      refine OL_s rfl (by decide) rfl rfl (by simp) ?_
      refine OL_y (y_pick (b := true) (v := .bool true) rfl rfl) (by decide) ?_
      refine OL_y (v := .bool true) (y_move rfl) (by decide) ?_
      refine OL_s rfl (by decide) rfl rfl (by simp) ?_
      refine OL_s rfl (by decide) rfl rfl (by simp) ?_
      refine OL_s rfl (by decide) rfl rfl (by simp) ?_
      refine OL_s rfl (by decide) rfl rfl (by simp) ?_
      refine OL_y (y_pick (b := true) (v := .bool true) rfl rfl) (by decide) ?_
      refine OL_y (v := .bool true) (y_move rfl) (by decide) ?_
      refine OL_s rfl (by decide) rfl rfl (by simp) ?_
      refine OL_s rfl (by decide) rfl rfl (by simp) ?_
      refine OL_s rfl (by decide) rfl rfl (by simp) ?_
      refine OL_s rfl (by decide) rfl rfl (by simp) ?_
      refine OL_s rfl (by decide) rfl rfl (by simp) ?_
      refine OL_y (y_pick (b := true) (v := .bool true) rfl rfl) (by decide) ?_
      refine OL_y (v := .bool true) (y_move rfl) (by decide) ?_
      refine OL_s rfl (by decide) rfl rfl (by simp) ?_
      refine OL_s rfl (by decide) rfl rfl (by simp) ?_
      refine OL_s rfl (by decide) rfl rfl (by simp) ?_
      refine OL_s rfl (by decide) rfl rfl (by simp) ?_
      refine OL_s rfl (by decide) rfl rfl (by simp) ?_
      refine OL_y (y_pick (b := true) (v := .bool true) rfl rfl) (by decide) ?_
      refine OL_y (v := .bool true) (y_move rfl) (by decide) ?_
      refine OL_s rfl (by decide) rfl rfl (by simp) ?_
      refine OL_s rfl (by decide) rfl rfl (by simp) ?_
      refine OL_s rfl (by decide) rfl rfl (by simp) ?_
      refine OL_s rfl (by decide) rfl rfl (by simp) ?_
      refine OL_s rfl (by decide) rfl rfl (by simp) ?_
      refine OL_y (y_pick (b := true) (v := .bool true) rfl rfl) (by decide) ?_
      refine OL_nil ?_
      refine W_condt rfl ?_
      refine W_seq ?_
      refine W_region ?_
      refine OL_y (v := .bool false) (y_assign rfl) (by decide) ?_
      refine OL_nil ?_
      refine W_ret ?_
      show RetOK _ _ _ _ _ _
      exact ret1 (v := .bool false) Try.results29 rfl ⟨false, rfl, H.ext_of 1 rfl, fun h => by cases h⟩
    · by_cases hbb : (10 : Int) < ((c.txns.length : Nat) : Int)
      · refine W_region ?_
        refine OL_y (y_fieldAddr ti78 rfl ti23 rfl rfl) (by decide) ?_
        refine OL_y (y_loadS (v := .slice a3 c.lo.length c3) ti23 rfl rfl (Cells.unit (H.getOwn 0 rfl) rfl)) (by decide) ?_
        refine OL_y (y_len rfl ti23 rfl) (by decide) ?_
        refine OL_y (y_fieldAddr ti78 rfl ti23 rfl rfl) (by decide) ?_
        refine OL_y (y_loadS (v := .slice a4 c.hi.length c4) ti23 rfl rfl (Cells.unit (H.getOwn 0 rfl) rfl)) (by decide) ?_
        refine OL_y (y_len rfl ti23 rfl) (by decide) ?_
        refine OL_y (y_add64 rfl rfl (by omega) (by omega)) (by decide) ?_
        refine OL_y (y_fieldAddr ti78 rfl ti70 rfl rfl) (by decide) ?_
        refine OL_y (y_fieldAddr ti70 rfl ti23 rfl rfl) (by decide) ?_
        refine OL_y (y_loadS (v := .slice a1 c.lk.lo.length c1) ti23 rfl rfl (Cells.unit (H.getOwn 0 rfl) rfl)) (by decide) ?_
        refine OL_y (y_len rfl ti23 rfl) (by decide) ?_
        refine OL_y (y_add64 rfl rfl (by omega) (by omega)) (by decide) ?_
        refine OL_y (y_fieldAddr ti78 rfl ti70 rfl rfl) (by decide) ?_
        refine OL_y (y_fieldAddr ti70 rfl ti23 rfl rfl) (by decide) ?_
        refine OL_y (y_loadS (v := .slice a2 c.lk.hi.length c2) ti23 rfl rfl (Cells.unit (H.getOwn 0 rfl) rfl)) (by decide) ?_
        refine OL_y (y_len rfl ti23 rfl) (by decide) ?_
        refine OL_y (y_add64 rfl rfl (by omega) (by omega)) (by decide) ?_
        refine OL_y (v := .bool false) (y_gtrF haa rfl rfl) (by decide) ?_
        refine OL_y (v := .bool false) (y_move rfl) (by decide) ?_
        refine OL_yg rfl (by decide) rfl (y_fieldAddr ti78 rfl ti71 rfl rfl) (by decide) ?_
        refine OL_yg rfl (by decide) rfl (y_loadS (v := .slice a5 c.txns.length c5) ti71 rfl rfl (Cells.unit (H.getOwn 0 rfl) rfl)) (by decide) ?_
        refine OL_yg rfl (by decide) rfl (y_len rfl ti71 rfl) (by decide) ?_
        refine OL_yg (v := .bool true) rfl (by decide) rfl (y_gtrT hbb rfl rfl) (by decide) ?_
        refine OL_y (y_pick (b := false) (v := .bool true) rfl rfl) (by decide) ?_
        refine OL_y (v := .bool true) (y_move rfl) (by decide) ?_
        refine OL_s rfl (by decide) rfl rfl (by simp) ?_
        refine OL_s rfl (by decide) rfl rfl (by simp) ?_
        refine OL_s rfl (by decide) rfl rfl (by simp) ?_
        refine OL_s rfl (by decide) rfl rfl (by simp) ?_
        refine OL_y (y_pick (b := true) (v := .bool true) rfl rfl) (by decide) ?_
        refine OL_y (v := .bool true) (y_move rfl) (by decide) ?_
        refine OL_s rfl (by decide) rfl rfl (by simp) ?_
        refine OL_s rfl (by decide) rfl rfl (by simp) ?_
        refine OL_s rfl (by decide) rfl rfl (by simp) ?_
        refine OL_s rfl (by decide) rfl rfl (by simp) ?_
        refine OL_y (y_pick (b := true) (v := .bool true) rfl rfl) (by decide) ?_
        refine OL_y (v := .bool true) (y_move rfl) (by decide) ?_
        refine OL_s rfl (by decide) rfl rfl (by simp) ?_
        refine OL_s rfl (by decide) rfl rfl (by simp) ?_
        refine OL_s rfl (by decide) rfl rfl (by simp) ?_
        refine OL_s rfl (by decide) rfl rfl (by simp) ?_
        refine OL_s rfl (by decide) rfl rfl (by simp) ?_
        refine OL_y (y_pick (b := true) (v := .bool true) rfl rfl) (by decide) ?_
        refine OL_y (v := .bool true) (y_move rfl) (by decide) ?_
        refine OL_s rfl (by decide) rfl rfl (by simp) ?_
        refine OL_s rfl (by decide) rfl rfl (by simp) ?_
        refine OL_s rfl (by decide) rfl rfl (by simp) ?_
        refine OL_s rfl (by decide) rfl rfl (by simp) ?_
        refine OL_s rfl (by decide) rfl rfl (by simp) ?_
        refine OL_y (y_pick (b := true) (v := .bool true) rfl rfl) (by decide) ?_
        refine OL_y (v := .bool true) (y_move rfl) (by decide) ?_
        refine OL_s rfl (by decide) rfl rfl (by simp) ?_
        refine OL_s rfl (by decide) rfl rfl (by simp) ?_
        refine OL_s rfl (by decide) rfl rfl (by simp) ?_
        refine OL_s rfl (by decide) rfl rfl (by simp) ?_
        refine OL_s rfl (by decide) rfl rfl (by simp) ?_
        refine OL_y (y_pick (b := true) (v := .bool true) rfl rfl) (by decide) ?_
        refine OL_nil ?_
        refine W_condt rfl ?_
        refine W_seq ?_
        refine W_region ?_
        refine OL_y (v := .bool false) (y_assign rfl) (by decide) ?_
        refine OL_nil ?_
        refine W_ret ?_
        show RetOK _ _ _ _ _ _
        exact ret1 (v := .bool false) Try.results29 rfl ⟨false, rfl, H.ext_of 1 rfl, fun h => by cases h⟩
      · by_cases hdd : (10 : Int) < ((c.writes.length : Nat) : Int)
        · refine W_region ?_
          refine OL_y (y_fieldAddr ti78 rfl ti23 rfl rfl) (by decide) ?_
          refine OL_y (y_loadS (v := .slice a3 c.lo.length c3) ti23 rfl rfl (Cells.unit (H.getOwn 0 rfl) rfl)) (by decide) ?_
          refine OL_y (y_len rfl ti23 rfl) (by decide) ?_
          refine OL_y (y_fieldAddr ti78 rfl ti23 rfl rfl) (by decide) ?_
          refine OL_y (y_loadS (v := .slice a4 c.hi.length c4) ti23 rfl rfl (Cells.unit (H.getOwn 0 rfl) rfl)) (by decide) ?_
          refine OL_y (y_len rfl ti23 rfl) (by decide) ?_
          refine OL_y (y_add64 rfl rfl (by omega) (by omega)) (by decide) ?_
          refine OL_y (y_fieldAddr ti78 rfl ti70 rfl rfl) (by decide) ?_
          refine OL_y (y_fieldAddr ti70 rfl ti23 rfl rfl) (by decide) ?_
          refine OL_y (y_loadS (v := .slice a1 c.lk.lo.length c1) ti23 rfl rfl (Cells.unit (H.getOwn 0 rfl) rfl)) (by decide) ?_
          refine OL_y (y_len rfl ti23 rfl) (by decide) ?_
          refine OL_y (y_add64 rfl rfl (by omega) (by omega)) (by decide) ?_
          refine OL_y (y_fieldAddr ti78 rfl ti70 rfl rfl) (by decide) ?_
          refine OL_y (y_fieldAddr ti70 rfl ti23 rfl rfl) (by decide) ?_
          refine OL_y (y_loadS (v := .slice a2 c.lk.hi.length c2) ti23 rfl rfl (Cells.unit (H.getOwn 0 rfl) rfl)) (by decide) ?_
          refine OL_y (y_len rfl ti23 rfl) (by decide) ?_
          refine OL_y (y_add64 rfl rfl (by omega) (by omega)) (by decide) ?_
          refine OL_y (v := .bool false) (y_gtrF haa rfl rfl) (by decide) ?_
          refine OL_y (v := .bool false) (y_move rfl) (by decide) ?_
          refine OL_yg rfl (by decide) rfl (y_fieldAddr ti78 rfl ti71 rfl rfl) (by decide) ?_
          refine OL_yg rfl (by decide) rfl (y_loadS (v := .slice a5 c.txns.length c5) ti71 rfl rfl (Cells.unit (H.getOwn 0 rfl) rfl)) (by decide) ?_
          refine OL_yg rfl (by decide) rfl (y_len rfl ti71 rfl) (by decide) ?_
          refine OL_yg (v := .bool false) rfl (by decide) rfl (y_gtrF hbb rfl rfl) (by decide) ?_
          refine OL_y (y_pick (b := false) (v := .bool false) rfl rfl) (by decide) ?_
          refine OL_y (v := .bool false) (y_move rfl) (by decide) ?_
          refine OL_yg rfl (by decide) rfl (y_fieldAddr ti78 rfl ti72 rfl rfl) (by decide) ?_
          refine OL_yg rfl (by decide) rfl (y_loadS (v := .slice a6 c.writes.length c6) ti72 rfl rfl (Cells.unit (H.getOwn 0 rfl) rfl)) (by decide) ?_
          refine OL_yg rfl (by decide) rfl (y_len rfl ti72 rfl) (by decide) ?_
          refine OL_yg (v := .bool true) rfl (by decide) rfl (y_gtrT hdd rfl rfl) (by decide) ?_
          refine OL_y (y_pick (b := false) (v := .bool true) rfl rfl) (by decide) ?_
          refine OL_y (v := .bool true) (y_move rfl) (by decide) ?_
          refine OL_s rfl (by decide) rfl rfl (by simp) ?_
          refine OL_s rfl (by decide) rfl rfl (by simp) ?_
          refine OL_s rfl (by decide) rfl rfl (by simp) ?_
          refine OL_s rfl (by decide) rfl rfl (by simp) ?_
          refine OL_y (y_pick (b := true) (v := .bool true) rfl rfl) (by decide) ?_
          refine OL_y (v := .bool true) (y_move rfl) (by decide) ?_
          refine OL_s rfl (by decide) rfl rfl (by simp) ?_
          refine OL_s rfl (by decide) rfl rfl (by simp) ?_
          refine OL_s rfl (by decide) rfl rfl (by simp) ?_
          refine OL_s rfl (by decide) rfl rfl (by simp) ?_
          refine OL_s rfl (by decide) rfl rfl (by simp) ?_
          refine OL_y (y_pick (b := true) (v := .bool true) rfl rfl) (by decide) ?_
          refine OL_y (v := .bool true) (y_move rfl) (by decide) ?_
          refine OL_s rfl (by decide) rfl rfl (by simp) ?_
          refine OL_s rfl (by decide) rfl rfl (by simp) ?_
          refine OL_s rfl (by decide) rfl rfl (by simp) ?_
          refine OL_s rfl (by decide) rfl rfl (by simp) ?_
          refine OL_s rfl (by decide) rfl rfl (by simp) ?_
          refine OL_y (y_pick (b := true) (v := .bool true) rfl rfl) (by decide) ?_
          refine OL_y (v := .bool true) (y_move rfl) (by decide) ?_
          refine OL_s rfl (by decide) rfl rfl (by simp) ?_
          refine OL_s rfl (by decide) rfl rfl (by simp) ?_
          refine OL_s rfl (by decide) rfl rfl (by simp) ?_
          refine OL_s rfl (by decide) rfl rfl (by simp) ?_
          refine OL_s rfl (by decide) rfl rfl (by simp) ?_
          refine OL_y (y_pick (b := true) (v := .bool true) rfl rfl) (by decide) ?_
          refine OL_nil ?_
          refine W_condt rfl ?_
          refine W_seq ?_
          refine W_region ?_
          refine OL_y (v := .bool false) (y_assign rfl) (by decide) ?_
          refine OL_nil ?_
          refine W_ret ?_
          show RetOK _ _ _ _ _ _
          exact ret1 (v := .bool false) Try.results29 rfl ⟨false, rfl, H.ext_of 1 rfl, fun h => by cases h⟩
        · by_cases hee : (10 : Int) < ((c.keys.length : Nat) : Int)
          · refine W_region ?_
            refine OL_y (y_fieldAddr ti78 rfl ti23 rfl rfl) (by decide) ?_
            refine OL_y (y_loadS (v := .slice a3 c.lo.length c3) ti23 rfl rfl (Cells.unit (H.getOwn 0 rfl) rfl)) (by decide) ?_
            refine OL_y (y_len rfl ti23 rfl) (by decide) ?_
            refine OL_y (y_fieldAddr ti78 rfl ti23 rfl rfl) (by decide) ?_
            refine OL_y (y_loadS (v := .slice a4 c.hi.length c4) ti23 rfl rfl (Cells.unit (H.getOwn 0 rfl) rfl)) (by decide) ?_
            refine OL_y (y_len rfl ti23 rfl) (by decide) ?_
            refine OL_y (y_add64 rfl rfl (by omega) (by omega)) (by decide) ?_
            refine OL_y (y_fieldAddr ti78 rfl ti70 rfl rfl) (by decide) ?_
            refine OL_y (y_fieldAddr ti70 rfl ti23 rfl rfl) (by decide) ?_
            refine OL_y (y_loadS (v := .slice a1 c.lk.lo.length c1) ti23 rfl rfl (Cells.unit (H.getOwn 0 rfl) rfl)) (by decide) ?_
            refine OL_y (y_len rfl ti23 rfl) (by decide) ?_
            refine OL_y (y_add64 rfl rfl (by omega) (by omega)) (by decide) ?_
            refine OL_y (y_fieldAddr ti78 rfl ti70 rfl rfl) (by decide) ?_
            refine OL_y (y_fieldAddr ti70 rfl ti23 rfl rfl) (by decide) ?_
            refine OL_y (y_loadS (v := .slice a2 c.lk.hi.length c2) ti23 rfl rfl (Cells.unit (H.getOwn 0 rfl) rfl)) (by decide) ?_
            refine OL_y (y_len rfl ti23 rfl) (by decide) ?_
            refine OL_y (y_add64 rfl rfl (by omega) (by omega)) (by decide) ?_
            refine OL_y (v := .bool false) (y_gtrF haa rfl rfl) (by decide) ?_
            refine OL_y (v := .bool false) (y_move rfl) (by decide) ?_
            refine OL_yg rfl (by decide) rfl (y_fieldAddr ti78 rfl ti71 rfl rfl) (by decide) ?_
            refine OL_yg rfl (by decide) rfl (y_loadS (v := .slice a5 c.txns.length c5) ti71 rfl rfl (Cells.unit (H.getOwn 0 rfl) rfl)) (by decide) ?_
            refine OL_yg rfl (by decide) rfl (y_len rfl ti71 rfl) (by decide) ?_
            refine OL_yg (v := .bool false) rfl (by decide) rfl (y_gtrF hbb rfl rfl) (by decide) ?_
            refine OL_y (y_pick (b := false) (v := .bool false) rfl rfl) (by decide) ?_
            refine OL_y (v := .bool false) (y_move rfl) (by decide) ?_
            refine OL_yg rfl (by decide) rfl (y_fieldAddr ti78 rfl ti72 rfl rfl) (by decide) ?_
            refine OL_yg rfl (by decide) rfl (y_loadS (v := .slice a6 c.writes.length c6) ti72 rfl rfl (Cells.unit (H.getOwn 0 rfl) rfl)) (by decide) ?_
            refine OL_yg rfl (by decide) rfl (y_len rfl ti72 rfl) (by decide) ?_
            refine OL_yg (v := .bool false) rfl (by decide) rfl (y_gtrF hdd rfl rfl) (by decide) ?_
            refine OL_y (y_pick (b := false) (v := .bool false) rfl rfl) (by decide) ?_
            refine OL_y (v := .bool false) (y_move rfl) (by decide) ?_
            refine OL_yg rfl (by decide) rfl (y_fieldAddr ti78 rfl ti30 rfl rfl) (by decide) ?_
            refine OL_yg rfl (by decide) rfl (y_loadS (v := .slice a7 c.keys.length c7) ti30 rfl rfl (Cells.unit (H.getOwn 0 rfl) rfl)) (by decide) ?_
            refine OL_yg rfl (by decide) rfl (y_len rfl ti30 rfl) (by decide) ?_
            refine OL_yg (v := .bool true) rfl (by decide) rfl (y_gtrT hee rfl rfl) (by decide) ?_
            refine OL_y (y_pick (b := false) (v := .bool true) rfl rfl) (by decide) ?_
            refine OL_y (v := .bool true) (y_move rfl) (by decide) ?_
            refine OL_s rfl (by decide) rfl rfl (by simp) ?_
            refine OL_s rfl (by decide) rfl rfl (by simp) ?_
            refine OL_s rfl (by decide) rfl rfl (by simp) ?_
            refine OL_s rfl (by decide) rfl rfl (by simp) ?_
            refine OL_s rfl (by decide) rfl rfl (by simp) ?_
            refine OL_y (y_pick (b := true) (v := .bool true) rfl rfl) (by decide) ?_
            refine OL_y (v := .bool true) (y_move rfl) (by decide) ?_
            refine OL_s rfl (by decide) rfl rfl (by simp) ?_
            refine OL_s rfl (by decide) rfl rfl (by simp) ?_
            refine OL_s rfl (by decide) rfl rfl (by simp) ?_
            refine OL_s rfl (by decide) rfl rfl (by simp) ?_
            refine OL_s rfl (by decide) rfl rfl (by simp) ?_
            refine OL_y (y_pick (b := true) (v := .bool true) rfl rfl) (by decide) ?_
            refine OL_y (v := .bool true) (y_move rfl) (by decide) ?_
            refine OL_s rfl (by decide) rfl rfl (by simp) ?_
            refine OL_s rfl (by decide) rfl rfl (by simp) ?_
            refine OL_s rfl (by decide) rfl rfl (by simp) ?_
            refine OL_s rfl (by decide) rfl rfl (by simp) ?_
            refine OL_s rfl (by decide) rfl rfl (by simp) ?_
            refine OL_y (y_pick (b := true) (v := .bool true) rfl rfl) (by decide) ?_
            refine OL_nil ?_
            refine W_condt rfl ?_
            refine W_seq ?_
            refine W_region ?_
            refine OL_y (v := .bool false) (y_assign rfl) (by decide) ?_
            refine OL_nil ?_
            refine W_ret ?_
            show RetOK _ _ _ _ _ _
            exact ret1 (v := .bool false) Try.results29 rfl ⟨false, rfl, H.ext_of 1 rfl, fun h => by cases h⟩
          · by_cases hgg : (14 : Int) < ((c.tb.cols.length : Nat) : Int)
            · refine W_region ?_
              refine OL_y (y_fieldAddr ti78 rfl ti23 rfl rfl) (by decide) ?_
              refine OL_y (y_loadS (v := .slice a3 c.lo.length c3) ti23 rfl rfl (Cells.unit (H.getOwn 0 rfl) rfl)) (by decide) ?_
              refine OL_y (y_len rfl ti23 rfl) (by decide) ?_
              refine OL_y (y_fieldAddr ti78 rfl ti23 rfl rfl) (by decide) ?_
              refine OL_y (y_loadS (v := .slice a4 c.hi.length c4) ti23 rfl rfl (Cells.unit (H.getOwn 0 rfl) rfl)) (by decide) ?_
              refine OL_y (y_len rfl ti23 rfl) (by decide) ?_
              refine OL_y (y_add64 rfl rfl (by omega) (by omega)) (by decide) ?_
              refine OL_y (y_fieldAddr ti78 rfl ti70 rfl rfl) (by decide) ?_
              refine OL_y (y_fieldAddr ti70 rfl ti23 rfl rfl) (by decide) ?_
              refine OL_y (y_loadS (v := .slice a1 c.lk.lo.length c1) ti23 rfl rfl (Cells.unit (H.getOwn 0 rfl) rfl)) (by decide) ?_
              refine OL_y (y_len rfl ti23 rfl) (by decide) ?_
              refine OL_y (y_add64 rfl rfl (by omega) (by omega)) (by decide) ?_
              refine OL_y (y_fieldAddr ti78 rfl ti70 rfl rfl) (by decide) ?_
              refine OL_y (y_fieldAddr ti70 rfl ti23 rfl rfl) (by decide) ?_
              refine OL_y (y_loadS (v := .slice a2 c.lk.hi.length c2) ti23 rfl rfl (Cells.unit (H.getOwn 0 rfl) rfl)) (by decide) ?_
              refine OL_y (y_len rfl ti23 rfl) (by decide) ?_
              refine OL_y (y_add64 rfl rfl (by omega) (by omega)) (by decide) ?_
              refine OL_y (v := .bool false) (y_gtrF haa rfl rfl) (by decide) ?_
              refine OL_y (v := .bool false) (y_move rfl) (by decide) ?_
              refine OL_yg rfl (by decide) rfl (y_fieldAddr ti78 rfl ti71 rfl rfl) (by decide) ?_
              refine OL_yg rfl (by decide) rfl (y_loadS (v := .slice a5 c.txns.length c5) ti71 rfl rfl (Cells.unit (H.getOwn 0 rfl) rfl)) (by decide) ?_
              refine OL_yg rfl (by decide) rfl (y_len rfl ti71 rfl) (by decide) ?_
              refine OL_yg (v := .bool false) rfl (by decide) rfl (y_gtrF hbb rfl rfl) (by decide) ?_
              refine OL_y (y_pick (b := false) (v := .bool false) rfl rfl) (by decide) ?_
              refine OL_y (v := .bool false) (y_move rfl) (by decide) ?_
              refine OL_yg rfl (by decide) rfl (y_fieldAddr ti78 rfl ti72 rfl rfl) (by decide) ?_
              refine OL_yg rfl (by decide) rfl (y_loadS (v := .slice a6 c.writes.length c6) ti72 rfl rfl (Cells.unit (H.getOwn 0 rfl) rfl)) (by decide) ?_
              refine OL_yg rfl (by decide) rfl (y_len rfl ti72 rfl) (by decide) ?_
              refine OL_yg (v := .bool false) rfl (by decide) rfl (y_gtrF hdd rfl rfl) (by decide) ?_
              refine OL_y (y_pick (b := false) (v := .bool false) rfl rfl) (by decide) ?_
              refine OL_y (v := .bool false) (y_move rfl) (by decide) ?_
              refine OL_yg rfl (by decide) rfl (y_fieldAddr ti78 rfl ti30 rfl rfl) (by decide) ?_
              refine OL_yg rfl (by decide) rfl (y_loadS (v := .slice a7 c.keys.length c7) ti30 rfl rfl (Cells.unit (H.getOwn 0 rfl) rfl)) (by decide) ?_
              refine OL_yg rfl (by decide) rfl (y_len rfl ti30 rfl) (by decide) ?_
              refine OL_yg (v := .bool false) rfl (by decide) rfl (y_gtrF hee rfl rfl) (by decide) ?_
              refine OL_y (y_pick (b := false) (v := .bool false) rfl rfl) (by decide) ?_
              refine OL_y (v := .bool false) (y_move rfl) (by decide) ?_
              refine OL_yg rfl (by decide) rfl (y_fieldAddr ti78 rfl ti76 rfl rfl) (by decide) ?_
              refine OL_yg rfl (by decide) rfl (y_fieldAddr ti76 rfl ti73 rfl rfl) (by decide) ?_
              refine OL_yg rfl (by decide) rfl (y_loadS (v := .slice a8 c.tb.cols.length c8) ti73 rfl rfl (Cells.unit (H.getOwn 0 rfl) rfl)) (by decide) ?_
              refine OL_yg rfl (by decide) rfl (y_len rfl ti73 rfl) (by decide) ?_
              refine OL_yg (v := .bool true) rfl (by decide) rfl (y_gtrT hgg rfl rfl) (by decide) ?_
              refine OL_y (y_pick (b := false) (v := .bool true) rfl rfl) (by decide) ?_
              refine OL_y (v := .bool true) (y_move rfl) (by decide) ?_
              refine OL_s rfl (by decide) rfl rfl (by simp) ?_
              refine OL_s rfl (by decide) rfl rfl (by simp) ?_
              refine OL_s rfl (by decide) rfl rfl (by simp) ?_
              refine OL_s rfl (by decide) rfl rfl (by simp) ?_
              refine OL_s rfl (by decide) rfl rfl (by simp) ?_
              refine OL_y (y_pick (b := true) (v := .bool true) rfl rfl) (by decide) ?_
              refine OL_y (v := .bool true) (y_move rfl) (by decide) ?_
              refine OL_s rfl (by decide) rfl rfl (by simp) ?_
              refine OL_s rfl (by decide) rfl rfl (by simp) ?_
              refine OL_s rfl (by decide) rfl rfl (by simp) ?_
              refine OL_s rfl (by decide) rfl rfl (by simp) ?_
              refine OL_s rfl (by decide) rfl rfl (by simp) ?_
              refine OL_y (y_pick (b := true) (v := .bool true) rfl rfl) (by decide) ?_
              refine OL_nil ?_
              refine W_condt rfl ?_
              refine W_seq ?_
              refine W_region ?_
              refine OL_y (v := .bool false) (y_assign rfl) (by decide) ?_
              refine OL_nil ?_
              refine W_ret ?_
              show RetOK _ _ _ _ _ _
              exact ret1 (v := .bool false) Try.results29 rfl ⟨false, rfl, H.ext_of 1 rfl, fun h => by cases h⟩
            · by_cases hhh : (6 : Int) < ((c.tb.idx.length : Nat) : Int)
              · refine W_region ?_
                refine OL_y (y_fieldAddr ti78 rfl ti23 rfl rfl) (by decide) ?_
                refine OL_y (y_loadS (v := .slice a3 c.lo.length c3) ti23 rfl rfl (Cells.unit (H.getOwn 0 rfl) rfl)) (by decide) ?_
                refine OL_y (y_len rfl ti23 rfl) (by decide) ?_
                refine OL_y (y_fieldAddr ti78 rfl ti23 rfl rfl) (by decide) ?_
                refine OL_y (y_loadS (v := .slice a4 c.hi.length c4) ti23 rfl rfl (Cells.unit (H.getOwn 0 rfl) rfl)) (by decide) ?_
                refine OL_y (y_len rfl ti23 rfl) (by decide) ?_
                refine OL_y (y_add64 rfl rfl (by omega) (by omega)) (by decide) ?_
                refine OL_y (y_fieldAddr ti78 rfl ti70 rfl rfl) (by decide) ?_
                refine OL_y (y_fieldAddr ti70 rfl ti23 rfl rfl) (by decide) ?_
                refine OL_y (y_loadS (v := .slice a1 c.lk.lo.length c1) ti23 rfl rfl (Cells.unit (H.getOwn 0 rfl) rfl)) (by decide) ?_
                refine OL_y (y_len rfl ti23 rfl) (by decide) ?_
                refine OL_y (y_add64 rfl rfl (by omega) (by omega)) (by decide) ?_
                refine OL_y (y_fieldAddr ti78 rfl ti70 rfl rfl) (by decide) ?_
                refine OL_y (y_fieldAddr ti70 rfl ti23 rfl rfl) (by decide) ?_
                refine OL_y (y_loadS (v := .slice a2 c.lk.hi.length c2) ti23 rfl rfl (Cells.unit (H.getOwn 0 rfl) rfl)) (by decide) ?_
                refine OL_y (y_len rfl ti23 rfl) (by decide) ?_
                refine OL_y (y_add64 rfl rfl (by omega) (by omega)) (by decide) ?_
                refine OL_y (v := .bool false) (y_gtrF haa rfl rfl) (by decide) ?_
                refine OL_y (v := .bool false) (y_move rfl) (by decide) ?_
                refine OL_yg rfl (by decide) rfl (y_fieldAddr ti78 rfl ti71 rfl rfl) (by decide) ?_
                refine OL_yg rfl (by decide) rfl (y_loadS (v := .slice a5 c.txns.length c5) ti71 rfl rfl (Cells.unit (H.getOwn 0 rfl) rfl)) (by decide) ?_
                refine OL_yg rfl (by decide) rfl (y_len rfl ti71 rfl) (by decide) ?_
                refine OL_yg (v := .bool false) rfl (by decide) rfl (y_gtrF hbb rfl rfl) (by decide) ?_
                refine OL_y (y_pick (b := false) (v := .bool false) rfl rfl) (by decide) ?_
                refine OL_y (v := .bool false) (y_move rfl) (by decide) ?_
                refine OL_yg rfl (by decide) rfl (y_fieldAddr ti78 rfl ti72 rfl rfl) (by decide) ?_
                refine OL_yg rfl (by decide) rfl (y_loadS (v := .slice a6 c.writes.length c6) ti72 rfl rfl (Cells.unit (H.getOwn 0 rfl) rfl)) (by decide) ?_
                refine OL_yg rfl (by decide) rfl (y_len rfl ti72 rfl) (by decide) ?_
                refine OL_yg (v := .bool false) rfl (by decide) rfl (y_gtrF hdd rfl rfl) (by decide) ?_
                refine OL_y (y_pick (b := false) (v := .bool false) rfl rfl) (by decide) ?_
                refine OL_y (v := .bool false) (y_move rfl) (by decide) ?_
                refine OL_yg rfl (by decide) rfl (y_fieldAddr ti78 rfl ti30 rfl rfl) (by decide) ?_
                refine OL_yg rfl (by decide) rfl (y_loadS (v := .slice a7 c.keys.length c7) ti30 rfl rfl (Cells.unit (H.getOwn 0 rfl) rfl)) (by decide) ?_
                refine OL_yg rfl (by decide) rfl (y_len rfl ti30 rfl) (by decide) ?_
                refine OL_yg (v := .bool false) rfl (by decide) rfl (y_gtrF hee rfl rfl) (by decide) ?_
                refine OL_y (y_pick (b := false) (v := .bool false) rfl rfl) (by decide) ?_
                refine OL_y (v := .bool false) (y_move rfl) (by decide) ?_
                refine OL_yg rfl (by decide) rfl (y_fieldAddr ti78 rfl ti76 rfl rfl) (by decide) ?_
                refine OL_yg rfl (by decide) rfl (y_fieldAddr ti76 rfl ti73 rfl rfl) (by decide) ?_
                refine OL_yg rfl (by decide) rfl (y_loadS (v := .slice a8 c.tb.cols.length c8) ti73 rfl rfl (Cells.unit (H.getOwn 0 rfl) rfl)) (by decide) ?_
                refine OL_yg rfl (by decide) rfl (y_len rfl ti73 rfl) (by decide) ?_
                refine OL_yg (v := .bool false) rfl (by decide) rfl (y_gtrF hgg rfl rfl) (by decide) ?_
                refine OL_y (y_pick (b := false) (v := .bool false) rfl rfl) (by decide) ?_
                refine OL_y (v := .bool false) (y_move rfl) (by decide) ?_
                refine OL_yg rfl (by decide) rfl (y_fieldAddr ti78 rfl ti76 rfl rfl) (by decide) ?_
                refine OL_yg rfl (by decide) rfl (y_fieldAddr ti76 rfl ti74 rfl rfl) (by decide) ?_
                refine OL_yg rfl (by decide) rfl (y_loadS (v := .slice a9 c.tb.idx.length c9) ti74 rfl rfl (Cells.unit (H.getOwn 0 rfl) rfl)) (by decide) ?_
                refine OL_yg rfl (by decide) rfl (y_len rfl ti74 rfl) (by decide) ?_
                refine OL_yg (v := .bool true) rfl (by decide) rfl (y_gtrT hhh rfl rfl) (by decide) ?_
                refine OL_y (y_pick (b := false) (v := .bool true) rfl rfl) (by decide) ?_
                refine OL_y (v := .bool true) (y_move rfl) (by decide) ?_
                refine OL_s rfl (by decide) rfl rfl (by simp) ?_
                refine OL_s rfl (by decide) rfl rfl (by simp) ?_
                refine OL_s rfl (by decide) rfl rfl (by simp) ?_
                refine OL_s rfl (by decide) rfl rfl (by simp) ?_
                refine OL_s rfl (by decide) rfl rfl (by simp) ?_
                refine OL_y (y_pick (b := true) (v := .bool true) rfl rfl) (by decide) ?_
                refine OL_nil ?_
                refine W_condt rfl ?_
                refine W_seq ?_
                refine W_region ?_
                refine OL_y (v := .bool false) (y_assign rfl) (by decide) ?_
                refine OL_nil ?_
                refine W_ret ?_
                show RetOK _ _ _ _ _ _
                exact ret1 (v := .bool false) Try.results29 rfl ⟨false, rfl, H.ext_of 1 rfl, fun h => by cases h⟩
              · by_cases hkk : (100 : Int) < ((c.tb.name.size : Nat) : Int)
                · refine W_region ?_
                  refine OL_y (y_fieldAddr ti78 rfl ti23 rfl rfl) (by decide) ?_
                  refine OL_y (y_loadS (v := .slice a3 c.lo.length c3) ti23 rfl rfl (Cells.unit (H.getOwn 0 rfl) rfl)) (by decide) ?_
                  refine OL_y (y_len rfl ti23 rfl) (by decide) ?_
                  refine OL_y (y_fieldAddr ti78 rfl ti23 rfl rfl) (by decide) ?_
                  refine OL_y (y_loadS (v := .slice a4 c.hi.length c4) ti23 rfl rfl (Cells.unit (H.getOwn 0 rfl) rfl)) (by decide) ?_
                  refine OL_y (y_len rfl ti23 rfl) (by decide) ?_
                  refine OL_y (y_add64 rfl rfl (by omega) (by omega)) (by decide) ?_
                  refine OL_y (y_fieldAddr ti78 rfl ti70 rfl rfl) (by decide) ?_
                  refine OL_y (y_fieldAddr ti70 rfl ti23 rfl rfl) (by decide) ?_
                  refine OL_y (y_loadS (v := .slice a1 c.lk.lo.length c1) ti23 rfl rfl (Cells.unit (H.getOwn 0 rfl) rfl)) (by decide) ?_
                  refine OL_y (y_len rfl ti23 rfl) (by decide) ?_
                  refine OL_y (y_add64 rfl rfl (by omega) (by omega)) (by decide) ?_
                  refine OL_y (y_fieldAddr ti78 rfl ti70 rfl rfl) (by decide) ?_
                  refine OL_y (y_fieldAddr ti70 rfl ti23 rfl rfl) (by decide) ?_
                  refine OL_y (y_loadS (v := .slice a2 c.lk.hi.length c2) ti23 rfl rfl (Cells.unit (H.getOwn 0 rfl) rfl)) (by decide) ?_
                  refine OL_y (y_len rfl ti23 rfl) (by decide) ?_
                  refine OL_y (y_add64 rfl rfl (by omega) (by omega)) (by decide) ?_
                  refine OL_y (v := .bool false) (y_gtrF haa rfl rfl) (by decide) ?_
                  refine OL_y (v := .bool false) (y_move rfl) (by decide) ?_
                  refine OL_yg rfl (by decide) rfl (y_fieldAddr ti78 rfl ti71 rfl rfl) (by decide) ?_
                  refine OL_yg rfl (by decide) rfl (y_loadS (v := .slice a5 c.txns.length c5) ti71 rfl rfl (Cells.unit (H.getOwn 0 rfl) rfl)) (by decide) ?_
                  refine OL_yg rfl (by decide) rfl (y_len rfl ti71 rfl) (by decide) ?_
                  refine OL_yg (v := .bool false) rfl (by decide) rfl (y_gtrF hbb rfl rfl) (by decide) ?_
                  refine OL_y (y_pick (b := false) (v := .bool false) rfl rfl) (by decide) ?_
                  refine OL_y (v := .bool false) (y_move rfl) (by decide) ?_
                  refine OL_yg rfl (by decide) rfl (y_fieldAddr ti78 rfl ti72 rfl rfl) (by decide) ?_
                  refine OL_yg rfl (by decide) rfl (y_loadS (v := .slice a6 c.writes.length c6) ti72 rfl rfl (Cells.unit (H.getOwn 0 rfl) rfl)) (by decide) ?_
                  refine OL_yg rfl (by decide) rfl (y_len rfl ti72 rfl) (by decide) ?_
                  refine OL_yg (v := .bool false) rfl (by decide) rfl (y_gtrF hdd rfl rfl) (by decide) ?_
                  refine OL_y (y_pick (b := false) (v := .bool false) rfl rfl) (by decide) ?_
                  refine OL_y (v := .bool false) (y_move rfl) (by decide) ?_
                  refine OL_yg rfl (by decide) rfl (y_fieldAddr ti78 rfl ti30 rfl rfl) (by decide) ?_
                  refine OL_yg rfl (by decide) rfl (y_loadS (v := .slice a7 c.keys.length c7) ti30 rfl rfl (Cells.unit (H.getOwn 0 rfl) rfl)) (by decide) ?_
                  refine OL_yg rfl (by decide) rfl (y_len rfl ti30 rfl) (by decide) ?_
                  refine OL_yg (v := .bool false) rfl (by decide) rfl (y_gtrF hee rfl rfl) (by decide) ?_
                  refine OL_y (y_pick (b := false) (v := .bool false) rfl rfl) (by decide) ?_
                  refine OL_y (v := .bool false) (y_move rfl) (by decide) ?_
                  refine OL_yg rfl (by decide) rfl (y_fieldAddr ti78 rfl ti76 rfl rfl) (by decide) ?_
                  refine OL_yg rfl (by decide) rfl (y_fieldAddr ti76 rfl ti73 rfl rfl) (by decide) ?_
                  refine OL_yg rfl (by decide) rfl (y_loadS (v := .slice a8 c.tb.cols.length c8) ti73 rfl rfl (Cells.unit (H.getOwn 0 rfl) rfl)) (by decide) ?_
                  refine OL_yg rfl (by decide) rfl (y_len rfl ti73 rfl) (by decide) ?_
                  refine OL_yg (v := .bool false) rfl (by decide) rfl (y_gtrF hgg rfl rfl) (by decide) ?_
                  refine OL_y (y_pick (b := false) (v := .bool false) rfl rfl) (by decide) ?_
                  refine OL_y (v := .bool false) (y_move rfl) (by decide) ?_
                  refine OL_yg rfl (by decide) rfl (y_fieldAddr ti78 rfl ti76 rfl rfl) (by decide) ?_
                  refine OL_yg rfl (by decide) rfl (y_fieldAddr ti76 rfl ti74 rfl rfl) (by decide) ?_
                  refine OL_yg rfl (by decide) rfl (y_loadS (v := .slice a9 c.tb.idx.length c9) ti74 rfl rfl (Cells.unit (H.getOwn 0 rfl) rfl)) (by decide) ?_
                  refine OL_yg rfl (by decide) rfl (y_len rfl ti74 rfl) (by decide) ?_
                  refine OL_yg (v := .bool false) rfl (by decide) rfl (y_gtrF hhh rfl rfl) (by decide) ?_
                  refine OL_y (y_pick (b := false) (v := .bool false) rfl rfl) (by decide) ?_
                  refine OL_y (v := .bool false) (y_move rfl) (by decide) ?_
                  refine OL_yg rfl (by decide) rfl (y_fieldAddr ti78 rfl ti76 rfl rfl) (by decide) ?_
                  refine OL_yg rfl (by decide) rfl (y_fieldAddr ti76 rfl ti9 rfl rfl) (by decide) ?_
                  refine OL_yg rfl (by decide) rfl (y_loadS (v := .string c.tb.name) ti9 rfl rfl (Cells.unit (H.getOwn 0 rfl) rfl)) (by decide) ?_
                  refine OL_yg rfl (by decide) rfl (y_lenStr rfl Try.underlying9 rfl) (by decide) ?_
                  refine OL_yg (v := .bool true) rfl (by decide) rfl (y_gtrT hkk rfl rfl) (by decide) ?_
                  refine OL_y (y_pick (b := false) (v := .bool true) rfl rfl) (by decide) ?_
                  refine OL_nil ?_
                  refine W_condt rfl ?_
                  refine W_seq ?_
                  refine W_region ?_
                  refine OL_y (v := .bool false) (y_assign rfl) (by decide) ?_
                  refine OL_nil ?_
                  refine W_ret ?_
                  show RetOK _ _ _ _ _ _
                  exact ret1 (v := .bool false) Try.results29 rfl ⟨false, rfl, H.ext_of 1 rfl, fun h => by cases h⟩
                · refine W_region ?_
                  refine OL_y (y_fieldAddr ti78 rfl ti23 rfl rfl) (by decide) ?_
                  refine OL_y (y_loadS (v := .slice a3 c.lo.length c3) ti23 rfl rfl (Cells.unit (H.getOwn 0 rfl) rfl)) (by decide) ?_
                  refine OL_y (y_len rfl ti23 rfl) (by decide) ?_
                  refine OL_y (y_fieldAddr ti78 rfl ti23 rfl rfl) (by decide) ?_
                  refine OL_y (y_loadS (v := .slice a4 c.hi.length c4) ti23 rfl rfl (Cells.unit (H.getOwn 0 rfl) rfl)) (by decide) ?_
                  refine OL_y (y_len rfl ti23 rfl) (by decide) ?_
                  refine OL_y (y_add64 rfl rfl (by omega) (by omega)) (by decide) ?_
                  refine OL_y (y_fieldAddr ti78 rfl ti70 rfl rfl) (by decide) ?_
                  refine OL_y (y_fieldAddr ti70 rfl ti23 rfl rfl) (by decide) ?_
                  refine OL_y (y_loadS (v := .slice a1 c.lk.lo.length c1) ti23 rfl rfl (Cells.unit (H.getOwn 0 rfl) rfl)) (by decide) ?_
                  refine OL_y (y_len rfl ti23 rfl) (by decide) ?_
                  refine OL_y (y_add64 rfl rfl (by omega) (by omega)) (by decide) ?_
                  refine OL_y (y_fieldAddr ti78 rfl ti70 rfl rfl) (by decide) ?_
                  refine OL_y (y_fieldAddr ti70 rfl ti23 rfl rfl) (by decide) ?_
                  refine OL_y (y_loadS (v := .slice a2 c.lk.hi.length c2) ti23 rfl rfl (Cells.unit (H.getOwn 0 rfl) rfl)) (by decide) ?_
                  refine OL_y (y_len rfl ti23 rfl) (by decide) ?_
                  refine OL_y (y_add64 rfl rfl (by omega) (by omega)) (by decide) ?_
                  refine OL_y (v := .bool false) (y_gtrF haa rfl rfl) (by decide) ?_
                  refine OL_y (v := .bool false) (y_move rfl) (by decide) ?_
                  refine OL_yg rfl (by decide) rfl (y_fieldAddr ti78 rfl ti71 rfl rfl) (by decide) ?_
                  refine OL_yg rfl (by decide) rfl (y_loadS (v := .slice a5 c.txns.length c5) ti71 rfl rfl (Cells.unit (H.getOwn 0 rfl) rfl)) (by decide) ?_
                  refine OL_yg rfl (by decide) rfl (y_len rfl ti71 rfl) (by decide) ?_
                  refine OL_yg (v := .bool false) rfl (by decide) rfl (y_gtrF hbb rfl rfl) (by decide) ?_
                  refine OL_y (y_pick (b := false) (v := .bool false) rfl rfl) (by decide) ?_
                  refine OL_y (v := .bool false) (y_move rfl) (by decide) ?_
                  refine OL_yg rfl (by decide) rfl (y_fieldAddr ti78 rfl ti72 rfl rfl) (by decide) ?_
                  refine OL_yg rfl (by decide) rfl (y_loadS (v := .slice a6 c.writes.length c6) ti72 rfl rfl (Cells.unit (H.getOwn 0 rfl) rfl)) (by decide) ?_
                  refine OL_yg rfl (by decide) rfl (y_len rfl ti72 rfl) (by decide) ?_
                  refine OL_yg (v := .bool false) rfl (by decide) rfl (y_gtrF hdd rfl rfl) (by decide) ?_
                  refine OL_y (y_pick (b := false) (v := .bool false) rfl rfl) (by decide) ?_
                  refine OL_y (v := .bool false) (y_move rfl) (by decide) ?_
                  refine OL_yg rfl (by decide) rfl (y_fieldAddr ti78 rfl ti30 rfl rfl) (by decide) ?_
                  refine OL_yg rfl (by decide) rfl (y_loadS (v := .slice a7 c.keys.length c7) ti30 rfl rfl (Cells.unit (H.getOwn 0 rfl) rfl)) (by decide) ?_
                  refine OL_yg rfl (by decide) rfl (y_len rfl ti30 rfl) (by decide) ?_
                  refine OL_yg (v := .bool false) rfl (by decide) rfl (y_gtrF hee rfl rfl) (by decide) ?_
                  refine OL_y (y_pick (b := false) (v := .bool false) rfl rfl) (by decide) ?_
                  refine OL_y (v := .bool false) (y_move rfl) (by decide) ?_
                  refine OL_yg rfl (by decide) rfl (y_fieldAddr ti78 rfl ti76 rfl rfl) (by decide) ?_
                  refine OL_yg rfl (by decide) rfl (y_fieldAddr ti76 rfl ti73 rfl rfl) (by decide) ?_
                  refine OL_yg rfl (by decide) rfl (y_loadS (v := .slice a8 c.tb.cols.length c8) ti73 rfl rfl (Cells.unit (H.getOwn 0 rfl) rfl)) (by decide) ?_
                  refine OL_yg rfl (by decide) rfl (y_len rfl ti73 rfl) (by decide) ?_
                  refine OL_yg (v := .bool false) rfl (by decide) rfl (y_gtrF hgg rfl rfl) (by decide) ?_
                  refine OL_y (y_pick (b := false) (v := .bool false) rfl rfl) (by decide) ?_
                  refine OL_y (v := .bool false) (y_move rfl) (by decide) ?_
                  refine OL_yg rfl (by decide) rfl (y_fieldAddr ti78 rfl ti76 rfl rfl) (by decide) ?_
                  refine OL_yg rfl (by decide) rfl (y_fieldAddr ti76 rfl ti74 rfl rfl) (by decide) ?_
                  refine OL_yg rfl (by decide) rfl (y_loadS (v := .slice a9 c.tb.idx.length c9) ti74 rfl rfl (Cells.unit (H.getOwn 0 rfl) rfl)) (by decide) ?_
                  refine OL_yg rfl (by decide) rfl (y_len rfl ti74 rfl) (by decide) ?_
                  refine OL_yg (v := .bool false) rfl (by decide) rfl (y_gtrF hhh rfl rfl) (by decide) ?_
                  refine OL_y (y_pick (b := false) (v := .bool false) rfl rfl) (by decide) ?_
                  refine OL_y (v := .bool false) (y_move rfl) (by decide) ?_
                  refine OL_yg rfl (by decide) rfl (y_fieldAddr ti78 rfl ti76 rfl rfl) (by decide) ?_
                  refine OL_yg rfl (by decide) rfl (y_fieldAddr ti76 rfl ti9 rfl rfl) (by decide) ?_
                  refine OL_yg rfl (by decide) rfl (y_loadS (v := .string c.tb.name) ti9 rfl rfl (Cells.unit (H.getOwn 0 rfl) rfl)) (by decide) ?_
                  refine OL_yg rfl (by decide) rfl (y_lenStr rfl Try.underlying9 rfl) (by decide) ?_
                  refine OL_yg (v := .bool false) rfl (by decide) rfl (y_gtrF hkk rfl rfl) (by decide) ?_
                  refine OL_y (y_pick (b := false) (v := .bool false) rfl rfl) (by decide) ?_
                  refine OL_nil ?_
                  refine W_condf rfl ?_
                  refine W_skip ?_
                  refine W_seq ?_
                  refine W_seq ?_
                  refine W_region ?_
                  refine OL_y (y_fieldAddr ti78 rfl ti72 rfl rfl) (by decide) ?_
                  refine OL_y (y_loadS (v := .slice a6 c.writes.length c6) ti72 rfl rfl (Cells.unit (H.getOwn 0 rfl) rfl)) (by decide) ?_
                  refine OL_y (y_len rfl ti72 rfl) (by decide) ?_
                  refine OL_y (y_move rfl) (by decide) ?_
                  refine OL_nil ?_
                  refine W_range (N := c.writes.length) (by simp only [maxLen]; omega) (fun k f ds w' => f 0 = .slice al l.length cl ∧ f 4 = .pointer (some ⟨b4, 0, none⟩) ∧ f 11 = .slice al l.length cl ∧ f 12 = .int .i64 (l.length : Nat) ∧ f 13 = .int .i64 (j : Nat) ∧ f 75 = .slice a6 c.writes.length c6 ∧ ds = [] ∧ (∀ x ∈ c.writes.take k, x.key.length ≤ 300) ∧ Holds w' [own b4 (.cells #[.int .u64 c.client, .int .u64 c.seq, .int .i64 c.kind, .int .u64 c.txn, .int .u64 c.ts, .bool c.flag, .int .u64 c.lk.txn, .int .i64 c.lk.level, .int .i64 c.lk.mode, .slice a1 c.lk.lo.length c1, .slice a2 c.lk.hi.length c2, .slice a3 c.lo.length c3, .slice a4 c.hi.length c4, .slice a5 c.txns.length c5, .slice a6 c.writes.length c6, .slice a7 c.keys.length c7, .int .i64 c.tb.id, .string c.tb.name, .slice a8 c.tb.cols.length c8, .int .i64 c.tb.key, .slice a9 c.tb.idx.length c9] 78), shr (fun k => k < w.heap.size) w])
                      ⟨h0, rfl, h11, htn, hti, rfl, rfl, by simp, H⟩
                      rfl rfl (by decide) (by decide) (by decide) rfl rfl ?_ rfl rfl ?_
                  · rintro k f ds w5 hk2 ⟨h0, h4, h11, h12, h13, h75, rfl, hok2, H⟩ htk htn2
                    have hxk := List.getElem?_eq_getElem hk2
                    have hsn2 : c.writes.take (k + 1) = c.writes.take k ++ [c.writes[k]] := by rw [List.take_add_one, hxk]; rfl
                    obtain ⟨by_, oy, csy, ey, hzy, hcy, hry⟩ := hwr.at hxk
                    have hcy' := hcy.ext ((H.keepsAll 1 rfl (fun _ => True)).2 _ trivial hcy.lt)
                    generalize c.writes[k] = x at *
                    have honey := tWr.one hry
                    obtain ⟨vk, vv, rfl, hk9, hv9⟩ := wr_cells.1 hry
                    have q5 := hk9.len1 (by decide)
                    have q6 := hv9.len1 (by decide)
                    obtain ⟨ak9, ck9, rfl, -, -⟩ := hk9.len
                    obtain ⟨av9, cv9, rfl, -, -⟩ := hv9.len
                    have h75' := h75.trans (congrArg (Value.slice · _ _) ey)
                    refine W_block ?_
                    refine W_seq ?_
                    refine W_region ?_
                    refine OL_y (y_indexAddr ti72 ti89 h75' htk (by omega) (by omega)) (by decide) ?_
                    refine OL_y (y_loadA (cs := [.slice ak9 x.key.length ck9, .bool x.dead, .slice av9 x.val.length cv9]) ti89 rfl rfl hcy' rfl) (by decide) ?_
                    refine OL_var (v := .agg #[.slice ak9 x.key.length ck9, .bool x.dead, .slice av9 x.val.length cv9]) H ti89 rfl (by decide) (fun _ => rfl) rfl (honey) fun b6 w8_2 H => ?_
                    refine OL_nil ?_
                    refine W_seq ?_
                    by_cases hw : (300 : Int) < ((x.key.length : Nat) : Int) + (x.val.length : Nat)
                    · refine W_region ?_
                      refine OL_y (y_fieldAddr ti89 rfl ti23 rfl rfl) (by decide) ?_
                      refine OL_y (y_loadS (v := .slice ak9 x.key.length ck9) ti23 rfl rfl (Cells.unit (H.getOwn 0 rfl) rfl)) (by decide) ?_
                      refine OL_y (y_len rfl ti23 rfl) (by decide) ?_
                      refine OL_y (y_fieldAddr ti89 rfl ti23 rfl rfl) (by decide) ?_
                      refine OL_y (y_loadS (v := .slice av9 x.val.length cv9) ti23 rfl rfl (Cells.unit (H.getOwn 0 rfl) rfl)) (by decide) ?_
                      refine OL_y (y_len rfl ti23 rfl) (by decide) ?_
                      refine OL_y (y_add64 rfl rfl (by omega) (by omega)) (by decide) ?_
                      refine OL_y (v := .bool true) (y_gtrT hw rfl rfl) (by decide) ?_
                      refine OL_nil ?_
                      refine W_condt rfl ?_
                      refine W_seq ?_
                      refine W_region ?_
                      refine OL_y (v := .bool false) (y_assign rfl) (by decide) ?_
                      refine OL_nil ?_
                      refine W_ret ?_
                      show RetOK _ _ _ _ _ _
                      exact ret1 (v := .bool false) Try.results29 rfl ⟨false, rfl, H.ext_of 2 rfl, fun h => by cases h⟩
                    · refine W_region ?_
                      refine OL_y (y_fieldAddr ti89 rfl ti23 rfl rfl) (by decide) ?_
                      refine OL_y (y_loadS (v := .slice ak9 x.key.length ck9) ti23 rfl rfl (Cells.unit (H.getOwn 0 rfl) rfl)) (by decide) ?_
                      refine OL_y (y_len rfl ti23 rfl) (by decide) ?_
                      refine OL_y (y_fieldAddr ti89 rfl ti23 rfl rfl) (by decide) ?_
                      refine OL_y (y_loadS (v := .slice av9 x.val.length cv9) ti23 rfl rfl (Cells.unit (H.getOwn 0 rfl) rfl)) (by decide) ?_
                      refine OL_y (y_len rfl ti23 rfl) (by decide) ?_
                      refine OL_y (y_add64 rfl rfl (by omega) (by omega)) (by decide) ?_
                      refine OL_y (v := .bool false) (y_gtrF hw rfl rfl) (by decide) ?_
                      refine OL_nil ?_
                      refine W_condf rfl ?_
                      refine W_skip ?_
                      refine ⟨htk, htn2, h0, h4, h11, h12, h13, h75, rfl, fun y hy => ?_, H.tail⟩
                      rw [hsn2] at hy
                      rcases List.mem_append.1 hy with hy | hy
                      · exact hok2 y hy
                      · have : y = x := by simpa using hy
                        subst this; omega
                  · rintro f ds w5 ⟨h0, h4, h11, h12, h13, h75, rfl, hok2, H⟩ htk htn2
                    rw [List.take_length] at hok2
                    have hcc : Smc c := ⟨by omega, by omega, hok2⟩
                    refine W_seq ?_
                    refine W_seq ?_
                    refine W_region ?_
                    refine OL_y (y_fieldAddr ti78 rfl ti30 rfl h4) (by decide) ?_
                    refine OL_y (y_loadS (v := .slice a7 c.keys.length c7) ti30 rfl rfl (Cells.unit (H.getOwn 0 rfl) rfl)) (by decide) ?_
                    refine OL_y (y_len rfl ti30 rfl) (by decide) ?_
                    refine OL_y (y_move rfl) (by decide) ?_
                    refine OL_nil ?_
                    refine W_range (N := c.keys.length) (by simp only [maxLen]; omega) (fun k f ds w' => f 0 = .slice al l.length cl ∧ f 4 = .pointer (some ⟨b4, 0, none⟩) ∧ f 11 = .slice al l.length cl ∧ f 12 = .int .i64 (l.length : Nat) ∧ f 13 = .int .i64 (j : Nat) ∧ f 91 = .slice a7 c.keys.length c7 ∧ ds = [] ∧ Holds w' [own b4 (.cells #[.int .u64 c.client, .int .u64 c.seq, .int .i64 c.kind, .int .u64 c.txn, .int .u64 c.ts, .bool c.flag, .int .u64 c.lk.txn, .int .i64 c.lk.level, .int .i64 c.lk.mode, .slice a1 c.lk.lo.length c1, .slice a2 c.lk.hi.length c2, .slice a3 c.lo.length c3, .slice a4 c.hi.length c4, .slice a5 c.txns.length c5, .slice a6 c.writes.length c6, .slice a7 c.keys.length c7, .int .i64 c.tb.id, .string c.tb.name, .slice a8 c.tb.cols.length c8, .int .i64 c.tb.key, .slice a9 c.tb.idx.length c9] 78), shr (fun k => k < w.heap.size) w])
                        ⟨h0, h4, h11, h12, h13, rfl, rfl, H⟩
                        rfl rfl (by decide) (by decide) (by decide) rfl rfl ?_ rfl rfl ?_
                    · rintro k f ds w6 hk2 ⟨h0, h4, h11, h12, h13, h91, rfl, H⟩ htk htn2
                      have hxk := List.getElem?_eq_getElem hk2
                      obtain ⟨by_, oy, csy, ey, hzy, hcy, vk, rfl, hk9⟩ := hke.at hxk
                      have hcy' := hcy.ext ((H.keepsAll 1 rfl (fun _ => True)).2 _ trivial hcy.lt)
                      generalize c.keys[k] = x at *
                      obtain ⟨ak9, ck9, rfl, -, -⟩ := hk9.len
                      have h91' := h91.trans (congrArg (Value.slice · _ _) ey)
                      refine W_block ?_
                      refine W_seq ?_
                      refine W_region ?_
                      refine OL_y (y_indexAddr ti30 ti23 h91' htk (by omega) (by omega)) (by decide) ?_
                      refine OL_y (y_loadS (v := .slice ak9 x.length ck9) ti23 rfl rfl hcy') (by decide) ?_
                      refine OL_y (y_assign rfl) (by decide) ?_
                      refine OL_nil ?_
                      refine W_seq ?_
                      by_cases hw : (100 : Int) < ((x.length : Nat) : Int)
                      · refine W_region ?_
                        refine OL_y (y_move rfl) (by decide) ?_
                        refine OL_y (y_len rfl ti23 rfl) (by decide) ?_
                        refine OL_y (v := .bool true) (y_gtrT hw rfl rfl) (by decide) ?_
                        refine OL_nil ?_
                        refine W_condt rfl ?_
                        refine W_seq ?_
                        refine W_region ?_
                        refine OL_y (v := .bool false) (y_assign rfl) (by decide) ?_
                        refine OL_nil ?_
                        refine W_ret ?_
                        show RetOK _ _ _ _ _ _
                        exact ret1 (v := .bool false) Try.results29 rfl ⟨false, rfl, H.ext_of 1 rfl, fun h => by cases h⟩
                      · refine W_region ?_
                        refine OL_y (y_move rfl) (by decide) ?_
                        refine OL_y (y_len rfl ti23 rfl) (by decide) ?_
                        refine OL_y (v := .bool false) (y_gtrF hw rfl rfl) (by decide) ?_
                        refine OL_nil ?_
                        refine W_condf rfl ?_
                        refine W_skip ?_
                        exact ⟨htk, htn2, h0, h4, h11, h12, h13, h91, rfl, H⟩
                    · rintro f ds w6 ⟨h0, h4, h11, h12, h13, h91, rfl, H⟩ htk htn2
                      refine W_seq ?_
                      refine W_region ?_
                      refine OL_y (y_fieldAddr ti78 rfl ti76 rfl h4) (by decide) ?_
                      refine OL_y (y_fieldAddr ti76 rfl ti73 rfl rfl) (by decide) ?_
                      refine OL_y (y_loadS (v := .slice a8 c.tb.cols.length c8) ti73 rfl rfl (Cells.unit (H.getOwn 0 rfl) rfl)) (by decide) ?_
                      refine OL_y (y_len rfl ti73 rfl) (by decide) ?_
                      refine OL_y (y_move rfl) (by decide) ?_
                      refine OL_nil ?_
                      refine W_range (N := c.tb.cols.length) (by simp only [maxLen]; omega) (fun k f ds w' => f 0 = .slice al l.length cl ∧ f 4 = .pointer (some ⟨b4, 0, none⟩) ∧ f 11 = .slice al l.length cl ∧ f 12 = .int .i64 (l.length : Nat) ∧ f 13 = .int .i64 (j : Nat) ∧ f 103 = .slice a8 c.tb.cols.length c8 ∧ ds = [] ∧ Holds w' [own b4 (.cells #[.int .u64 c.client, .int .u64 c.seq, .int .i64 c.kind, .int .u64 c.txn, .int .u64 c.ts, .bool c.flag, .int .u64 c.lk.txn, .int .i64 c.lk.level, .int .i64 c.lk.mode, .slice a1 c.lk.lo.length c1, .slice a2 c.lk.hi.length c2, .slice a3 c.lo.length c3, .slice a4 c.hi.length c4, .slice a5 c.txns.length c5, .slice a6 c.writes.length c6, .slice a7 c.keys.length c7, .int .i64 c.tb.id, .string c.tb.name, .slice a8 c.tb.cols.length c8, .int .i64 c.tb.key, .slice a9 c.tb.idx.length c9] 78), shr (fun k => k < w.heap.size) w])
                          ⟨h0, h4, h11, h12, h13, rfl, rfl, H⟩
                          rfl rfl (by decide) (by decide) (by decide) rfl rfl ?_ rfl rfl ?_
                      · rintro k f ds w7 hk2 ⟨h0, h4, h11, h12, h13, h103, rfl, H⟩ htk htn2
                        have hxk := List.getElem?_eq_getElem hk2
                        obtain ⟨by_, oy, csy, ey, hzy, hcy, hry⟩ := hco.at hxk
                        have hcy' := hcy.ext ((H.keepsAll 1 rfl (fun _ => True)).2 _ trivial hcy.lt)
                        generalize c.tb.cols[k] = x at *
                        have honey := tCo.one hry
                        obtain ⟨_, _, rfl, ⟨rfl, -⟩, _, _, rfl, ⟨rfl, -⟩, ⟨rfl, -⟩⟩ := hry
                        have h103' := h103.trans (congrArg (Value.slice · _ _) ey)
                        refine W_block ?_
                        refine W_seq ?_
                        refine W_region ?_
                        refine OL_y (y_indexAddr ti73 ti120 h103' htk (by omega) (by omega)) (by decide) ?_
                        refine OL_y (y_loadA (cs := [.string x.name, .int .i64 x.kind, .bool x.nn]) ti120 rfl rfl hcy' rfl) (by decide) ?_
                        refine OL_var (v := .agg #[.string x.name, .int .i64 x.kind, .bool x.nn]) H ti120 rfl (by decide) (fun _ => rfl) rfl (honey) fun b10 w20_2 H => ?_
                        refine OL_nil ?_
                        refine W_seq ?_
                        by_cases hw : (100 : Int) < ((x.name.size : Nat) : Int)
                        · refine W_region ?_
                          refine OL_y (y_fieldAddr ti120 rfl ti9 rfl rfl) (by decide) ?_
                          refine OL_y (y_loadS (v := .string x.name) ti9 rfl rfl (Cells.unit (H.getOwn 0 rfl) rfl)) (by decide) ?_
                          refine OL_y (y_lenStr rfl Try.underlying9 rfl) (by decide) ?_
                          refine OL_y (v := .bool true) (y_gtrT hw rfl rfl) (by decide) ?_
                          refine OL_nil ?_
                          refine W_condt rfl ?_
                          refine W_seq ?_
                          refine W_region ?_
                          refine OL_y (v := .bool false) (y_assign rfl) (by decide) ?_
                          refine OL_nil ?_
                          refine W_ret ?_
                          show RetOK _ _ _ _ _ _
                          exact ret1 (v := .bool false) Try.results29 rfl ⟨false, rfl, H.ext_of 2 rfl, fun h => by cases h⟩
                        · refine W_region ?_
                          refine OL_y (y_fieldAddr ti120 rfl ti9 rfl rfl) (by decide) ?_
                          refine OL_y (y_loadS (v := .string x.name) ti9 rfl rfl (Cells.unit (H.getOwn 0 rfl) rfl)) (by decide) ?_
                          refine OL_y (y_lenStr rfl Try.underlying9 rfl) (by decide) ?_
                          refine OL_y (v := .bool false) (y_gtrF hw rfl rfl) (by decide) ?_
                          refine OL_nil ?_
                          refine W_condf rfl ?_
                          refine W_skip ?_
                          exact ⟨htk, htn2, h0, h4, h11, h12, h13, h103, rfl, H.tail⟩
                      · rintro f ds w7 ⟨h0, h4, h11, h12, h13, h103, rfl, H⟩ htk htn2
                        refine ⟨h13, h12, h0, h11, rfl, fun y hy => ?_, H.tail⟩
                        rw [hsn] at hy
                        rcases List.mem_append.1 hy with hy | hy
                        · exact hok y hy
                        · have : y = c := by simpa using hy
                          subst this; exact hcc
  · rintro f ds w3 ⟨h0, h11, rfl, hok, H⟩ hti htn
    rw [List.take_length] at hok
    refine W_seq ?_
    refine W_region ?_
    refine OL_y (y_move h0) (by decide) ?_
    refine OL_y (y_len rfl ti57 rfl) (by decide) ?_
    refine OL_y (y_leq rfl rfl) (by decide) ?_
    refine OL_y (y_assign rfl) (by decide) ?_
    refine OL_nil ?_
    refine W_ret ?_
    show RetOK _ _ _ _ _ _
    exact ret1 (v := .bool (decide (((l.length : Nat) : Int) ≤ 40))) Try.results29 rfl ⟨_, rfl, H.ext_of 0 rfl, fun h => ⟨by have := of_decide_eq_true h; omega, hok⟩⟩
end Go.Proofs.Ytpandioolpnihaa

namespace Go.Proofs.Ytpandioolpnihaa
open Go Go.Wk
set_option linter.unusedVariables false
set_option linter.unusedSimpArgs false

set_option maxHeartbeats 16000000 in
theorem f24_calls {Z Z' : Nat → Prop} {w : World} {va vb : Value} {xs ys : List Cl} (hx : SlR tCl 120 Z w va xs) (hy : SlR tCl 120 Z' w vb ys) :
    Calls Try.prog 24 [va, vb].toArray w fun e w' => e = .returned (.bool (decide (xs = ys))) ∧ Ext none' w w' := by
  have H := Holds.start w
  have hN := hx.len1 (by decide)
  have hM := hy.len1 (by decide)
  obtain ⟨a0, c0, rfl, hl0, hm0⟩ := hx.len
  obtain ⟨a1, c1, rfl, hl1, hm1⟩ := hy.len
  refine calls_of_W' Try.func24 rfl Try.ntmps24 rfl ?_
  refine W_seq ?_
  refine W_region ?_
  refine OL_y (v := .bool false) (y_assign rfl) (by decide) ?_
  refine OL_nil ?_
  refine W_seq ?_
  refine W_seq ?_
  refine W_region ?_
  refine OL_y (y_move rfl) (by decide) ?_
  refine OL_y (y_len rfl ti49 rfl) (by decide) ?_
  refine OL_y (y_move rfl) (by decide) ?_
  refine OL_y (y_len rfl ti49 rfl) (by decide) ?_
  refine OL_y (y_neq rfl rfl) (by decide) ?_
  refine OL_nil ?_
  refine W_cond rfl (fun hc => ?_) (fun hc => ?_)
  · refine W_seq ?_
    refine W_region ?_
    refine OL_y (v := .bool false) (y_assign rfl) (by decide) ?_
    refine OL_nil ?_
    refine W_ret ?_
    show RetOK _ _ _ _ _ _
    have hc := of_decide_eq_true hc
    exact ret1 (v := .bool false) Try.results24 rfl ⟨by rw [decide_eq_false (fun h => hc (by rw [h]))], H.ext_of 0 rfl⟩
  · refine W_skip ?_
    refine W_seq ?_
    refine W_seq ?_
    have hlen : xs.length = ys.length := by have := of_decide_eq_false hc; omega
    refine W_region ?_
    refine OL_y (y_move rfl) (by decide) ?_
    refine OL_y (y_len rfl ti49 rfl) (by decide) ?_
    refine OL_y (y_move rfl) (by decide) ?_
    refine OL_nil ?_
    refine W_range (N := xs.length) (by omega) (fun j f ds w' => f 0 = .slice a0 xs.length c0 ∧ f 1 = .slice a1 ys.length c1 ∧ ds = [] ∧ xs.take j = ys.take j ∧ Holds w' [shr (fun k => k < w.heap.size) w])
        ⟨rfl, rfl, rfl, by simp, H⟩
        rfl rfl (by decide) (by decide) (by decide) rfl rfl ?_ rfl rfl ?_
    · rintro j f ds w2 hj ⟨h0, h1, rfl, heq, H⟩ hti htn
      have hxj := List.getElem?_eq_getElem hj
      have hyj : ys[j]? = some (ys[j]'(by omega)) := List.getElem?_eq_getElem (by omega)
      obtain ⟨b2, o2, cs2, e2, hz2, hc2, hr2⟩ := hx.at hxj
      obtain ⟨b3, o3, cs3, e3, hz3, hc3, hr3⟩ := hy.at hyj
      have htx : xs.take (j + 1) = xs.take j ++ [xs[j]] := by rw [List.take_add_one, hxj]; rfl
      have hty : ys.take (j + 1) = ys.take j ++ [ys[j]'(by omega)] := by rw [List.take_add_one, hyj]; rfl
      generalize xs[j] = x at *
      generalize ys[j]'(by omega) = y at *
      obtain ⟨xk, xv, _, rfl, hxk, hxv, hxi⟩ := cl_cells.1 hr2
      obtain ⟨yk, yv, _, rfl, hyk, hyv, hyi⟩ := cl_cells.1 hr3
      obtain ⟨xa, xb, rfl, -⟩ := ver_cells.1 hxi
      obtain ⟨ya, yb, rfl, -⟩ := ver_cells.1 hyi
      obtain ⟨ax, cx, rfl, hlx, hmx⟩ := hxv.len
      obtain ⟨ay, cy, rfl, hly, hmy⟩ := hyv.len
      have hLx := hxv.len1 (by decide)
      have hLy := hyv.len1 (by decide)
      have hCx : ∀ {w'}, Holds w' [shr (fun k => k < w.heap.size) w] → Cells w' b2 (o2 + j * 7) [xk, .slice ax x.vers.length cx, .int .u64 x.intent.ts, .int .u64 x.intent.txn, .bool x.intent.dead, xa, xb] := fun {w'} h => hc2.ext ((h.keepsAll 0 rfl Z).2 _ hz2 hc2.lt)
      have hCy : ∀ {w'}, Holds w' [shr (fun k => k < w.heap.size) w] → Cells w' b3 (o3 + j * 7) [yk, .slice ay y.vers.length cy, .int .u64 y.intent.ts, .int .u64 y.intent.txn, .bool y.intent.dead, ya, yb] := fun {w'} h => hc3.ext ((h.keepsAll 0 rfl Z').2 _ hz3 hc3.lt)
      refine W_block ?_
      refine W_seq ?_
      refine W_region ?_
      refine OL_y (y_move hti) (by decide) ?_
      refine OL_y (y_assign rfl) (by decide) ?_
      refine OL_nil ?_
      refine W_seq ?_
      refine W_seq ?_
      by_cases hk : kb x.key = kb y.key
      · by_cases hi : x.intent = y.intent
        · by_cases hl : ((x.vers.length : Nat) : Int) = ((y.vers.length : Nat) : Int)
          · refine W_drawD H mixed (by kernel_rfl) [] (fun wq w' => Holds w' [shr (fun k => k < w.heap.size) w]) fun wd6 H hEd => ?_
            have hS : ∀ {ls : Array Bool}, Sx [] (fun w' => Holds w' [shr (fun k => k < w.heap.size) w]) ls wd6 := fun {_} _ => H
            refine DA_p 0 rfl (by kernel_rfl) rfl (fun _ => y_move h0) hS (by decide) fun hS => ?_
            refine DA_p 1 rfl (by kernel_rfl) rfl (fun _ => y_move rfl) hS (by decide) fun hS => ?_
            refine DA_p 2 rfl (by kernel_rfl) rfl (fun _ => y_indexAddr ti49 ti55 (congrArg (Value.slice · _ _) e2) rfl (by omega) (by omega)) hS (by decide) fun hS => ?_
            refine DA_p 3 rfl (by kernel_rfl) rfl (fun _ => y_fieldAddr ti55 rfl ti23 rfl rfl) hS (by decide) fun hS => ?_
            refine DA_y 4 rfl (by kernel_rfl) rfl (by kernel_rfl) (fun w' h => y_loadS (v := xk) ti23 rfl rfl ((hCx h).take 0 rfl)) hS (by decide) fun hS => ?_
            refine DA_y 5 rfl (by kernel_rfl) rfl (by kernel_rfl) (fun w' h => y_toStr (w := w') Try.underlying23 Try.underlying5 Try.underlying9 rfl (hxk.keeps (h.keepsAll 0 rfl _))) hS (by decide) fun hS => ?_
            refine DA_p 6 rfl (by kernel_rfl) rfl (fun _ => y_move h1) hS (by decide) fun hS => ?_
            refine DA_p 7 rfl (by kernel_rfl) rfl (fun _ => y_move rfl) hS (by decide) fun hS => ?_
            refine DA_p 8 rfl (by kernel_rfl) rfl (fun _ => y_indexAddr ti49 ti55 (congrArg (Value.slice · _ _) e3) rfl (by omega) (by omega)) hS (by decide) fun hS => ?_
            refine DA_p 9 rfl (by kernel_rfl) rfl (fun _ => y_fieldAddr ti55 rfl ti23 rfl rfl) hS (by decide) fun hS => ?_
            refine DA_y 10 rfl (by kernel_rfl) rfl (by kernel_rfl) (fun w' h => y_loadS (v := yk) ti23 rfl rfl ((hCy h).take 0 rfl)) hS (by decide) fun hS => ?_
            refine DA_y 11 rfl (by kernel_rfl) rfl (by kernel_rfl) (fun w' h => y_toStr (w := w') Try.underlying23 Try.underlying5 Try.underlying9 rfl (hyk.keeps (h.keepsAll 0 rfl _))) hS (by decide) fun hS => ?_
            refine DA_p (v := .bool false) 12 rfl (by kernel_rfl) rfl (fun _ => y_neqSF hk rfl rfl) hS (by decide) fun hS => ?_
            refine DA_p (v := .bool false) 13 rfl (by kernel_rfl) rfl (fun _ => y_move rfl) hS (by decide) fun hS => ?_
            refine DA_pg 14 rfl rfl (by decide) rfl (by kernel_rfl) rfl (fun _ => y_move h0) hS (by decide) fun hS => ?_
            refine DA_pg 15 rfl rfl (by decide) rfl (by kernel_rfl) rfl (fun _ => y_move rfl) hS (by decide) fun hS => ?_
            refine DA_pg 16 rfl rfl (by decide) rfl (by kernel_rfl) rfl (fun _ => y_indexAddr ti49 ti55 (congrArg (Value.slice · _ _) e2) rfl (by omega) (by omega)) hS (by decide) fun hS => ?_
            refine DA_pg 17 rfl rfl (by decide) rfl (by kernel_rfl) rfl (fun _ => y_fieldAddr ti55 rfl ti32 rfl rfl) hS (by decide) fun hS => ?_
            refine DA_yg 18 rfl rfl (by decide) rfl (by kernel_rfl) rfl (by kernel_rfl) (fun w' h => y_loadA (cs := [.int .u64 x.intent.ts, .int .u64 x.intent.txn, .bool x.intent.dead, xa, xb]) ti32 rfl rfl ((hCx h).take 2 rfl) rfl) hS (by decide) fun hS => ?_
            refine DA_pg 19 rfl rfl (by decide) rfl (by kernel_rfl) rfl (fun _ => y_move h1) hS (by decide) fun hS => ?_
            refine DA_pg 20 rfl rfl (by decide) rfl (by kernel_rfl) rfl (fun _ => y_move rfl) hS (by decide) fun hS => ?_
            refine DA_pg 21 rfl rfl (by decide) rfl (by kernel_rfl) rfl (fun _ => y_indexAddr ti49 ti55 (congrArg (Value.slice · _ _) e3) rfl (by omega) (by omega)) hS (by decide) fun hS => ?_
            refine DA_pg 22 rfl rfl (by decide) rfl (by kernel_rfl) rfl (fun _ => y_fieldAddr ti55 rfl ti32 rfl rfl) hS (by decide) fun hS => ?_
            refine DA_yg 23 rfl rfl (by decide) rfl (by kernel_rfl) rfl (by kernel_rfl) (fun w' h => y_loadA (cs := [.int .u64 y.intent.ts, .int .u64 y.intent.txn, .bool y.intent.dead, ya, yb]) ti32 rfl rfl ((hCy h).take 2 rfl) rfl) hS (by decide) fun hS => ?_
            refine DA_oneg 24 (by kernel_rfl) rfl rfl (by decide) rfl (op_call 15 en15 rfl [.agg #[.int .u64 x.intent.ts, .int .u64 x.intent.txn, .bool x.intent.dead, xa, xb], .agg #[.int .u64 y.intent.ts, .int .u64 y.intent.txn, .bool y.intent.dead, ya, yb]] rfl (by decide) ((f15_calls (tVer.keeps hxi (H.keepsAll 0 rfl _)) (tVer.keeps hyi (H.keepsAll 0 rfl _))).mono ?_))
            rintro e w6_24 ⟨rfl, hE15⟩
            refine ⟨_, rfl, fun _ => H.ext0 hE15, ?_⟩
            have H := H.ext0 hE15
            rw [decide_eq_true hi]
            have hS : ∀ {ls : Array Bool}, Sx [] (fun w' => Holds w' [shr (fun k => k < w.heap.size) w]) ls w6_24 := fun {_} _ => H
            refine DA_pg (v := .bool false) 25 rfl rfl (by decide) rfl (by kernel_rfl) rfl (fun _ => y_not (b := true) rfl) hS (by decide) fun hS => ?_
            refine DA_p 26 rfl (by kernel_rfl) rfl (fun _ => y_pick (b := false) (v := .bool false) rfl rfl) hS (by decide) fun hS => ?_
            refine DA_p (v := .bool false) 27 rfl (by kernel_rfl) rfl (fun _ => y_move rfl) hS (by decide) fun hS => ?_
            refine DA_pg 28 rfl rfl (by decide) rfl (by kernel_rfl) rfl (fun _ => y_move h0) hS (by decide) fun hS => ?_
            refine DA_pg 29 rfl rfl (by decide) rfl (by kernel_rfl) rfl (fun _ => y_move rfl) hS (by decide) fun hS => ?_
            refine DA_pg 30 rfl rfl (by decide) rfl (by kernel_rfl) rfl (fun _ => y_indexAddr ti49 ti55 (congrArg (Value.slice · _ _) e2) rfl (by omega) (by omega)) hS (by decide) fun hS => ?_
            refine DA_pg 31 rfl rfl (by decide) rfl (by kernel_rfl) rfl (fun _ => y_fieldAddr ti55 rfl ti53 rfl rfl) hS (by decide) fun hS => ?_
            refine DA_yg 32 rfl rfl (by decide) rfl (by kernel_rfl) rfl (by kernel_rfl) (fun w' h => y_loadS (v := .slice ax x.vers.length cx) ti53 rfl rfl ((hCx h).take 1 rfl)) hS (by decide) fun hS => ?_
            refine DA_pg 33 rfl rfl (by decide) rfl (by kernel_rfl) rfl (fun _ => y_len rfl ti53 rfl) hS (by decide) fun hS => ?_
            refine DA_pg 34 rfl rfl (by decide) rfl (by kernel_rfl) rfl (fun _ => y_move h1) hS (by decide) fun hS => ?_
            refine DA_pg 35 rfl rfl (by decide) rfl (by kernel_rfl) rfl (fun _ => y_move rfl) hS (by decide) fun hS => ?_
            refine DA_pg 36 rfl rfl (by decide) rfl (by kernel_rfl) rfl (fun _ => y_indexAddr ti49 ti55 (congrArg (Value.slice · _ _) e3) rfl (by omega) (by omega)) hS (by decide) fun hS => ?_
            refine DA_pg 37 rfl rfl (by decide) rfl (by kernel_rfl) rfl (fun _ => y_fieldAddr ti55 rfl ti53 rfl rfl) hS (by decide) fun hS => ?_
            refine DA_yg 38 rfl rfl (by decide) rfl (by kernel_rfl) rfl (by kernel_rfl) (fun w' h => y_loadS (v := .slice ay y.vers.length cy) ti53 rfl rfl ((hCy h).take 1 rfl)) hS (by decide) fun hS => ?_
            refine DA_pg 39 rfl rfl (by decide) rfl (by kernel_rfl) rfl (fun _ => y_len rfl ti53 rfl) hS (by decide) fun hS => ?_
            refine DA_pg (v := .bool false) 40 rfl rfl (by decide) rfl (by kernel_rfl) rfl (fun _ => y_neqF hl rfl rfl) hS (by decide) fun hS => ?_
            refine DA_p 41 rfl (by kernel_rfl) rfl (fun _ => y_pick (b := false) (v := .bool false) rfl rfl) hS (by decide) fun hS => ?_
            refine DA_done (by kernel_rfl) ?_
            refine W_condf rfl ?_
            refine W_skip ?_
            refine W_seq ?_
            refine W_region ?_
            refine OL_y (y_move h0) (by decide) ?_
            refine OL_y (y_move rfl) (by decide) ?_
            refine OL_y (y_indexAddr ti49 ti55 (congrArg (Value.slice · _ _) e2) rfl (by omega) (by omega)) (by decide) ?_
            refine OL_y (y_fieldAddr ti55 rfl ti53 rfl rfl) (by decide) ?_
            refine OL_y (y_loadS (v := .slice ax x.vers.length cx) ti53 rfl rfl ((hCx H).take 1 rfl)) (by decide) ?_
            refine OL_y (y_len rfl ti53 rfl) (by decide) ?_
            refine OL_y (y_move rfl) (by decide) ?_
            refine OL_nil ?_
            refine W_range (N := x.vers.length) (by omega) (fun k f ds w' => f 0 = .slice a0 xs.length c0 ∧ f 1 = .slice a1 ys.length c1 ∧ f 5 = .int .i64 (j : Nat) ∧ f 13 = .int .i64 (xs.length : Nat) ∧ f 14 = .int .i64 (j : Nat) ∧ ds = [] ∧ x.vers.take k = y.vers.take k ∧ Holds w' [shr (fun k => k < w.heap.size) w])
                ⟨h0, h1, rfl, htn, hti, rfl, by simp, H⟩
                rfl rfl (by decide) (by decide) (by decide) rfl rfl ?_ rfl rfl ?_
            · rintro k f ds w9 hk2 ⟨h0, h1, h5, h13, h14, rfl, heq2, H⟩ htk2 htn2
              have hxk2 := List.getElem?_eq_getElem hk2
              have hyk2 : y.vers[k]? = some (y.vers[k]'(by omega)) := List.getElem?_eq_getElem (by omega)
              obtain ⟨b4, o4, cs4, e4, hz4, hc4, hr4⟩ := hxv.at hxk2
              obtain ⟨b5, o5, cs5, e5, hz5, hc5, hr5⟩ := hyv.at hyk2
              have htx2 : x.vers.take (k + 1) = x.vers.take k ++ [x.vers[k]] := by rw [List.take_add_one, hxk2]; rfl
              have hty2 : y.vers.take (k + 1) = y.vers.take k ++ [y.vers[k]'(by omega)] := by rw [List.take_add_one, hyk2]; rfl
              generalize x.vers[k] = u at *
              generalize y.vers[k]'(by omega) = v at *
              refine W_block ?_
              refine W_seq ?_
              refine W_region ?_
              refine OL_y (y_move htk2) (by decide) ?_
              refine OL_y (y_assign rfl) (by decide) ?_
              refine OL_nil ?_
              refine W_seq ?_
              refine W_drawD H mixed (by kernel_rfl) [] (fun wq w' => Holds w' [shr (fun k => k < w.heap.size) w]) fun wd11 H hEd => ?_
              have hS : ∀ {ls : Array Bool}, Sx [] (fun w' => Holds w' [shr (fun k => k < w.heap.size) w]) ls wd11 := fun {_} _ => H
              refine DA_p 0 rfl (by kernel_rfl) rfl (fun _ => y_move h0) hS (by decide) fun hS => ?_
              refine DA_p 1 rfl (by kernel_rfl) rfl (fun _ => y_move h5) hS (by decide) fun hS => ?_
              refine DA_p 2 rfl (by kernel_rfl) rfl (fun _ => y_indexAddr ti49 ti55 (congrArg (Value.slice · _ _) e2) rfl (by omega) (by omega)) hS (by decide) fun hS => ?_
              refine DA_p 3 rfl (by kernel_rfl) rfl (fun _ => y_fieldAddr ti55 rfl ti53 rfl rfl) hS (by decide) fun hS => ?_
              refine DA_y 4 rfl (by kernel_rfl) rfl (by kernel_rfl) (fun w' h => y_loadS (v := .slice ax x.vers.length cx) ti53 rfl rfl ((hCx h).take 1 rfl)) hS (by decide) fun hS => ?_
              refine DA_p 5 rfl (by kernel_rfl) rfl (fun _ => y_move rfl) hS (by decide) fun hS => ?_
              refine DA_p 6 rfl (by kernel_rfl) rfl (fun _ => y_indexAddr ti53 ti32 (congrArg (Value.slice · _ _) e4) rfl (by omega) (by omega)) hS (by decide) fun hS => ?_
              refine DA_y 7 rfl (by kernel_rfl) rfl (by kernel_rfl) (fun w' h => y_loadA (cs := cs4) ti32 rfl rfl (hc4.ext ((h.keepsAll 0 rfl Z).2 _ hz4 hc4.lt)) (tVer.len hr4).symm) hS (by decide) fun hS => ?_
              refine DA_p 8 rfl (by kernel_rfl) rfl (fun _ => y_move h1) hS (by decide) fun hS => ?_
              refine DA_p 9 rfl (by kernel_rfl) rfl (fun _ => y_move h5) hS (by decide) fun hS => ?_
              refine DA_p 10 rfl (by kernel_rfl) rfl (fun _ => y_indexAddr ti49 ti55 (congrArg (Value.slice · _ _) e3) rfl (by omega) (by omega)) hS (by decide) fun hS => ?_
              refine DA_p 11 rfl (by kernel_rfl) rfl (fun _ => y_fieldAddr ti55 rfl ti53 rfl rfl) hS (by decide) fun hS => ?_
              refine DA_y 12 rfl (by kernel_rfl) rfl (by kernel_rfl) (fun w' h => y_loadS (v := .slice ay y.vers.length cy) ti53 rfl rfl ((hCy h).take 1 rfl)) hS (by decide) fun hS => ?_
              refine DA_p 13 rfl (by kernel_rfl) rfl (fun _ => y_move rfl) hS (by decide) fun hS => ?_
              refine DA_p 14 rfl (by kernel_rfl) rfl (fun _ => y_indexAddr ti53 ti32 (congrArg (Value.slice · _ _) e5) rfl (by omega) (by omega)) hS (by decide) fun hS => ?_
              refine DA_y 15 rfl (by kernel_rfl) rfl (by kernel_rfl) (fun w' h => y_loadA (cs := cs5) ti32 rfl rfl (hc5.ext ((h.keepsAll 0 rfl Z').2 _ hz5 hc5.lt)) (tVer.len hr5).symm) hS (by decide) fun hS => ?_
              refine DA_one 16 (by kernel_rfl) rfl (op_call 15 en15 rfl [.agg cs4.toArray, .agg cs5.toArray] rfl (by decide) ((f15_calls (tVer.keeps hr4 (H.keepsAll 0 rfl _)) (tVer.keeps hr5 (H.keepsAll 0 rfl _))).mono ?_))
              rintro e w11_16 ⟨rfl, hE15⟩
              refine ⟨_, rfl, fun _ => H.ext0 hE15, ?_⟩
              have H := H.ext0 hE15
              have hS : ∀ {ls : Array Bool}, Sx [] (fun w' => Holds w' [shr (fun k => k < w.heap.size) w]) ls w11_16 := fun {_} _ => H
              refine DA_p 17 rfl (by kernel_rfl) rfl (fun _ => y_not rfl) hS (by decide) fun hS => ?_
              refine DA_done (by kernel_rfl) ?_
              refine W_cond rfl (fun hc => ?_) (fun hc => ?_)
              · refine W_seq ?_
                refine W_region ?_
                refine OL_y (v := .bool false) (y_assign rfl) (by decide) ?_
                refine OL_nil ?_
                refine W_ret ?_
                show RetOK _ _ _ _ _ _
                have hne : ¬ u = v := by simpa using hc
                refine ret1 (v := .bool false) Try.results24 rfl ⟨?_, H.ext_of 0 rfl⟩
                rw [decide_eq_false]; intro h; subst h
                rw [hxj] at hyj; injection hyj with hyj
                subst hyj
                rw [hxk2] at hyk2; injection hyk2 with hyk2; exact hne hyk2
              · refine W_skip ?_
                have hee : u = v := by simpa using hc
                exact ⟨htk2, htn2, h0, h1, h5, h13, h14, rfl, by rw [htx2, hty2, heq2, hee], H⟩
            · rintro f ds w9 ⟨h0, h1, h5, h13, h14, rfl, heq2, H⟩ htk2 htn2
              rw [List.take_length, show x.vers.length = y.vers.length by omega, List.take_length] at heq2
              have hkk : x.key = y.key := kb_inj hxk.allIn hyk.allIn hk
              have hxy : x = y := by obtain ⟨q1, q2, q3⟩ := x; obtain ⟨q4, q5, q6⟩ := y; simp only at hkk hi heq2; rw [hkk, hi, heq2]
              exact ⟨h14, h13, h0, h1, rfl, by rw [htx, hty, heq, hxy], H⟩
          · refine W_drawD H mixed (by kernel_rfl) [] (fun wq w' => Holds w' [shr (fun k => k < w.heap.size) w]) fun wd6 H hEd => ?_
            have hS : ∀ {ls : Array Bool}, Sx [] (fun w' => Holds w' [shr (fun k => k < w.heap.size) w]) ls wd6 := fun {_} _ => H
            refine DA_p 0 rfl (by kernel_rfl) rfl (fun _ => y_move h0) hS (by decide) fun hS => ?_
            refine DA_p 1 rfl (by kernel_rfl) rfl (fun _ => y_move rfl) hS (by decide) fun hS => ?_
            refine DA_p 2 rfl (by kernel_rfl) rfl (fun _ => y_indexAddr ti49 ti55 (congrArg (Value.slice · _ _) e2) rfl (by omega) (by omega)) hS (by decide) fun hS => ?_
            refine DA_p 3 rfl (by kernel_rfl) rfl (fun _ => y_fieldAddr ti55 rfl ti23 rfl rfl) hS (by decide) fun hS => ?_
            refine DA_y 4 rfl (by kernel_rfl) rfl (by kernel_rfl) (fun w' h => y_loadS (v := xk) ti23 rfl rfl ((hCx h).take 0 rfl)) hS (by decide) fun hS => ?_
            refine DA_y 5 rfl (by kernel_rfl) rfl (by kernel_rfl) (fun w' h => y_toStr (w := w') Try.underlying23 Try.underlying5 Try.underlying9 rfl (hxk.keeps (h.keepsAll 0 rfl _))) hS (by decide) fun hS => ?_
            refine DA_p 6 rfl (by kernel_rfl) rfl (fun _ => y_move h1) hS (by decide) fun hS => ?_
            refine DA_p 7 rfl (by kernel_rfl) rfl (fun _ => y_move rfl) hS (by decide) fun hS => ?_
            refine DA_p 8 rfl (by kernel_rfl) rfl (fun _ => y_indexAddr ti49 ti55 (congrArg (Value.slice · _ _) e3) rfl (by omega) (by omega)) hS (by decide) fun hS => ?_
            refine DA_p 9 rfl (by kernel_rfl) rfl (fun _ => y_fieldAddr ti55 rfl ti23 rfl rfl) hS (by decide) fun hS => ?_
            refine DA_y 10 rfl (by kernel_rfl) rfl (by kernel_rfl) (fun w' h => y_loadS (v := yk) ti23 rfl rfl ((hCy h).take 0 rfl)) hS (by decide) fun hS => ?_
            refine DA_y 11 rfl (by kernel_rfl) rfl (by kernel_rfl) (fun w' h => y_toStr (w := w') Try.underlying23 Try.underlying5 Try.underlying9 rfl (hyk.keeps (h.keepsAll 0 rfl _))) hS (by decide) fun hS => ?_
            refine DA_p (v := .bool false) 12 rfl (by kernel_rfl) rfl (fun _ => y_neqSF hk rfl rfl) hS (by decide) fun hS => ?_
            refine DA_p (v := .bool false) 13 rfl (by kernel_rfl) rfl (fun _ => y_move rfl) hS (by decide) fun hS => ?_
            refine DA_pg 14 rfl rfl (by decide) rfl (by kernel_rfl) rfl (fun _ => y_move h0) hS (by decide) fun hS => ?_
            refine DA_pg 15 rfl rfl (by decide) rfl (by kernel_rfl) rfl (fun _ => y_move rfl) hS (by decide) fun hS => ?_
            refine DA_pg 16 rfl rfl (by decide) rfl (by kernel_rfl) rfl (fun _ => y_indexAddr ti49 ti55 (congrArg (Value.slice · _ _) e2) rfl (by omega) (by omega)) hS (by decide) fun hS => ?_
            refine DA_pg 17 rfl rfl (by decide) rfl (by kernel_rfl) rfl (fun _ => y_fieldAddr ti55 rfl ti32 rfl rfl) hS (by decide) fun hS => ?_
            refine DA_yg 18 rfl rfl (by decide) rfl (by kernel_rfl) rfl (by kernel_rfl) (fun w' h => y_loadA (cs := [.int .u64 x.intent.ts, .int .u64 x.intent.txn, .bool x.intent.dead, xa, xb]) ti32 rfl rfl ((hCx h).take 2 rfl) rfl) hS (by decide) fun hS => ?_
            refine DA_pg 19 rfl rfl (by decide) rfl (by kernel_rfl) rfl (fun _ => y_move h1) hS (by decide) fun hS => ?_
            refine DA_pg 20 rfl rfl (by decide) rfl (by kernel_rfl) rfl (fun _ => y_move rfl) hS (by decide) fun hS => ?_
            refine DA_pg 21 rfl rfl (by decide) rfl (by kernel_rfl) rfl (fun _ => y_indexAddr ti49 ti55 (congrArg (Value.slice · _ _) e3) rfl (by omega) (by omega)) hS (by decide) fun hS => ?_
            refine DA_pg 22 rfl rfl (by decide) rfl (by kernel_rfl) rfl (fun _ => y_fieldAddr ti55 rfl ti32 rfl rfl) hS (by decide) fun hS => ?_
            refine DA_yg 23 rfl rfl (by decide) rfl (by kernel_rfl) rfl (by kernel_rfl) (fun w' h => y_loadA (cs := [.int .u64 y.intent.ts, .int .u64 y.intent.txn, .bool y.intent.dead, ya, yb]) ti32 rfl rfl ((hCy h).take 2 rfl) rfl) hS (by decide) fun hS => ?_
            refine DA_oneg 24 (by kernel_rfl) rfl rfl (by decide) rfl (op_call 15 en15 rfl [.agg #[.int .u64 x.intent.ts, .int .u64 x.intent.txn, .bool x.intent.dead, xa, xb], .agg #[.int .u64 y.intent.ts, .int .u64 y.intent.txn, .bool y.intent.dead, ya, yb]] rfl (by decide) ((f15_calls (tVer.keeps hxi (H.keepsAll 0 rfl _)) (tVer.keeps hyi (H.keepsAll 0 rfl _))).mono ?_))
            rintro e w6_24 ⟨rfl, hE15⟩
            refine ⟨_, rfl, fun _ => H.ext0 hE15, ?_⟩
            have H := H.ext0 hE15
            rw [decide_eq_true hi]
            have hS : ∀ {ls : Array Bool}, Sx [] (fun w' => Holds w' [shr (fun k => k < w.heap.size) w]) ls w6_24 := fun {_} _ => H
            refine DA_pg (v := .bool false) 25 rfl rfl (by decide) rfl (by kernel_rfl) rfl (fun _ => y_not (b := true) rfl) hS (by decide) fun hS => ?_
            refine DA_p 26 rfl (by kernel_rfl) rfl (fun _ => y_pick (b := false) (v := .bool false) rfl rfl) hS (by decide) fun hS => ?_
            refine DA_p (v := .bool false) 27 rfl (by kernel_rfl) rfl (fun _ => y_move rfl) hS (by decide) fun hS => ?_
            refine DA_pg 28 rfl rfl (by decide) rfl (by kernel_rfl) rfl (fun _ => y_move h0) hS (by decide) fun hS => ?_
            refine DA_pg 29 rfl rfl (by decide) rfl (by kernel_rfl) rfl (fun _ => y_move rfl) hS (by decide) fun hS => ?_
            refine DA_pg 30 rfl rfl (by decide) rfl (by kernel_rfl) rfl (fun _ => y_indexAddr ti49 ti55 (congrArg (Value.slice · _ _) e2) rfl (by omega) (by omega)) hS (by decide) fun hS => ?_
            refine DA_pg 31 rfl rfl (by decide) rfl (by kernel_rfl) rfl (fun _ => y_fieldAddr ti55 rfl ti53 rfl rfl) hS (by decide) fun hS => ?_
            refine DA_yg 32 rfl rfl (by decide) rfl (by kernel_rfl) rfl (by kernel_rfl) (fun w' h => y_loadS (v := .slice ax x.vers.length cx) ti53 rfl rfl ((hCx h).take 1 rfl)) hS (by decide) fun hS => ?_
            refine DA_pg 33 rfl rfl (by decide) rfl (by kernel_rfl) rfl (fun _ => y_len rfl ti53 rfl) hS (by decide) fun hS => ?_
            refine DA_pg 34 rfl rfl (by decide) rfl (by kernel_rfl) rfl (fun _ => y_move h1) hS (by decide) fun hS => ?_
            refine DA_pg 35 rfl rfl (by decide) rfl (by kernel_rfl) rfl (fun _ => y_move rfl) hS (by decide) fun hS => ?_
            refine DA_pg 36 rfl rfl (by decide) rfl (by kernel_rfl) rfl (fun _ => y_indexAddr ti49 ti55 (congrArg (Value.slice · _ _) e3) rfl (by omega) (by omega)) hS (by decide) fun hS => ?_
            refine DA_pg 37 rfl rfl (by decide) rfl (by kernel_rfl) rfl (fun _ => y_fieldAddr ti55 rfl ti53 rfl rfl) hS (by decide) fun hS => ?_
            refine DA_yg 38 rfl rfl (by decide) rfl (by kernel_rfl) rfl (by kernel_rfl) (fun w' h => y_loadS (v := .slice ay y.vers.length cy) ti53 rfl rfl ((hCy h).take 1 rfl)) hS (by decide) fun hS => ?_
            refine DA_pg 39 rfl rfl (by decide) rfl (by kernel_rfl) rfl (fun _ => y_len rfl ti53 rfl) hS (by decide) fun hS => ?_
            refine DA_pg (v := .bool true) 40 rfl rfl (by decide) rfl (by kernel_rfl) rfl (fun _ => y_neqT hl rfl rfl) hS (by decide) fun hS => ?_
            refine DA_p 41 rfl (by kernel_rfl) rfl (fun _ => y_pick (b := false) (v := .bool true) rfl rfl) hS (by decide) fun hS => ?_
            refine DA_done (by kernel_rfl) ?_
            refine W_condt rfl ?_
            refine W_seq ?_
            refine W_region ?_
            refine OL_y (v := .bool false) (y_assign rfl) (by decide) ?_
            refine OL_nil ?_
            refine W_ret ?_
            show RetOK _ _ _ _ _ _
            refine ret1 (v := .bool false) Try.results24 rfl ⟨?_, H.ext_of 0 rfl⟩
            rw [decide_eq_false]; intro h; subst h
            rw [hxj] at hyj; injection hyj with hyj; exact hl (by rw [hyj])
        · refine W_drawD H mixed (by kernel_rfl) [] (fun wq w' => Holds w' [shr (fun k => k < w.heap.size) w]) fun wd6 H hEd => ?_
          have hS : ∀ {ls : Array Bool}, Sx [] (fun w' => Holds w' [shr (fun k => k < w.heap.size) w]) ls wd6 := fun {_} _ => H
          refine DA_p 0 rfl (by kernel_rfl) rfl (fun _ => y_move h0) hS (by decide) fun hS => ?_
          refine DA_p 1 rfl (by kernel_rfl) rfl (fun _ => y_move rfl) hS (by decide) fun hS => ?_
          refine DA_p 2 rfl (by kernel_rfl) rfl (fun _ => y_indexAddr ti49 ti55 (congrArg (Value.slice · _ _) e2) rfl (by omega) (by omega)) hS (by decide) fun hS => ?_
          refine DA_p 3 rfl (by kernel_rfl) rfl (fun _ => y_fieldAddr ti55 rfl ti23 rfl rfl) hS (by decide) fun hS => ?_
          refine DA_y 4 rfl (by kernel_rfl) rfl (by kernel_rfl) (fun w' h => y_loadS (v := xk) ti23 rfl rfl ((hCx h).take 0 rfl)) hS (by decide) fun hS => ?_
          refine DA_y 5 rfl (by kernel_rfl) rfl (by kernel_rfl) (fun w' h => y_toStr (w := w') Try.underlying23 Try.underlying5 Try.underlying9 rfl (hxk.keeps (h.keepsAll 0 rfl _))) hS (by decide) fun hS => ?_
          refine DA_p 6 rfl (by kernel_rfl) rfl (fun _ => y_move h1) hS (by decide) fun hS => ?_
          refine DA_p 7 rfl (by kernel_rfl) rfl (fun _ => y_move rfl) hS (by decide) fun hS => ?_
          refine DA_p 8 rfl (by kernel_rfl) rfl (fun _ => y_indexAddr ti49 ti55 (congrArg (Value.slice · _ _) e3) rfl (by omega) (by omega)) hS (by decide) fun hS => ?_
          refine DA_p 9 rfl (by kernel_rfl) rfl (fun _ => y_fieldAddr ti55 rfl ti23 rfl rfl) hS (by decide) fun hS => ?_
          refine DA_y 10 rfl (by kernel_rfl) rfl (by kernel_rfl) (fun w' h => y_loadS (v := yk) ti23 rfl rfl ((hCy h).take 0 rfl)) hS (by decide) fun hS => ?_
          refine DA_y 11 rfl (by kernel_rfl) rfl (by kernel_rfl) (fun w' h => y_toStr (w := w') Try.underlying23 Try.underlying5 Try.underlying9 rfl (hyk.keeps (h.keepsAll 0 rfl _))) hS (by decide) fun hS => ?_
          refine DA_p (v := .bool false) 12 rfl (by kernel_rfl) rfl (fun _ => y_neqSF hk rfl rfl) hS (by decide) fun hS => ?_
          refine DA_p (v := .bool false) 13 rfl (by kernel_rfl) rfl (fun _ => y_move rfl) hS (by decide) fun hS => ?_
          refine DA_pg 14 rfl rfl (by decide) rfl (by kernel_rfl) rfl (fun _ => y_move h0) hS (by decide) fun hS => ?_
          refine DA_pg 15 rfl rfl (by decide) rfl (by kernel_rfl) rfl (fun _ => y_move rfl) hS (by decide) fun hS => ?_
          refine DA_pg 16 rfl rfl (by decide) rfl (by kernel_rfl) rfl (fun _ => y_indexAddr ti49 ti55 (congrArg (Value.slice · _ _) e2) rfl (by omega) (by omega)) hS (by decide) fun hS => ?_
          refine DA_pg 17 rfl rfl (by decide) rfl (by kernel_rfl) rfl (fun _ => y_fieldAddr ti55 rfl ti32 rfl rfl) hS (by decide) fun hS => ?_
          refine DA_yg 18 rfl rfl (by decide) rfl (by kernel_rfl) rfl (by kernel_rfl) (fun w' h => y_loadA (cs := [.int .u64 x.intent.ts, .int .u64 x.intent.txn, .bool x.intent.dead, xa, xb]) ti32 rfl rfl ((hCx h).take 2 rfl) rfl) hS (by decide) fun hS => ?_
          refine DA_pg 19 rfl rfl (by decide) rfl (by kernel_rfl) rfl (fun _ => y_move h1) hS (by decide) fun hS => ?_
          refine DA_pg 20 rfl rfl (by decide) rfl (by kernel_rfl) rfl (fun _ => y_move rfl) hS (by decide) fun hS => ?_
          refine DA_pg 21 rfl rfl (by decide) rfl (by kernel_rfl) rfl (fun _ => y_indexAddr ti49 ti55 (congrArg (Value.slice · _ _) e3) rfl (by omega) (by omega)) hS (by decide) fun hS => ?_
          refine DA_pg 22 rfl rfl (by decide) rfl (by kernel_rfl) rfl (fun _ => y_fieldAddr ti55 rfl ti32 rfl rfl) hS (by decide) fun hS => ?_
          refine DA_yg 23 rfl rfl (by decide) rfl (by kernel_rfl) rfl (by kernel_rfl) (fun w' h => y_loadA (cs := [.int .u64 y.intent.ts, .int .u64 y.intent.txn, .bool y.intent.dead, ya, yb]) ti32 rfl rfl ((hCy h).take 2 rfl) rfl) hS (by decide) fun hS => ?_
          refine DA_oneg 24 (by kernel_rfl) rfl rfl (by decide) rfl (op_call 15 en15 rfl [.agg #[.int .u64 x.intent.ts, .int .u64 x.intent.txn, .bool x.intent.dead, xa, xb], .agg #[.int .u64 y.intent.ts, .int .u64 y.intent.txn, .bool y.intent.dead, ya, yb]] rfl (by decide) ((f15_calls (tVer.keeps hxi (H.keepsAll 0 rfl _)) (tVer.keeps hyi (H.keepsAll 0 rfl _))).mono ?_))
          rintro e w6_24 ⟨rfl, hE15⟩
          refine ⟨_, rfl, fun _ => H.ext0 hE15, ?_⟩
          have H := H.ext0 hE15
          rw [decide_eq_false hi]
          have hS : ∀ {ls : Array Bool}, Sx [] (fun w' => Holds w' [shr (fun k => k < w.heap.size) w]) ls w6_24 := fun {_} _ => H
          refine DA_pg (v := .bool true) 25 rfl rfl (by decide) rfl (by kernel_rfl) rfl (fun _ => y_not (b := false) rfl) hS (by decide) fun hS => ?_
          refine DA_p 26 rfl (by kernel_rfl) rfl (fun _ => y_pick (b := false) (v := .bool true) rfl rfl) hS (by decide) fun hS => ?_
          refine DA_p (v := .bool true) 27 rfl (by kernel_rfl) rfl (fun _ => y_move rfl) hS (by decide) fun hS => ?_
          refine DA_s 28 rfl rfl (by decide) rfl rfl (by kernel_rfl) rfl hS (by simp) fun hS => ?_
          refine DA_s 29 rfl rfl (by decide) rfl rfl (by kernel_rfl) rfl hS (by simp) fun hS => ?_
          refine DA_s 30 rfl rfl (by decide) rfl rfl (by kernel_rfl) rfl hS (by simp) fun hS => ?_
          refine DA_s 31 rfl rfl (by decide) rfl rfl (by kernel_rfl) rfl hS (by simp) fun hS => ?_
          refine DA_s 32 rfl rfl (by decide) rfl rfl (by kernel_rfl) rfl hS (by simp) fun hS => ?_
          refine DA_s 33 rfl rfl (by decide) rfl rfl (by kernel_rfl) rfl hS (by simp) fun hS => ?_
          refine DA_s 34 rfl rfl (by decide) rfl rfl (by kernel_rfl) rfl hS (by simp) fun hS => ?_
          refine DA_s 35 rfl rfl (by decide) rfl rfl (by kernel_rfl) rfl hS (by simp) fun hS => ?_
          refine DA_s 36 rfl rfl (by decide) rfl rfl (by kernel_rfl) rfl hS (by simp) fun hS => ?_
          refine DA_s 37 rfl rfl (by decide) rfl rfl (by kernel_rfl) rfl hS (by simp) fun hS => ?_
          refine DA_s 38 rfl rfl (by decide) rfl rfl (by kernel_rfl) rfl hS (by simp) fun hS => ?_
          refine DA_s 39 rfl rfl (by decide) rfl rfl (by kernel_rfl) rfl hS (by simp) fun hS => ?_
          refine DA_s 40 rfl rfl (by decide) rfl rfl (by kernel_rfl) rfl hS (by simp) fun hS => ?_
          refine DA_p 41 rfl (by kernel_rfl) rfl (fun _ => y_pick (b := true) (v := .bool true) rfl rfl) hS (by decide) fun hS => ?_
          refine DA_done (by kernel_rfl) ?_
          refine W_condt rfl ?_
          refine W_seq ?_
          refine W_region ?_
          refine OL_y (v := .bool false) (y_assign rfl) (by decide) ?_
          refine OL_nil ?_
          refine W_ret ?_
          show RetOK _ _ _ _ _ _
          refine ret1 (v := .bool false) Try.results24 rfl ⟨?_, H.ext_of 0 rfl⟩
          rw [decide_eq_false]; intro h; subst h
          rw [hxj] at hyj; injection hyj with hyj; exact hi (by rw [hyj])
      · refine W_drawD H mixed (by kernel_rfl) [] (fun wq w' => Holds w' [shr (fun k => k < w.heap.size) w]) fun wd6 H hEd => ?_
        have hS : ∀ {ls : Array Bool}, Sx [] (fun w' => Holds w' [shr (fun k => k < w.heap.size) w]) ls wd6 := fun {_} _ => H
        refine DA_p 0 rfl (by kernel_rfl) rfl (fun _ => y_move h0) hS (by decide) fun hS => ?_
        refine DA_p 1 rfl (by kernel_rfl) rfl (fun _ => y_move rfl) hS (by decide) fun hS => ?_
        refine DA_p 2 rfl (by kernel_rfl) rfl (fun _ => y_indexAddr ti49 ti55 (congrArg (Value.slice · _ _) e2) rfl (by omega) (by omega)) hS (by decide) fun hS => ?_
        refine DA_p 3 rfl (by kernel_rfl) rfl (fun _ => y_fieldAddr ti55 rfl ti23 rfl rfl) hS (by decide) fun hS => ?_
        refine DA_y 4 rfl (by kernel_rfl) rfl (by kernel_rfl) (fun w' h => y_loadS (v := xk) ti23 rfl rfl ((hCx h).take 0 rfl)) hS (by decide) fun hS => ?_
        refine DA_y 5 rfl (by kernel_rfl) rfl (by kernel_rfl) (fun w' h => y_toStr (w := w') Try.underlying23 Try.underlying5 Try.underlying9 rfl (hxk.keeps (h.keepsAll 0 rfl _))) hS (by decide) fun hS => ?_
        refine DA_p 6 rfl (by kernel_rfl) rfl (fun _ => y_move h1) hS (by decide) fun hS => ?_
        refine DA_p 7 rfl (by kernel_rfl) rfl (fun _ => y_move rfl) hS (by decide) fun hS => ?_
        refine DA_p 8 rfl (by kernel_rfl) rfl (fun _ => y_indexAddr ti49 ti55 (congrArg (Value.slice · _ _) e3) rfl (by omega) (by omega)) hS (by decide) fun hS => ?_
        refine DA_p 9 rfl (by kernel_rfl) rfl (fun _ => y_fieldAddr ti55 rfl ti23 rfl rfl) hS (by decide) fun hS => ?_
        refine DA_y 10 rfl (by kernel_rfl) rfl (by kernel_rfl) (fun w' h => y_loadS (v := yk) ti23 rfl rfl ((hCy h).take 0 rfl)) hS (by decide) fun hS => ?_
        refine DA_y 11 rfl (by kernel_rfl) rfl (by kernel_rfl) (fun w' h => y_toStr (w := w') Try.underlying23 Try.underlying5 Try.underlying9 rfl (hyk.keeps (h.keepsAll 0 rfl _))) hS (by decide) fun hS => ?_
        refine DA_p (v := .bool true) 12 rfl (by kernel_rfl) rfl (fun _ => y_neqST hk rfl rfl) hS (by decide) fun hS => ?_
        refine DA_p (v := .bool true) 13 rfl (by kernel_rfl) rfl (fun _ => y_move rfl) hS (by decide) fun hS => ?_
        refine DA_s 14 rfl rfl (by decide) rfl rfl (by kernel_rfl) rfl hS (by simp) fun hS => ?_
        refine DA_s 15 rfl rfl (by decide) rfl rfl (by kernel_rfl) rfl hS (by simp) fun hS => ?_
        refine DA_s 16 rfl rfl (by decide) rfl rfl (by kernel_rfl) rfl hS (by simp) fun hS => ?_
        refine DA_s 17 rfl rfl (by decide) rfl rfl (by kernel_rfl) rfl hS (by simp) fun hS => ?_
        refine DA_s 18 rfl rfl (by decide) rfl rfl (by kernel_rfl) rfl hS (by simp) fun hS => ?_
        refine DA_s 19 rfl rfl (by decide) rfl rfl (by kernel_rfl) rfl hS (by simp) fun hS => ?_
        refine DA_s 20 rfl rfl (by decide) rfl rfl (by kernel_rfl) rfl hS (by simp) fun hS => ?_
        refine DA_s 21 rfl rfl (by decide) rfl rfl (by kernel_rfl) rfl hS (by simp) fun hS => ?_
        refine DA_s 22 rfl rfl (by decide) rfl rfl (by kernel_rfl) rfl hS (by simp) fun hS => ?_
        refine DA_s 23 rfl rfl (by decide) rfl rfl (by kernel_rfl) rfl hS (by simp) fun hS => ?_
        refine DA_s 24 rfl rfl (by decide) rfl rfl (by kernel_rfl) rfl hS (by simp) fun hS => ?_
        refine DA_s 25 rfl rfl (by decide) rfl rfl (by kernel_rfl) rfl hS (by simp) fun hS => ?_
        refine DA_p 26 rfl (by kernel_rfl) rfl (fun _ => y_pick (b := true) (v := .bool true) rfl rfl) hS (by decide) fun hS => ?_
        refine DA_p (v := .bool true) 27 rfl (by kernel_rfl) rfl (fun _ => y_move rfl) hS (by decide) fun hS => ?_
        refine DA_s 28 rfl rfl (by decide) rfl rfl (by kernel_rfl) rfl hS (by simp) fun hS => ?_
        refine DA_s 29 rfl rfl (by decide) rfl rfl (by kernel_rfl) rfl hS (by simp) fun hS => ?_
        refine DA_s 30 rfl rfl (by decide) rfl rfl (by kernel_rfl) rfl hS (by simp) fun hS => ?_
        refine DA_s 31 rfl rfl (by decide) rfl rfl (by kernel_rfl) rfl hS (by simp) fun hS => ?_
        refine DA_s 32 rfl rfl (by decide) rfl rfl (by kernel_rfl) rfl hS (by simp) fun hS => ?_
        refine DA_s 33 rfl rfl (by decide) rfl rfl (by kernel_rfl) rfl hS (by simp) fun hS => ?_
        refine DA_s 34 rfl rfl (by decide) rfl rfl (by kernel_rfl) rfl hS (by simp) fun hS => ?_
        refine DA_s 35 rfl rfl (by decide) rfl rfl (by kernel_rfl) rfl hS (by simp) fun hS => ?_
        refine DA_s 36 rfl rfl (by decide) rfl rfl (by kernel_rfl) rfl hS (by simp) fun hS => ?_
        refine DA_s 37 rfl rfl (by decide) rfl rfl (by kernel_rfl) rfl hS (by simp) fun hS => ?_
        refine DA_s 38 rfl rfl (by decide) rfl rfl (by kernel_rfl) rfl hS (by simp) fun hS => ?_
        refine DA_s 39 rfl rfl (by decide) rfl rfl (by kernel_rfl) rfl hS (by simp) fun hS => ?_
        refine DA_s 40 rfl rfl (by decide) rfl rfl (by kernel_rfl) rfl hS (by simp) fun hS => ?_
        refine DA_p 41 rfl (by kernel_rfl) rfl (fun _ => y_pick (b := true) (v := .bool true) rfl rfl) hS (by decide) fun hS => ?_
        refine DA_done (by kernel_rfl) ?_
        refine W_condt rfl ?_
        refine W_seq ?_
        refine W_region ?_
        refine OL_y (v := .bool false) (y_assign rfl) (by decide) ?_
        refine OL_nil ?_
        refine W_ret ?_
        show RetOK _ _ _ _ _ _
        refine ret1 (v := .bool false) Try.results24 rfl ⟨?_, H.ext_of 0 rfl⟩
        rw [decide_eq_false]; intro h; subst h
        rw [hxj] at hyj; injection hyj with hyj; exact hk (by rw [hyj])
    · rintro f ds w2 ⟨h0, h1, rfl, heq, H⟩ hti htn
      rw [List.take_length, hlen, List.take_length] at heq
      refine W_seq ?_
      refine W_region ?_
      refine OL_y (v := .bool true) (y_assign rfl) (by decide) ?_
      refine OL_nil ?_
      refine W_ret ?_
      show RetOK _ _ _ _ _ _
      exact ret1 (v := .bool true) Try.results24 rfl ⟨by rw [decide_eq_true heq], H.ext_of 0 rfl⟩
end Go.Proofs.Ytpandioolpnihaa

namespace Go.Proofs.Ytpandioolpnihaa
open Go Go.Wk
set_option linter.unusedVariables false
set_option linter.unusedSimpArgs false

theorem f24_same {Z Z' : Nat → Prop} {w : World} {va vb : Value} {xs : List Cl} (hx : SlR tCl 120 Z w va xs) (hy : SlR tCl 120 Z' w vb xs) : Calls Try.prog 24 [va, vb].toArray w fun e w' => e = .returned (.bool true) ∧ Ext none' w w' := by
  have := f24_calls hx hy
  rwa [decide_eq_true rfl] at this
theorem f58_calls {w : World} : Calls Try.prog 58 [.slice none 0 0, .slice none 0 0].toArray w fun e w' => e = .returned (.bool true) ∧ Ext none' w w' := by
  have H := Holds.start w
  refine calls_of_W' Try.func58 rfl Try.ntmps58 rfl ?_
  refine W_seq ?_
  refine W_region ?_
  refine OL_y (v := .bool false) (y_assign rfl) (by decide) ?_
  refine OL_nil ?_
  refine W_seq ?_
  refine W_seq ?_
  refine W_region ?_
  refine OL_y (y_move rfl) (by decide) ?_
  refine OL_y (y_len rfl ti82 rfl) (by decide) ?_
  refine OL_y (y_move rfl) (by decide) ?_
  refine OL_y (y_len rfl ti82 rfl) (by decide) ?_
  refine OL_y (v := .bool false) (y_neqF rfl rfl rfl) (by decide) ?_
  refine OL_nil ?_
  refine W_condf rfl ?_
  refine W_skip ?_
  refine W_seq ?_
  refine W_seq ?_
  refine W_region ?_
  refine OL_y (y_move rfl) (by decide) ?_
  refine OL_y (y_len rfl ti82 rfl) (by decide) ?_
  refine OL_y (y_move rfl) (by decide) ?_
  refine OL_nil ?_
  refine W_range (N := 0) (by simp [maxLen]) (fun j f ds w' => ds = [] ∧ w' = w)
      ⟨rfl, rfl⟩
      rfl rfl (by decide) (by decide) (by decide) rfl rfl ?_ rfl rfl ?_
  · rintro j f ds w3 hj
    exact absurd hj (by omega)
  · rintro f ds w3 ⟨rfl, rfl⟩ hti htn
    refine W_seq ?_
    refine W_region ?_
    refine OL_y (v := .bool true) (y_assign rfl) (by decide) ?_
    refine OL_nil ?_
    refine W_ret ?_
    show RetOK _ _ _ _ _ _
    exact ret1 (v := .bool true) Try.results58 rfl ⟨rfl, H.ext_of 0 rfl⟩
set_option maxHeartbeats 16000000 in
theorem f31_calls {Z Z' : Nat → Prop} {w : World} {c1 c2 : List Value} {r : Rs} (h1 : tRes.R Z w c1 r) (h2 : tRes.R Z' w c2 r) :
    Calls Try.prog 31 [.agg c1.toArray, .agg c2.toArray].toArray w fun e w' => e = .returned (.bool true) ∧ Ext none' w w' := by
  have H := Holds.start w
  obtain ⟨v1, rfl, hi1, hs1⟩ := res_cells.1 h1
  obtain ⟨v2, rfl, hi2, hs2⟩ := res_cells.1 h2
  refine calls_of_W' Try.func31 rfl Try.ntmps31 rfl ?_
  refine W_seq ?_
  refine W_region ?_
  refine OL_c (op_box (v := .agg #[.int .i64 r.err, .int .u64 0, .int .u64 0, .bool false, .slice none 0 0, v1, .slice none 0 0]) H rfl (by decide) fun b2 w0_0 H => ?_)
  refine OL_c (op_box (v := .agg #[.int .i64 r.err, .int .u64 0, .int .u64 0, .bool false, .slice none 0 0, v2, .slice none 0 0]) H rfl (by decide) fun b3 w0_1 H => ?_)
  refine OL_y (v := .bool false) (y_assign rfl) (by decide) ?_
  refine OL_nil ?_
  refine W_seq ?_
  refine W_seq ?_
  refine W_region ?_
  refine OL_y (y_fieldAddr ti84 rfl ti80 rfl rfl) (by decide) ?_
  refine OL_y (y_loadS (v := .int .i64 r.err) ti80 rfl rfl (Cells.unit (H.getOwn 1 rfl) rfl)) (by decide) ?_
  refine OL_y (y_fieldAddr ti84 rfl ti80 rfl rfl) (by decide) ?_
  refine OL_y (y_loadS (v := .int .i64 r.err) ti80 rfl rfl (Cells.unit (H.getOwn 0 rfl) rfl)) (by decide) ?_
  refine OL_y (v := .bool false) (y_neqF rfl rfl rfl) (by decide) ?_
  refine OL_y (v := .bool false) (y_move rfl) (by decide) ?_
  refine OL_yg rfl (by decide) rfl (y_fieldAddr ti84 rfl ti24 rfl rfl) (by decide) ?_
  refine OL_yg rfl (by decide) rfl (y_loadS (v := .int .u64 0) ti24 rfl rfl (Cells.unit (H.getOwn 1 rfl) rfl)) (by decide) ?_
  refine OL_yg rfl (by decide) rfl (y_fieldAddr ti84 rfl ti24 rfl rfl) (by decide) ?_
  refine OL_yg rfl (by decide) rfl (y_loadS (v := .int .u64 0) ti24 rfl rfl (Cells.unit (H.getOwn 0 rfl) rfl)) (by decide) ?_
  refine OL_yg (v := .bool false) rfl (by decide) rfl (y_neqF rfl rfl rfl) (by decide) ?_
  refine OL_y (y_pick (b := false) (v := .bool false) rfl rfl) (by decide) ?_
  refine OL_y (v := .bool false) (y_move rfl) (by decide) ?_
  refine OL_yg rfl (by decide) rfl (y_fieldAddr ti84 rfl ti24 rfl rfl) (by decide) ?_
  refine OL_yg rfl (by decide) rfl (y_loadS (v := .int .u64 0) ti24 rfl rfl (Cells.unit (H.getOwn 1 rfl) rfl)) (by decide) ?_
  refine OL_yg rfl (by decide) rfl (y_fieldAddr ti84 rfl ti24 rfl rfl) (by decide) ?_
  refine OL_yg rfl (by decide) rfl (y_loadS (v := .int .u64 0) ti24 rfl rfl (Cells.unit (H.getOwn 0 rfl) rfl)) (by decide) ?_
  refine OL_yg (v := .bool false) rfl (by decide) rfl (y_neqF rfl rfl rfl) (by decide) ?_
  refine OL_y (y_pick (b := false) (v := .bool false) rfl rfl) (by decide) ?_
  refine OL_y (v := .bool false) (y_move rfl) (by decide) ?_
  refine OL_yg rfl (by decide) rfl (y_fieldAddr ti84 rfl ti4 rfl rfl) (by decide) ?_
  refine OL_yg rfl (by decide) rfl (y_loadS (v := .bool false) ti4 rfl rfl (Cells.unit (H.getOwn 1 rfl) rfl)) (by decide) ?_
  refine OL_yg rfl (by decide) rfl (y_fieldAddr ti84 rfl ti4 rfl rfl) (by decide) ?_
  refine OL_yg rfl (by decide) rfl (y_loadS (v := .bool false) ti4 rfl rfl (Cells.unit (H.getOwn 0 rfl) rfl)) (by decide) ?_
  refine OL_yg (v := .bool false) rfl (by decide) rfl (y_neqB Try.underlying4 (a := false) (b := false) rfl rfl) (by decide) ?_
  refine OL_y (y_pick (b := false) (v := .bool false) rfl rfl) (by decide) ?_
  refine OL_y (v := .bool false) (y_move rfl) (by decide) ?_
  refine OL_yg rfl (by decide) rfl (y_fieldAddr ti84 rfl ti81 rfl rfl) (by decide) ?_
  refine OL_yg rfl (by decide) rfl (y_loadS (v := .slice none 0 0) ti81 rfl rfl (Cells.unit (H.getOwn 1 rfl) rfl)) (by decide) ?_
  refine OL_yg rfl (by decide) rfl (y_len rfl ti81 rfl) (by decide) ?_
  refine OL_yg rfl (by decide) rfl (y_fieldAddr ti84 rfl ti81 rfl rfl) (by decide) ?_
  refine OL_yg rfl (by decide) rfl (y_loadS (v := .slice none 0 0) ti81 rfl rfl (Cells.unit (H.getOwn 0 rfl) rfl)) (by decide) ?_
  refine OL_yg rfl (by decide) rfl (y_len rfl ti81 rfl) (by decide) ?_
  refine OL_yg (v := .bool false) rfl (by decide) rfl (y_neqF rfl rfl rfl) (by decide) ?_
  refine OL_y (y_pick (b := false) (v := .bool false) rfl rfl) (by decide) ?_
  refine OL_nil ?_
  refine W_condf rfl ?_
  refine W_skip ?_
  refine W_seq ?_
  refine W_seq ?_
  refine W_region ?_
  refine OL_y (y_fieldAddr ti84 rfl ti81 rfl rfl) (by decide) ?_
  refine OL_y (y_loadS (v := .slice none 0 0) ti81 rfl rfl (Cells.unit (H.getOwn 1 rfl) rfl)) (by decide) ?_
  refine OL_y (y_len rfl ti81 rfl) (by decide) ?_
  refine OL_y (y_move rfl) (by decide) ?_
  refine OL_nil ?_
  refine W_range (N := 0) (by simp [maxLen]) (fun j f ds w' => f 2 = .pointer (some ⟨b2, 0, none⟩) ∧ f 3 = .pointer (some ⟨b3, 0, none⟩) ∧ ds = [] ∧ w' = w0_1)
      ⟨rfl, rfl, rfl, rfl⟩
      rfl rfl (by decide) (by decide) (by decide) rfl rfl ?_ rfl rfl ?_
  · rintro j f ds w3 hj
    exact absurd hj (by omega)
  · rintro f ds w3 ⟨hf2, hf3, rfl, rfl⟩ hti htn
    refine W_seq ?_
    refine W_region ?_
    refine OL_y (y_fieldAddr ti84 rfl ti49 rfl hf2) (by decide) ?_
    refine OL_y (y_loadS (v := v1) ti49 rfl rfl (Cells.unit (H.getOwn 1 rfl) rfl)) (by decide) ?_
    refine OL_y (y_fieldAddr ti84 rfl ti49 rfl hf3) (by decide) ?_
    refine OL_y (y_loadS (v := v2) ti49 rfl rfl (Cells.unit (H.getOwn 0 rfl) rfl)) (by decide) ?_
    refine OL_c (op_call 24 en24 rfl [v1, v2] rfl (by decide) ((f24_same (hs1.keeps (H.keepsAll 2 rfl _)) (hs2.keeps (H.keepsAll 2 rfl _))).mono ?_))
    rintro e w9_4 ⟨rfl, hE24⟩
    refine ⟨_, rfl, ?_⟩
    have H := H.ext0 hE24
    refine OL_y (v := .bool true) (y_move rfl) (by decide) ?_
    refine OL_yg rfl (by decide) rfl (y_fieldAddr ti84 rfl ti82 rfl hf2) (by decide) ?_
    refine OL_yg rfl (by decide) rfl (y_loadS (v := .slice none 0 0) ti82 rfl rfl (Cells.unit (H.getOwn 1 rfl) rfl)) (by decide) ?_
    refine OL_yg rfl (by decide) rfl (y_fieldAddr ti84 rfl ti82 rfl hf3) (by decide) ?_
    refine OL_yg rfl (by decide) rfl (y_loadS (v := .slice none 0 0) ti82 rfl rfl (Cells.unit (H.getOwn 0 rfl) rfl)) (by decide) ?_
    refine OL_g rfl (by decide) rfl (op_call 58 en58 rfl [.slice none 0 0, .slice none 0 0] rfl (by decide) ((f58_calls).mono ?_))
    rintro e w9_10 ⟨rfl, hE58⟩
    refine ⟨_, rfl, ?_⟩
    have H := H.ext0 hE58
    refine OL_y (y_pick (b := true) (v := .bool true) rfl rfl) (by decide) ?_
    refine OL_y (v := .bool true) (y_assign rfl) (by decide) ?_
    refine OL_nil ?_
    refine W_ret ?_
    show RetOK _ _ _ _ _ _
    exact ret1 (v := .bool true) Try.results31 rfl ⟨rfl, H.ext_of 2 rfl⟩
end Go.Proofs.Ytpandioolpnihaa

namespace Go.Proofs.Ytpandioolpnihaa
open Go Go.Wk
set_option linter.unusedVariables false
set_option linter.unusedSimpArgs false

/-- The map of the last answers. -/
structure LRep (w0 : World) (F : Nat → Prop) (Wp : World) (la : List (Int × Value)) (l : Lst) : Prop where
  no : ∀ k, l k = none → mget la k = none
  has : ∀ k x, l k = some x → ∃ cs, mget la k = some (.agg (.int .u64 x.1 :: cs).toArray) ∧ tRes.R (Dz w0 F) Wp cs x.2
theorem LRep.grow {w0 Wp Wp' : World} {F F' : Nat → Prop} {la : List (Int × Value)} {l : Lst} (h : LRep w0 F Wp la l) (g : Grow w0 F Wp F' Wp') : LRep w0 F' Wp' la l :=
  ⟨h.no, fun k x hx => by obtain ⟨cs, h1, h2⟩ := h.has k x hx; exact ⟨cs, h1, g.R h2⟩⟩
theorem LRep.new (w0 Wp : World) (F : Nat → Prop) : LRep w0 F Wp [] (fun _ => none) := ⟨fun _ _ => rfl, fun _ _ h => by cases h⟩
theorem LRep.set {w0 Wp : World} {F : Nat → Prop} {la : List (Int × Value)} {l : Lst} (h : LRep w0 F Wp la l) {c : Cmd} (hc : c.client ≠ 0) {r : Rs} {cs : List Value} (hr : tRes.R (Dz w0 F) Wp cs r) : LRep w0 F Wp (mset la c.client (.agg (.int .u64 c.seq :: cs).toArray)) (noteL l c r) := by
  unfold noteL
  rw [if_neg hc]
  constructor
  · intro k hk
    by_cases e : k = c.client
    · simp [e] at hk
    · simp [e] at hk
      rw [mget_mset_ne _ _ e]; exact h.no k hk
  · intro k x hx
    by_cases e : k = c.client
    · simp [e] at hx
      subst hx; subst e
      exact ⟨cs, mget_mset_same _ _ _, hr⟩
    · simp [e] at hx
      rw [mget_mset_ne _ _ e]; exact h.has k x hx
theorem note0 {l : Lst} {c : Cmd} {r : Rs} (h : c.client = 0) : noteL l c r = l := if_pos h

theorem f59_calls {w : World} {mb lb sb : Nat} (h : w.heap[mb]? = some (.cells #[.pointer (some ⟨sb, 0, none⟩), .map (some lb)] 123)) : Calls Try.prog 59 [.pointer (some ⟨mb, 0, none⟩)].toArray w fun e w' => e = .returned (.bool true) ∧ Ext none' w w' := by
  have H := Holds.start w
  refine calls_of_W' Try.func59 rfl Try.ntmps59 rfl ?_
  refine W_seq ?_
  refine W_region ?_
  refine OL_y (v := .bool false) (y_assign rfl) (by decide) ?_
  refine OL_nil ?_
  refine W_seq ?_
  refine W_region ?_
  refine OL_y (y_move rfl) (by decide) ?_
  refine OL_y (y_neqNil Try.underlying59 rfl rfl) (by decide) ?_
  refine OL_y (v := .bool true) (y_move rfl) (by decide) ?_
  refine OL_yg rfl (by decide) rfl (y_move rfl) (by decide) ?_
  refine OL_yg rfl (by decide) rfl (y_nilCheck rfl ⟨_, rfl⟩) (by decide) ?_
  refine OL_yg rfl (by decide) rfl (y_fieldAddr ti123 rfl ti26 rfl rfl) (by decide) ?_
  refine OL_yg rfl (by decide) rfl (y_loadS (v := .pointer (some ⟨sb, 0, none⟩)) ti26 rfl rfl (Cells.unit (((H.ext_of 0 rfl).blk mb (own_lt h) (fun h => h)).trans h) rfl)) (by decide) ?_
  refine OL_yg rfl (by decide) rfl (y_neqNil Try.underlying26 rfl rfl) (by decide) ?_
  refine OL_y (y_pick (b := true) (v := .bool true) rfl rfl) (by decide) ?_
  refine OL_y (y_assign rfl) (by decide) ?_
  refine OL_nil ?_
  refine W_ret ?_
  show RetOK _ _ _ _ _ _
  exact ret1 (v := .bool true) Try.results59 rfl ⟨rfl, H.ext_of 0 rfl⟩
theorem f34_calls {w : World} {mb lb sb : Nat} (h : w.heap[mb]? = some (.cells #[.pointer (some ⟨sb, 0, none⟩), .map (some lb)] 123)) : Calls Try.prog 34 [.pointer (some ⟨mb, 0, none⟩)].toArray w fun e w' => e = .returned (.pointer (some ⟨sb, 0, none⟩)) ∧ Ext none' w w' := by
  have H := Holds.start w
  refine calls_of_W' Try.func34 rfl Try.ntmps34 rfl ?_
  refine W_seq ?_
  refine W_region ?_
  refine OL_y (y_assign rfl) (by decide) ?_
  refine OL_nil ?_
  refine W_seq ?_
  refine W_seq ?_
  refine W_region ?_
  refine OL_y (y_move rfl) (by decide) ?_
  refine OL_c (op_call 59 en59 rfl [.pointer (some ⟨mb, 0, none⟩)] rfl (by decide) ((f59_calls (((H.ext_of 0 rfl).blk mb (own_lt h) (fun h => h)).trans h)).mono ?_))
  rintro e w1_1 ⟨rfl, hE⟩
  refine ⟨_, rfl, ?_⟩
  have H := H.ext0 hE
  refine OL_y (y_not (b := true) rfl) (by decide) ?_
  refine OL_nil ?_
  refine W_condf rfl ?_
  refine W_skip ?_
  refine W_seq ?_
  refine W_region ?_
  refine OL_y (y_move rfl) (by decide) ?_
  refine OL_y (y_nilCheck rfl ⟨_, rfl⟩) (by decide) ?_
  refine OL_y (y_fieldAddr ti123 rfl ti26 rfl rfl) (by decide) ?_
  refine OL_y (y_loadS (v := .pointer (some ⟨sb, 0, none⟩)) ti26 rfl rfl (Cells.unit (((H.ext_of 0 rfl).blk mb (own_lt h) (fun h => h)).trans h) rfl)) (by decide) ?_
  refine OL_y (y_assign rfl) (by decide) ?_
  refine OL_nil ?_
  refine W_ret ?_
  show RetOK _ _ _ _ _ _
  exact ret1 (v := .pointer (some ⟨sb, 0, none⟩)) Try.results34 rfl ⟨rfl, H.ext_of 0 rfl⟩
theorem f30_calls {w0 w Wp : World} {F : Nat → Prop} {L : List Atom} (H : Holds w (exc F Wp :: shr (fun k => k < w0.heap.size) w0 :: L)) :
    Calls Try.prog 30 [].toArray w fun e w' => ∃ mb lb sb g1 g2 : Nat, e = .returned (.pointer (some ⟨mb, 0, none⟩)) ∧ Holds w' (mAt mb lb [] sb g1 g2 [] [] F Wp w0 L) := by
  refine calls_of_W' Try.func30 rfl Try.ntmps30 rfl ?_
  refine W_seq ?_
  refine W_region ?_
  refine OL_y (y_assign rfl) (by decide) ?_
  refine OL_nil ?_
  refine W_seq ?_
  refine W_region ?_
  refine OL_c (op_call 35 en35 rfl [] rfl (by decide) ((f35_calls H).mono ?_))
  rintro e w1_0 ⟨sb, g1, g2, rfl, H⟩
  refine ⟨_, rfl, ?_⟩
  refine OL_c (op_makeMap (Value.int .u64) H (by decide) fun lb w1_1 H => ?_)
  refine OL_y (v := .agg #[.pointer (some ⟨sb, 0, none⟩), .map (some lb)]) (y_build ti123 pl123 (by kernel_rfl)) (by decide) ?_
  refine OL_c (op_box (v := .agg #[.pointer (some ⟨sb, 0, none⟩), .map (some lb)]) H rfl (by decide) fun b4 w1_3 H => ?_)
  refine OL_y (y_assign rfl) (by decide) ?_
  refine OL_nil ?_
  refine W_ret ?_
  show RetOK _ _ _ _ _ _
  exact ret1 Try.results30 rfl ⟨b4, lb, sb, g1, g2, rfl, H⟩
set_option maxHeartbeats 16000000 in
theorem f32_calls {w0 w Wp : World} {F : Nat → Prop} {mb lb sb g1 g2 m : Nat} {la : List (Int × Value)} {l : Lst} {E : List Ent} {I : List Itn} {a : Abs} {L : List Atom} {cs : List Value} {c : Cmd} (H : Holds w (mAt mb lb la sb g1 g2 E I F Wp w0 L)) (hr : CRep w0 F Wp E I a) (hL : LRep w0 F Wp la l) (ha : a.Ok m) (hm : m ≤ 10000) (hEl : E.length ≤ 10000) (hIl : I.length ≤ 9000) (hc : tCmd.R (Dz w0 F) Wp cs c) (hll : c.lo.length ≤ 1000) (hwk : ∀ x ∈ c.writes, x.key.length ≤ 1000) :
    Calls Try.prog 32 [.pointer (some ⟨mb, 0, none⟩), .agg cs.toArray].toArray w fun e w' => ∃ (rcs : List Value) (r : Rs) (a' : Abs) (l' : Lst) (la' : List (Int × Value)) (E' : List Ent) (I' : List Itn) (F' : Nat → Prop) (Wp' : World), e = .returned (.agg rcs.toArray) ∧ DoR a l c a' l' r ∧ Holds w' (mAt mb lb la' sb g1 g2 E' I' F' Wp' w0 L) ∧ CRep w0 F' Wp' E' I' a' ∧ LRep w0 F' Wp' la' l' ∧ Grow w0 F Wp F' Wp' ∧ tRes.R (Dz w0 F') Wp' rcs r ∧ a'.Ok (m + I.length) ∧ I'.length ≤ I.length + c.writes.length ∧ E'.length ≤ E.length + I.length := by
  have hc0 := hc
  obtain ⟨vll, vlh, vlo, vhi, vtx, vwr, vke, vco, vix, rfl, hcl, hsq, hkd, htx, hts, hlk1, hlo, hhi, htxs, hwr, hke, htb⟩ := cmd_cells.1 hc
  refine calls_of_W' Try.func32 rfl Try.ntmps32 rfl ?_
  refine W_seq ?_
  refine W_region ?_
  refine OL_c (op_box (v := .agg #[.int .u64 c.client, .int .u64 c.seq, .int .i64 c.kind, .int .u64 c.txn, .int .u64 c.ts, .bool c.flag, .int .u64 c.lk.txn, .int .i64 c.lk.level, .int .i64 c.lk.mode, vll, vlh, vlo, vhi, vtx, vwr, vke, .int .i64 c.tb.id, .string c.tb.name, vco, .int .i64 c.tb.key, vix]) H rfl (by decide) fun b3 w0_0 H => ?_)
  refine OL_c (op_alloc H ti84 (by decide) fun b4 w0_1 H => ?_)
  refine OL_nil ?_
  refine W_seq ?_
  refine W_seq ?_
  refine W_region ?_
  refine OL_y (y_move rfl) (by decide) ?_
  refine OL_c (op_call 59 en59 rfl [.pointer (some ⟨mb, 0, none⟩)] rfl (by decide) ((f59_calls (H.getOwn 2 rfl)).mono ?_))
  rintro e w1_1 ⟨rfl, hE⟩
  refine ⟨_, rfl, ?_⟩
  have H := H.ext0 hE
  refine OL_y (y_not (b := true) rfl) (by decide) ?_
  refine OL_nil ?_
  refine W_condf rfl ?_
  refine W_skip ?_
  refine W_seq ?_
  rcases hlc : l c.client with _ | ⟨s, r0⟩
  · refine W_drawD H mixed (by kernel_rfl) [] (fun wq w' => Holds w' (own b4 (.cells #[.int .i64 0, .int .u64 0, .int .u64 0, .bool false, .slice none 0 0, .slice none 0 0, .slice none 0 0] 84) :: own b3 (.cells #[.int .u64 c.client, .int .u64 c.seq, .int .i64 c.kind, .int .u64 c.txn, .int .u64 c.ts, .bool c.flag, .int .u64 c.lk.txn, .int .i64 c.lk.level, .int .i64 c.lk.mode, vll, vlh, vlo, vhi, vtx, vwr, vke, .int .i64 c.tb.id, .string c.tb.name, vco, .int .i64 c.tb.key, vix] 78) :: mAt mb lb la sb g1 g2 E I F Wp w0 L)) fun wd3 H hEd => ?_
    have hS : ∀ {ls : Array Bool}, Sx [] (fun w' => Holds w' (own b4 (.cells #[.int .i64 0, .int .u64 0, .int .u64 0, .bool false, .slice none 0 0, .slice none 0 0, .slice none 0 0] 84) :: own b3 (.cells #[.int .u64 c.client, .int .u64 c.seq, .int .i64 c.kind, .int .u64 c.txn, .int .u64 c.ts, .bool c.flag, .int .u64 c.lk.txn, .int .i64 c.lk.level, .int .i64 c.lk.mode, vll, vlh, vlo, vhi, vtx, vwr, vke, .int .i64 c.tb.id, .string c.tb.name, vco, .int .i64 c.tb.key, vix] 78) :: mAt mb lb la sb g1 g2 E I F Wp w0 L)) ls wd3 := fun {_} _ => H
    refine DA_p 0 rfl (by kernel_rfl) rfl (fun _ => y_move rfl) hS (by decide) fun hS => ?_
    refine DA_p 1 rfl (by kernel_rfl) rfl (fun _ => y_nilCheck rfl ⟨_, rfl⟩) hS (by decide) fun hS => ?_
    refine DA_p 2 rfl (by kernel_rfl) rfl (fun _ => y_fieldAddr ti123 rfl ti121 rfl rfl) hS (by decide) fun hS => ?_
    refine DA_y 3 rfl (by kernel_rfl) rfl (by kernel_rfl) (fun w' h => y_loadS (v := .map (some lb)) ti121 rfl rfl (Cells.unit (h.getOwn 2 rfl) rfl)) hS (by decide) fun hS => ?_
    refine DA_p 4 rfl (by kernel_rfl) rfl (fun _ => y_fieldAddr ti78 rfl ti24 rfl rfl) hS (by decide) fun hS => ?_
    refine DA_y 5 rfl (by kernel_rfl) rfl (by kernel_rfl) (fun w' h => y_loadS (v := .int .u64 c.client) ti24 rfl rfl (Cells.unit (h.getOwn 1 rfl) rfl)) hS (by decide) fun hS => ?_
    refine DA_y 6 rfl (by kernel_rfl) rfl (by kernel_rfl) (fun w' h => y_lookupOkN (k := c.client) (hL.no _ hlc) h 3 rfl ti121 ti128 (KeyOK.int Try.underlying24) rfl rfl) hS (by decide) fun hS => ?_
    refine DA_p 7 rfl (by kernel_rfl) rfl (fun _ => y_move rfl) hS (by decide) fun hS => ?_
    refine DA_p 8 rfl (by kernel_rfl) rfl (fun _ => y_extract (v := .agg #[.int .u64 0, .int .i64 0, .int .u64 0, .int .u64 0, .bool false, .slice none 0 0, .slice none 0 0, .slice none 0 0]) rfl rfl) hS (by decide) fun hS => ?_
    refine DA_p 9 rfl (by kernel_rfl) rfl (fun _ => y_extract (v := .bool false) rfl rfl) hS (by decide) fun hS => ?_
    refine DA_one 10 (by kernel_rfl) rfl (op_alloc H ti128 (by decide) fun b5 w3_10 H => ⟨fun _ => H.tail, ?_⟩)
    refine DA_one 11 (by kernel_rfl) rfl (op_store (v := .agg #[.int .u64 0, .int .i64 0, .int .u64 0, .int .u64 0, .bool false, .slice none 0 0, .slice none 0 0, .slice none 0 0]) H 0 rfl ti128 rfl rfl rfl (by decide) (by simp [Value.cells, Value.oneCell']) fun w3_11 H => ⟨fun _ => H.tail, ?_⟩)
    have hS : ∀ {ls : Array Bool}, Sx [] (fun w' => Holds w' (own b4 (.cells #[.int .i64 0, .int .u64 0, .int .u64 0, .bool false, .slice none 0 0, .slice none 0 0, .slice none 0 0] 84) :: own b3 (.cells #[.int .u64 c.client, .int .u64 c.seq, .int .i64 c.kind, .int .u64 c.txn, .int .u64 c.ts, .bool c.flag, .int .u64 c.lk.txn, .int .i64 c.lk.level, .int .i64 c.lk.mode, vll, vlh, vlo, vhi, vtx, vwr, vke, .int .i64 c.tb.id, .string c.tb.name, vco, .int .i64 c.tb.key, vix] 78) :: mAt mb lb la sb g1 g2 E I F Wp w0 L)) ls w3_11 := fun {_} _ => H.tail
    refine DA_p (v := .bool false) 12 rfl (by kernel_rfl) rfl (fun _ => y_assign rfl) hS (by decide) fun hS => ?_
    refine DA_done (by kernel_rfl) ?_
    refine W_seq ?_
    refine W_seq ?_
    refine W_region ?_
    refine OL_y (v := .bool false) (y_move rfl) (by decide) ?_
    refine OL_y (v := .bool false) (y_move rfl) (by decide) ?_
    refine OL_s rfl (by decide) rfl rfl (by simp) ?_
    refine OL_s rfl (by decide) rfl rfl (by simp) ?_
    refine OL_s rfl (by decide) rfl rfl (by simp) ?_
    refine OL_y (y_pick (b := false) (v := .bool false) rfl rfl) (by decide) ?_
    refine OL_nil ?_
    refine W_condf rfl ?_
    refine W_skip ?_
    refine W_seq ?_
    have hkn : known l c = none := by unfold known; rw [hlc]; split <;> rfl
    refine W_region ?_
    refine OL_y (y_move rfl) (by decide) ?_
    refine OL_y (y_loadA (cs := [.int .u64 c.client, .int .u64 c.seq, .int .i64 c.kind, .int .u64 c.txn, .int .u64 c.ts, .bool c.flag, .int .u64 c.lk.txn, .int .i64 c.lk.level, .int .i64 c.lk.mode, vll, vlh, vlo, vhi, vtx, vwr, vke, .int .i64 c.tb.id, .string c.tb.name, vco, .int .i64 c.tb.key, vix]) ti78 rfl rfl (Cells.of (H.getOwn 2 rfl) rfl) rfl) (by decide) ?_
    refine OL_c (op_call 60 en60 rfl [.pointer (some ⟨mb, 0, none⟩), .agg #[.int .u64 c.client, .int .u64 c.seq, .int .i64 c.kind, .int .u64 c.txn, .int .u64 c.ts, .bool c.flag, .int .u64 c.lk.txn, .int .i64 c.lk.level, .int .i64 c.lk.mode, vll, vlh, vlo, vhi, vtx, vwr, vke, .int .i64 c.tb.id, .string c.tb.name, vco, .int .i64 c.tb.key, vix]] rfl (by decide) ((f60_calls (mIn3 H) hr ha hm hEl hIl hc0 hll hwk).mono ?_))
    rintro e w9_2 ⟨rcs, r, a', E', I', F', Wp', rfl, hOne, H, hr', gr, hR, ha', hI', hE'⟩
    refine ⟨_, rfl, ?_⟩
    have H := mOut3 H
    have hR0 := hR
    obtain ⟨vr, rfl, hr1, hr2⟩ := res_cells.1 hR
    obtain ⟨ar, cr, rfl, -, -⟩ := hr2.len
    refine OL_var (v := .agg #[.int .i64 r.err, .int .u64 0, .int .u64 0, .bool false, .slice none 0 0, .slice ar r.cells.length cr, .slice none 0 0]) H ti84 rfl (by decide) (fun _ => rfl) rfl (tRes.one hR0) fun b7 w9_3 H => ?_
    refine OL_nil ?_
    refine W_seq ?_
    refine W_seq ?_
    by_cases hz : c.client = 0
    · refine W_region ?_
      refine OL_y (y_fieldAddr ti78 rfl ti24 rfl rfl) (by decide) ?_
      refine OL_y (y_loadS (v := .int .u64 c.client) ti24 rfl rfl (Cells.unit (H.getOwn 3 rfl) rfl)) (by decide) ?_
      refine OL_y (v := .bool false) (y_neqF hz rfl rfl) (by decide) ?_
      refine OL_nil ?_
      refine W_condf rfl ?_
      refine W_skip ?_
      refine W_seq ?_
      refine W_region ?_
      refine OL_y (y_loadA (cs := [.int .i64 r.err, .int .u64 0, .int .u64 0, .bool false, .slice none 0 0, .slice ar r.cells.length cr, .slice none 0 0]) ti84 rfl rfl (Cells.of (H.getOwn 0 rfl) rfl) rfl) (by decide) ?_
      refine OL_c (op_store (v := .agg #[.int .i64 r.err, .int .u64 0, .int .u64 0, .bool false, .slice none 0 0, .slice ar r.cells.length cr, .slice none 0 0]) H 2 rfl ti84 rfl rfl rfl (by decide) (tRes.one hR0) fun w12_1 H => ?_)
      refine OL_nil ?_
      refine W_ret ?_
      show RetOK _ _ _ _ _ _
      skip
      exact ret1c Try.results32 rfl (run_loadVarA (cs := [.int .i64 r.err, .int .u64 0, .int .u64 0, .bool false, .slice none 0 0, .slice ar r.cells.length cr, .slice none 0 0]) ti84 rfl (Cells.of (H.getOwn 2 rfl) rfl) rfl) ⟨_, r, a', _, la, E', I', F', Wp', rfl, doNew hkn hOne, H.tail.tail.tail.tail, hr', (note0 hz).symm ▸ hL.grow gr, gr, hR0, ha', hI', hE'⟩
    · refine W_region ?_
      refine OL_y (y_fieldAddr ti78 rfl ti24 rfl rfl) (by decide) ?_
      refine OL_y (y_loadS (v := .int .u64 c.client) ti24 rfl rfl (Cells.unit (H.getOwn 3 rfl) rfl)) (by decide) ?_
      refine OL_y (v := .bool true) (y_neqT hz rfl rfl) (by decide) ?_
      refine OL_nil ?_
      refine W_condt rfl ?_
      refine W_drawD H mixed (by kernel_rfl) [] (fun wq w' => w'.heap[mb]? = some (.cells #[.pointer (some ⟨sb, 0, none⟩), .map (some lb)] 123) ∧ w'.heap[b3]? = some (.cells #[.int .u64 c.client, .int .u64 c.seq, .int .i64 c.kind, .int .u64 c.txn, .int .u64 c.ts, .bool c.flag, .int .u64 c.lk.txn, .int .i64 c.lk.level, .int .i64 c.lk.mode, vll, vlh, vlo, vhi, vtx, vwr, vke, .int .i64 c.tb.id, .string c.tb.name, vco, .int .i64 c.tb.key, vix] 78) ∧ w'.heap[b7]? = some (.cells #[.int .i64 r.err, .int .u64 0, .int .u64 0, .bool false, .slice none 0 0, .slice ar r.cells.length cr, .slice none 0 0] 84)) fun wd11 H hEd => ?_
      have hS : ∀ {ls : Array Bool}, Sx [] (fun w' => w'.heap[mb]? = some (.cells #[.pointer (some ⟨sb, 0, none⟩), .map (some lb)] 123) ∧ w'.heap[b3]? = some (.cells #[.int .u64 c.client, .int .u64 c.seq, .int .i64 c.kind, .int .u64 c.txn, .int .u64 c.ts, .bool c.flag, .int .u64 c.lk.txn, .int .i64 c.lk.level, .int .i64 c.lk.mode, vll, vlh, vlo, vhi, vtx, vwr, vke, .int .i64 c.tb.id, .string c.tb.name, vco, .int .i64 c.tb.key, vix] 78) ∧ w'.heap[b7]? = some (.cells #[.int .i64 r.err, .int .u64 0, .int .u64 0, .bool false, .slice none 0 0, .slice ar r.cells.length cr, .slice none 0 0] 84)) ls wd11 := fun {_} _ => ⟨H.getOwn 4 rfl, H.getOwn 3 rfl, H.getOwn 0 rfl⟩
      refine DA_p 0 rfl (by kernel_rfl) rfl (fun _ => y_move rfl) hS (by decide) fun hS => ?_
      refine DA_p 1 rfl (by kernel_rfl) rfl (fun _ => y_nilCheck rfl ⟨_, rfl⟩) hS (by decide) fun hS => ?_
      refine DA_p 2 rfl (by kernel_rfl) rfl (fun _ => y_fieldAddr ti123 rfl ti121 rfl rfl) hS (by decide) fun hS => ?_
      refine DA_y 3 rfl (by kernel_rfl) rfl (by kernel_rfl) (fun w' h => y_loadS (v := .map (some lb)) ti121 rfl rfl (Cells.unit h.1 rfl)) hS (by decide) fun hS => ?_
      refine DA_p 4 rfl (by kernel_rfl) rfl (fun _ => y_fieldAddr ti78 rfl ti24 rfl rfl) hS (by decide) fun hS => ?_
      refine DA_y 5 rfl (by kernel_rfl) rfl (by kernel_rfl) (fun w' h => y_loadS (v := .int .u64 c.client) ti24 rfl rfl (Cells.unit h.2.1 rfl)) hS (by decide) fun hS => ?_
      refine DA_p 6 rfl (by kernel_rfl) rfl (fun _ => y_fieldAddr ti78 rfl ti24 rfl rfl) hS (by decide) fun hS => ?_
      refine DA_y 7 rfl (by kernel_rfl) rfl (by kernel_rfl) (fun w' h => y_loadS (v := .int .u64 c.seq) ti24 rfl rfl (Cells.unit h.2.1 rfl)) hS (by decide) fun hS => ?_
      refine DA_y 8 rfl (by kernel_rfl) rfl (by kernel_rfl) (fun w' h => y_loadA (cs := [.int .i64 r.err, .int .u64 0, .int .u64 0, .bool false, .slice none 0 0, .slice ar r.cells.length cr, .slice none 0 0]) ti84 rfl rfl (Cells.of h.2.2 rfl) rfl) hS (by decide) fun hS => ?_
      refine DA_p (v := .agg #[.int .u64 c.seq, .int .i64 r.err, .int .u64 0, .int .u64 0, .bool false, .slice none 0 0, .slice ar r.cells.length cr, .slice none 0 0]) 9 rfl (by kernel_rfl) rfl (fun _ => y_build ti128 pl128 (by kernel_rfl)) hS (by decide) fun hS => ?_
      refine DA_one 10 (by kernel_rfl) rfl (op_mapUpdate (k := c.client) (v := .agg #[.int .u64 c.seq, .int .i64 r.err, .int .u64 0, .int .u64 0, .bool false, .slice none 0 0, .slice ar r.cells.length cr, .slice none 0 0]) H 5 rfl ti121 (KeyOK.int Try.underlying24) rfl rfl rfl fun w11_10 H => ⟨fun _ => ⟨H.getOwn 4 rfl, H.getOwn 3 rfl, H.getOwn 0 rfl⟩, ?_⟩)
      refine DA_done (by kernel_rfl) ?_
      refine W_seq ?_
      refine W_region ?_
      refine OL_y (y_loadA (cs := [.int .i64 r.err, .int .u64 0, .int .u64 0, .bool false, .slice none 0 0, .slice ar r.cells.length cr, .slice none 0 0]) ti84 rfl rfl (Cells.of (H.getOwn 0 rfl) rfl) rfl) (by decide) ?_
      refine OL_c (op_store (v := .agg #[.int .i64 r.err, .int .u64 0, .int .u64 0, .bool false, .slice none 0 0, .slice ar r.cells.length cr, .slice none 0 0]) H 2 rfl ti84 rfl rfl rfl (by decide) (tRes.one hR0) fun w12_1 H => ?_)
      refine OL_nil ?_
      refine W_ret ?_
      show RetOK _ _ _ _ _ _
      skip
      exact ret1c Try.results32 rfl (run_loadVarA (cs := [.int .i64 r.err, .int .u64 0, .int .u64 0, .bool false, .slice none 0 0, .slice ar r.cells.length cr, .slice none 0 0]) ti84 rfl (Cells.of (H.getOwn 2 rfl) rfl) rfl) ⟨_, r, a', _, _, E', I', F', Wp', rfl, doNew hkn hOne, H.tail.tail.tail.tail, hr', (hL.grow gr).set hz hR0, gr, hR0, ha', hI', hE'⟩
  · obtain ⟨cs0, hmg, hR00⟩ := hL.has _ _ hlc
    obtain ⟨vr0, rfl, hi0, hS00⟩ := res_cells.1 hR00
    obtain ⟨ar0, cr0, rfl, -, -⟩ := hS00.len
    have hone128 : ∀ u ∈ ([.int .u64 s, .int .i64 r0.err, .int .u64 0, .int .u64 0, .bool false, .slice none 0 0, .slice ar0 r0.cells.length cr0, .slice none 0 0] : List Value), u.oneCell' = true := by simp [Value.oneCell']
    refine W_drawD H mixed (by kernel_rfl) [] (fun wq w' => Holds w' (own b4 (.cells #[.int .i64 0, .int .u64 0, .int .u64 0, .bool false, .slice none 0 0, .slice none 0 0, .slice none 0 0] 84) :: own b3 (.cells #[.int .u64 c.client, .int .u64 c.seq, .int .i64 c.kind, .int .u64 c.txn, .int .u64 c.ts, .bool c.flag, .int .u64 c.lk.txn, .int .i64 c.lk.level, .int .i64 c.lk.mode, vll, vlh, vlo, vhi, vtx, vwr, vke, .int .i64 c.tb.id, .string c.tb.name, vco, .int .i64 c.tb.key, vix] 78) :: mAt mb lb la sb g1 g2 E I F Wp w0 L)) fun wd3 H hEd => ?_
    have hS : ∀ {ls : Array Bool}, Sx [] (fun w' => Holds w' (own b4 (.cells #[.int .i64 0, .int .u64 0, .int .u64 0, .bool false, .slice none 0 0, .slice none 0 0, .slice none 0 0] 84) :: own b3 (.cells #[.int .u64 c.client, .int .u64 c.seq, .int .i64 c.kind, .int .u64 c.txn, .int .u64 c.ts, .bool c.flag, .int .u64 c.lk.txn, .int .i64 c.lk.level, .int .i64 c.lk.mode, vll, vlh, vlo, vhi, vtx, vwr, vke, .int .i64 c.tb.id, .string c.tb.name, vco, .int .i64 c.tb.key, vix] 78) :: mAt mb lb la sb g1 g2 E I F Wp w0 L)) ls wd3 := fun {_} _ => H
    refine DA_p 0 rfl (by kernel_rfl) rfl (fun _ => y_move rfl) hS (by decide) fun hS => ?_
    refine DA_p 1 rfl (by kernel_rfl) rfl (fun _ => y_nilCheck rfl ⟨_, rfl⟩) hS (by decide) fun hS => ?_
    refine DA_p 2 rfl (by kernel_rfl) rfl (fun _ => y_fieldAddr ti123 rfl ti121 rfl rfl) hS (by decide) fun hS => ?_
    refine DA_y 3 rfl (by kernel_rfl) rfl (by kernel_rfl) (fun w' h => y_loadS (v := .map (some lb)) ti121 rfl rfl (Cells.unit (h.getOwn 2 rfl) rfl)) hS (by decide) fun hS => ?_
    refine DA_p 4 rfl (by kernel_rfl) rfl (fun _ => y_fieldAddr ti78 rfl ti24 rfl rfl) hS (by decide) fun hS => ?_
    refine DA_y 5 rfl (by kernel_rfl) rfl (by kernel_rfl) (fun w' h => y_loadS (v := .int .u64 c.client) ti24 rfl rfl (Cells.unit (h.getOwn 1 rfl) rfl)) hS (by decide) fun hS => ?_
    refine DA_y 6 rfl (by kernel_rfl) rfl (by kernel_rfl) (fun w' h => y_lookupOkS (k := c.client) hmg h 3 rfl ti121 ti128 (KeyOK.int Try.underlying24) rfl rfl) hS (by decide) fun hS => ?_
    refine DA_p 7 rfl (by kernel_rfl) rfl (fun _ => y_move rfl) hS (by decide) fun hS => ?_
    refine DA_p 8 rfl (by kernel_rfl) rfl (fun _ => y_extract (v := .agg #[.int .u64 s, .int .i64 r0.err, .int .u64 0, .int .u64 0, .bool false, .slice none 0 0, .slice ar0 r0.cells.length cr0, .slice none 0 0]) rfl rfl) hS (by decide) fun hS => ?_
    refine DA_p 9 rfl (by kernel_rfl) rfl (fun _ => y_extract (v := .bool true) rfl rfl) hS (by decide) fun hS => ?_
    refine DA_one 10 (by kernel_rfl) rfl (op_alloc H ti128 (by decide) fun b5 w3_10 H => ⟨fun _ => H.tail, ?_⟩)
    refine DA_one 11 (by kernel_rfl) rfl (op_store (v := .agg #[.int .u64 s, .int .i64 r0.err, .int .u64 0, .int .u64 0, .bool false, .slice none 0 0, .slice ar0 r0.cells.length cr0, .slice none 0 0]) H 0 rfl ti128 rfl rfl rfl (by decide) hone128 fun w3_11 H => ⟨fun _ => H.tail, ?_⟩)
    have hS : ∀ {ls : Array Bool}, Sx [] (fun w' => Holds w' (own b4 (.cells #[.int .i64 0, .int .u64 0, .int .u64 0, .bool false, .slice none 0 0, .slice none 0 0, .slice none 0 0] 84) :: own b3 (.cells #[.int .u64 c.client, .int .u64 c.seq, .int .i64 c.kind, .int .u64 c.txn, .int .u64 c.ts, .bool c.flag, .int .u64 c.lk.txn, .int .i64 c.lk.level, .int .i64 c.lk.mode, vll, vlh, vlo, vhi, vtx, vwr, vke, .int .i64 c.tb.id, .string c.tb.name, vco, .int .i64 c.tb.key, vix] 78) :: mAt mb lb la sb g1 g2 E I F Wp w0 L)) ls w3_11 := fun {_} _ => H.tail
    refine DA_p (v := .bool true) 12 rfl (by kernel_rfl) rfl (fun _ => y_assign rfl) hS (by decide) fun hS => ?_
    refine DA_done (by kernel_rfl) ?_
    refine W_seq ?_
    refine W_seq ?_
    by_cases hz : c.client = 0
    · refine W_region ?_
      refine OL_y (v := .bool true) (y_move rfl) (by decide) ?_
      refine OL_y (v := .bool true) (y_move rfl) (by decide) ?_
      refine OL_yg rfl (by decide) rfl (y_fieldAddr ti78 rfl ti24 rfl rfl) (by decide) ?_
      refine OL_yg rfl (by decide) rfl (y_loadS (v := .int .u64 c.client) ti24 rfl rfl (Cells.unit (H.getOwn 2 rfl) rfl)) (by decide) ?_
      refine OL_yg (v := .bool false) rfl (by decide) rfl (y_neqF hz rfl rfl) (by decide) ?_
      refine OL_y (y_pick (b := true) (v := .bool false) rfl rfl) (by decide) ?_
      refine OL_nil ?_
      refine W_condf rfl ?_
      refine W_skip ?_
      refine W_seq ?_
      have hkn : known l c = none := if_pos hz
      refine W_region ?_
      refine OL_y (y_move rfl) (by decide) ?_
      refine OL_y (y_loadA (cs := [.int .u64 c.client, .int .u64 c.seq, .int .i64 c.kind, .int .u64 c.txn, .int .u64 c.ts, .bool c.flag, .int .u64 c.lk.txn, .int .i64 c.lk.level, .int .i64 c.lk.mode, vll, vlh, vlo, vhi, vtx, vwr, vke, .int .i64 c.tb.id, .string c.tb.name, vco, .int .i64 c.tb.key, vix]) ti78 rfl rfl (Cells.of (H.getOwn 2 rfl) rfl) rfl) (by decide) ?_
      refine OL_c (op_call 60 en60 rfl [.pointer (some ⟨mb, 0, none⟩), .agg #[.int .u64 c.client, .int .u64 c.seq, .int .i64 c.kind, .int .u64 c.txn, .int .u64 c.ts, .bool c.flag, .int .u64 c.lk.txn, .int .i64 c.lk.level, .int .i64 c.lk.mode, vll, vlh, vlo, vhi, vtx, vwr, vke, .int .i64 c.tb.id, .string c.tb.name, vco, .int .i64 c.tb.key, vix]] rfl (by decide) ((f60_calls (mIn3 H) hr ha hm hEl hIl hc0 hll hwk).mono ?_))
      rintro e w9_2 ⟨rcs, r, a', E', I', F', Wp', rfl, hOne, H, hr', gr, hR, ha', hI', hE'⟩
      refine ⟨_, rfl, ?_⟩
      have H := mOut3 H
      have hR0 := hR
      obtain ⟨vr, rfl, hr1, hr2⟩ := res_cells.1 hR
      obtain ⟨ar, cr, rfl, -, -⟩ := hr2.len
      refine OL_var (v := .agg #[.int .i64 r.err, .int .u64 0, .int .u64 0, .bool false, .slice none 0 0, .slice ar r.cells.length cr, .slice none 0 0]) H ti84 rfl (by decide) (fun _ => rfl) rfl (tRes.one hR0) fun b7 w9_3 H => ?_
      refine OL_nil ?_
      refine W_seq ?_
      refine W_seq ?_
      refine W_region ?_
      refine OL_y (y_fieldAddr ti78 rfl ti24 rfl rfl) (by decide) ?_
      refine OL_y (y_loadS (v := .int .u64 c.client) ti24 rfl rfl (Cells.unit (H.getOwn 3 rfl) rfl)) (by decide) ?_
      refine OL_y (v := .bool false) (y_neqF hz rfl rfl) (by decide) ?_
      refine OL_nil ?_
      refine W_condf rfl ?_
      refine W_skip ?_
      refine W_seq ?_
      refine W_region ?_
      refine OL_y (y_loadA (cs := [.int .i64 r.err, .int .u64 0, .int .u64 0, .bool false, .slice none 0 0, .slice ar r.cells.length cr, .slice none 0 0]) ti84 rfl rfl (Cells.of (H.getOwn 0 rfl) rfl) rfl) (by decide) ?_
      refine OL_c (op_store (v := .agg #[.int .i64 r.err, .int .u64 0, .int .u64 0, .bool false, .slice none 0 0, .slice ar r.cells.length cr, .slice none 0 0]) H 2 rfl ti84 rfl rfl rfl (by decide) (tRes.one hR0) fun w12_1 H => ?_)
      refine OL_nil ?_
      refine W_ret ?_
      show RetOK _ _ _ _ _ _
      skip
      exact ret1c Try.results32 rfl (run_loadVarA (cs := [.int .i64 r.err, .int .u64 0, .int .u64 0, .bool false, .slice none 0 0, .slice ar r.cells.length cr, .slice none 0 0]) ti84 rfl (Cells.of (H.getOwn 2 rfl) rfl) rfl) ⟨_, r, a', _, la, E', I', F', Wp', rfl, doNew hkn hOne, H.tail.tail.tail.tail, hr', (note0 hz).symm ▸ hL.grow gr, gr, hR0, ha', hI', hE'⟩
    · refine W_region ?_
      refine OL_y (v := .bool true) (y_move rfl) (by decide) ?_
      refine OL_y (v := .bool true) (y_move rfl) (by decide) ?_
      refine OL_yg rfl (by decide) rfl (y_fieldAddr ti78 rfl ti24 rfl rfl) (by decide) ?_
      refine OL_yg rfl (by decide) rfl (y_loadS (v := .int .u64 c.client) ti24 rfl rfl (Cells.unit (H.getOwn 2 rfl) rfl)) (by decide) ?_
      refine OL_yg (v := .bool true) rfl (by decide) rfl (y_neqT hz rfl rfl) (by decide) ?_
      refine OL_y (y_pick (b := true) (v := .bool true) rfl rfl) (by decide) ?_
      refine OL_nil ?_
      refine W_condt rfl ?_
      refine W_seq ?_
      refine W_seq ?_
      by_cases he : s = c.seq
      · refine W_region ?_
        refine OL_y (y_fieldAddr ti128 rfl ti24 rfl rfl) (by decide) ?_
        refine OL_y (y_loadS (v := .int .u64 s) ti24 rfl rfl (Cells.unit (H.getOwn 0 rfl) rfl)) (by decide) ?_
        refine OL_y (y_fieldAddr ti78 rfl ti24 rfl rfl) (by decide) ?_
        refine OL_y (y_loadS (v := .int .u64 c.seq) ti24 rfl rfl (Cells.unit (H.getOwn 2 rfl) rfl)) (by decide) ?_
        refine OL_y (v := .bool true) (y_eqlT he rfl rfl) (by decide) ?_
        refine OL_nil ?_
        refine W_condt rfl ?_
        refine W_seq ?_
        refine W_region ?_
        refine OL_y (y_fieldAddr ti128 rfl ti84 rfl rfl) (by decide) ?_
        refine OL_y (y_loadA (cs := [.int .i64 r0.err, .int .u64 0, .int .u64 0, .bool false, .slice none 0 0, .slice ar0 r0.cells.length cr0, .slice none 0 0]) ti84 rfl rfl (Cells.of (H.getOwn 0 rfl) rfl) rfl) (by decide) ?_
        refine OL_c (op_store (v := .agg #[.int .i64 r0.err, .int .u64 0, .int .u64 0, .bool false, .slice none 0 0, .slice ar0 r0.cells.length cr0, .slice none 0 0]) H 1 rfl ti84 rfl rfl rfl (by decide) (tRes.one hR00) fun w6_2 H => ?_)
        refine OL_nil ?_
        refine W_ret ?_
        show RetOK _ _ _ _ _ _
        have hkn : known l c = some r0 := by unfold known; rw [if_neg hz, hlc]; exact if_pos he
        exact ret1c Try.results32 rfl (run_loadVarA (cs := [.int .i64 r0.err, .int .u64 0, .int .u64 0, .bool false, .slice none 0 0, .slice ar0 r0.cells.length cr0, .slice none 0 0]) ti84 rfl (Cells.of (H.getOwn 1 rfl) rfl) rfl) ⟨_, r0, a, l, la, E, I, F, Wp, rfl, doKnown hkn, H.tail.tail.tail, hr, hL, Grow.refl hr.base, hR00, ha.mono (by omega), by omega, by omega⟩
      · refine W_region ?_
        refine OL_y (y_fieldAddr ti128 rfl ti24 rfl rfl) (by decide) ?_
        refine OL_y (y_loadS (v := .int .u64 s) ti24 rfl rfl (Cells.unit (H.getOwn 0 rfl) rfl)) (by decide) ?_
        refine OL_y (y_fieldAddr ti78 rfl ti24 rfl rfl) (by decide) ?_
        refine OL_y (y_loadS (v := .int .u64 c.seq) ti24 rfl rfl (Cells.unit (H.getOwn 2 rfl) rfl)) (by decide) ?_
        refine OL_y (v := .bool false) (y_eqlF he rfl rfl) (by decide) ?_
        refine OL_nil ?_
        refine W_condf rfl ?_
        refine W_skip ?_
        refine W_seq ?_
        by_cases hg : c.seq < s
        · refine W_region ?_
          refine OL_y (y_fieldAddr ti128 rfl ti24 rfl rfl) (by decide) ?_
          refine OL_y (y_loadS (v := .int .u64 s) ti24 rfl rfl (Cells.unit (H.getOwn 0 rfl) rfl)) (by decide) ?_
          refine OL_y (y_fieldAddr ti78 rfl ti24 rfl rfl) (by decide) ?_
          refine OL_y (y_loadS (v := .int .u64 c.seq) ti24 rfl rfl (Cells.unit (H.getOwn 2 rfl) rfl)) (by decide) ?_
          refine OL_y (v := .bool true) (y_gtrT hg rfl rfl) (by decide) ?_
          refine OL_nil ?_
          refine W_condt rfl ?_
          refine W_seq ?_
          refine W_region ?_
          refine OL_y (v := .agg #[.int .i64 1, .int .u64 0, .int .u64 0, .bool false, .slice none 0 0, .slice none 0 0, .slice none 0 0]) (y_build ti84 pl84 (by kernel_rfl)) (by decide) ?_
          refine OL_c (op_store (v := .agg #[.int .i64 1, .int .u64 0, .int .u64 0, .bool false, .slice none 0 0, .slice none 0 0, .slice none 0 0]) H 1 rfl ti84 rfl rfl rfl (by decide) (by simp [Value.cells, Value.oneCell']) fun w8_1 H => ?_)
          refine OL_nil ?_
          refine W_ret ?_
          show RetOK _ _ _ _ _ _
          have hkn : known l c = some ⟨1, []⟩ := by unfold known; rw [if_neg hz, hlc]; exact (if_neg he).trans (if_pos hg)
          exact ret1c Try.results32 rfl (run_loadVarA (cs := [.int .i64 1, .int .u64 0, .int .u64 0, .bool false, .slice none 0 0, .slice none 0 0, .slice none 0 0]) ti84 rfl (Cells.of (H.getOwn 1 rfl) rfl) rfl) ⟨_, _, a, l, la, E, I, F, Wp, rfl, doKnown hkn, H.tail.tail.tail, hr, hL, Grow.refl hr.base, res_cells.2 ⟨_, rfl, rfl, SlR.nil _ _ _ _⟩, ha.mono (by omega), by omega, by omega⟩
        · refine W_region ?_
          refine OL_y (y_fieldAddr ti128 rfl ti24 rfl rfl) (by decide) ?_
          refine OL_y (y_loadS (v := .int .u64 s) ti24 rfl rfl (Cells.unit (H.getOwn 0 rfl) rfl)) (by decide) ?_
          refine OL_y (y_fieldAddr ti78 rfl ti24 rfl rfl) (by decide) ?_
          refine OL_y (y_loadS (v := .int .u64 c.seq) ti24 rfl rfl (Cells.unit (H.getOwn 2 rfl) rfl)) (by decide) ?_
          refine OL_y (v := .bool false) (y_gtrF hg rfl rfl) (by decide) ?_
          refine OL_nil ?_
          refine W_condf rfl ?_
          refine W_skip ?_
          refine W_seq ?_
          have hkn : known l c = none := by unfold known; rw [if_neg hz, hlc]; exact (if_neg he).trans (if_neg hg)
          refine W_region ?_
          refine OL_y (y_move rfl) (by decide) ?_
          refine OL_y (y_loadA (cs := [.int .u64 c.client, .int .u64 c.seq, .int .i64 c.kind, .int .u64 c.txn, .int .u64 c.ts, .bool c.flag, .int .u64 c.lk.txn, .int .i64 c.lk.level, .int .i64 c.lk.mode, vll, vlh, vlo, vhi, vtx, vwr, vke, .int .i64 c.tb.id, .string c.tb.name, vco, .int .i64 c.tb.key, vix]) ti78 rfl rfl (Cells.of (H.getOwn 2 rfl) rfl) rfl) (by decide) ?_
          refine OL_c (op_call 60 en60 rfl [.pointer (some ⟨mb, 0, none⟩), .agg #[.int .u64 c.client, .int .u64 c.seq, .int .i64 c.kind, .int .u64 c.txn, .int .u64 c.ts, .bool c.flag, .int .u64 c.lk.txn, .int .i64 c.lk.level, .int .i64 c.lk.mode, vll, vlh, vlo, vhi, vtx, vwr, vke, .int .i64 c.tb.id, .string c.tb.name, vco, .int .i64 c.tb.key, vix]] rfl (by decide) ((f60_calls (mIn3 H) hr ha hm hEl hIl hc0 hll hwk).mono ?_))
          rintro e w9_2 ⟨rcs, r, a', E', I', F', Wp', rfl, hOne, H, hr', gr, hR, ha', hI', hE'⟩
          refine ⟨_, rfl, ?_⟩
          have H := mOut3 H
          have hR0 := hR
          obtain ⟨vr, rfl, hr1, hr2⟩ := res_cells.1 hR
          obtain ⟨ar, cr, rfl, -, -⟩ := hr2.len
          refine OL_var (v := .agg #[.int .i64 r.err, .int .u64 0, .int .u64 0, .bool false, .slice none 0 0, .slice ar r.cells.length cr, .slice none 0 0]) H ti84 rfl (by decide) (fun _ => rfl) rfl (tRes.one hR0) fun b7 w9_3 H => ?_
          refine OL_nil ?_
          refine W_seq ?_
          refine W_seq ?_
          refine W_region ?_
          refine OL_y (y_fieldAddr ti78 rfl ti24 rfl rfl) (by decide) ?_
          refine OL_y (y_loadS (v := .int .u64 c.client) ti24 rfl rfl (Cells.unit (H.getOwn 3 rfl) rfl)) (by decide) ?_
          refine OL_y (v := .bool true) (y_neqT hz rfl rfl) (by decide) ?_
          refine OL_nil ?_
          refine W_condt rfl ?_
          refine W_drawD H mixed (by kernel_rfl) [] (fun wq w' => w'.heap[mb]? = some (.cells #[.pointer (some ⟨sb, 0, none⟩), .map (some lb)] 123) ∧ w'.heap[b3]? = some (.cells #[.int .u64 c.client, .int .u64 c.seq, .int .i64 c.kind, .int .u64 c.txn, .int .u64 c.ts, .bool c.flag, .int .u64 c.lk.txn, .int .i64 c.lk.level, .int .i64 c.lk.mode, vll, vlh, vlo, vhi, vtx, vwr, vke, .int .i64 c.tb.id, .string c.tb.name, vco, .int .i64 c.tb.key, vix] 78) ∧ w'.heap[b7]? = some (.cells #[.int .i64 r.err, .int .u64 0, .int .u64 0, .bool false, .slice none 0 0, .slice ar r.cells.length cr, .slice none 0 0] 84)) fun wd11 H hEd => ?_
          have hS : ∀ {ls : Array Bool}, Sx [] (fun w' => w'.heap[mb]? = some (.cells #[.pointer (some ⟨sb, 0, none⟩), .map (some lb)] 123) ∧ w'.heap[b3]? = some (.cells #[.int .u64 c.client, .int .u64 c.seq, .int .i64 c.kind, .int .u64 c.txn, .int .u64 c.ts, .bool c.flag, .int .u64 c.lk.txn, .int .i64 c.lk.level, .int .i64 c.lk.mode, vll, vlh, vlo, vhi, vtx, vwr, vke, .int .i64 c.tb.id, .string c.tb.name, vco, .int .i64 c.tb.key, vix] 78) ∧ w'.heap[b7]? = some (.cells #[.int .i64 r.err, .int .u64 0, .int .u64 0, .bool false, .slice none 0 0, .slice ar r.cells.length cr, .slice none 0 0] 84)) ls wd11 := fun {_} _ => ⟨H.getOwn 4 rfl, H.getOwn 3 rfl, H.getOwn 0 rfl⟩
          refine DA_p 0 rfl (by kernel_rfl) rfl (fun _ => y_move rfl) hS (by decide) fun hS => ?_
          refine DA_p 1 rfl (by kernel_rfl) rfl (fun _ => y_nilCheck rfl ⟨_, rfl⟩) hS (by decide) fun hS => ?_
          refine DA_p 2 rfl (by kernel_rfl) rfl (fun _ => y_fieldAddr ti123 rfl ti121 rfl rfl) hS (by decide) fun hS => ?_
          refine DA_y 3 rfl (by kernel_rfl) rfl (by kernel_rfl) (fun w' h => y_loadS (v := .map (some lb)) ti121 rfl rfl (Cells.unit h.1 rfl)) hS (by decide) fun hS => ?_
          refine DA_p 4 rfl (by kernel_rfl) rfl (fun _ => y_fieldAddr ti78 rfl ti24 rfl rfl) hS (by decide) fun hS => ?_
          refine DA_y 5 rfl (by kernel_rfl) rfl (by kernel_rfl) (fun w' h => y_loadS (v := .int .u64 c.client) ti24 rfl rfl (Cells.unit h.2.1 rfl)) hS (by decide) fun hS => ?_
          refine DA_p 6 rfl (by kernel_rfl) rfl (fun _ => y_fieldAddr ti78 rfl ti24 rfl rfl) hS (by decide) fun hS => ?_
          refine DA_y 7 rfl (by kernel_rfl) rfl (by kernel_rfl) (fun w' h => y_loadS (v := .int .u64 c.seq) ti24 rfl rfl (Cells.unit h.2.1 rfl)) hS (by decide) fun hS => ?_
          refine DA_y 8 rfl (by kernel_rfl) rfl (by kernel_rfl) (fun w' h => y_loadA (cs := [.int .i64 r.err, .int .u64 0, .int .u64 0, .bool false, .slice none 0 0, .slice ar r.cells.length cr, .slice none 0 0]) ti84 rfl rfl (Cells.of h.2.2 rfl) rfl) hS (by decide) fun hS => ?_
          refine DA_p (v := .agg #[.int .u64 c.seq, .int .i64 r.err, .int .u64 0, .int .u64 0, .bool false, .slice none 0 0, .slice ar r.cells.length cr, .slice none 0 0]) 9 rfl (by kernel_rfl) rfl (fun _ => y_build ti128 pl128 (by kernel_rfl)) hS (by decide) fun hS => ?_
          refine DA_one 10 (by kernel_rfl) rfl (op_mapUpdate (k := c.client) (v := .agg #[.int .u64 c.seq, .int .i64 r.err, .int .u64 0, .int .u64 0, .bool false, .slice none 0 0, .slice ar r.cells.length cr, .slice none 0 0]) H 5 rfl ti121 (KeyOK.int Try.underlying24) rfl rfl rfl fun w11_10 H => ⟨fun _ => ⟨H.getOwn 4 rfl, H.getOwn 3 rfl, H.getOwn 0 rfl⟩, ?_⟩)
          refine DA_done (by kernel_rfl) ?_
          refine W_seq ?_
          refine W_region ?_
          refine OL_y (y_loadA (cs := [.int .i64 r.err, .int .u64 0, .int .u64 0, .bool false, .slice none 0 0, .slice ar r.cells.length cr, .slice none 0 0]) ti84 rfl rfl (Cells.of (H.getOwn 0 rfl) rfl) rfl) (by decide) ?_
          refine OL_c (op_store (v := .agg #[.int .i64 r.err, .int .u64 0, .int .u64 0, .bool false, .slice none 0 0, .slice ar r.cells.length cr, .slice none 0 0]) H 2 rfl ti84 rfl rfl rfl (by decide) (tRes.one hR0) fun w12_1 H => ?_)
          refine OL_nil ?_
          refine W_ret ?_
          show RetOK _ _ _ _ _ _
          skip
          exact ret1c Try.results32 rfl (run_loadVarA (cs := [.int .i64 r.err, .int .u64 0, .int .u64 0, .bool false, .slice none 0 0, .slice ar r.cells.length cr, .slice none 0 0]) ti84 rfl (Cells.of (H.getOwn 2 rfl) rfl) rfl) ⟨_, r, a', _, _, E', I', F', Wp', rfl, doNew hkn hOne, H.tail.tail.tail.tail, hr', (hL.grow gr).set hz hR0, gr, hR0, ha', hI', hE'⟩
end Go.Proofs.Ytpandioolpnihaa
