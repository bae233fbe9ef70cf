/- The law's own example: the choosing is awake. -/
import Derived.Test.YtngnplhdokboiaaD
import Derived.Test.YtngnplhdokboiaaWkq
namespace Go.Proofs.Ytngnplhdokboiaa
open Go Go.Wk
set_option linter.unusedVariables false
set_option linter.unusedSimpArgs false

theorem rowLt {w : World} {base e sz n : Nat} {v : Value} {cs : List Value} (h : w.ownsRow base e sz v n cs) : ∀ k, v.ownBlock = some k → k < w.heap.size := by
  intro k hk
  rcases h.2 with ⟨rfl, h0⟩ | ⟨g, cap, cur, rfl, _, hh, hc, hm, hsz, ht⟩
  · cases hk
  · injection hk with hk; subst hk; exact own_lt hh

def va : Ver := ⟨5, 2, false, [], [[97], [98]]⟩
def vb : Ver := ⟨3, 1, false, [], [[98]]⟩
def nov : Ver := ⟨0, 0, false, [], []⟩
def awakeCells : List Cl := [⟨[97], [va], nov⟩, ⟨[98], [vb], nov⟩]
theorem awake_need : needZ [] ⟨[], []⟩ awakeCells = [⟨[98], 5, 2, [[97], [98]]⟩] := by decide +kernel
theorem awake_got : gotZ [] ⟨[], []⟩ awakeCells = [⟨[97], 5, 2, [[97], [98]]⟩] := by decide +kernel

set_option maxHeartbeats 8000000 in
theorem f6_calls {w : World} :
    Calls Try.prog 6 [].toArray w fun e w' => e = .returned (.bool true) ∧ Ext none' w w' := by
  have H := Holds.start w
  refine calls_of_W' Try.func6 rfl Try.ntmps6 rfl ?_
  refine W_seq ?_
  refine W_region ?_
  refine OL_y (v := .bool false) (y_assign rfl) (by decide) ?_
  refine OL_nil ?_
  refine W_seq ?_
  refine W_region ?_
  refine OL_c (op_buildSlice H [.int .u8 97] ti22 ti5 rfl rfl rfl (by simp [Value.cells]) rfl rfl (by decide) fun b5 w1_0 H => ?_)
  refine OL_c (op_convSame (cs := [.int .u8 97]) H 0 rfl Try.underlying22 Try.underlying5 rfl (by decide) fun C5 fr5 w1_1 hC5 hm5 hc5 H => ?_)
  refine OL_c (op_buildSlice H [.int .u8 98] ti22 ti5 rfl rfl rfl (by simp [Value.cells]) rfl rfl (by decide) fun b7 w1_2 H => ?_)
  refine OL_c (op_convSame (cs := [.int .u8 98]) H 0 rfl Try.underlying22 Try.underlying5 rfl (by decide) fun C7 fr7 w1_3 hC7 hm7 hc7 H => ?_)
  refine OL_y (y_assign rfl) (by decide) ?_
  refine OL_y (y_assign rfl) (by decide) ?_
  refine OL_nil ?_
  refine W_seq ?_
  refine W_region ?_
  refine OL_y (v := .agg #[.slice none 0 0, .slice none 0 0]) (y_build ti24 pl24 rfl) (by decide) ?_
  refine OL_y (y_move rfl) (by decide) ?_
  refine OL_y (y_move rfl) (by decide) ?_
  refine OL_y (y_move rfl) (by decide) ?_
  refine OL_c (op_buildSlice H [.slice (some ⟨b5, 0, none⟩) 1 1, .slice (some ⟨b7, 0, none⟩) 1 1] ti30 ti22 rfl rfl rfl (by simp [Value.cells]) rfl rfl (by decide) fun b14 w2_4 H => ?_)
  refine OL_y (v := .agg #[.int .u64 5, .int .u64 2, .bool false, .slice none 0 0, .slice (some ⟨b14, 0, none⟩) 2 2]) (y_build ti32 pl32 rfl) (by decide) ?_
  refine OL_c (op_buildSlice H [.agg #[.int .u64 5, .int .u64 2, .bool false, .slice none 0 0, .slice (some ⟨b14, 0, none⟩) 2 2]] ti28 ti32 rfl rfl rfl (by simp [Value.cells]) rfl rfl (by decide) fun b16 w2_6 H => ?_)
  refine OL_y (v := .agg #[.slice (some ⟨b5, 0, none⟩) 1 1, .slice (some ⟨b16, 0, none⟩) 1 1, .int .u64 0, .int .u64 0, .bool false, .slice none 0 0, .slice none 0 0]) (y_build ti34 pl34 rfl) (by decide) ?_
  refine OL_y (y_move rfl) (by decide) ?_
  refine OL_y (y_move rfl) (by decide) ?_
  refine OL_c (op_buildSlice H [.slice (some ⟨b7, 0, none⟩) 1 1] ti30 ti22 rfl rfl rfl (by simp [Value.cells]) rfl rfl (by decide) fun b20 w2_10 H => ?_)
  refine OL_y (v := .agg #[.int .u64 3, .int .u64 1, .bool false, .slice none 0 0, .slice (some ⟨b20, 0, none⟩) 1 1]) (y_build ti32 pl32 rfl) (by decide) ?_
  refine OL_c (op_buildSlice H [.agg #[.int .u64 3, .int .u64 1, .bool false, .slice none 0 0, .slice (some ⟨b20, 0, none⟩) 1 1]] ti28 ti32 rfl rfl rfl (by simp [Value.cells]) rfl rfl (by decide) fun b22 w2_12 H => ?_)
  refine OL_y (v := .agg #[.slice (some ⟨b7, 0, none⟩) 1 1, .slice (some ⟨b22, 0, none⟩) 1 1, .int .u64 0, .int .u64 0, .bool false, .slice none 0 0, .slice none 0 0]) (y_build ti34 pl34 rfl) (by decide) ?_
  refine OL_c (op_buildSlice H [.agg #[.slice (some ⟨b5, 0, none⟩) 1 1, .slice (some ⟨b16, 0, none⟩) 1 1, .int .u64 0, .int .u64 0, .bool false, .slice none 0 0, .slice none 0 0], .agg #[.slice (some ⟨b7, 0, none⟩) 1 1, .slice (some ⟨b22, 0, none⟩) 1 1, .int .u64 0, .int .u64 0, .bool false, .slice none 0 0, .slice none 0 0]] ti25 ti34 rfl rfl rfl (by simp [Value.cells]) rfl rfl (by decide) fun b24 w2_14 H => ?_)
  obtain ⟨Z, hZd⟩ : ∃ Z : Nat → Prop, Z = fun k => k < w2_14.heap.size := ⟨_, rfl⟩
  have hk97 : SlR (tInt .u8) 1 Z w2_14 (.slice (some ⟨b5, 0, none⟩) 1 1) [97] := SlR_block (H.getOwn 6 rfl) hC5 (by intro x hx; rw [List.mem_singleton.1 hx]; unfold InK; decide) rfl (by decide) hc5 (by decide) (by rw [hZd]; exact own_lt (H.getOwn 6 rfl))
  have hk98 : SlR (tInt .u8) 1 Z w2_14 (.slice (some ⟨b7, 0, none⟩) 1 1) [98] := SlR_block (H.getOwn 5 rfl) hC7 (by intro x hx; rw [List.mem_singleton.1 hx]; unfold InK; decide) rfl (by decide) hc7 (by decide) (by rw [hZd]; exact own_lt (H.getOwn 5 rfl))
  have hks1 : SlR tKey 24 Z w2_14 (.slice (some ⟨b14, 0, none⟩) 2 2) [[97], [98]] := SlR.ofRow (H.getRow 4 rfl) (by decide) (((Els.nil tKey Z w2_14).snoc ⟨_, rfl, hk97⟩).snoc ⟨_, rfl, hk98⟩) (fun k hk => by rw [hZd]; exact rowLt (H.getRow 4 rfl) k hk) (by decide)
  have hks2 : SlR tKey 24 Z w2_14 (.slice (some ⟨b20, 0, none⟩) 1 1) [[98]] := SlR.ofRow (H.getRow 2 rfl) (by decide) ((Els.nil tKey Z w2_14).snoc ⟨_, rfl, hk98⟩) (fun k hk => by rw [hZd]; exact rowLt (H.getRow 2 rfl) k hk) (by decide)
  have hv1 : SlR tVer 72 Z w2_14 (.slice (some ⟨b16, 0, none⟩) 1 1) [va] := SlR.ofRow (H.getRow 3 rfl) (by decide) ((Els.nil tVer Z w2_14).snoc (ver_cells.2 ⟨_, _, rfl, by unfold InK; decide, by unfold InK; decide, SlR.nil _ _ _ _, hks1⟩)) (fun k hk => by rw [hZd]; exact rowLt (H.getRow 3 rfl) k hk) (by decide)
  have hv2 : SlR tVer 72 Z w2_14 (.slice (some ⟨b22, 0, none⟩) 1 1) [vb] := SlR.ofRow (H.getRow 1 rfl) (by decide) ((Els.nil tVer Z w2_14).snoc (ver_cells.2 ⟨_, _, rfl, by unfold InK; decide, by unfold InK; decide, SlR.nil _ _ _ _, hks2⟩)) (fun k hk => by rw [hZd]; exact rowLt (H.getRow 1 rfl) k hk) (by decide)
  have hnov : tVer.R Z w2_14 [.int .u64 0, .int .u64 0, .bool false, .slice none 0 0, .slice none 0 0] nov := ver_cells.2 ⟨_, _, rfl, by unfold InK; decide, by unfold InK; decide, SlR.nil _ _ _ _, SlR.nil _ _ _ _⟩
  have hcs : SlR tCl 120 Z w2_14 (.slice (some ⟨b24, 0, none⟩) 2 2) awakeCells := SlR.ofRow (H.getRow 0 rfl) (by decide) (((Els.nil tCl Z w2_14).snoc (cl_cells.2 ⟨_, _, _, rfl, hk97, hv1, hnov⟩)).snoc (cl_cells.2 ⟨_, _, _, rfl, hk98, hv2, hnov⟩)) (fun k hk => by rw [hZd]; exact rowLt (H.getRow 0 rfl) k hk) (by decide)
  have hsp : tSp.R Z w2_14 [.slice none 0 0, .slice none 0 0] ⟨[], []⟩ := sp_cells.2 ⟨_, _, rfl, SlR.nil _ _ _ _, SlR.nil _ _ _ _⟩
  refine OL_c (op_call 8 en8 rfl [.slice none 0 0, .agg #[.slice none 0 0, .slice none 0 0], .slice (some ⟨b24, 0, none⟩) 2 2] rfl (by decide) ((f8_calls (seen := []) (cells := awakeCells) (fun k h => by rw [hZd] at h; exact h) (SlR.nil _ _ _ _) hsp hcs (by decide) (by decide) (by decide) (by decide)).mono ?_))
  rintro e w2_15 ⟨v6, v7, need, rfl, hp, hg, hn, hE⟩
  refine ⟨_, rfl, ?_⟩
  rw [awake_need] at hp
  rw [awake_got] at hg
  have hp := List.perm_singleton.1 hp
  subst hp
  have H := H.ext0 hE
  obtain ⟨a6, c6, rfl, _⟩ := hg.len
  obtain ⟨b7x, o7x, c7x, news, rfl, hz7, hC7x, hE7x⟩ := hn.row (by simp)
  have hlen7 : news.length = 4 := hE7x.1
  obtain ⟨vk, vl, hnews, hvk, -, -, hvl⟩ := sn_cells.1 (hE7x.2 0 _ rfl)
  have hnews' : news = [vk, .int .u64 5, .int .u64 2, vl] := by rw [← hnews]; exact (List.take_of_length_le (Nat.le_of_eq hlen7)).symm
  subst hnews'
  have hvk : SlR (tInt .u8) 1 _ w2_15 vk [98] := hvk
  refine OL_y (y_move rfl) (by decide) ?_
  refine OL_y (y_extract (v := .slice a6 1 c6) rfl rfl) (by decide) ?_
  refine OL_y (y_extract (v := .slice (some ⟨b7x, o7x, none⟩) 1 c7x) rfl rfl) (by decide) ?_
  refine OL_y (y_assign rfl) (by decide) ?_
  refine OL_y (y_assign rfl) (by decide) ?_
  refine OL_nil ?_
  refine W_seq ?_
  refine W_region ?_
  refine OL_y (y_move rfl) (by decide) ?_
  refine OL_y (y_len rfl ti35 rfl) (by decide) ?_
  refine OL_y (y_eqlT (a := 1) (b := 1) rfl rfl rfl) (by decide) ?_
  refine OL_y (v := .bool true) (y_move rfl) (by decide) ?_
  refine OL_yg rfl (by decide) rfl (y_move rfl) (by decide) ?_
  refine OL_yg rfl (by decide) rfl (y_len rfl ti35 rfl) (by decide) ?_
  refine OL_yg rfl (by decide) rfl (y_eqlT (a := 1) (b := 1) rfl rfl rfl) (by decide) ?_
  refine OL_y (y_pick (b := true) (v := .bool true) rfl rfl) (by decide) ?_
  refine OL_y (v := .bool true) (y_move rfl) (by decide) ?_
  refine OL_yg rfl (by decide) rfl (y_move rfl) (by decide) ?_
  refine OL_yg rfl (by decide) rfl (y_indexAddr (i := 0) ti35 ti39 rfl rfl (by decide) (by decide)) (by decide) ?_
  refine OL_yg rfl (by decide) rfl (y_fieldAddr ti39 rfl ti22 rfl rfl) (by decide) ?_
  refine OL_yg rfl (by decide) rfl (y_loadS (v := vk) ti22 rfl rfl (hC7x.take 0 rfl)) (by decide) ?_
  refine OL_yg rfl (by decide) rfl (y_toStr Try.underlying22 Try.underlying5 Try.underlying9 rfl hvk) (by decide) ?_
  refine OL_yg rfl (by decide) rfl (y_eqlST (a := kb [98]) rfl rfl rfl) (by decide) ?_
  refine OL_y (y_pick (b := true) (v := .bool true) rfl rfl) (by decide) ?_
  refine OL_y (v := .bool true) (y_move rfl) (by decide) ?_
  refine OL_yg rfl (by decide) rfl (y_move rfl) (by decide) ?_
  refine OL_yg rfl (by decide) rfl (y_indexAddr (i := 0) ti35 ti39 rfl rfl (by decide) (by decide)) (by decide) ?_
  refine OL_yg rfl (by decide) rfl (y_fieldAddr ti39 rfl ti29 rfl rfl) (by decide) ?_
  refine OL_yg rfl (by decide) rfl (y_loadS (v := .int .u64 5) ti29 rfl rfl (hC7x.take 1 rfl)) (by decide) ?_
  refine OL_yg rfl (by decide) rfl (y_eqlT (a := 5) (b := 5) rfl rfl rfl) (by decide) ?_
  refine OL_y (y_pick (b := true) (v := .bool true) rfl rfl) (by decide) ?_
  refine OL_y (y_assign rfl) (by decide) ?_
  refine OL_nil ?_
  refine W_ret ?_
  show RetOK _ _ _ _ _ _
  exact ret1 (v := .bool true) Try.results6 rfl ⟨rfl, H.ext_of 7 rfl⟩
end Go.Proofs.Ytngnplhdokboiaa
