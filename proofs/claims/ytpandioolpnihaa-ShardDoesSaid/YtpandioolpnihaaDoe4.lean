/- Part 4 of the texts that a law of the seat leans on: the ground of the walks, the facts of the program, its functions one by one. -/
import Derived.Test.YtpandioolpnihaaDoe3
namespace Go.Proofs.Ytpandioolpnihaa
open Go Go.Wk
set_option linter.unusedVariables false
set_option linter.unusedSimpArgs false

theorem pickE {W : World} {A L : List Atom} {E1 E2 : List Ent} {e : Ent} (H : Holds W (A ++ ((E1 ++ e :: E2).map Ent.atom ++ L))) : Holds W (e.atom :: (A ++ ((E1 ++ E2).map Ent.atom ++ L))) := by
  rw [List.map_append, List.map_cons, ← List.append_assoc] at H
  rw [List.map_append, ← List.append_assoc]
  exact Holds.pick H
theorem unpickE {W : World} {A L : List Atom} {E1 E2 : List Ent} {e : Ent} (H : Holds W (e.atom :: (A ++ ((E1 ++ E2).map Ent.atom ++ L)))) : Holds W (A ++ ((E1 ++ e :: E2).map Ent.atom ++ L)) := by
  rw [List.map_append, List.map_cons, ← List.append_assoc]
  rw [List.map_append, ← List.append_assoc] at H
  exact Holds.unpick H

set_option maxHeartbeats 16000000 in
theorem f21_calls {w0 w Wp : World} {F : Nat → Prop} {sb g1 g2 m : Nat} {E : List Ent} {I : List Itn} {a : Abs} {L : List Atom} {ts : Int} (H : Holds w (cAt sb g1 g2 E I F Wp w0 L)) (hr : CRep w0 F Wp E I a) (ha : a.Ok m) (hm : m ≤ 40000) (hEl : E.length ≤ 40000) (hIl : I.length ≤ 40000) :
    Calls Try.prog 21 [.pointer (some ⟨sb, 0, none⟩), .int .u64 ts].toArray w fun e w' => ∃ ks : List ByteArray, e = .returned (.int .i64 (gcN a ts ks)) ∧ KeysOf a ks ∧ ∃ (E' : List Ent) (F' : Nat → Prop) (Wp' : World), Holds w' (cAt sb g1 g2 E' I F' Wp' w0 L) ∧ CRep w0 F' Wp' E' I (a.gc ts) ∧ Grow w0 F Wp F' Wp' ∧ E'.length ≤ E.length := by
  obtain ⟨ks, hks, hkz⟩ := hr.keys
  have hkl : ks.length ≤ 80000 := by
    have := List.Nodup.length_le_of_subset (rise_nodup bLt_irrefl hks.rise) (l₂ := (E.map Ent.kv).map (·.1) ++ (I.map Itn.kv).map (·.1)) fun k hk => List.mem_append.2 ((hr.isKey k).1 ((hks.mem k).1 hk))
    rw [List.length_append, List.length_map, List.length_map, List.length_map, List.length_map] at this; omega
  refine calls_of_W' Try.func21 rfl Try.ntmps21 rfl ?_
  refine W_seq ?_
  refine W_region ?_
  refine OL_c (op_box (v := .pointer (some ⟨sb, 0, none⟩)) H rfl (by decide) fun b2 w0_0 H => ?_)
  refine OL_c (op_box (v := .int .u64 ts) H rfl (by decide) fun b3 w0_1 H => ?_)
  refine OL_y (y_assign rfl) (by decide) ?_
  refine OL_nil ?_
  refine W_seq ?_
  refine W_region ?_
  refine OL_var (v := .int .i64 0) H ti3 rfl (by decide) (fun _ => rfl) rfl (by simp [Value.cells, Value.oneCell']) fun b5 w1_0 H => ?_
  refine OL_nil ?_
  refine W_seq ?_
  refine W_seq ?_
  refine W_region ?_
  refine OL_y (y_loadS (v := .pointer (some ⟨sb, 0, none⟩)) ti26 rfl rfl (Cells.unit (H.getOwn 2 rfl) rfl)) (by decide) ?_
  refine OL_c (op_call 20 en20 rfl [.pointer (some ⟨sb, 0, none⟩)] rfl (by decide) ((f20_calls).mono ?_))
  rintro e w2_1 ⟨bs, rfl, hE20, hbs, hbsn⟩
  refine ⟨_, rfl, ?_⟩
  have H := H.ext0 hE20
  have hsb := H.getOwn 3 rfl
  obtain ⟨o1, ho1, es1, clock1, rfl, hmo1⟩ := H.get (i := 4) rfl
  obtain ⟨o2, ho2, es2, clock2, rfl, hmo2⟩ := H.get (i := 5) rfl
  refine OL_nil ?_
  refine W_block ?_
  refine W_rangeFuncH yEnc yAt (yQ ks) (yE ks) (fun pre Ls => ∃ (E' : List Ent) (F' : Nat → Prop) (Wp' : World), Ls = own b5 (.cells #[.int .i64 (gcN a ts (pre.map (·.s)))] 3) :: own b3 (.cells #[.int .u64 ts] 24) :: own b2 (.cells #[.pointer (some ⟨sb, 0, none⟩)] 26) :: cAt sb g1 g2 E' I F' Wp' w0 L ∧ CRep w0 F' Wp' E' I (a.gcK ts (pre.map (·.s))) ∧ Grow w0 F Wp F' Wp' ∧ E'.length ≤ E.length) (fun _ _ _ => False) rfl en50 (by decide) H ⟨E, F, Wp, rfl, hr, Grow.refl hr.base, Nat.le_refl _⟩ ?_ ?_ ?_ ?_ ?_ ?_
  · rintro pre Ls ⟨E', F', Wp', rfl, -⟩ at_ hat hx k hk
    simp only [cAt, List.mem_cons, List.mem_append, List.mem_map] at hat
    rcases hat with rfl | rfl | rfl | rfl | rfl | rfl | rfl | rfl | ⟨e, _, rfl⟩ | hL
    · cases hx
    · cases hx
    · cases hx
    · cases hx
    · cases hx
    · cases hx
    · cases hx
    · exact (H.ok (shr (fun k => k < w0.heap.size) w0) (by simp)).2.1 k hk
    · cases hx
    · exact (H.ok at_ (by simp [hL])).2.1 k hk
  · rintro e pre Ls h; exact h.elim
  · intro w' hE
    exact f50_iter ((hE.blk bs (own_lt hbs) (fun h => h)).trans hbs) ((hE.blk sb (own_lt hsb) (fun h => h)).trans hsb) ⟨es1, clock1, (hE.blk g1 (own_lt ho1) (fun h => h)).trans ho1, ⟨es1, clock1, rfl, hmo1⟩⟩ ⟨es2, clock2, (hE.blk g2 (own_lt ho2) (fun h => h)).trans ho2, ⟨es2, clock2, rfl, hmo2⟩⟩ hkz (by rw [List.length_map, List.length_map]; omega) hks.rise (fun k => by rw [hks.mem k, hr.isKey k])
  · rintro l' aL aL' aD aO pre x Ls Wd ⟨E', F', Wp', rfl, hr', g', hl'⟩ hq HH
    refine W_region ?_
    refine OL_y (y_assign rfl) (by decide) ?_
    refine OL_nil ?_
    refine ⟨_, HH, fun W2 HH => ?_⟩
    have H := HH
    obtain ⟨hy1, hy2, hy3⟩ : yOk x := hq.2 x (by simp)
    have hpx : pre.map (·.s) ++ [x.s] <+: ks := by have := hq.1; rwa [List.map_append] at this
    have hnin : x.s ∉ pre.map (·.s) := by
      have hnd := (rise_nodup bLt_irrefl hks.rise).sublist hpx.sublist
      exact fun hin => (List.nodup_append.1 hnd).2.2 _ hin x.s (by simp) rfl
    have hav : (a.gcK ts (pre.map (·.s))).v x.s = a.v x.s := gcK_out a ts hnin
    have hN : gcN a ts ((pre ++ [x]).map (·.s)) = gcN a ts (pre.map (·.s)) + ((a.v x.s).length - gcPos (a.v x.s) ts) := by rw [List.map_append]; exact gcN_snoc a ts _ _
    have hA : a.gcK ts ((pre ++ [x]).map (·.s)) = (a.gcK ts (pre.map (·.s))).setV x.s (gcV (a.v x.s) ts) := by rw [List.map_append]; exact (gcK_snoc a ts _ _).symm
    have hNle : gcN a ts (pre.map (·.s)) ≤ 80000 * 40000 := by
      have h1 := gcN_le ha ts (pre.map (·.s))
      have h2 : (pre.map (·.s)).length ≤ 80000 := by have := hpx.length_le; rw [List.length_append] at this; omega
      exact Nat.le_trans h1 (Nat.mul_le_mul h2 hm)
    obtain ⟨hsd, hvm⟩ := ha x.s
    refine W_block ?_
    refine W_seq ?_
    by_cases hin : x.s ∈ E'.map (·.key)
    · obtain ⟨e0, he0, hek⟩ := List.mem_map.1 hin
      obtain ⟨E1, E2, rfl⟩ := List.append_of_mem he0
      refine W_drawQ H mixed (by kernel_rfl) (by kernel_rfl) fun wd4 H => ?_
      refine QL_y (y_loadS (v := .pointer (some ⟨sb, 0, none⟩)) ti26 rfl rfl (Cells.unit (H.getOwn 6 rfl) rfl)) (by decide) ?_
      refine QL_y (y_nilCheck rfl ⟨_, rfl⟩) (by decide) ?_
      refine QL_y (y_fieldAddr ti98 rfl ti95 rfl rfl) (by decide) ?_
      refine QL_y (y_loadS (v := .map (some g1)) ti95 rfl rfl (Cells.unit (H.getOwn 7 rfl) rfl)) (by decide) ?_
      refine QL_y (y_move rfl) (by decide) ?_
      refine QL_y (y_toStr Try.underlying23 Try.underlying5 Try.underlying9 rfl (SlR_bytes (Z := fun _ => True) (H.getOwn 3 rfl) trivial hy1 hy2 hy3)) (by decide) ?_
      refine QL_y (y_lookupS (v := e0.v) (by rw [kb_unkb, ← hek]; exact mget_ent hr'.nd) H 8 rfl ti95 ti53 (KeyOK.str Try.underlying9) rfl rfl) (by decide) ?_
      refine QL_y (y_assign rfl) (by decide) ?_
      refine QL_nil ?_
      have hEv := hr'.ev e0 he0
      have hvl : a.v x.s = e0.vers := by rw [← hav, ← hek]; exact hr'.va e0 he0
      have hne0 := hr'.en e0 he0
      rw [hvl] at hsd hvm hN hA hav
      have H := pickE (A := [aL', aD, aO, yAt x, own b5 (.cells #[.int .i64 (gcN a ts (pre.map (·.s)))] 3), own b3 (.cells #[.int .u64 ts] 24), own b2 (.cells #[.pointer (some ⟨sb, 0, none⟩)] 26), own sb (.cells #[.map (some g1), .map (some g2)] 98), mp Value.string g1 ((E1 ++ e0 :: E2).map Ent.kv), mp Value.string g2 (I.map Itn.kv), exc F' Wp', shr (fun k => k < w0.heap.size) w0]) H
      have hkd : Keeps (Dz w0 F') Wp' wd4 := H.dz 11 12 rfl rfl hr'.base
      obtain ⟨br, cr, hvr, -, -⟩ := ownsRow_cells (H.getRow 0 rfl) (List.length_pos_iff.2 hne0)
      have H : Holds wd4 (row 32 5 (.slice (some ⟨br, 0, none⟩) e0.vers.length cr) e0.vers.length e0.cs :: aL' :: aD :: aO :: yAt x :: own b5 (.cells #[.int .i64 (gcN a ts (pre.map (·.s)))] 3) :: own b3 (.cells #[.int .u64 ts] 24) :: own b2 (.cells #[.pointer (some ⟨sb, 0, none⟩)] 26) :: own sb (.cells #[.map (some g1), .map (some g2)] 98) :: mp Value.string g1 ((E1 ++ e0 :: E2).map Ent.kv) :: mp Value.string g2 (I.map Itn.kv) :: exc F' Wp' :: shr (fun k => k < w0.heap.size) w0 :: ((E1 ++ E2).map Ent.atom ++ L)) := by rw [← hvr]; exact H
      obtain ⟨_, _, hsl0, hle0, hmx0⟩ := H.rowLen 0 rfl
      injection hsl0 with _ _ hsl0
      subst hsl0
      have hSl : SlR tVer 72 (fun _ => True) wd4 (.slice (some ⟨br, 0, none⟩) e0.vers.length cr) e0.vers := SlR.ofRow (H.getRow 0 rfl) (by decide) ((hEv.keeps hkd).mono fun _ _ _ => trivial) (fun _ _ => trivial) (by omega)
      refine W_seq ?_
      refine W_region ?_
      refine OL_y (y_move hvr) (by decide) ?_
      refine OL_y (y_loadS (v := .int .u64 ts) ti24 rfl rfl (Cells.unit (H.getOwn 6 rfl) rfl)) (by decide) ?_
      refine OL_c (op_call 44 en44 rfl [.slice (some ⟨br, 0, none⟩) e0.vers.length cr, .int .u64 ts, .func (.func 45) #[] #[]] rfl (by decide) ((f44_calls ⟨Nat.le_refl _, fun _ _ _ => rfl⟩ hSl hsd (by omega)).mono ?_))
      rintro e w5_2 ⟨rfl, hE44⟩
      refine ⟨_, rfl, ?_⟩
      have H := H.ext0 hE44
      refine OL_y (y_move rfl) (by decide) ?_
      refine OL_y (y_extract (v := .int .i64 (posV e0.vers ts)) rfl rfl) (by decide) ?_
      refine OL_y (y_extract (v := .bool (hasV e0.vers ts)) rfl rfl) (by decide) ?_
      refine OL_y (y_assign rfl) (by decide) ?_
      refine OL_y (y_assign rfl) (by decide) ?_
      refine OL_nil ?_
      refine W_seq ?_
      refine W_seq ?_
      by_cases hp : ((posV e0.vers ts : Nat) : Int) = ((e0.vers.length : Nat) : Int)
      · refine W_region ?_
        refine OL_y (y_move rfl) (by decide) ?_
        refine OL_y (y_move hvr) (by decide) ?_
        refine OL_y (y_len rfl ti53 rfl) (by decide) ?_
        refine OL_y (v := .bool true) (y_eqlT hp rfl rfl) (by decide) ?_
        refine OL_nil ?_
        refine W_condt rfl ?_
        refine W_exit ?_
        have hg : gcPos e0.vers ts = e0.vers.length := gcPos_end (by omega)
        rw [show gcV e0.vers ts = e0.vers from by unfold gcV; rw [hg, List.take_length], setV_same hav] at hA
        rw [hg, Nat.sub_self] at hN
        refine ⟨_, ⟨E1 ++ e0 :: E2, F', Wp', rfl, by rw [hA]; exact hr', g', hl'⟩, ?_⟩
        rw [hN]
        have H := unpickE (A := [aL', aD, aO, yAt x, own b5 (.cells #[.int .i64 (gcN a ts (pre.map (·.s)))] 3), own b3 (.cells #[.int .u64 ts] 24), own b2 (.cells #[.pointer (some ⟨sb, 0, none⟩)] 26), own sb (.cells #[.map (some g1), .map (some g2)] 98), mp Value.string g1 ((E1 ++ e0 :: E2).map Ent.kv), mp Value.string g2 (I.map Itn.kv), exc F' Wp', shr (fun k => k < w0.heap.size) w0]) (e := e0) (show Holds _ (row 32 5 e0.v _ _ :: _) by rw [hvr]; exact H)
        exact H.sub (.cons_cons _ (.cons_cons _ (.cons_cons _ (.cons _ (.refl _)))))
      · refine W_region ?_
        refine OL_y (y_move rfl) (by decide) ?_
        refine OL_y (y_move hvr) (by decide) ?_
        refine OL_y (y_len rfl ti53 rfl) (by decide) ?_
        refine OL_y (v := .bool false) (y_eqlF hp rfl rfl) (by decide) ?_
        refine OL_nil ?_
        refine W_condf rfl ?_
        have hpl := pos_le e0.vers ts
        have hx0 : e0.vers[posV e0.vers ts]? = some (e0.vers[posV e0.vers ts]'(by omega)) := List.getElem?_eq_getElem (by omega)
        have hgd := gcPos_dead hx0
        generalize e0.vers[posV e0.vers ts]'(by omega) = x0 at *
        obtain ⟨b9, o9, cs9, e9, -, hc9, hr9⟩ := hSl.at hx0
        injection e9 with e9
        injection e9 with e91 e92 _
        subst e91 e92
        have hc9 := hc9.ext (hE44.blk _ hc9.lt (fun h => h))
        obtain ⟨xv, xk, rfl, -⟩ := ver_cells.1 hr9
        obtain ⟨dd, hd⟩ : ∃ dd, x0.dead = dd := ⟨_, rfl⟩
        rw [hd] at hc9 hgd
        refine W_skip ?_
        refine W_seq ?_
        refine W_seq ?_
        rcases dd with _ | _
        · refine W_region ?_
          refine OL_y (y_move hvr) (by decide) ?_
          refine OL_y (y_move rfl) (by decide) ?_
          refine OL_y (y_indexAddr ti53 ti32 rfl rfl (by omega) (by omega)) (by decide) ?_
          refine OL_y (y_fieldAddr ti32 rfl ti4 rfl rfl) (by decide) ?_
          refine OL_y (y_loadS (v := .bool false) ti4 rfl rfl (hc9.take 2 rfl)) (by decide) ?_
          refine OL_y (v := .bool true) (y_not (b := false) rfl) (by decide) ?_
          refine OL_nil ?_
          have hg : gcPos e0.vers ts = posV e0.vers ts + 1 := hgd
          refine W_condt rfl ?_
          refine W_region ?_
          refine OL_y (y_move rfl) (by decide) ?_
          refine OL_y (y_add64' ((posV e0.vers ts + 1 : Nat) : Int) rfl rfl (by omega) (by omega) (by omega)) (by decide) ?_
          refine OL_y (y_assign rfl) (by decide) ?_
          refine OL_nil ?_
          refine W_seq ?_
          have hgle := gcPos_le e0.vers ts
          refine W_region ?_
          refine OL_y (y_loadS (v := .int .i64 (gcN a ts (pre.map (·.s)))) ti3 rfl rfl (Cells.unit (H.getOwn 5 rfl) rfl)) (by decide) ?_
          refine OL_y (y_move hvr) (by decide) ?_
          refine OL_y (y_len rfl ti53 rfl) (by decide) ?_
          refine OL_y (y_move rfl) (by decide) ?_
          refine OL_y (y_sub64' ((e0.vers.length - gcPos e0.vers ts : Nat) : Int) rfl rfl (by omega) (by omega) (by omega)) (by decide) ?_
          refine OL_y (y_add64' ((gcN a ts (pre.map (·.s)) + (e0.vers.length - gcPos e0.vers ts) : Nat) : Int) rfl rfl (by omega) (by omega) (by omega)) (by decide) ?_
          refine OL_c (op_store (v := .int .i64 (gcN a ts (pre.map (·.s)) + (e0.vers.length - gcPos e0.vers ts) : Nat)) H 5 rfl ti3 rfl rfl rfl (Nat.le_of_ble_eq_true rfl) (by simp [Value.cells, Value.oneCell']) fun w9_6 H => ?_)
          rw [← hN] at H
          refine OL_nil ?_
          have H : Holds w9_6 (row 32 5 (.slice (some ⟨br, 0, none⟩) e0.vers.length cr) e0.vers.length e0.cs :: aL' :: aD :: aO :: yAt x :: own b5 (.cells #[.int .i64 (gcN a ts ((pre ++ [x]).map (·.s)) : Nat)] 3) :: own b3 (.cells #[.int .u64 ts] 24) :: own b2 (.cells #[.pointer (some ⟨sb, 0, none⟩)] 26) :: own sb (.cells #[.map (some g1), .map (some g2)] 98) :: mp Value.string g1 ((E1 ++ e0 :: E2).map Ent.kv) :: mp Value.string g2 (I.map Itn.kv) :: exc F' Wp' :: shr (fun k => k < w0.heap.size) w0 :: ((E1 ++ E2).map Ent.atom ++ L)) := H
          refine W_seq ?_
          refine W_drawD H mixed (by kernel_rfl) [10] (fun wq w' => Holds w' (row 32 5 (.slice (some ⟨br, 0, none⟩) e0.vers.length cr) e0.vers.length e0.cs :: aL' :: aD :: aO :: yAt x :: own b5 (.cells #[.int .i64 (gcN a ts ((pre ++ [x]).map (·.s)) : Nat)] 3) :: own b3 (.cells #[.int .u64 ts] 24) :: own b2 (.cells #[.pointer (some ⟨sb, 0, none⟩)] 26) :: own sb (.cells #[.map (some g1), .map (some g2)] 98) :: mp Value.string g1 ((E1 ++ e0 :: E2).map Ent.kv) :: mp Value.string g2 (I.map Itn.kv) :: exc F' Wp' :: shr (fun k => k < w0.heap.size) w0 :: ((E1 ++ E2).map Ent.atom ++ L))) fun wd10 H hEd => ?_
          have hS : ∀ {ls : Array Bool}, Sx [10] (fun w' => Holds w' (row 32 5 (.slice (some ⟨br, 0, none⟩) e0.vers.length cr) e0.vers.length e0.cs :: aL' :: aD :: aO :: yAt x :: own b5 (.cells #[.int .i64 (gcN a ts ((pre ++ [x]).map (·.s)) : Nat)] 3) :: own b3 (.cells #[.int .u64 ts] 24) :: own b2 (.cells #[.pointer (some ⟨sb, 0, none⟩)] 26) :: own sb (.cells #[.map (some g1), .map (some g2)] 98) :: mp Value.string g1 ((E1 ++ e0 :: E2).map Ent.kv) :: mp Value.string g2 (I.map Itn.kv) :: exc F' Wp' :: shr (fun k => k < w0.heap.size) w0 :: ((E1 ++ E2).map Ent.atom ++ L))) ls wd10 := fun {_} _ => H
          refine DA_y 0 rfl (by kernel_rfl) rfl (by kernel_rfl) (fun w' h => y_loadS (v := .pointer (some ⟨sb, 0, none⟩)) ti26 rfl rfl (Cells.unit (h.getOwn 7 rfl) rfl)) hS (by decide) fun hS => ?_
          refine DA_p 1 rfl (by kernel_rfl) rfl (fun _ => y_nilCheck rfl ⟨_, rfl⟩) hS (by decide) fun hS => ?_
          refine DA_p 2 rfl (by kernel_rfl) rfl (fun _ => y_fieldAddr ti98 rfl ti95 rfl rfl) hS (by decide) fun hS => ?_
          refine DA_y 3 rfl (by kernel_rfl) rfl (by kernel_rfl) (fun w' h => y_loadS (v := .map (some g1)) ti95 rfl rfl (Cells.unit (h.getOwn 8 rfl) rfl)) hS (by decide) fun hS => ?_
          refine DA_p 4 rfl (by kernel_rfl) rfl (fun _ => y_move rfl) hS (by decide) fun hS => ?_
          refine DA_y 5 rfl (by kernel_rfl) rfl (by kernel_rfl) (fun w' h => y_toStr (w := w') Try.underlying23 Try.underlying5 Try.underlying9 rfl (SlR_bytes (Z := fun _ => True) (h.getOwn 4 rfl) trivial hy1 hy2 hy3)) hS (by decide) fun hS => ?_
          refine DA_p 6 rfl (by kernel_rfl) rfl (fun _ => y_move hvr) hS (by decide) fun hS => ?_
          refine DA_p 7 rfl (by kernel_rfl) rfl (fun _ => y_move rfl) hS (by decide) fun hS => ?_
          refine DA_p (v := .slice (some ⟨br, 0, none⟩) (gcPos e0.vers ts) cr) 8 rfl (by kernel_rfl) rfl (fun _ => by rw [hg]; exact y_sliceH0 (hi := ((posV e0.vers ts + 1 : Nat) : Int)) ti53 ti32 rfl rfl (by omega) (by omega)) hS (by decide) fun hS => ?_
          refine DA_one 9 (by kernel_rfl) rfl (op_call 52 en52 rfl [.slice (some ⟨br, 0, none⟩) (gcPos e0.vers ts) cr] rfl (by decide) ((f52_take (H.getRow 0 rfl) hgle (by omega) (hEv.one (by decide))).mono ?_))
          rintro e w10_9 ⟨v53, rfl, hrow53, hf53, hE53⟩
          refine ⟨_, rfl, fun _ => H.ext0 hE53, ?_⟩
          have H := H.new hE53 (row_ok hrow53) hf53
          refine DA_one 10 (by kernel_rfl) rfl (op_mapUpdate (k := kb (unkb x.s)) (v := v53) H 10 rfl ti95 (KeyOK.str Try.underlying9) rfl rfl rfl fun w10_10 H => ⟨fun h => absurd (h 10 (by simp)) (by decide), ?_⟩)
          refine DA_done (by kernel_rfl) ?_
          obtain ⟨e1, he1⟩ : ∃ e1 : Ent, e1 = ⟨e0.key, v53, e0.cs.take (gcPos e0.vers ts * 5), e0.vers.take (gcPos e0.vers ts)⟩ := ⟨_, rfl⟩
          have H : Holds w10_10 (row 32 5 v53 (gcPos e0.vers ts) (e0.cs.take (gcPos e0.vers ts * 5)) :: row 32 5 (.slice (some ⟨br, 0, none⟩) e0.vers.length cr) e0.vers.length e0.cs :: aL' :: aD :: aO :: yAt x :: own b5 (.cells #[.int .i64 (gcN a ts ((pre ++ [x]).map (·.s)) : Nat)] 3) :: own b3 (.cells #[.int .u64 ts] 24) :: own b2 (.cells #[.pointer (some ⟨sb, 0, none⟩)] 26) :: own sb (.cells #[.map (some g1), .map (some g2)] 98) :: mp Value.string g1 (mset ((E1 ++ e0 :: E2).map Ent.kv) (kb (unkb x.s)) v53) :: mp Value.string g2 (I.map Itn.kv) :: exc F' Wp' :: shr (fun k => k < w0.heap.size) w0 :: ((E1 ++ E2).map Ent.atom ++ L)) := H
          have H := H.sub (.cons_cons _ (.cons _ (.refl _)))
          rw [kb_unkb, ← hek, mset_ent hr'.nd v53 (e0.cs.take (gcPos e0.vers ts * 5)) (e0.vers.take (gcPos e0.vers ts)), ← he1] at H
          have hlt1 : (e0.vers.take (gcPos e0.vers ts)).length = gcPos e0.vers ts := by rw [List.length_take]; omega
          rw [← hek] at hA
          refine W_seq ?_
          refine W_region ?_
          refine OL_y (y_move rfl) (by decide) ?_
          refine OL_y (v := .bool false) (y_eqlF (by omega) rfl rfl) (by decide) ?_
          refine OL_nil ?_
          refine W_condf rfl ?_
          refine W_skip ?_
          have hr1 := hr'.rep v53 (e0.cs.take (gcPos e0.vers ts * 5)) (e0.vers.take (gcPos e0.vers ts)) (hEv.take _ hgle) (by intro h; have := congrArg List.length h; rw [hlt1] at this; simp only [List.length_nil] at this; omega)
          rw [← he1] at hr1
          refine ⟨_, ⟨E1 ++ e1 :: E2, F', Wp', rfl, by rw [hA]; exact hr1, g', by simpa using hl'⟩, ?_⟩
          have H := unpickE (A := [aL', aD, aO, yAt x, own b5 (.cells #[.int .i64 (gcN a ts ((pre ++ [x]).map (·.s)) : Nat)] 3), own b3 (.cells #[.int .u64 ts] 24), own b2 (.cells #[.pointer (some ⟨sb, 0, none⟩)] 26), own sb (.cells #[.map (some g1), .map (some g2)] 98), mp Value.string g1 ((E1 ++ e1 :: E2).map Ent.kv), mp Value.string g2 (I.map Itn.kv), exc F' Wp', shr (fun k => k < w0.heap.size) w0]) (e := e1) (by subst he1; show Holds _ (row 32 5 v53 (e0.vers.take (gcPos e0.vers ts)).length _ :: _); rw [hlt1]; exact H)
          exact H.sub (.cons_cons _ (.cons_cons _ (.cons_cons _ (.cons _ (.refl _)))))
        · refine W_region ?_
          refine OL_y (y_move hvr) (by decide) ?_
          refine OL_y (y_move rfl) (by decide) ?_
          refine OL_y (y_indexAddr ti53 ti32 rfl rfl (by omega) (by omega)) (by decide) ?_
          refine OL_y (y_fieldAddr ti32 rfl ti4 rfl rfl) (by decide) ?_
          refine OL_y (y_loadS (v := .bool true) ti4 rfl rfl (hc9.take 2 rfl)) (by decide) ?_
          refine OL_y (v := .bool false) (y_not (b := true) rfl) (by decide) ?_
          refine OL_nil ?_
          have hg : gcPos e0.vers ts = posV e0.vers ts := hgd
          refine W_condf rfl ?_
          refine W_skip ?_
          refine W_seq ?_
          have hgle := gcPos_le e0.vers ts
          refine W_region ?_
          refine OL_y (y_loadS (v := .int .i64 (gcN a ts (pre.map (·.s)))) ti3 rfl rfl (Cells.unit (H.getOwn 5 rfl) rfl)) (by decide) ?_
          refine OL_y (y_move hvr) (by decide) ?_
          refine OL_y (y_len rfl ti53 rfl) (by decide) ?_
          refine OL_y (y_move rfl) (by decide) ?_
          refine OL_y (y_sub64' ((e0.vers.length - gcPos e0.vers ts : Nat) : Int) rfl rfl (by omega) (by omega) (by omega)) (by decide) ?_
          refine OL_y (y_add64' ((gcN a ts (pre.map (·.s)) + (e0.vers.length - gcPos e0.vers ts) : Nat) : Int) rfl rfl (by omega) (by omega) (by omega)) (by decide) ?_
          refine OL_c (op_store (v := .int .i64 (gcN a ts (pre.map (·.s)) + (e0.vers.length - gcPos e0.vers ts) : Nat)) H 5 rfl ti3 rfl rfl rfl (Nat.le_of_ble_eq_true rfl) (by simp [Value.cells, Value.oneCell']) fun w9_6 H => ?_)
          rw [← hN] at H
          refine OL_nil ?_
          have H : Holds w9_6 (row 32 5 (.slice (some ⟨br, 0, none⟩) e0.vers.length cr) e0.vers.length e0.cs :: aL' :: aD :: aO :: yAt x :: own b5 (.cells #[.int .i64 (gcN a ts ((pre ++ [x]).map (·.s)) : Nat)] 3) :: own b3 (.cells #[.int .u64 ts] 24) :: own b2 (.cells #[.pointer (some ⟨sb, 0, none⟩)] 26) :: own sb (.cells #[.map (some g1), .map (some g2)] 98) :: mp Value.string g1 ((E1 ++ e0 :: E2).map Ent.kv) :: mp Value.string g2 (I.map Itn.kv) :: exc F' Wp' :: shr (fun k => k < w0.heap.size) w0 :: ((E1 ++ E2).map Ent.atom ++ L)) := H
          refine W_seq ?_
          refine W_drawD H mixed (by kernel_rfl) [10] (fun wq w' => Holds w' (row 32 5 (.slice (some ⟨br, 0, none⟩) e0.vers.length cr) e0.vers.length e0.cs :: aL' :: aD :: aO :: yAt x :: own b5 (.cells #[.int .i64 (gcN a ts ((pre ++ [x]).map (·.s)) : Nat)] 3) :: own b3 (.cells #[.int .u64 ts] 24) :: own b2 (.cells #[.pointer (some ⟨sb, 0, none⟩)] 26) :: own sb (.cells #[.map (some g1), .map (some g2)] 98) :: mp Value.string g1 ((E1 ++ e0 :: E2).map Ent.kv) :: mp Value.string g2 (I.map Itn.kv) :: exc F' Wp' :: shr (fun k => k < w0.heap.size) w0 :: ((E1 ++ E2).map Ent.atom ++ L))) fun wd10 H hEd => ?_
          have hS : ∀ {ls : Array Bool}, Sx [10] (fun w' => Holds w' (row 32 5 (.slice (some ⟨br, 0, none⟩) e0.vers.length cr) e0.vers.length e0.cs :: aL' :: aD :: aO :: yAt x :: own b5 (.cells #[.int .i64 (gcN a ts ((pre ++ [x]).map (·.s)) : Nat)] 3) :: own b3 (.cells #[.int .u64 ts] 24) :: own b2 (.cells #[.pointer (some ⟨sb, 0, none⟩)] 26) :: own sb (.cells #[.map (some g1), .map (some g2)] 98) :: mp Value.string g1 ((E1 ++ e0 :: E2).map Ent.kv) :: mp Value.string g2 (I.map Itn.kv) :: exc F' Wp' :: shr (fun k => k < w0.heap.size) w0 :: ((E1 ++ E2).map Ent.atom ++ L))) ls wd10 := fun {_} _ => H
          refine DA_y 0 rfl (by kernel_rfl) rfl (by kernel_rfl) (fun w' h => y_loadS (v := .pointer (some ⟨sb, 0, none⟩)) ti26 rfl rfl (Cells.unit (h.getOwn 7 rfl) rfl)) hS (by decide) fun hS => ?_
          refine DA_p 1 rfl (by kernel_rfl) rfl (fun _ => y_nilCheck rfl ⟨_, rfl⟩) hS (by decide) fun hS => ?_
          refine DA_p 2 rfl (by kernel_rfl) rfl (fun _ => y_fieldAddr ti98 rfl ti95 rfl rfl) hS (by decide) fun hS => ?_
          refine DA_y 3 rfl (by kernel_rfl) rfl (by kernel_rfl) (fun w' h => y_loadS (v := .map (some g1)) ti95 rfl rfl (Cells.unit (h.getOwn 8 rfl) rfl)) hS (by decide) fun hS => ?_
          refine DA_p 4 rfl (by kernel_rfl) rfl (fun _ => y_move rfl) hS (by decide) fun hS => ?_
          refine DA_y 5 rfl (by kernel_rfl) rfl (by kernel_rfl) (fun w' h => y_toStr (w := w') Try.underlying23 Try.underlying5 Try.underlying9 rfl (SlR_bytes (Z := fun _ => True) (h.getOwn 4 rfl) trivial hy1 hy2 hy3)) hS (by decide) fun hS => ?_
          refine DA_p 6 rfl (by kernel_rfl) rfl (fun _ => y_move hvr) hS (by decide) fun hS => ?_
          refine DA_p 7 rfl (by kernel_rfl) rfl (fun _ => y_move rfl) hS (by decide) fun hS => ?_
          refine DA_p (v := .slice (some ⟨br, 0, none⟩) (gcPos e0.vers ts) cr) 8 rfl (by kernel_rfl) rfl (fun _ => by rw [hg]; exact y_sliceH0 (hi := ((posV e0.vers ts : Nat) : Int)) ti53 ti32 rfl rfl (by omega) (by omega)) hS (by decide) fun hS => ?_
          refine DA_one 9 (by kernel_rfl) rfl (op_call 52 en52 rfl [.slice (some ⟨br, 0, none⟩) (gcPos e0.vers ts) cr] rfl (by decide) ((f52_take (H.getRow 0 rfl) hgle (by omega) (hEv.one (by decide))).mono ?_))
          rintro e w10_9 ⟨v53, rfl, hrow53, hf53, hE53⟩
          refine ⟨_, rfl, fun _ => H.ext0 hE53, ?_⟩
          have H := H.new hE53 (row_ok hrow53) hf53
          refine DA_one 10 (by kernel_rfl) rfl (op_mapUpdate (k := kb (unkb x.s)) (v := v53) H 10 rfl ti95 (KeyOK.str Try.underlying9) rfl rfl rfl fun w10_10 H => ⟨fun h => absurd (h 10 (by simp)) (by decide), ?_⟩)
          refine DA_done (by kernel_rfl) ?_
          obtain ⟨e1, he1⟩ : ∃ e1 : Ent, e1 = ⟨e0.key, v53, e0.cs.take (gcPos e0.vers ts * 5), e0.vers.take (gcPos e0.vers ts)⟩ := ⟨_, rfl⟩
          have H : Holds w10_10 (row 32 5 v53 (gcPos e0.vers ts) (e0.cs.take (gcPos e0.vers ts * 5)) :: row 32 5 (.slice (some ⟨br, 0, none⟩) e0.vers.length cr) e0.vers.length e0.cs :: aL' :: aD :: aO :: yAt x :: own b5 (.cells #[.int .i64 (gcN a ts ((pre ++ [x]).map (·.s)) : Nat)] 3) :: own b3 (.cells #[.int .u64 ts] 24) :: own b2 (.cells #[.pointer (some ⟨sb, 0, none⟩)] 26) :: own sb (.cells #[.map (some g1), .map (some g2)] 98) :: mp Value.string g1 (mset ((E1 ++ e0 :: E2).map Ent.kv) (kb (unkb x.s)) v53) :: mp Value.string g2 (I.map Itn.kv) :: exc F' Wp' :: shr (fun k => k < w0.heap.size) w0 :: ((E1 ++ E2).map Ent.atom ++ L)) := H
          have H := H.sub (.cons_cons _ (.cons _ (.refl _)))
          rw [kb_unkb, ← hek, mset_ent hr'.nd v53 (e0.cs.take (gcPos e0.vers ts * 5)) (e0.vers.take (gcPos e0.vers ts)), ← he1] at H
          have hlt1 : (e0.vers.take (gcPos e0.vers ts)).length = gcPos e0.vers ts := by rw [List.length_take]; omega
          rw [← hek] at hA
          refine W_seq ?_
          by_cases hz : ((posV e0.vers ts : Nat) : Int) = 0
          · refine W_region ?_
            refine OL_y (y_move rfl) (by decide) ?_
            refine OL_y (v := .bool true) (y_eqlT hz rfl rfl) (by decide) ?_
            refine OL_nil ?_
            refine W_condt rfl ?_
            refine W_drawD H mixed (by kernel_rfl) [6] (fun wq w' => Holds w' (row 32 5 v53 (gcPos e0.vers ts) (e0.cs.take (gcPos e0.vers ts * 5)) :: aL' :: aD :: aO :: yAt x :: own b5 (.cells #[.int .i64 (gcN a ts ((pre ++ [x]).map (·.s)) : Nat)] 3) :: own b3 (.cells #[.int .u64 ts] 24) :: own b2 (.cells #[.pointer (some ⟨sb, 0, none⟩)] 26) :: own sb (.cells #[.map (some g1), .map (some g2)] 98) :: mp Value.string g1 ((E1 ++ e1 :: E2).map Ent.kv) :: mp Value.string g2 (I.map Itn.kv) :: exc F' Wp' :: shr (fun k => k < w0.heap.size) w0 :: ((E1 ++ E2).map Ent.atom ++ L))) fun wd12 H hEd => ?_
            have hS : ∀ {ls : Array Bool}, Sx [6] (fun w' => Holds w' (row 32 5 v53 (gcPos e0.vers ts) (e0.cs.take (gcPos e0.vers ts * 5)) :: aL' :: aD :: aO :: yAt x :: own b5 (.cells #[.int .i64 (gcN a ts ((pre ++ [x]).map (·.s)) : Nat)] 3) :: own b3 (.cells #[.int .u64 ts] 24) :: own b2 (.cells #[.pointer (some ⟨sb, 0, none⟩)] 26) :: own sb (.cells #[.map (some g1), .map (some g2)] 98) :: mp Value.string g1 ((E1 ++ e1 :: E2).map Ent.kv) :: mp Value.string g2 (I.map Itn.kv) :: exc F' Wp' :: shr (fun k => k < w0.heap.size) w0 :: ((E1 ++ E2).map Ent.atom ++ L))) ls wd12 := fun {_} _ => H
            refine DA_y 0 rfl (by kernel_rfl) rfl (by kernel_rfl) (fun w' h => y_loadS (v := .pointer (some ⟨sb, 0, none⟩)) ti26 rfl rfl (Cells.unit (h.getOwn 7 rfl) rfl)) hS (by decide) fun hS => ?_
            refine DA_p 1 rfl (by kernel_rfl) rfl (fun _ => y_nilCheck rfl ⟨_, rfl⟩) hS (by decide) fun hS => ?_
            refine DA_p 2 rfl (by kernel_rfl) rfl (fun _ => y_fieldAddr ti98 rfl ti95 rfl rfl) hS (by decide) fun hS => ?_
            refine DA_y 3 rfl (by kernel_rfl) rfl (by kernel_rfl) (fun w' h => y_loadS (v := .map (some g1)) ti95 rfl rfl (Cells.unit (h.getOwn 8 rfl) rfl)) hS (by decide) fun hS => ?_
            refine DA_p 4 rfl (by kernel_rfl) rfl (fun _ => y_move rfl) hS (by decide) fun hS => ?_
            refine DA_y 5 rfl (by kernel_rfl) rfl (by kernel_rfl) (fun w' h => y_toStr (w := w') Try.underlying23 Try.underlying5 Try.underlying9 rfl (SlR_bytes (Z := fun _ => True) (h.getOwn 4 rfl) trivial hy1 hy2 hy3)) hS (by decide) fun hS => ?_
            refine DA_one 6 (by kernel_rfl) rfl (op_delete (k := kb (unkb x.s)) H 9 rfl rfl ti95 (KeyOK.str Try.underlying9) (by intro d hd; cases hd) rfl rfl fun w12_6 H => ⟨fun h => absurd (h 6 (by simp)) (by decide), ?_⟩)
            refine DA_done (by kernel_rfl) ?_
            have H : Holds w12_6 (row 32 5 v53 (gcPos e0.vers ts) (e0.cs.take (gcPos e0.vers ts * 5)) :: aL' :: aD :: aO :: yAt x :: own b5 (.cells #[.int .i64 (gcN a ts ((pre ++ [x]).map (·.s)) : Nat)] 3) :: own b3 (.cells #[.int .u64 ts] 24) :: own b2 (.cells #[.pointer (some ⟨sb, 0, none⟩)] 26) :: own sb (.cells #[.map (some g1), .map (some g2)] 98) :: mp Value.string g1 (mdel ((E1 ++ e1 :: E2).map Ent.kv) (kb (unkb x.s))) :: mp Value.string g2 (I.map Itn.kv) :: exc F' Wp' :: shr (fun k => k < w0.heap.size) w0 :: ((E1 ++ E2).map Ent.atom ++ L)) := H
            have hk1 : e1.key = x.s := by rw [he1]; exact hek
            have hnd1 : ((E1 ++ e1 :: E2).map (·.key)).Nodup := by have := hr'.nd; rw [List.map_append, List.map_cons] at this ⊢; rw [he1]; exact this
            rw [kb_unkb, ← hk1, mdel_ent hnd1] at H
            have hr1 := hr'.del
            have hgv : gcV e0.vers ts = [] := by unfold gcV; rw [hg, show posV e0.vers ts = 0 by omega]; rfl
            rw [hgv] at hA
            refine ⟨_, ⟨E1 ++ E2, F', Wp', rfl, by rw [hA]; exact hr1, g', by rw [List.length_append] at hl' ⊢; rw [List.length_cons] at hl'; omega⟩, ?_⟩
            exact H.tail.sub (.cons_cons _ (.cons_cons _ (.cons_cons _ (.cons _ (.refl _)))))
          · refine W_region ?_
            refine OL_y (y_move rfl) (by decide) ?_
            refine OL_y (v := .bool false) (y_eqlF hz rfl rfl) (by decide) ?_
            refine OL_nil ?_
            refine W_condf rfl ?_
            refine W_skip ?_
            have hr1 := hr'.rep v53 (e0.cs.take (gcPos e0.vers ts * 5)) (e0.vers.take (gcPos e0.vers ts)) (hEv.take _ hgle) (by intro h; have := congrArg List.length h; rw [hlt1] at this; simp only [List.length_nil] at this; omega)
            rw [← he1] at hr1
            refine ⟨_, ⟨E1 ++ e1 :: E2, F', Wp', rfl, by rw [hA]; exact hr1, g', by simpa using hl'⟩, ?_⟩
            have H := unpickE (A := [aL', aD, aO, yAt x, own b5 (.cells #[.int .i64 (gcN a ts ((pre ++ [x]).map (·.s)) : Nat)] 3), own b3 (.cells #[.int .u64 ts] 24), own b2 (.cells #[.pointer (some ⟨sb, 0, none⟩)] 26), own sb (.cells #[.map (some g1), .map (some g2)] 98), mp Value.string g1 ((E1 ++ e1 :: E2).map Ent.kv), mp Value.string g2 (I.map Itn.kv), exc F' Wp', shr (fun k => k < w0.heap.size) w0]) (e := e1) (by subst he1; show Holds _ (row 32 5 v53 (e0.vers.take (gcPos e0.vers ts)).length _ :: _); rw [hlt1]; exact H)
            exact H.sub (.cons_cons _ (.cons_cons _ (.cons_cons _ (.cons _ (.refl _)))))
    · refine W_drawQ H mixed (by kernel_rfl) (by kernel_rfl) fun wd4 H => ?_
      refine QL_y (y_loadS (v := .pointer (some ⟨sb, 0, none⟩)) ti26 rfl rfl (Cells.unit (H.getOwn 6 rfl) rfl)) (by decide) ?_
      refine QL_y (y_nilCheck rfl ⟨_, rfl⟩) (by decide) ?_
      refine QL_y (y_fieldAddr ti98 rfl ti95 rfl rfl) (by decide) ?_
      refine QL_y (y_loadS (v := .map (some g1)) ti95 rfl rfl (Cells.unit (H.getOwn 7 rfl) rfl)) (by decide) ?_
      refine QL_y (y_move rfl) (by decide) ?_
      refine QL_y (y_toStr Try.underlying23 Try.underlying5 Try.underlying9 rfl (SlR_bytes (Z := fun _ => True) (H.getOwn 3 rfl) trivial hy1 hy2 hy3)) (by decide) ?_
      refine QL_y (y_lookupN (mget_none.2 (by rw [kb_unkb, List.map_map]; exact hin)) H 8 rfl ti95 ti53 (KeyOK.str Try.underlying9) rfl rfl) (by decide) ?_
      refine QL_y (y_assign rfl) (by decide) ?_
      refine QL_nil ?_
      have hvl : a.v x.s = [] := by rw [← hav]; exact hr'.vn _ hin
      refine W_seq ?_
      refine W_region ?_
      refine OL_y (y_move rfl) (by decide) ?_
      refine OL_y (y_loadS (v := .int .u64 ts) ti24 rfl rfl (Cells.unit (H.getOwn 5 rfl) rfl)) (by decide) ?_
      refine OL_c (op_call 44 en44 rfl [.slice none 0 0, .int .u64 ts, .func (.func 45) #[] #[]] rfl (by decide) ((f44_calls (Z := fun _ => True) ⟨Nat.le_refl _, fun _ _ _ => rfl⟩ (SlR.nil tVer 72 _ _) (List.Pairwise.nil : Sd []) (by decide)).mono ?_))
      rintro e w5_2 ⟨rfl, hE44⟩
      refine ⟨_, rfl, ?_⟩
      have H := H.ext0 hE44
      refine OL_y (y_move rfl) (by decide) ?_
      refine OL_y (y_extract (v := .int .i64 0) rfl rfl) (by decide) ?_
      refine OL_y (y_extract (v := .bool false) rfl rfl) (by decide) ?_
      refine OL_y (y_assign rfl) (by decide) ?_
      refine OL_y (y_assign rfl) (by decide) ?_
      refine OL_nil ?_
      refine W_seq ?_
      refine W_seq ?_
      refine W_region ?_
      refine OL_y (y_move rfl) (by decide) ?_
      refine OL_y (y_move rfl) (by decide) ?_
      refine OL_y (y_len rfl ti53 rfl) (by decide) ?_
      refine OL_y (v := .bool true) (y_eqlT rfl rfl rfl) (by decide) ?_
      refine OL_nil ?_
      refine W_condt rfl ?_
      refine W_exit ?_
      rw [hvl, gcV_nil, setV_same (hav.trans hvl)] at hA
      rw [hvl] at hN
      refine ⟨_, ⟨E', F', Wp', rfl, by rw [hA]; exact hr', g', hl'⟩, ?_⟩
      rw [hN]
      exact H.sub (.cons_cons _ (.cons_cons _ (.cons_cons _ (.cons _ (.refl _)))))
  · rintro D xs Ls W hxs ⟨E', F', Wp', rfl, hr', g', hl'⟩ HH
    refine W_seq ?_
    have H := HH
    refine W_region ?_
    refine OL_y (y_loadS (v := .int .i64 (gcN a ts (xs.map (·.s)))) ti3 rfl rfl (Cells.unit (H.getOwn 1 rfl) rfl)) (by decide) ?_
    refine OL_y (y_assign rfl) (by decide) ?_
    refine OL_nil ?_
    refine W_ret ?_
    show RetOK _ _ _ _ _ _
    refine RetOK.mark (H.getOwn 0 rfl) ?_
    have H := H.put 0 rfl (.deferred none)
    have hxk : xs.map (·.s) = ks := hxs
    rw [hxk, gcK_all (fun k hk => (hks.mem k).2 (.inl hk))] at hr'
    refine ret1 (v := .int .i64 (gcN a ts (xs.map (·.s)))) Try.results21 rfl ⟨ks, by rw [hxk], hks, E', F', Wp', H.tail.tail.tail.tail, hr', g', hl'⟩
  · rintro D pre Ls W e hp h; exact h.elim
end Go.Proofs.Ytpandioolpnihaa

namespace Go.Proofs.Ytpandioolpnihaa
open Go Go.Wk
set_option linter.unusedVariables false
set_option linter.unusedSimpArgs false

set_option maxHeartbeats 2000000 in
theorem f35_calls {w0 w Wp : World} {F : Nat → Prop} {L : List Atom} (H : Holds w (exc F Wp :: shr (fun k => k < w0.heap.size) w0 :: L)) :
    Calls Try.prog 35 [].toArray w fun e w' => ∃ b b1 b2 : Nat, e = .returned (.pointer (some ⟨b, 0, none⟩)) ∧ Holds w' (cAt b b1 b2 [] [] F Wp w0 L) := by
  refine calls_of_W' Try.func35 rfl Try.ntmps35 rfl ?_
  refine W_seq ?_
  refine W_region ?_
  refine OL_y (y_assign rfl) (by decide) ?_
  refine OL_nil ?_
  refine W_seq ?_
  refine W_region ?_
  refine OL_c (op_makeMap Value.string H (by decide) fun bm1 w1_0 H => ?_)
  refine OL_c (op_makeMap Value.string H (by decide) fun bm2 w1_1 H => ?_)
  refine OL_y (v := .agg #[.map (some bm1), .map (some bm2)]) (y_build ti98 pl98 rfl) (by decide) ?_
  refine OL_c (op_box (v := .agg #[.map (some bm1), .map (some bm2)]) H rfl (by decide) fun b4 w1_3 H => ?_)
  refine OL_y (y_assign rfl) (by decide) ?_
  refine OL_nil ?_
  refine W_ret ?_
  show RetOK _ _ _ _ _ _
  refine ret1 Try.results35 rfl ⟨b4, bm1, bm2, rfl, ?_⟩
  exact H.perm (List.Perm.cons _ (List.Perm.swap _ _ _))
end Go.Proofs.Ytpandioolpnihaa

namespace Go.Proofs.Ytpandioolpnihaa
open Go Go.Wk
set_option linter.unusedVariables false
set_option linter.unusedSimpArgs false

theorem empty_ok : Abs.empty.Ok 0 := fun k => ⟨List.Pairwise.nil, Nat.le_refl _⟩
end Go.Proofs.Ytpandioolpnihaa

namespace Go.Wk
open Go
theorem Holds.dup {w : World} {Z : Nat → Prop} {w0 : World} {L : List Atom} (H : Holds w (shr Z w0 :: L)) : Holds w (shr Z w0 :: shr Z w0 :: L) :=
  H.cons (H.ok _ (by simp)) fun b hb => by
    rcases List.mem_cons.1 hb with rfl | hb
    · intro e; rcases e with e | e <;> cases e
    · exact (List.pairwise_cons.1 H.apart).1 b hb
/-- Data that lay there at the begin, as the pool has it. -/
theorem SlR.dzOf {α : Type} {T : Ty α} {bytes : Nat} {w0 Wp : World} {F : Nat → Prop} {v : Value} {xs : List α} (h : SlR T bytes (fun k => k < w0.heap.size) w0 v xs) (b : Ext none' w0 Wp) : SlR T bytes (Dz w0 F) Wp v xs := (h.keeps b.keeps0).mono fun _ _ hk => .inl hk
theorem Ty.dzOf {α : Type} {T : Ty α} {w0 Wp : World} {F : Nat → Prop} {cs : List Value} {x : α} (h : T.R (fun k => k < w0.heap.size) w0 cs x) (b : Ext none' w0 Wp) : T.R (Dz w0 F) Wp cs x := T.mono (T.keeps h b.keeps0) fun _ _ hk => .inl hk
end Go.Wk
namespace Go.Proofs.Ytpandioolpnihaa
open Go Go.Wk
set_option linter.unusedVariables false
set_option linter.unusedSimpArgs false

section
variable {W w0 Wp W2 : World} {F F2 : Nat → Prop} {sb g1 g2 rb : Nat} {E : List Ent} {I : List Itn} {v : Value} {R : List RE} {x : Atom} {L : List Atom}
end
theorem Abs.Ok.mono {a : Abs} {m n : Nat} (h : a.Ok m) (hn : m ≤ n) : a.Ok n := fun k => ⟨(h k).1, Nat.le_trans (h k).2 hn⟩
theorem CRep.intLe {w0 Wp : World} {F : Nat → Prop} {E : List Ent} {I : List Itn} {a : Abs} (h : CRep w0 F Wp E I a) {txn : Int} {ks : List ByteArray} (hk : IntentsOf a txn ks) : ks.length ≤ I.length := by
  have hnd : ks.Nodup := rise_nodup bLt_irrefl hk.rise
  have hsub : ∀ k ∈ ks, k ∈ I.map (·.key) := fun k hk' => Classical.byContradiction fun hn => by
    have h1 := (hk.mem k).1 hk'
    have h2 := h.inn k hn
    rw [h2] at h1; exact h1.1 h1.2.symm
  have := List.Nodup.length_le_of_subset hnd hsub
  rwa [List.length_map] at this
theorem RRep.gcN {w0 Wp : World} {F : Nat → Prop} {R : List RE} {a : Abs} (h : RRep w0 F Wp R a) {ks : List ByteArray} (hk : KeysOf a ks) (ts : Int) : Go.Proofs.Ytpandioolpnihaa.gcN a ts (R.map RE.k) = Go.Proofs.Ytpandioolpnihaa.gcN a ts ks := by
  obtain ⟨q, hq⟩ : ∃ q : ByteArray → Bool, ∀ k, q k = true ↔ Go.Proofs.Ytpandioolpnihaa.isKey a k := ⟨fun k => ks.any fun x => decide (x = k), fun k => by rw [List.any_eq_true, ← hk.mem k]; exact ⟨fun ⟨x, h1, h2⟩ => of_decide_eq_true h2 ▸ h1, fun h1 => ⟨k, h1, decide_eq_true rfl⟩⟩⟩
  have hf : (R.map RE.k).filter q = ks := rise_unique bLt_irrefl bLt_trans (h.rise.sublist List.filter_sublist) hk.rise fun k => by
    rw [List.mem_filter, hq k, hk.mem k]
    refine ⟨fun h => h.2, fun h1 => ⟨Classical.byContradiction fun hn => ?_, h1⟩⟩
    have := h.vn k hn
    unfold Go.Proofs.Ytpandioolpnihaa.isKey at h1
    rw [this.1, this.2] at h1; rcases h1 with h1 | h1 <;> exact h1 rfl
  rw [← hf]
  refine (gcN_filter a ts q _ fun k _ hn => ?_).symm
  refine Classical.byContradiction fun h1 => ?_
  have : q k = true := (hq k).2 (.inl h1)
  rw [this] at hn; cases hn
theorem RRep.new {w0 : World} {F : Nat → Prop} {Wp : World} (h : Ext none' w0 Wp) : RRep w0 F Wp [] Abs.empty := ⟨h, by simp, List.Pairwise.nil, by simp, fun _ _ => ⟨rfl, rfl⟩⟩
end Go.Proofs.Ytpandioolpnihaa

namespace Go.Proofs.Ytpandioolpnihaa
open Go Go.Wk
set_option linter.unusedVariables false
set_option linter.unusedSimpArgs false

end Go.Proofs.Ytpandioolpnihaa

namespace Go.Proofs.Ytpandioolpnihaa
open Go Go.Wk
set_option linter.unusedVariables false
set_option linter.unusedSimpArgs false

def wVer (c : Cmd) (w : Wr) : Ver := ⟨0, c.txn, w.dead, w.val, c.keys⟩
def stale (vs : List Ver) (ts : Int) : Bool := match vs with
  | [] => false
  | v :: _ => decide (ts < v.ts)
def bars (a : Abs) (c : Cmd) (w : Wr) : Int :=
  if (a.i (kb w.key)).txn ≠ 0 ∧ (a.i (kb w.key)).txn ≠ c.txn then 180 else if c.flag = true ∧ stale (a.v (kb w.key)) c.ts = true then 160 else 0
def prepW (a : Abs) (c : Cmd) : List Wr → Int
  | [] => 0
  | w :: ws => if bars a c w = 0 then prepW a c ws else bars a c w
def prepE (a : Abs) (c : Cmd) : Int := if c.txn = 0 then 150 else prepW a c c.writes
def doW (c : Cmd) (a : Abs) (w : Wr) : Abs := a.intend (kb w.key) (wVer c w)
def prepA (a : Abs) (c : Cmd) : Abs := if prepE a c = 0 then c.writes.foldl (doW c) a else a
theorem prepW_at {a : Abs} {c : Cmd} : ∀ {ws : List Wr} {j : Nat} {w : Wr}, ws[j]? = some w → (∀ x ∈ ws.take j, bars a c x = 0) → bars a c w ≠ 0 → prepW a c ws = bars a c w
  | [], j, w, h, _, _ => by cases h
  | x :: ws, 0, w, h, _, hn => by injection h with h; subst h; exact if_neg hn
  | x :: ws, j + 1, w, h, h0, hn => by
    have : bars a c x = 0 := h0 x (by simp)
    unfold prepW; rw [if_pos this]
    exact prepW_at (j := j) h (fun y hy => h0 y (by rw [List.take_succ_cons]; exact List.mem_cons_of_mem _ hy)) hn
theorem prepW_ok {a : Abs} {c : Cmd} : ∀ {ws : List Wr}, (∀ x ∈ ws, bars a c x = 0) → prepW a c ws = 0
  | [], _ => rfl
  | x :: ws, h => by unfold prepW; rw [if_pos (h x (by simp))]; exact prepW_ok fun y hy => h y (List.mem_cons_of_mem _ hy)
theorem take_all {a : Abs} {c : Cmd} {ws : List Wr} {j : Nat} {w : Wr} (h : ws[j]? = some w) (h0 : ∀ x ∈ ws.take j, bars a c x = 0) (h1 : bars a c w = 0) : ∀ x ∈ ws.take (j + 1), bars a c x = 0 := by
  intro x hx
  rw [List.take_add_one, h] at hx
  rcases List.mem_append.1 hx with hx | hx
  · exact h0 x hx
  · have : x = w := by simpa using hx
    subst this; exact h1
theorem bars_busy {a : Abs} {c : Cmd} {w : Wr} (h1 : (a.i (kb w.key)).txn ≠ 0) (h2 : (a.i (kb w.key)).txn ≠ c.txn) : bars a c w = 180 := if_pos ⟨h1, h2⟩
theorem bars_stale {a : Abs} {c : Cmd} {w : Wr} (h : (a.i (kb w.key)).txn = 0 ∨ (a.i (kb w.key)).txn = c.txn) (h1 : c.flag = true) (h2 : stale (a.v (kb w.key)) c.ts = true) : bars a c w = 160 := by
  unfold bars
  rw [if_neg (fun hh => h.elim hh.1 hh.2), if_pos ⟨h1, h2⟩]
theorem bars_none {a : Abs} {c : Cmd} {w : Wr} (h : (a.i (kb w.key)).txn = 0 ∨ (a.i (kb w.key)).txn = c.txn) (h1 : c.flag = false ∨ stale (a.v (kb w.key)) c.ts = false) : bars a c w = 0 := by
  unfold bars
  rw [if_neg (fun hh => h.elim hh.1 hh.2), if_neg]
  rintro ⟨h2, h3⟩
  rcases h1 with h1 | h1
  · rw [h1] at h2; cases h2
  · rw [h1] at h3; cases h3

def foundV (a : Abs) (c : Cmd) : Option Ver := (a.v (kb c.lo)).find? fun v => decide (v.txn = c.txn)
def fetchR (a : Abs) (c : Cmd) : Rs := match foundV a c with
  | some v => ⟨0, [⟨c.lo, [v], noV⟩]⟩
  | none => if c.txn ≠ 0 ∧ (a.i (kb c.lo)).txn = c.txn then ⟨0, [⟨c.lo, [(a.i (kb c.lo)).atTs c.ts], noV⟩]⟩ else ⟨3, []⟩
theorem find_at {α : Type} {q : α → Bool} {l : List α} {j : Nat} {x : α} (h : l[j]? = some x) (h0 : ∀ y ∈ l.take j, q y = false) (h1 : q x = true) : l.find? q = some x := by
  have e : l = l.take j ++ x :: l.drop (j + 1) := by
    obtain ⟨hlt, he⟩ := List.getElem?_eq_some_iff.1 h
    conv => lhs; rw [← List.take_append_drop j l, List.drop_eq_getElem_cons hlt, he]
  rw [e, List.find?_append, List.find?_eq_none.2 (fun y hy => by rw [h0 y hy]; simp), Option.none_or, List.find?_cons_of_pos h1]
theorem find_no {α : Type} {q : α → Bool} {l : List α} (h0 : ∀ y ∈ l, q y = false) : l.find? q = none := List.find?_eq_none.2 fun y hy => by rw [h0 y hy]; simp
/-- What one command does to a store, and what is answered. -/
def OneR (a : Abs) (c : Cmd) (a' : Abs) (r : Rs) : Prop :=
  if c.kind = 8 then a' = prepA a c ∧ r = ⟨prepE a c, []⟩
  else if c.kind = 9 then ∃ ks, IntentsOf a c.txn ks ∧ a' = ks.foldl (Abs.turn1 c.ts) a ∧ r = ⟨0, []⟩
  else if c.kind = 10 then ∃ ks, IntentsOf a c.txn ks ∧ a' = a.clear ks ∧ r = ⟨0, []⟩
  else if c.kind = 11 then ∃ ks, ScanOf a c.lo c.hi c.ts ks ∧ a' = a ∧ r = ⟨0, ks.map (cellOf a c.ts)⟩
  else if c.kind = 12 then a' = a ∧ r = fetchR a c
  else if c.kind = 13 then a' = a.gc c.ts ∧ r = ⟨0, []⟩
  else a' = a ∧ r = ⟨1, []⟩
section
variable {a a' : Abs} {c : Cmd} {r : Rs}
theorem one8 (h : c.kind = 8) : OneR a c (prepA a c) ⟨prepE a c, []⟩ := by unfold OneR; rw [if_pos h]; exact ⟨rfl, rfl⟩
theorem one9 (h : c.kind = 9) {ks : List ByteArray} (hk : IntentsOf a c.txn ks) : OneR a c (ks.foldl (Abs.turn1 c.ts) a) ⟨0, []⟩ := by
  unfold OneR; rw [if_neg (by omega), if_pos h]; exact ⟨ks, hk, rfl, rfl⟩
theorem one10 (h : c.kind = 10) {ks : List ByteArray} (hk : IntentsOf a c.txn ks) : OneR a c (a.clear ks) ⟨0, []⟩ := by
  unfold OneR; rw [if_neg (by omega), if_neg (by omega), if_pos h]; exact ⟨ks, hk, rfl, rfl⟩
theorem one11 (h : c.kind = 11) {ks : List ByteArray} (hk : ScanOf a c.lo c.hi c.ts ks) : OneR a c a ⟨0, ks.map (cellOf a c.ts)⟩ := by
  unfold OneR; rw [if_neg (by omega), if_neg (by omega), if_neg (by omega), if_pos h]; exact ⟨ks, hk, rfl, rfl⟩
theorem one12 (h : c.kind = 12) : OneR a c a (fetchR a c) := by
  unfold OneR; rw [if_neg (by omega), if_neg (by omega), if_neg (by omega), if_neg (by omega), if_pos h]; exact ⟨rfl, rfl⟩
theorem one13 (h : c.kind = 13) : OneR a c (a.gc c.ts) ⟨0, []⟩ := by
  unfold OneR; rw [if_neg (by omega), if_neg (by omega), if_neg (by omega), if_neg (by omega), if_neg (by omega), if_pos h]; exact ⟨rfl, rfl⟩
theorem oneNo (h8 : c.kind ≠ 8) (h9 : c.kind ≠ 9) (h10 : c.kind ≠ 10) (h11 : c.kind ≠ 11) (h12 : c.kind ≠ 12) (h13 : c.kind ≠ 13) : OneR a c a ⟨1, []⟩ := by
  unfold OneR; rw [if_neg h8, if_neg h9, if_neg h10, if_neg h11, if_neg h12, if_neg h13]; exact ⟨rfl, rfl⟩
end
theorem intents_uni {a : Abs} {txn : Int} {ks ks' : List ByteArray} (h : IntentsOf a txn ks) (h' : IntentsOf a txn ks') : ks = ks' := rise_unique bLt_irrefl bLt_trans h.rise h'.rise fun k => by rw [h.mem k, h'.mem k]
theorem scan_uni {a : Abs} {lo hi : Key} {ts : Int} {ks ks' : List ByteArray} (h : ScanOf a lo hi ts ks) (h' : ScanOf a lo hi ts ks') : ks = ks' := rise_unique bLt_irrefl bLt_trans h.rise h'.rise fun k => by rw [h.mem k, h'.mem k]
theorem OneR.uni {a a1 a2 : Abs} {c : Cmd} {r1 r2 : Rs} (h1 : OneR a c a1 r1) (h2 : OneR a c a2 r2) : a1 = a2 ∧ r1 = r2 := by
  unfold OneR at h1 h2
  split at h1
  · rename_i h; rw [if_pos h] at h2; exact ⟨h1.1.trans h2.1.symm, h1.2.trans h2.2.symm⟩
  rename_i h; rw [if_neg h] at h2; split at h1
  · rename_i h; rw [if_pos h] at h2
    obtain ⟨k1, i1, rfl, rfl⟩ := h1; obtain ⟨k2, i2, rfl, rfl⟩ := h2
    rw [intents_uni i1 i2]; exact ⟨rfl, rfl⟩
  rename_i h; rw [if_neg h] at h2; split at h1
  · rename_i h; rw [if_pos h] at h2
    obtain ⟨k1, i1, rfl, rfl⟩ := h1; obtain ⟨k2, i2, rfl, rfl⟩ := h2
    rw [intents_uni i1 i2]; exact ⟨rfl, rfl⟩
  rename_i h; rw [if_neg h] at h2; split at h1
  · rename_i h; rw [if_pos h] at h2
    obtain ⟨k1, i1, rfl, rfl⟩ := h1; obtain ⟨k2, i2, rfl, rfl⟩ := h2
    rw [scan_uni i1 i2]; exact ⟨rfl, rfl⟩
  rename_i h; rw [if_neg h] at h2; split at h1
  · rename_i h; rw [if_pos h] at h2; exact ⟨h1.1.trans h2.1.symm, h1.2.trans h2.2.symm⟩
  rename_i h; rw [if_neg h] at h2; split at h1
  · rename_i h; rw [if_pos h] at h2; exact ⟨h1.1.trans h2.1.symm, h1.2.trans h2.2.symm⟩
  rename_i h; rw [if_neg h] at h2; exact ⟨h1.1.trans h2.1.symm, h1.2.trans h2.2.symm⟩
/-- The last answers of the clients. -/
abbrev Lst := Int → Option (Int × Rs)
def known (l : Lst) (c : Cmd) : Option Rs := if c.client = 0 then none else match l c.client with
  | none => none
  | some x => if x.1 = c.seq then some x.2 else if c.seq < x.1 then some ⟨1, []⟩ else none
def noteL (l : Lst) (c : Cmd) (r : Rs) : Lst := if c.client = 0 then l else fun k => if k = c.client then some (c.seq, r) else l k
def DoR (a : Abs) (l : Lst) (c : Cmd) (a' : Abs) (l' : Lst) (r : Rs) : Prop := match known l c with
  | some r0 => a' = a ∧ l' = l ∧ r = r0
  | none => OneR a c a' r ∧ l' = noteL l c r
theorem doR_known {a a' : Abs} {l l' : Lst} {c : Cmd} {r r0 : Rs} (h : DoR a l c a' l' r) (e : known l c = some r0) : a' = a ∧ l' = l ∧ r = r0 := by
  unfold DoR at h; rw [e] at h; exact h
theorem doR_new {a a' : Abs} {l l' : Lst} {c : Cmd} {r : Rs} (h : DoR a l c a' l' r) (e : known l c = none) : OneR a c a' r ∧ l' = noteL l c r := by
  unfold DoR at h; rw [e] at h; exact h
theorem doKnown {a : Abs} {l : Lst} {c : Cmd} {r : Rs} (e : known l c = some r) : DoR a l c a l r := by
  unfold DoR; rw [e]; exact ⟨rfl, rfl, rfl⟩
theorem doNew {a a' : Abs} {l : Lst} {c : Cmd} {r : Rs} (e : known l c = none) (h : OneR a c a' r) : DoR a l c a' (noteL l c r) r := by
  unfold DoR; rw [e]; exact ⟨h, rfl⟩
theorem DoR.uni {a a1 a2 : Abs} {l l1 l2 : Lst} {c : Cmd} {r1 r2 : Rs} (h1 : DoR a l c a1 l1 r1) (h2 : DoR a l c a2 l2 r2) : a1 = a2 ∧ l1 = l2 ∧ r1 = r2 := by
  cases e : known l c with
  | some r0 =>
    obtain ⟨rfl, rfl, rfl⟩ := doR_known h1 e
    obtain ⟨rfl, rfl, rfl⟩ := doR_known h2 e
    exact ⟨rfl, rfl, rfl⟩
  | none =>
    obtain ⟨i1, rfl⟩ := doR_new h1 e
    obtain ⟨i2, rfl⟩ := doR_new h2 e
    obtain ⟨rfl, rfl⟩ := i1.uni i2
    exact ⟨rfl, rfl, rfl⟩
/-- A command that is told again. -/
theorem DoR.again {a a1 a2 : Abs} {l l1 l2 : Lst} {c : Cmd} {r1 r2 : Rs} (hc : c.client ≠ 0) (h1 : DoR a l c a1 l1 r1) (h2 : DoR a1 l1 c a2 l2 r2) : a2 = a1 ∧ r2 = r1 := by
  have hk : known l1 c = some r1 := by
    cases e : known l c with
    | some r0 => obtain ⟨-, rfl, rfl⟩ := doR_known h1 e; exact e
    | none =>
      obtain ⟨-, rfl⟩ := doR_new h1 e
      unfold known noteL
      rw [if_neg hc, if_neg hc]
      simp
  have := doR_known h2 hk
  exact ⟨this.1, this.2.2⟩
/-- Steps: bounds. -/
def bd : Nat → Nat
  | 0 => 0
  | n + 1 => bd n + 10 * n + 10
theorem bd_mono : ∀ {m n : Nat}, m ≤ n → bd m ≤ bd n
  | m, 0, h => by rw [Nat.le_zero.1 h]; exact Nat.le_refl _
  | m, n + 1, h => by
    rcases Nat.lt_or_ge m (n + 1) with h1 | h1
    · have := bd_mono (Nat.lt_succ_iff.1 h1); show _ ≤ bd n + 10 * n + 10; omega
    · rw [Nat.le_antisymm h h1]; exact Nat.le_refl _
theorem bd43 : bd 43 = 9460 := by decide

/-- What stands in a store behind a prepare that succeeded. -/
theorem doW_v (c : Cmd) : ∀ (ws : List Wr) (a : Abs), (ws.foldl (doW c) a).v = a.v
  | [], a => rfl
  | w :: ws, a => by rw [List.foldl_cons, doW_v c ws]; unfold doW Abs.intend; split <;> rfl
end Go.Proofs.Ytpandioolpnihaa

namespace Go.Wk
open Go
section
variable {α : Type} {T : Ty α} {w0 Wp Wp' : World} {F F' : Nat → Prop} {cs : List Value} {v : Value} {x : α} {xs : List α} {bytes : Nat}
theorem Grow.keeps1 (g : Grow w0 F Wp F' Wp') : Keeps F Wp Wp' := ⟨g.keeps.1, fun k hz hk => g.keeps.2 k (.inr hz) hk⟩
theorem Grow.R1 (g : Grow w0 F Wp F' Wp') (h : T.R F Wp cs x) : T.R F' Wp' cs x := T.mono (T.keeps h g.keeps1) fun k _ hk => g.sub k hk
theorem Grow.els1 (g : Grow w0 F Wp F' Wp') (h : Els T F Wp cs xs) : Els T F' Wp' cs xs := ⟨h.1, fun i x hx => g.R1 (h.2 i x hx)⟩
theorem Grow.slr1 (g : Grow w0 F Wp F' Wp') (h : SlR T bytes F Wp v xs) : SlR T bytes F' Wp' v xs := (h.keeps g.keeps1).mono fun k _ hk => g.sub k hk
end
theorem Holds.keepsX {W Wg : World} {L : List Atom} {G : Nat → Prop} (H : Holds W L) (i : Nat) (hi : L[i]? = some (exc G Wg)) : Keeps G Wg W := by
  obtain ⟨a, _, _, _, e⟩ := H.get hi
  exact ⟨a, fun k hz _ => e k hz⟩

end Go.Wk
namespace Go.Proofs.Ytpandioolpnihaa
open Go Go.Wk
set_option linter.unusedVariables false
set_option linter.unusedSimpArgs false

set_option maxHeartbeats 16000000 in
theorem f25_calls {Zl : Nat → Prop} {w0 w Wp : World} {F : Nat → Prop} {sb g1 g2 m : Nat} {E : List Ent} {I : List Itn} {a : Abs} {L : List Atom} {vl vh : Value} {lo hi : Key} {ts : Int} (H : Holds w (cAt sb g1 g2 E I F Wp w0 L)) (hr : CRep w0 F Wp E I a) (ha : a.Ok m) (hm : m ≤ 40000) (hEl : E.length ≤ 40000) (hIl : I.length ≤ 40000)
    (hlo : SlR (tInt .u8) 1 Zl w vl lo) (hhi : SlR (tInt .u8) 1 Zl w vh hi) :
    Calls Try.prog 25 [.pointer (some ⟨sb, 0, none⟩), vl, vh, .int .u64 ts].toArray w fun e w' => ∃ (v : Value) (ks : List ByteArray), e = .returned v ∧ ScanOf a lo hi ts ks ∧ SlR tCl 120 (fun k => w.heap.size ≤ k) w' v (ks.map (cellOf a ts)) ∧ Ext none' w w' := by
  obtain ⟨ks, hks, hkz⟩ := hr.keys
  have hkl : ks.length ≤ 80000 := by
    have := List.Nodup.length_le_of_subset (rise_nodup bLt_irrefl hks.rise) (l₂ := (E.map Ent.kv).map (·.1) ++ (I.map Itn.kv).map (·.1)) fun k hk => List.mem_append.2 ((hr.isKey k).1 ((hks.mem k).1 hk))
    rw [List.length_append, List.length_map, List.length_map, List.length_map, List.length_map] at this; omega
  obtain ⟨q, hqq⟩ : ∃ q : ByteArray → Bool, q = fun k => withinB (unkb k) lo hi && decide (upTo (a.v k) ts ≠ [] ∨ (a.i k).txn ≠ 0) := ⟨_, rfl⟩
  have hqe : ∀ k, q k = (withinB (unkb k) lo hi && decide (upTo (a.v k) ts ≠ [] ∨ (a.i k).txn ≠ 0)) := fun k => by rw [hqq]
  obtain ⟨al, cl, rfl, _, _⟩ := hlo.len
  obtain ⟨ah, ch, rfl, _, _⟩ := hhi.len
  have H0 := H
  have H := Holds.start w
  refine calls_of_W' Try.func25 rfl Try.ntmps25 rfl ?_
  refine W_seq ?_
  refine W_region ?_
  refine OL_c (op_box (v := .pointer (some ⟨sb, 0, none⟩)) H rfl (by decide) fun b4 w0_0 H => ?_)
  refine OL_c (op_box (v := .slice al lo.length cl) H rfl (by decide) fun b5 w0_1 H => ?_)
  refine OL_c (op_box (v := .slice ah hi.length ch) H rfl (by decide) fun b6 w0_2 H => ?_)
  refine OL_c (op_box (v := .int .u64 ts) H rfl (by decide) fun b7 w0_3 H => ?_)
  refine OL_y (y_assign rfl) (by decide) ?_
  refine OL_nil ?_
  refine W_seq ?_
  refine W_region ?_
  refine OL_c (op_alloc H ti49 (by decide) fun b9 w1_0 H => ?_)
  refine OL_nil ?_
  refine W_seq ?_
  refine W_seq ?_
  refine W_region ?_
  refine OL_y (y_loadS (v := .pointer (some ⟨sb, 0, none⟩)) ti26 rfl rfl (Cells.unit (H.getOwn 4 rfl) rfl)) (by decide) ?_
  refine OL_c (op_call 20 en20 rfl [.pointer (some ⟨sb, 0, none⟩)] rfl (by decide) ((f20_calls).mono ?_))
  rintro e w2_1 ⟨bs, rfl, hE20, hbs, hbsn⟩
  refine ⟨_, rfl, ?_⟩
  have H := H.ext0 hE20
  have hEw : Ext none' w w2_1 := H.ext_of 5 rfl
  have HS := H0.ext0 hEw
  have hsb := HS.getOwn 0 rfl
  obtain ⟨o1, ho1, es1, clock1, rfl, hmo1⟩ := HS.get (i := 1) rfl
  obtain ⟨o2, ho2, es2, clock2, rfl, hmo2⟩ := HS.get (i := 2) rfl
  have H : Holds w2_1 [own b9 (.cells #[.slice none 0 0] 49), row 55 7 (.slice none 0 0) 0 [], exc none' w2_1, own b4 (.cells #[.pointer (some ⟨sb, 0, none⟩)] 26), own b5 (.cells #[.slice al lo.length cl] 23), own b6 (.cells #[.slice ah hi.length ch] 23), own b7 (.cells #[.int .u64 ts] 24), shr (fun k => k < w.heap.size) w] := by
    have H1 := (H.pool0).rowNil 55 7
    refine H1.perm ?_
    refine (List.perm_append_comm (l₁ := [_, _]) (l₂ := [own b9 (.cells #[.slice none 0 0] 49), own b7 (.cells #[.int .u64 ts] 24), own b6 (.cells #[.slice ah hi.length ch] 23), own b5 (.cells #[.slice al lo.length cl] 23), own b4 (.cells #[.pointer (some ⟨sb, 0, none⟩)] 26), shr (fun k => k < w.heap.size) w])).trans ?_
    refine List.Perm.cons _ ?_
    have p1 : ([own b7 (.cells #[.int .u64 ts] 24), own b6 (.cells #[.slice ah hi.length ch] 23), own b5 (.cells #[.slice al lo.length cl] 23), own b4 (.cells #[.pointer (some ⟨sb, 0, none⟩)] 26), shr (fun k => k < w.heap.size) w] ++ [row 55 7 (.slice none 0 0) 0 [], exc none' w2_1]).Perm ([row 55 7 (.slice none 0 0) 0 [], exc none' w2_1] ++ [own b7 (.cells #[.int .u64 ts] 24), own b6 (.cells #[.slice ah hi.length ch] 23), own b5 (.cells #[.slice al lo.length cl] 23), own b4 (.cells #[.pointer (some ⟨sb, 0, none⟩)] 26), shr (fun k => k < w.heap.size) w]) := List.perm_append_comm
    refine p1.trans (List.Perm.cons _ (List.Perm.cons _ ?_))
    have p2 : ([own b7 (.cells #[.int .u64 ts] 24), own b6 (.cells #[.slice ah hi.length ch] 23), own b5 (.cells #[.slice al lo.length cl] 23), own b4 (.cells #[.pointer (some ⟨sb, 0, none⟩)] 26)]).Perm [own b4 (.cells #[.pointer (some ⟨sb, 0, none⟩)] 26), own b5 (.cells #[.slice al lo.length cl] 23), own b6 (.cells #[.slice ah hi.length ch] 23), own b7 (.cells #[.int .u64 ts] 24)] := List.reverse_perm [_, _, _, _]
    exact p2.append_right [_]
  refine OL_nil ?_
  refine W_block ?_
  refine W_rangeFuncH yEnc yAt (yQ ks) (yE ks) (fun pre Ls => ∃ (v9 : Value) (cs9 : List Value) (G : Nat → Prop) (Wg : World), Ls = [own b9 (.cells #[v9] 49), row 55 7 v9 ((pre.map Yk.s).filter q).length cs9, exc G Wg, own b4 (.cells #[.pointer (some ⟨sb, 0, none⟩)] 26), own b5 (.cells #[.slice al lo.length cl] 23), own b6 (.cells #[.slice ah hi.length ch] 23), own b7 (.cells #[.int .u64 ts] 24), shr (fun k => k < w.heap.size) w] ∧ Ext none' w Wg ∧ (∀ k, G k → w.heap.size ≤ k) ∧ Els tCl G Wg cs9 (((pre.map Yk.s).filter q).map (cellOf a ts))) (fun _ _ _ => False) rfl en50 (by decide) H ⟨.slice none 0 0, [], none', w2_1, rfl, hEw, fun _ h => h.elim, Els.nil _ _ _⟩ ?_ ?_ ?_ ?_ ?_ ?_
  · rintro pre Ls ⟨v9, cs9, G, Wg, rfl, -⟩ at_ hat hx k hk
    simp only [List.mem_cons, List.not_mem_nil, or_false] at hat
    rcases hat with rfl | rfl | rfl | rfl | rfl | rfl | rfl | rfl
    · cases hx
    · cases hx
    · cases hx
    · cases hx
    · cases hx
    · cases hx
    · cases hx
    · exact Nat.lt_of_lt_of_le hk hEw.size
  · rintro e pre Ls h; exact h.elim
  · intro w' hE
    exact f50_iter ((hE.blk bs (own_lt hbs) (fun h => h)).trans hbs) ((hE.blk sb (own_lt hsb) (fun h => h)).trans hsb) ⟨es1, clock1, (hE.blk g1 (own_lt ho1) (fun h => h)).trans ho1, ⟨es1, clock1, rfl, hmo1⟩⟩ ⟨es2, clock2, (hE.blk g2 (own_lt ho2) (fun h => h)).trans ho2, ⟨es2, clock2, rfl, hmo2⟩⟩ hkz (by rw [List.length_map, List.length_map]; omega) hks.rise (fun k => by rw [hks.mem k, hr.isKey k])
  · rintro l' aL aL' aD aO pre x Ls Wd ⟨v9, cs9, G, Wg, rfl, hbase, hGn, hE9⟩ hq HH
    refine W_region ?_
    refine OL_y (y_assign rfl) (by decide) ?_
    refine OL_nil ?_
    refine ⟨_, HH, fun W2 HH => ?_⟩
    have H := HH
    obtain ⟨hy1, hy2, hy3⟩ : yOk x := hq.2 x (by simp)
    have hpx : pre.map Yk.s ++ [x.s] <+: ks := by have := hq.1; rwa [List.map_append] at this
    have hpl : (pre.map Yk.s).length ≤ 80000 := by have := hpx.length_le; rw [List.length_append] at this; omega
    have hfl : ((pre.map Yk.s).filter q).length ≤ 80000 := Nat.le_trans (List.length_filter_le _ _) hpl
    have hmap : (pre ++ [x]).map Yk.s = pre.map Yk.s ++ [x.s] := by rw [List.map_append]; rfl
    obtain ⟨a9, c9, hv9, hl9, hm9⟩ := H.rowLen 5 rfl
    subst hv9
    obtain ⟨hsd, hvm⟩ := ha x.s
    obtain ⟨v38, hlkV, hSl⟩ := lookV H0 hr x.s (by omega)
    obtain ⟨av, cv, rfl, hlv, hmv⟩ := hSl.len
    obtain ⟨csI, hlkI, hRI⟩ := hr.look x.s
    obtain ⟨jv, jk, rfl, -⟩ := ver_cells.1 hRI
    obtain ⟨wb, hwb⟩ : ∃ wb, withinB (unkb x.s) lo hi = wb := ⟨_, rfl⟩
    refine W_block ?_
    refine W_seq ?_
    refine W_seq ?_
    rcases wb with _ | _
    · refine W_region ?_
      refine OL_y (y_move rfl) (by decide) ?_
      refine OL_y (y_loadS (v := .slice al lo.length cl) ti23 rfl rfl (Cells.unit (H.getOwn 8 rfl) rfl)) (by decide) ?_
      refine OL_y (y_loadS (v := .slice ah hi.length ch) ti23 rfl rfl (Cells.unit (H.getOwn 9 rfl) rfl)) (by decide) ?_
      refine OL_c (op_call 54 en54 rfl [.slice (some ⟨x.b, 0, none⟩) x.s.size x.cap, .slice al lo.length cl, .slice ah hi.length ch] rfl (by decide) ((f54_calls (SlR_bytes (Z := fun _ => True) (H.getOwn 3 rfl) trivial hy1 hy2 hy3) (hlo.keeps (H.keepsAll 11 rfl _)) (hhi.keeps (H.keepsAll 11 rfl _))).mono ?_))
      rintro e w4_3 ⟨rfl, hE54⟩
      refine ⟨_, rfl, ?_⟩
      have H := H.ext0 hE54
      rw [hwb]
      refine OL_y (v := .bool true) (y_not (b := false) rfl) (by decide) ?_
      refine OL_nil ?_
      refine W_condt rfl ?_
      refine W_exit ?_
      have hqf : q x.s = false := by rw [hqe, hwb]; rfl
      have hf : ((pre ++ [x]).map Yk.s).filter q = (pre.map Yk.s).filter q := by rw [hmap, List.filter_append, List.filter_cons_of_neg (by rw [hqf]; simp), List.filter_nil, List.append_nil]
      refine ⟨_, ⟨.slice a9 ((pre.map Yk.s).filter q).length c9, cs9, G, Wg, rfl, hbase, hGn, by rw [hf]; exact hE9⟩, ?_⟩
      rw [hf]
      exact H.sub (.cons_cons _ (.cons_cons _ (.cons_cons _ (.cons _ (.refl _)))))
    · refine W_region ?_
      refine OL_y (y_move rfl) (by decide) ?_
      refine OL_y (y_loadS (v := .slice al lo.length cl) ti23 rfl rfl (Cells.unit (H.getOwn 8 rfl) rfl)) (by decide) ?_
      refine OL_y (y_loadS (v := .slice ah hi.length ch) ti23 rfl rfl (Cells.unit (H.getOwn 9 rfl) rfl)) (by decide) ?_
      refine OL_c (op_call 54 en54 rfl [.slice (some ⟨x.b, 0, none⟩) x.s.size x.cap, .slice al lo.length cl, .slice ah hi.length ch] rfl (by decide) ((f54_calls (SlR_bytes (Z := fun _ => True) (H.getOwn 3 rfl) trivial hy1 hy2 hy3) (hlo.keeps (H.keepsAll 11 rfl _)) (hhi.keeps (H.keepsAll 11 rfl _))).mono ?_))
      rintro e w4_3 ⟨rfl, hE54⟩
      refine ⟨_, rfl, ?_⟩
      have H := H.ext0 hE54
      rw [hwb]
      refine OL_y (v := .bool false) (y_not (b := true) rfl) (by decide) ?_
      refine OL_nil ?_
      refine W_condf rfl ?_
      refine W_skip ?_
      refine W_seq ?_
      refine W_cut (fun f ds w' => ∃ (b11 : Nat) (iv ik : Value) (G : Nat → Prop) (Wg : World), f 4 = .pointer (some ⟨b4, 0, none⟩) ∧ f 7 = .pointer (some ⟨b7, 0, none⟩) ∧ f 9 = .pointer (some ⟨b9, 0, none⟩) ∧ f 10 = .slice (some ⟨x.b, 0, none⟩) x.s.size x.cap ∧ f 11 = .pointer (some ⟨b11, 0, none⟩) ∧ ds = [] ∧ Ext none' w Wg ∧ (∀ k, G k → w.heap.size ≤ k) ∧ Els tCl G Wg cs9 (((pre.map Yk.s).filter q).map (cellOf a ts)) ∧ tVer.R G Wg [.int .u64 (a.i x.s).ts, .int .u64 (a.i x.s).txn, .bool (a.i x.s).dead, iv, ik] (a.i x.s) ∧ Holds w' [own b11 (.cells #[.slice (some ⟨x.b, 0, none⟩) x.s.size x.cap, .slice none 0 0, .int .u64 (a.i x.s).ts, .int .u64 (a.i x.s).txn, .bool (a.i x.s).dead, iv, ik] 55), aL', aD, aO, yAt x, own b9 (.cells #[.slice a9 ((pre.map Yk.s).filter q).length c9] 49), row 55 7 (.slice a9 ((pre.map Yk.s).filter q).length c9) ((pre.map Yk.s).filter q).length cs9, exc G Wg, own b4 (.cells #[.pointer (some ⟨sb, 0, none⟩)] 26), own b5 (.cells #[.slice al lo.length cl] 23), own b6 (.cells #[.slice ah hi.length ch] 23), own b7 (.cells #[.int .u64 ts] 24), shr (fun k => k < w.heap.size) w]) ?_ ?_
      · refine W_drawD H mixed (by kernel_rfl) [] (fun wq w' => Ext none' w w' ∧ w'.heap[b4]? = some (.cells #[.pointer (some ⟨sb, 0, none⟩)] 26) ∧ w'.heap[x.b]? = some (.cells (bytesRow x.s x.cap) 5 ((bytesRow x.s x.cap).size, (bytesRow x.s x.cap).size + 1))) fun wd5 H hEd => ?_
        have hS : ∀ {ls : Array Bool}, Sx [] (fun w' => Ext none' w w' ∧ w'.heap[b4]? = some (.cells #[.pointer (some ⟨sb, 0, none⟩)] 26) ∧ w'.heap[x.b]? = some (.cells (bytesRow x.s x.cap) 5 ((bytesRow x.s x.cap).size, (bytesRow x.s x.cap).size + 1))) ls wd5 := fun {_} _ => ⟨H.ext_of 11 rfl, H.getOwn 7 rfl, H.getOwn 3 rfl⟩
        refine DA_p 0 rfl (by kernel_rfl) rfl (fun _ => y_move rfl) hS (by decide) fun hS => ?_
        refine DA_y 1 rfl (by kernel_rfl) rfl (by kernel_rfl) (fun w' h => y_loadS (v := .pointer (some ⟨sb, 0, none⟩)) ti26 rfl rfl (Cells.unit h.2.1 rfl)) hS (by decide) fun hS => ?_
        refine DA_p 2 rfl (by kernel_rfl) rfl (fun _ => y_nilCheck rfl ⟨_, rfl⟩) hS (by decide) fun hS => ?_
        refine DA_p 3 rfl (by kernel_rfl) rfl (fun _ => y_fieldAddr ti98 rfl ti96 rfl rfl) hS (by decide) fun hS => ?_
        refine DA_y 4 rfl (by kernel_rfl) rfl (by kernel_rfl) (fun w' h => y_loadS (v := .map (some g2)) ti96 rfl rfl (Cells.unit ((H0.ext0 h.1).getOwn 0 rfl) rfl)) hS (by decide) fun hS => ?_
        refine DA_p 5 rfl (by kernel_rfl) rfl (fun _ => y_move rfl) hS (by decide) fun hS => ?_
        refine DA_y 6 rfl (by kernel_rfl) rfl (by kernel_rfl) (fun w' h => y_toStr (w := w') Try.underlying23 Try.underlying5 Try.underlying9 rfl (SlR_bytes (Z := fun _ => True) h.2.2 trivial hy1 hy2 hy3)) hS (by decide) fun hS => ?_
        refine DA_y 7 rfl (by kernel_rfl) rfl (by kernel_rfl) (fun w' h => y_lookupG (w := w') (k := kb (unkb x.s)) (v := .agg #[.int .u64 (a.i x.s).ts, .int .u64 (a.i x.s).txn, .bool (a.i x.s).dead, jv, jk]) (by rw [kb_unkb]; exact hlkI) (H0.ext0 h.1) 2 rfl ti96 ti32 (KeyOK.str Try.underlying9) rfl rfl) hS (by decide) fun hS => ?_
        have hszw := (H.ext_of 11 rfl).size
        refine DA_two 8 10 (by kernel_rfl) rfl rfl ?_ ?_
        · refine op_call 46 en46 rfl [.agg #[.int .u64 (a.i x.s).ts, .int .u64 (a.i x.s).txn, .bool (a.i x.s).dead, jv, jk]] rfl (by decide) ((f46_calls (tVer.keeps hRI ((H0.ext0 (H.ext_of 11 rfl)).dz 3 4 rfl rfl hr.base))).mono ?_)
          rintro e w5_8 ⟨cs', rfl, hR46, hE46⟩
          obtain ⟨H, g5⟩ := H.poolC hE46 6 11 rfl rfl hbase
          refine ⟨_, rfl, fun _ => ⟨H.ext_of 11 rfl, H.getOwn 7 rfl, H.getOwn 3 rfl⟩, ?_⟩
          have hR' := tVer.mono (Z' := fun k => G k ∨ (wd5.heap.size ≤ k ∧ k < w5_8.heap.size)) hR46 fun k h1 h2 => .inr ⟨h2, h1⟩
          obtain ⟨iv, ik, rfl, -⟩ := ver_cells.1 hR46
          have hone5 : ∀ u ∈ [.slice (some ⟨x.b, 0, none⟩) x.s.size x.cap, .slice none 0 0, .int .u64 (a.i x.s).ts, .int .u64 (a.i x.s).txn, .bool (a.i x.s).dead, iv, ik], u.oneCell' = true := by
            intro u hu
            rcases List.mem_cons.1 hu with rfl | hu
            · rfl
            rcases List.mem_cons.1 hu with rfl | hu
            · rfl
            exact tVer.one hR' u hu
          refine DA_p (v := .agg #[.slice (some ⟨x.b, 0, none⟩) x.s.size x.cap, .slice none 0 0, .int .u64 (a.i x.s).ts, .int .u64 (a.i x.s).txn, .bool (a.i x.s).dead, iv, ik]) 9 rfl (by kernel_rfl) rfl (fun _ => y_build ti55 pl55 (by kernel_rfl)) (fun _ => ⟨H.ext_of 11 rfl, H.getOwn 7 rfl, H.getOwn 3 rfl⟩) (by decide) fun _ => ?_
          refine DA_one 10 (by kernel_rfl) rfl (op_alloc H ti55 (by decide) fun b11 w5_10 H => ⟨fun _ => ⟨H.ext_of 12 rfl, H.getOwn 8 rfl, H.getOwn 4 rfl⟩, ?_⟩)
          refine DA_one 11 (by kernel_rfl) rfl (op_store (v := .agg #[.slice (some ⟨x.b, 0, none⟩) x.s.size x.cap, .slice none 0 0, .int .u64 (a.i x.s).ts, .int .u64 (a.i x.s).txn, .bool (a.i x.s).dead, iv, ik]) H 0 rfl ti55 rfl rfl rfl (by decide) hone5 fun w5_11 H => ⟨fun _ => ⟨H.ext_of 12 rfl, H.getOwn 8 rfl, H.getOwn 4 rfl⟩, ?_⟩)
          refine DA_done (by kernel_rfl) ?_
          exact ⟨b11, iv, ik, _, _, rfl, rfl, rfl, rfl, rfl, rfl, g5.base, fun k hk => hk.elim (hGn k) fun h => Nat.le_trans hszw h.1, g5.els1 hE9, hR', H⟩
        · refine op_alloc H ti55 (by decide) fun b11 w5_10 H => ⟨fun _ => ⟨H.ext_of 12 rfl, H.getOwn 8 rfl, H.getOwn 4 rfl⟩, ?_⟩
          have hsz10 := (H.ext_of 12 rfl).size
          refine DA_one 8 (by kernel_rfl) rfl (op_call 46 en46 rfl [.agg #[.int .u64 (a.i x.s).ts, .int .u64 (a.i x.s).txn, .bool (a.i x.s).dead, jv, jk]] rfl (by decide) ((f46_calls (tVer.keeps hRI ((H0.ext0 (H.ext_of 12 rfl)).dz 3 4 rfl rfl hr.base))).mono ?_))
          rintro e w5_8 ⟨cs', rfl, hR46, hE46⟩
          obtain ⟨H, g5⟩ := H.poolC hE46 7 12 rfl rfl hbase
          refine ⟨_, rfl, fun _ => ⟨H.ext_of 12 rfl, H.getOwn 8 rfl, H.getOwn 4 rfl⟩, ?_⟩
          have hR' := tVer.mono (Z' := fun k => G k ∨ (w5_10.heap.size ≤ k ∧ k < w5_8.heap.size)) hR46 fun k h1 h2 => .inr ⟨h2, h1⟩
          obtain ⟨iv, ik, rfl, -⟩ := ver_cells.1 hR46
          have hone5 : ∀ u ∈ [.slice (some ⟨x.b, 0, none⟩) x.s.size x.cap, .slice none 0 0, .int .u64 (a.i x.s).ts, .int .u64 (a.i x.s).txn, .bool (a.i x.s).dead, iv, ik], u.oneCell' = true := by
            intro u hu
            rcases List.mem_cons.1 hu with rfl | hu
            · rfl
            rcases List.mem_cons.1 hu with rfl | hu
            · rfl
            exact tVer.one hR' u hu
          refine DA_p (v := .agg #[.slice (some ⟨x.b, 0, none⟩) x.s.size x.cap, .slice none 0 0, .int .u64 (a.i x.s).ts, .int .u64 (a.i x.s).txn, .bool (a.i x.s).dead, iv, ik]) 9 rfl (by kernel_rfl) rfl (fun _ => y_build ti55 pl55 (by kernel_rfl)) (fun _ => ⟨H.ext_of 12 rfl, H.getOwn 8 rfl, H.getOwn 4 rfl⟩) (by decide) fun _ => ?_
          refine DA_one 11 (by kernel_rfl) rfl (op_store (v := .agg #[.slice (some ⟨x.b, 0, none⟩) x.s.size x.cap, .slice none 0 0, .int .u64 (a.i x.s).ts, .int .u64 (a.i x.s).txn, .bool (a.i x.s).dead, iv, ik]) H 0 rfl ti55 rfl rfl rfl (by decide) hone5 fun w5_11 H => ⟨fun _ => ⟨H.ext_of 12 rfl, H.getOwn 8 rfl, H.getOwn 4 rfl⟩, ?_⟩)
          refine DA_done (by kernel_rfl) ?_
          exact ⟨b11, iv, ik, _, _, rfl, rfl, rfl, rfl, rfl, rfl, g5.base, fun k hk => hk.elim (hGn k) fun h => Nat.le_trans hsz10 h.1, g5.els1 hE9, hR', H⟩
      rintro f ds w5 ⟨b11, iv, ik, G, Wg, h4, h7, h9, h10, h11, rfl, hbase, hGn, hE9, hRi, H⟩
      refine W_seq ?_
      refine W_seq ?_
      refine W_drawQ H mixed (by kernel_rfl) (by kernel_rfl) fun wd6 H => ?_
      refine QL_y (y_loadS (v := .pointer (some ⟨sb, 0, none⟩)) ti26 rfl h4 (Cells.unit (H.getOwn 8 rfl) rfl)) (by decide) ?_
      refine QL_y (y_nilCheck rfl ⟨_, rfl⟩) (by decide) ?_
      refine QL_y (y_fieldAddr ti98 rfl ti95 rfl rfl) (by decide) ?_
      refine QL_y (y_loadS (v := .map (some g1)) ti95 rfl rfl (Cells.unit ((H0.ext0 (H.ext_of 12 rfl)).getOwn 0 rfl) rfl)) (by decide) ?_
      refine QL_y (y_move h10) (by decide) ?_
      refine QL_y (y_toStr Try.underlying23 Try.underlying5 Try.underlying9 rfl (SlR_bytes (Z := fun _ => True) (H.getOwn 4 rfl) trivial hy1 hy2 hy3)) (by decide) ?_
      refine QL_y (y_lookupG (k := kb (unkb x.s)) (v := .slice av (a.v x.s).length cv) (by rw [kb_unkb]; exact hlkV) (H0.ext0 (H.ext_of 12 rfl)) 1 rfl ti95 ti53 (KeyOK.str Try.underlying9) rfl rfl) (by decide) ?_
      refine QL_y (y_len rfl ti53 rfl) (by decide) ?_
      refine QL_y (y_move rfl) (by decide) ?_
      refine QL_nil ?_
      have H := H.rowNil 32 5
      refine W_range (N := (a.v x.s).length) (by simp only [maxLen]; omega) (fun k f ds w' => ∃ (v12 : Value) (cs12 : List Value) (G : Nat → Prop) (Wg : World), f 7 = .pointer (some ⟨b7, 0, none⟩) ∧ f 9 = .pointer (some ⟨b9, 0, none⟩) ∧ f 11 = .pointer (some ⟨b11, 0, none⟩) ∧ f 38 = .slice av (a.v x.s).length cv ∧ ds = [] ∧ v12.oneCell' = true ∧ v12.cells = #[v12] ∧ Ext none' w Wg ∧ (∀ k, G k → w.heap.size ≤ k) ∧ Els tCl G Wg cs9 (((pre.map Yk.s).filter q).map (cellOf a ts)) ∧ tVer.R G Wg [.int .u64 (a.i x.s).ts, .int .u64 (a.i x.s).txn, .bool (a.i x.s).dead, iv, ik] (a.i x.s) ∧ Els tVer G Wg cs12 (upTo ((a.v x.s).take k) ts) ∧
          Holds w' [row 32 5 v12 (upTo ((a.v x.s).take k) ts).length cs12, own b11 (.cells #[.slice (some ⟨x.b, 0, none⟩) x.s.size x.cap, v12, .int .u64 (a.i x.s).ts, .int .u64 (a.i x.s).txn, .bool (a.i x.s).dead, iv, ik] 55), aL', aD, aO, yAt x, own b9 (.cells #[.slice a9 ((pre.map Yk.s).filter q).length c9] 49), row 55 7 (.slice a9 ((pre.map Yk.s).filter q).length c9) ((pre.map Yk.s).filter q).length cs9, exc G Wg, own b4 (.cells #[.pointer (some ⟨sb, 0, none⟩)] 26), own b5 (.cells #[.slice al lo.length cl] 23), own b6 (.cells #[.slice ah hi.length ch] 23), own b7 (.cells #[.int .u64 ts] 24), shr (fun k => k < w.heap.size) w])
          ⟨.slice none 0 0, [], G, Wg, h7, h9, h11, rfl, rfl, rfl, rfl, hbase, hGn, hE9, hRi, Els.nil _ _ _, H⟩
          rfl rfl (by decide) (by decide) (by decide) rfl rfl ?_ rfl rfl ?_
      · rintro k f ds w7 hk3 ⟨v12, cs12, G, Wg, h7, h9, h11, h38, rfl, h1c, hvc, hbase, hGn, hE9, hRi, hE12, H⟩ htk2 htn2
        have hxk2 := List.getElem?_eq_getElem hk3
        obtain ⟨b3, o3, cs3, e3, -, hc3, hr3⟩ := hSl.at hxk2
        have hc3' := hc3.ext ((H.keepsAll 13 rfl (fun _ => True)).2 _ trivial hc3.lt)
        have hts : upTo ((a.v x.s).take (k + 1)) ts = upTo ((a.v x.s).take k ++ [(a.v x.s)[k]]) ts := by rw [List.take_add_one, hxk2]; rfl
        rw [upTo_snoc] at hts
        have hupl : (upTo ((a.v x.s).take k) ts).length ≤ 40000 := Nat.le_trans (List.length_filter_le _ _) (by rw [List.length_take]; omega)
        generalize (a.v x.s)[k] = u at *
        obtain ⟨xv, xk, rfl, hx1, hx2, hx3, hx4⟩ := ver_cells.1 hr3
        have h38' := h38.trans (congrArg (Value.slice · _ _) e3)
        refine W_block ?_
        refine W_seq ?_
        refine W_region ?_
        refine OL_y (y_indexAddr ti53 ti32 h38' htk2 (by omega) (by omega)) (by decide) ?_
        refine OL_y (y_loadA (cs := [.int .u64 u.ts, .int .u64 u.txn, .bool u.dead, xv, xk]) ti32 rfl rfl hc3' rfl) (by decide) ?_
        refine OL_var (v := .agg #[.int .u64 u.ts, .int .u64 u.txn, .bool u.dead, xv, xk]) H ti32 rfl (by decide) (fun _ => rfl) rfl (tVer.one hr3) fun b13 w8_2 H => ?_
        refine OL_nil ?_
        refine W_seq ?_
        refine W_region ?_
        refine OL_y (y_fieldAddr ti32 rfl ti24 rfl rfl) (by decide) ?_
        refine OL_y (y_loadS (v := .int .u64 u.ts) ti24 rfl rfl (Cells.unit (H.getOwn 0 rfl) rfl)) (by decide) ?_
        refine OL_y (y_loadS (v := .int .u64 ts) ti24 rfl h7 (Cells.unit (H.getOwn 13 rfl) rfl)) (by decide) ?_
        refine OL_y (y_leq rfl rfl) (by decide) ?_
        refine OL_nil ?_
        refine W_cond rfl (fun hc => ?_) (fun hc => ?_)
        · have hle := of_decide_eq_true hc
          refine W_drawD H mixed (by kernel_rfl) [7] (fun wq w' => w'.heap[b11]? = some (.cells #[.slice (some ⟨x.b, 0, none⟩) x.s.size x.cap, v12, .int .u64 (a.i x.s).ts, .int .u64 (a.i x.s).txn, .bool (a.i x.s).dead, iv, ik] 55) ∧ w'.heap[b13]? = some (.cells #[.int .u64 u.ts, .int .u64 u.txn, .bool u.dead, xv, xk] 32)) fun wd10 H hEd => ?_
          have hS : ∀ {ls : Array Bool}, Sx [7] (fun w' => w'.heap[b11]? = some (.cells #[.slice (some ⟨x.b, 0, none⟩) x.s.size x.cap, v12, .int .u64 (a.i x.s).ts, .int .u64 (a.i x.s).txn, .bool (a.i x.s).dead, iv, ik] 55) ∧ w'.heap[b13]? = some (.cells #[.int .u64 u.ts, .int .u64 u.txn, .bool u.dead, xv, xk] 32)) ls wd10 := fun {_} _ => ⟨H.getOwn 2 rfl, H.getOwn 0 rfl⟩
          refine DA_p 0 rfl (by kernel_rfl) rfl (fun _ => y_fieldAddr ti55 rfl ti53 rfl h11) hS (by decide) fun hS => ?_
          refine DA_y 1 rfl (by kernel_rfl) rfl (by kernel_rfl) (fun w' h => y_loadS (v := v12) ti53 rfl rfl (Cells.unit h.1 rfl)) hS (by decide) fun hS => ?_
          refine DA_y 2 rfl (by kernel_rfl) rfl (by kernel_rfl) (fun w' h => y_loadA (cs := [.int .u64 u.ts, .int .u64 u.txn, .bool u.dead, xv, xk]) ti32 rfl rfl (Cells.of h.2 rfl) rfl) hS (by decide) fun hS => ?_
          refine DA_one 3 (by kernel_rfl) rfl (op_call 46 en46 rfl [.agg #[.int .u64 u.ts, .int .u64 u.txn, .bool u.dead, xv, xk]] rfl (by decide) ((f46_calls (tVer.keeps hr3 (H.keepsAll 14 rfl _))).mono ?_))
          rintro e w10_3 ⟨cs', rfl, hR46, hE46⟩
          refine ⟨_, rfl, fun _ => ⟨(H.ext0 hE46).getOwn 2 rfl, (H.ext0 hE46).getOwn 0 rfl⟩, ?_⟩
          have hsz10 := (H.ext_of 14 rfl).size
          obtain ⟨H, g10⟩ := H.poolC hE46 9 14 rfl rfl hbase
          have hR' := tVer.mono (Z' := fun k => G k ∨ (wd10.heap.size ≤ k ∧ k < w10_3.heap.size)) hR46 fun k h1 h2 => .inr ⟨h2, h1⟩
          have hcl' : cs'.length = 5 := tVer.len hR'
          refine DA_one 4 (by kernel_rfl) rfl (op_buildSlice H [.agg cs'.toArray] ti53 ti32 rfl rfl rfl (by intro v hv; rw [List.mem_singleton.1 hv]; exact hcl') rfl rfl (by decide) fun b52 w10_4 H => ⟨fun _ => ⟨H.getOwn 3 rfl, H.getOwn 1 rfl⟩, ?_⟩)
          refine DA_one 5 (by kernel_rfl) rfl (op_append (news := cs') H 2 rfl rfl ti53 ti32 rfl rfl rfl rfl (show Go.Wk.Src w10_4 (.slice (some ⟨b52, 0, none⟩) 1 1) 1 cs' by have := Src.row (H.getRow 0 rfl); simpa [Value.cells] using this) (by rw [hcl']) (tVer.one hR') (by omega) (by simp only [maxLen]; omega) (by decide) fun v53 w10_5 H => ⟨fun _ => ⟨H.getOwn 3 rfl, H.getOwn 1 rfl⟩, ?_⟩)
          obtain ⟨a53, c53, rfl, hl53, hm53⟩ := H.rowLen 2 rfl
          refine DA_p 6 rfl (by kernel_rfl) rfl (fun _ => y_fieldAddr ti55 rfl ti53 rfl h11) (fun _ => ⟨H.getOwn 3 rfl, H.getOwn 1 rfl⟩) (by decide) fun _ => ?_
          refine DA_one 7 (by kernel_rfl) rfl (op_store (v := .slice a53 ((upTo ((a.v x.s).take k) ts).length + 1) c53) H 3 rfl ti53 rfl rfl rfl (Nat.le_of_ble_eq_true rfl) (by simp [Value.cells, Value.oneCell']) fun w10_7 H => ⟨fun h => absurd (h 7 (by simp)) (by decide), ?_⟩)
          refine DA_done (by kernel_rfl) ?_
          have e2 : upTo ((a.v x.s).take (k + 1)) ts = upTo ((a.v x.s).take k) ts ++ [u] := by rw [hts, if_pos hle]
          refine ⟨htk2, htn2, .slice a53 ((upTo ((a.v x.s).take k) ts).length + 1) c53, cs12 ++ cs', _, _, h7, h9, h11, h38, rfl, rfl, rfl, g10.base, fun k hk => hk.elim (hGn k) (fun h => Nat.le_trans hsz10 h.1), g10.els1 hE9, g10.R1 hRi, by rw [e2]; exact (g10.els1 hE12).snoc hR', ?_⟩
          rw [e2, List.length_append]; exact H.tail.tail
        · refine W_skip ?_
          have hle := of_decide_eq_false hc
          have e2 : upTo ((a.v x.s).take (k + 1)) ts = upTo ((a.v x.s).take k) ts := by rw [hts, if_neg hle, List.append_nil]
          refine ⟨htk2, htn2, v12, cs12, G, Wg, h7, h9, h11, h38, rfl, h1c, hvc, hbase, hGn, hE9, hRi, by rw [e2]; exact hE12, ?_⟩
          rw [e2]; exact H.tail
      · rintro f ds w7 ⟨v12, cs12, G, Wg, h7, h9, h11, h38, rfl, h1c, hvc, hbase, hGn, hE9, hRi, hE12, H⟩ htk2 htn2
        rw [List.take_length] at hE12 H
        have hupl : (upTo (a.v x.s) ts).length ≤ 40000 := Nat.le_trans (List.length_filter_le _ _) (by omega)
        obtain ⟨a12, c12, hv12, hl12, hm12⟩ := H.rowLen 0 rfl
        subst hv12
        refine W_seq ?_
        by_cases hn : (0 : Int) < ((upTo (a.v x.s) ts).length : Nat)
        · refine W_region ?_
          refine OL_y (y_fieldAddr ti55 rfl ti53 rfl h11) (by decide) ?_
          refine OL_y (y_loadS (v := .slice a12 (upTo (a.v x.s) ts).length c12) ti53 rfl rfl (Cells.unit (H.getOwn 1 rfl) rfl)) (by decide) ?_
          refine OL_y (y_len rfl ti53 rfl) (by decide) ?_
          refine OL_y (v := .bool true) (y_gtrT hn rfl rfl) (by decide) ?_
          refine OL_y (v := .bool true) (y_move rfl) (by decide) ?_
          refine OL_s rfl (by decide) rfl rfl (by simp) ?_
          refine OL_s rfl (by decide) rfl rfl (by simp) ?_
          refine OL_s rfl (by decide) rfl rfl (by simp) ?_
          refine OL_s rfl (by decide) rfl rfl (by simp) ?_
          refine OL_y (y_pick (b := true) (v := .bool true) rfl rfl) (by decide) ?_
          refine OL_nil ?_
          refine W_condt rfl ?_
          have hone13 : ∀ u ∈ [.slice (some ⟨x.b, 0, none⟩) x.s.size x.cap, .slice a12 (upTo (a.v x.s) ts).length c12, .int .u64 (a.i x.s).ts, .int .u64 (a.i x.s).txn, .bool (a.i x.s).dead, iv, ik], u.oneCell' = true := by
            intro u hu
            rcases List.mem_cons.1 hu with rfl | hu
            · rfl
            rcases List.mem_cons.1 hu with rfl | hu
            · rfl
            exact tVer.one hRi u hu
          refine W_region ?_
          refine OL_y (y_loadS (v := .slice a9 ((pre.map Yk.s).filter q).length c9) ti49 rfl h9 (Cells.unit (H.getOwn 6 rfl) rfl)) (by decide) ?_
          refine OL_y (y_loadA (cs := [.slice (some ⟨x.b, 0, none⟩) x.s.size x.cap, .slice a12 (upTo (a.v x.s) ts).length c12, .int .u64 (a.i x.s).ts, .int .u64 (a.i x.s).txn, .bool (a.i x.s).dead, iv, ik]) ti55 rfl h11 (Cells.of (H.getOwn 1 rfl) rfl) rfl) (by decide) ?_
          refine OL_c (op_buildSlice H [.agg #[.slice (some ⟨x.b, 0, none⟩) x.s.size x.cap, .slice a12 (upTo (a.v x.s) ts).length c12, .int .u64 (a.i x.s).ts, .int .u64 (a.i x.s).txn, .bool (a.i x.s).dead, iv, ik]] ti49 ti55 rfl rfl rfl (by simp [Value.cells]) rfl rfl (by decide) fun b68 w13_2 H => ?_)
          refine OL_c (op_append H 8 rfl rfl ti49 ti55 rfl rfl rfl rfl (Src.row (H.getRow 0 rfl)) rfl (by intro c hc; exact hone13 c (by simpa [Value.cells] using hc)) (by omega) (by simp only [maxLen]; omega) (by decide) fun v69 w13_3 H => ?_)
          obtain ⟨a69, c69, rfl, hl69, hm69⟩ := H.rowLen 8 rfl
          refine OL_c (op_store (v := .slice a69 (((pre.map Yk.s).filter q).length + 1) c69) H 7 rfl ti49 h9 rfl rfl (Nat.le_of_ble_eq_true rfl) (by simp [Value.cells, Value.oneCell']) fun w13_4 H => ?_)
          refine OL_nil ?_
          have hqt : q x.s = true := by rw [hqe, hwb, Bool.true_and, decide_eq_true_eq]; left; intro h; rw [h] at hn; exact absurd hn (by decide)
          have hf : ((pre ++ [x]).map Yk.s).filter q = (pre.map Yk.s).filter q ++ [x.s] := by rw [hmap, List.filter_append, List.filter_cons_of_pos hqt, List.filter_nil]
          have H := H.tail
          have hrow12 := H.getRow 0 rfl
          have hf12 := H.fresh 0 13 rfl rfl rfl
          have hfy := H.fresh 5 13 rfl rfl rfl x.b rfl
          have hkG : Keeps G Wg w13_4 := H.keepsX 8 rfl
          have hyb := H.getOwn 5 rfl
          obtain ⟨H, g13⟩ := H.poolX rfl 7 12 rfl rfl hbase
          have H := H.tail
          have H := Holds.pick (A := [aL', aD, aO]) (B := []) (C := []) H
          obtain ⟨H, g14⟩ := H.poolX rfl 5 10 rfl rfl g13.base
          have hvr : SlR tVer 72 (fun k => G k ∨ (Value.slice a12 (upTo (a.v x.s) ts).length c12).ownBlock = some k) w13_4 (.slice a12 (upTo (a.v x.s) ts).length c12) (upTo (a.v x.s) ts) := SlR.ofRow hrow12 (by decide) ((hE12.keeps hkG).mono fun _ _ h => Or.inl h) (fun k hk => Or.inr hk) (by omega)
          have hT : tCl.R (fun k => (G k ∨ (Value.slice a12 (upTo (a.v x.s) ts).length c12).ownBlock = some k) ∨ k = x.b) w13_4 [.slice (some ⟨x.b, 0, none⟩) x.s.size x.cap, .slice a12 (upTo (a.v x.s) ts).length c12, .int .u64 (a.i x.s).ts, .int .u64 (a.i x.s).txn, .bool (a.i x.s).dead, iv, ik] (cellOf a ts x.s) := cl_cells.2 ⟨_, _, _, rfl, SlR_bytes hyb (Or.inr rfl) hy1 hy2 hy3, g14.slr1 hvr, g14.R1 (g13.R1 hRi)⟩
          refine ⟨_, ⟨.slice a69 (((pre.map Yk.s).filter q).length + 1) c69, cs9 ++ [Value.slice (some ⟨x.b, 0, none⟩) x.s.size x.cap, .slice a12 (upTo (a.v x.s) ts).length c12, .int .u64 (a.i x.s).ts, .int .u64 (a.i x.s).txn, .bool (a.i x.s).dead, iv, ik], fun k => (G k ∨ (Value.slice a12 (upTo (a.v x.s) ts).length c12).ownBlock = some k) ∨ k = x.b, w13_4, rfl, g14.base, fun k hk => hk.elim (fun h => h.elim (hGn k) (hf12 k)) (fun h => by rw [h]; exact hfy), by rw [hf, List.map_append]; exact (g14.els1 (g13.els1 hE9)).snoc hT⟩, ?_⟩
          rw [hf, List.length_append]; exact H
        · refine W_region ?_
          refine OL_y (y_fieldAddr ti55 rfl ti53 rfl h11) (by decide) ?_
          refine OL_y (y_loadS (v := .slice a12 (upTo (a.v x.s) ts).length c12) ti53 rfl rfl (Cells.unit (H.getOwn 1 rfl) rfl)) (by decide) ?_
          refine OL_y (y_len rfl ti53 rfl) (by decide) ?_
          refine OL_y (v := .bool false) (y_gtrF hn rfl rfl) (by decide) ?_
          refine OL_y (v := .bool false) (y_move rfl) (by decide) ?_
          refine OL_yg rfl (by decide) rfl (y_fieldAddr ti55 rfl ti32 rfl h11) (by decide) ?_
          refine OL_yg rfl (by decide) rfl (y_fieldAddr ti32 rfl ti24 rfl rfl) (by decide) ?_
          refine OL_yg rfl (by decide) rfl (y_loadS (v := .int .u64 (a.i x.s).txn) ti24 rfl rfl (Cells.unit (H.getOwn 1 rfl) rfl)) (by decide) ?_
          refine OL_yg rfl (by decide) rfl (y_neq rfl rfl) (by decide) ?_
          refine OL_y (y_pick (b := false) (v := .bool (decide ((a.i x.s).txn ≠ 0))) rfl rfl) (by decide) ?_
          refine OL_nil ?_
          refine W_cond rfl (fun hc => ?_) (fun hc => ?_)
          · have hone13 : ∀ u ∈ [.slice (some ⟨x.b, 0, none⟩) x.s.size x.cap, .slice a12 (upTo (a.v x.s) ts).length c12, .int .u64 (a.i x.s).ts, .int .u64 (a.i x.s).txn, .bool (a.i x.s).dead, iv, ik], u.oneCell' = true := by
              intro u hu
              rcases List.mem_cons.1 hu with rfl | hu
              · rfl
              rcases List.mem_cons.1 hu with rfl | hu
              · rfl
              exact tVer.one hRi u hu
            refine W_region ?_
            refine OL_y (y_loadS (v := .slice a9 ((pre.map Yk.s).filter q).length c9) ti49 rfl h9 (Cells.unit (H.getOwn 6 rfl) rfl)) (by decide) ?_
            refine OL_y (y_loadA (cs := [.slice (some ⟨x.b, 0, none⟩) x.s.size x.cap, .slice a12 (upTo (a.v x.s) ts).length c12, .int .u64 (a.i x.s).ts, .int .u64 (a.i x.s).txn, .bool (a.i x.s).dead, iv, ik]) ti55 rfl h11 (Cells.of (H.getOwn 1 rfl) rfl) rfl) (by decide) ?_
            refine OL_c (op_buildSlice H [.agg #[.slice (some ⟨x.b, 0, none⟩) x.s.size x.cap, .slice a12 (upTo (a.v x.s) ts).length c12, .int .u64 (a.i x.s).ts, .int .u64 (a.i x.s).txn, .bool (a.i x.s).dead, iv, ik]] ti49 ti55 rfl rfl rfl (by simp [Value.cells]) rfl rfl (by decide) fun b68 w13_2 H => ?_)
            refine OL_c (op_append H 8 rfl rfl ti49 ti55 rfl rfl rfl rfl (Src.row (H.getRow 0 rfl)) rfl (by intro c hc; exact hone13 c (by simpa [Value.cells] using hc)) (by omega) (by simp only [maxLen]; omega) (by decide) fun v69 w13_3 H => ?_)
            obtain ⟨a69, c69, rfl, hl69, hm69⟩ := H.rowLen 8 rfl
            refine OL_c (op_store (v := .slice a69 (((pre.map Yk.s).filter q).length + 1) c69) H 7 rfl ti49 h9 rfl rfl (Nat.le_of_ble_eq_true rfl) (by simp [Value.cells, Value.oneCell']) fun w13_4 H => ?_)
            refine OL_nil ?_
            have hne := of_decide_eq_true hc
            have hqt : q x.s = true := by rw [hqe, hwb, Bool.true_and, decide_eq_true_eq]; right; exact hne
            have hf : ((pre ++ [x]).map Yk.s).filter q = (pre.map Yk.s).filter q ++ [x.s] := by rw [hmap, List.filter_append, List.filter_cons_of_pos hqt, List.filter_nil]
            have H := H.tail
            have hrow12 := H.getRow 0 rfl
            have hf12 := H.fresh 0 13 rfl rfl rfl
            have hfy := H.fresh 5 13 rfl rfl rfl x.b rfl
            have hkG : Keeps G Wg w13_4 := H.keepsX 8 rfl
            have hyb := H.getOwn 5 rfl
            obtain ⟨H, g13⟩ := H.poolX rfl 7 12 rfl rfl hbase
            have H := H.tail
            have H := Holds.pick (A := [aL', aD, aO]) (B := []) (C := []) H
            obtain ⟨H, g14⟩ := H.poolX rfl 5 10 rfl rfl g13.base
            have hvr : SlR tVer 72 (fun k => G k ∨ (Value.slice a12 (upTo (a.v x.s) ts).length c12).ownBlock = some k) w13_4 (.slice a12 (upTo (a.v x.s) ts).length c12) (upTo (a.v x.s) ts) := SlR.ofRow hrow12 (by decide) ((hE12.keeps hkG).mono fun _ _ h => Or.inl h) (fun k hk => Or.inr hk) (by omega)
            have hT : tCl.R (fun k => (G k ∨ (Value.slice a12 (upTo (a.v x.s) ts).length c12).ownBlock = some k) ∨ k = x.b) w13_4 [.slice (some ⟨x.b, 0, none⟩) x.s.size x.cap, .slice a12 (upTo (a.v x.s) ts).length c12, .int .u64 (a.i x.s).ts, .int .u64 (a.i x.s).txn, .bool (a.i x.s).dead, iv, ik] (cellOf a ts x.s) := cl_cells.2 ⟨_, _, _, rfl, SlR_bytes hyb (Or.inr rfl) hy1 hy2 hy3, g14.slr1 hvr, g14.R1 (g13.R1 hRi)⟩
            refine ⟨_, ⟨.slice a69 (((pre.map Yk.s).filter q).length + 1) c69, cs9 ++ [Value.slice (some ⟨x.b, 0, none⟩) x.s.size x.cap, .slice a12 (upTo (a.v x.s) ts).length c12, .int .u64 (a.i x.s).ts, .int .u64 (a.i x.s).txn, .bool (a.i x.s).dead, iv, ik], fun k => (G k ∨ (Value.slice a12 (upTo (a.v x.s) ts).length c12).ownBlock = some k) ∨ k = x.b, w13_4, rfl, g14.base, fun k hk => hk.elim (fun h => h.elim (hGn k) (hf12 k)) (fun h => by rw [h]; exact hfy), by rw [hf, List.map_append]; exact (g14.els1 (g13.els1 hE9)).snoc hT⟩, ?_⟩
            rw [hf, List.length_append]; exact H
          · refine W_skip ?_
            have hne := of_decide_eq_false hc
            have hnil : upTo (a.v x.s) ts = [] := List.eq_nil_of_length_eq_zero (by omega)
            have hqf : q x.s = false := by rw [hqe, hwb, hnil, Bool.true_and, decide_eq_false_iff_not]; intro h; rcases h with h | h; exact h rfl; exact hne h
            have hf : ((pre ++ [x]).map Yk.s).filter q = (pre.map Yk.s).filter q := by rw [hmap, List.filter_append, List.filter_cons_of_neg (by rw [hqf]; simp), List.filter_nil, List.append_nil]
            refine ⟨_, ⟨.slice a9 ((pre.map Yk.s).filter q).length c9, cs9, G, Wg, rfl, hbase, hGn, by rw [hf]; exact hE9⟩, ?_⟩
            rw [hf]
            exact H.tail.tail.sub (.cons_cons _ (.cons_cons _ (.cons_cons _ (.cons _ (.refl _)))))
  · rintro D xs Ls W hxs ⟨v9, cs9, G, Wg, rfl, hbase, hGn, hE9⟩ HH
    refine W_seq ?_
    have H := HH
    obtain ⟨a9, c9, hv9, hl9, hm9⟩ := H.rowLen 2 rfl
    subst hv9
    refine W_region ?_
    refine OL_y (y_loadS (v := .slice a9 ((xs.map Yk.s).filter q).length c9) ti49 rfl rfl (Cells.unit (H.getOwn 1 rfl) rfl)) (by decide) ?_
    refine OL_y (y_assign rfl) (by decide) ?_
    refine OL_nil ?_
    refine W_ret ?_
    show RetOK _ _ _ _ _ _
    refine RetOK.mark (H.getOwn 0 rfl) ?_
    have H := H.put 0 rfl (.deferred none)
    have hxk : xs.map Yk.s = ks := hxs
    rw [hxk] at hE9 H ⊢
    have hfl : (ks.filter q).length ≤ 80000 := Nat.le_trans (List.length_filter_le _ _) hkl
    refine ret1 (v := .slice a9 (ks.filter q).length c9) Try.results25 (by rw [← hxk]; rfl) ⟨_, ks.filter q, rfl, ⟨hks.rise.sublist List.filter_sublist, fun k => ?_⟩, ?_, H.ext_of 8 rfl⟩
    · rw [List.mem_filter, hqe, Bool.and_eq_true, decide_eq_true_eq]
      refine ⟨fun h => h.2, fun h => ⟨(hks.mem k).2 (h.2.imp (fun h1 h2 => h1 (by rw [h2]; rfl)) id), h⟩⟩
    · exact SlR.ofRow (H.getRow 2 rfl) (by decide) ((hE9.keeps (H.keepsX 3 rfl)).mono fun k _ h => hGn k h) (fun k hk => H.fresh 2 8 rfl rfl rfl k hk) (by rw [List.length_map]; omega)
  · rintro D pre Ls W e hp h; exact h.elim
end Go.Proofs.Ytpandioolpnihaa

namespace Go.Proofs.Ytpandioolpnihaa
open Go Go.Wk
set_option linter.unusedVariables false
set_option linter.unusedSimpArgs false

theorem just_list : ∀ (l k : List UInt8), (¬ l < k ∧ l < k ++ [0]) ↔ l = k
  | [], [] => by simp
  | [], y :: k => by simp
  | x :: l, [] => by
    simp only [List.nil_append, List.not_lt_nil, not_false_eq_true, true_and, List.cons_lt_cons_iff, and_false, or_false, reduceCtorEq, iff_false]
    exact UInt8.not_lt.2 (UInt8.le_iff_toNat_le.2 (Nat.zero_le _))
  | x :: l, y :: k => by
    have ih := just_list l k
    rw [List.cons_append, List.cons_lt_cons_iff, List.cons_lt_cons_iff, List.cons.injEq, ← ih]
    constructor
    · rintro ⟨h1, h2⟩
      rcases h2 with h2 | ⟨rfl, h2⟩
      · exact absurd (.inl h2) h1
      · exact ⟨rfl, fun h => h1 (.inr ⟨rfl, h⟩), h2⟩
    · rintro ⟨rfl, h1, h2⟩
      exact ⟨fun h => h.elim (UInt8.lt_irrefl _) fun h => h1 h.2, .inr ⟨rfl, h2⟩⟩
theorem kb_snoc (k : Key) : (kb (k ++ [0])).data.toList = (kb k).data.toList ++ [0] := by
  unfold kb; simp
theorem within_just {k key : Key} (hk : ∀ x ∈ k, InK .u8 x) (hy : ∀ x ∈ key, InK .u8 x) : withinB k key (key ++ [0]) = true ↔ k = key := by
  unfold withinB
  rw [Bool.and_eq_true, Bool.or_eq_true, decide_eq_true_eq, decide_eq_true_eq, decide_eq_true_eq]
  constructor
  · rintro ⟨h1, h2⟩
    have h2 := h2.resolve_left (by simp)
    unfold bLt at h1 h2
    rw [kb_snoc] at h2
    exact kb_inj hk hy (ByteArray.ext (Array.toList_inj.1 ((just_list _ _).1 ⟨h1, h2⟩)))
  · rintro rfl
    refine ⟨bLt_irrefl _, .inr ?_⟩
    unfold bLt; rw [kb_snoc]
    exact ((just_list _ _).2 rfl).2
abbrev fullCl (a : Abs) (key : Key) : Cl := ⟨key, a.v (kb key), a.i (kb key)⟩
theorem CRep.tsMax {w0 Wp : World} {F : Nat → Prop} {E : List Ent} {I : List Itn} {a : Abs} (hr : CRep w0 F Wp E I a) (k : ByteArray) : upTo (a.v k) 18446744073709551615 = a.v k := by
  unfold upTo
  rw [List.filter_eq_self]
  intro v hv
  by_cases hin : k ∈ E.map (·.key)
  · obtain ⟨e, he, rfl⟩ := List.mem_map.1 hin
    rw [hr.va e he] at hv
    obtain ⟨i, hlt, rfl⟩ := List.getElem_of_mem hv
    obtain ⟨_, _, _, h1, _⟩ := ver_cells.1 ((hr.ev e he).2 i _ (List.getElem?_eq_getElem hlt))
    unfold InK Lit.wf at h1
    rw [Bool.and_eq_true, decide_eq_true_iff, decide_eq_true_iff] at h1
    have h2 : IntKind.u64.max = 18446744073709551615 := rfl
    simp only [decide_eq_true_eq]; omega
  · rw [hr.vn k hin] at hv; cases hv
theorem CRep.zero {w0 Wp : World} {F : Nat → Prop} {E : List Ent} {I : List Itn} {a : Abs} (hr : CRep w0 F Wp E I a) {k : ByteArray} (h : (a.i k).txn = 0) : a.i k = noV := by
  refine hr.inn k fun hin => ?_
  obtain ⟨i, hi, rfl⟩ := List.mem_map.1 hin
  rw [hr.ia i hi] at h
  exact (hr.iv i hi).2 h
/-- Of a scan from a key to just behind it: the key's cell, or nothing if it is blank. -/
theorem CRep.cell {w0 Wp : World} {F : Nat → Prop} {E : List Ent} {I : List Itn} {a : Abs} (hr : CRep w0 F Wp E I a) {key : Key} (hy : ∀ x ∈ key, InK .u8 x) {ks : List ByteArray} (hs : ScanOf a key (key ++ [0]) 18446744073709551615 ks) :
    (ks.map (cellOf a 18446744073709551615) = [] ∧ fullCl a key = ⟨key, [], noV⟩) ∨ ks.map (cellOf a 18446744073709551615) = [fullCl a key] := by
  have hmem : ∀ k, k ∈ ks ↔ k = kb key ∧ (a.v k ≠ [] ∨ (a.i k).txn ≠ 0) := fun k => by
    rw [hs.mem k]; unfold shown
    rw [within_just (unkb_in k) hy, hr.tsMax]
    constructor
    · rintro ⟨h1, h2⟩; exact ⟨by rw [← h1, kb_unkb], h2⟩
    · rintro ⟨h1, h2⟩; exact ⟨by rw [h1, unkb_kb hy], h2⟩
  by_cases h : a.v (kb key) ≠ [] ∨ (a.i (kb key)).txn ≠ 0
  · right
    have e : ks = [kb key] := rise_unique bLt_irrefl bLt_trans hs.rise (List.pairwise_singleton _ _) fun k => by
      rw [hmem k, List.mem_singleton]
      exact ⟨fun h => h.1, fun h1 => by subst h1; exact ⟨rfl, h⟩⟩
    rw [e]
    show [cellOf a _ (kb key)] = _
    unfold cellOf fullCl
    rw [hr.tsMax, unkb_kb hy]
  · left
    have e : ks = [] := List.eq_nil_iff_forall_not_mem.2 fun k hk => by
      obtain ⟨rfl, h1⟩ := (hmem k).1 hk; exact h h1
    have h1 : a.v (kb key) = [] := Classical.byContradiction fun hn => h (.inl hn)
    have h2 : (a.i (kb key)).txn = 0 := Classical.byContradiction fun hn => h (.inr hn)
    rw [e]
    refine ⟨rfl, ?_⟩
    unfold fullCl; rw [h1, hr.zero h2]
end Go.Proofs.Ytpandioolpnihaa

namespace Go.Proofs.Ytpandioolpnihaa
open Go Go.Wk
set_option linter.unusedVariables false
set_option linter.unusedSimpArgs false

section
variable {W w0 Wp : World} {F : Nat → Prop} {sb g1 g2 : Nat} {E : List Ent} {I : List Itn} {x : Atom} {L : List Atom}
end
/-- The machine: its struct at mb, its last answers at lb, and its store. -/
abbrev mAt (mb lb : Nat) (la : List (Int × Value)) (sb g1 g2 : Nat) (E : List Ent) (I : List Itn) (F : Nat → Prop) (Wp w0 : World) (L : List Atom) : List Atom :=
  own mb (.cells #[.pointer (some ⟨sb, 0, none⟩), .map (some lb)] 123) :: mp (Value.int .u64) lb la :: cAt sb g1 g2 E I F Wp w0 L

set_option maxHeartbeats 16000000 in
theorem f98_calls {Z : Nat → Prop} {w0 w : World} {a : Value} {xs : List Int} (kp0 : Keeps Z w0 w) (hx : SlR (tInt .u8) 1 Z w0 a xs) : Calls Try.prog 98 [a].toArray w fun e w' => ∃ (v : Value) (cs : List Value), e = .returned v ∧ w'.ownsRow 0 5 1 v xs.length cs ∧ (∀ k, v.ownBlock = some k → w.heap.size ≤ k) ∧ Els (tInt .u8) Z w0 cs xs ∧ Ext none' w w' := by
  have H := Holds.start w
  have hr := hx.reach
  obtain ⟨news, hs, he⟩ := hx.src
  obtain ⟨a0, c0, rfl, hl0, hm0⟩ := hx.len
  refine calls_of_W' Try.func98 rfl Try.ntmps98 rfl ?_
  refine W_seq ?_
  refine W_region ?_
  refine OL_y (y_assign rfl) (by decide) ?_
  refine OL_nil ?_
  refine W_seq ?_
  refine W_seq ?_
  rcases a0 with _ | a0
  · refine W_region ?_
    refine OL_y (y_move rfl) (by decide) ?_
    refine OL_y (v := .bool true) (y_eqlNilSlice (a := none) Try.underlying23 rfl rfl) (by decide) ?_
    refine OL_nil ?_
    refine W_condt rfl ?_
    refine W_seq ?_
    refine W_region ?_
    refine OL_y (y_assign rfl) (by decide) ?_
    refine OL_nil ?_
    refine W_ret ?_
    show RetOK _ _ _ _ _ _
    obtain ⟨a', c', h1, h2, h3, h4, h5, h6⟩ := hx
    injection h1 with h1 _ _; subst h1
    have hx0 := List.eq_nil_of_length_eq_zero (h3 rfl).1
    subst hx0
    have hE := H.ext_of 0 rfl
    exact ret1 (v := .slice none 0 0) Try.results98 rfl ⟨_, [], rfl, ownsRow_nil _ _ _, (fun k hk => by cases hk), Els.nil _ _ _, hE⟩
  · refine W_region ?_
    refine OL_y (y_move rfl) (by decide) ?_
    refine OL_y (v := .bool false) (y_eqlNilSlice (a := some a0) Try.underlying23 rfl rfl) (by decide) ?_
    refine OL_nil ?_
    refine W_condf rfl ?_
    refine W_skip ?_
    refine W_seq ?_
    refine W_region ?_
    refine OL_c (op_buildSlice H [] ti23 ti5 rfl rfl rfl (by simp) rfl rfl (by decide) fun b5 w3_0 H => ?_)
    refine OL_y (y_move rfl) (by decide) ?_
    refine OL_c (op_append (news := news) H 0 rfl rfl ti23 ti5 rfl rfl rfl rfl (hs _ (kp0.trans (H.keepsAll 1 rfl Z))) he.1 (fun u hu => he.one (by decide) u hu) (by omega) (by simp only [maxLen]; omega) (by decide) fun v7 w3_2 H => ?_)
    refine OL_y (y_assign rfl) (by decide) ?_
    refine OL_nil ?_
    refine W_ret ?_
    show RetOK _ _ _ _ _ _
    have H : Holds _ [row 5 1 v7 (0 + xs.length) ([] ++ news), shr (fun k => k < w.heap.size) w] := H
    rw [Nat.zero_add, List.nil_append] at H
    exact ret1 (v := v7) Try.results98 rfl ⟨_, _, rfl, H.getRow 0 rfl, fun k hk => H.fresh 0 1 rfl rfl rfl k hk, he, H.ext_of 1 rfl⟩

set_option maxHeartbeats 16000000 in
theorem f85_calls {w0 w Wp : World} {F : Nat → Prop} {mb lb sb g1 g2 m : Nat} {la : List (Int × Value)} {E : List Ent} {I : List Itn} {a : Abs} {L : List Atom} {vk : Value} {key : Key} (H : Holds w (mAt mb lb la sb g1 g2 E I F Wp w0 L)) (hr : CRep w0 F Wp E I a) (ha : a.Ok m) (hm : m ≤ 40000) (hEl : E.length ≤ 40000) (hIl : I.length ≤ 40000) (hk : SlR (tInt .u8) 1 (Dz w0 F) Wp vk key) (hkl : key.length ≤ 1000) :
    Calls Try.prog 85 [.pointer (some ⟨mb, 0, none⟩), vk].toArray w fun e w' => ∃ cs : List Value, e = .returned (.agg cs.toArray) ∧ tCl.R (fun k => Dz w0 F k ∨ w.heap.size ≤ k) w' cs (fullCl a key) ∧ Ext none' w w' := by
  have H0 := H
  have H := Holds.start w
  have hkd : Keeps (Dz w0 F) Wp w := H0.dz 5 6 rfl rfl hr.base
  have hl1 := hk.len1 (by decide)
  have hk1 := hk.keeps hkd
  obtain ⟨ak, ck, rfl, hlk, hmk⟩ := hk.len
  refine calls_of_W' Try.func85 rfl Try.ntmps85 rfl ?_
  refine W_seq ?_
  refine W_region ?_
  refine OL_c (op_alloc H ti55 (by decide) fun b4 w0_0 H => ?_)
  refine OL_nil ?_
  refine W_seq ?_
  refine W_cut (fun f ds w' => ∃ (n0 : Nat) (v : Value) (xs : List Cl), w.heap.size ≤ n0 ∧ f 1 = .slice ak key.length ck ∧ f 4 = .pointer (some ⟨b4, 0, none⟩) ∧ f 5 = v ∧ ds = [] ∧ ((xs = [] ∧ fullCl a key = ⟨key, [], noV⟩) ∨ xs = [fullCl a key]) ∧ SlR tCl 120 (fun k => n0 ≤ k) w' v xs ∧ Holds w' [shr (fun k => n0 ≤ k ∧ k < w'.heap.size) w', own b4 (.cells #[.slice none 0 0, .slice none 0 0, .int .u64 0, .int .u64 0, .bool false, .slice none 0 0, .slice none 0 0] 55), shr (fun k => k < w.heap.size) w]) ?_ ?_
  · refine W_drawD H mixed (by kernel_rfl) [] (fun wq w' => Ext none' w w') fun wd1 H hEd => ?_
    have hS : ∀ {ls : Array Bool}, Sx [] (fun w' => Ext none' w w') ls wd1 := fun {_} _ => H.ext_of 1 rfl
    refine DA_p 0 rfl (by kernel_rfl) rfl (fun _ => y_move rfl) hS (by decide) fun hS => ?_
    refine DA_p 1 rfl (by kernel_rfl) rfl (fun _ => y_nilCheck rfl ⟨_, rfl⟩) hS (by decide) fun hS => ?_
    refine DA_p 2 rfl (by kernel_rfl) rfl (fun _ => y_fieldAddr ti123 rfl ti26 rfl rfl) hS (by decide) fun hS => ?_
    refine DA_y 3 rfl (by kernel_rfl) rfl (by kernel_rfl) (fun w' h => y_loadS (v := .pointer (some ⟨sb, 0, none⟩)) ti26 rfl rfl (Cells.unit ((H0.ext0 h).getOwn 0 rfl) rfl)) hS (by decide) fun hS => ?_
    refine DA_p 4 rfl (by kernel_rfl) rfl (fun _ => y_move rfl) hS (by decide) fun hS => ?_
    refine DA_p 5 rfl (by kernel_rfl) rfl (fun _ => y_move rfl) hS (by decide) fun hS => ?_
    have hEd := H.ext_of 1 rfl
    refine DA_pair 6 7 (by kernel_rfl) (by kernel_rfl) (by kernel_rfl) (by decide) rfl rfl (fun f ds w' => ∃ (v12 v13 : Value) (cs12 : List Value), f 1 = .slice ak key.length ck ∧ f 4 = .pointer (some ⟨b4, 0, none⟩) ∧ f 9 = .pointer (some ⟨sb, 0, none⟩) ∧ f 10 = .slice ak key.length ck ∧ f 12 = v12 ∧ f 13 = v13 ∧ ds = [] ∧ Els (tInt .u8) (fun _ => True) w cs12 key ∧ Holds w' [row 5 1 v12 key.length cs12, row 5 1 v13 1 [Value.int .u8 0], own b4 (.cells #[.slice none 0 0, .slice none 0 0, .int .u64 0, .int .u64 0, .bool false, .slice none 0 0, .slice none 0 0] 55), shr (fun k => k < w.heap.size) w]) ?_ ?_ ?_
    · refine op_call 98 en98 rfl [.slice ak key.length ck] rfl (by decide) ((f98_calls hEd.keeps0 (hk1.mono fun _ _ _ => trivial)).mono ?_)
      rintro e w1_6 ⟨v12, cs12, rfl, hrow12, hfr12, hE12, hE98⟩
      have H := H.new hE98 (row_ok hrow12) hfr12
      refine ⟨_, rfl, fun _ => H.ext_of 2 rfl, ?_⟩
      refine op_buildSlice H [.int .u8 0] ti23 ti5 rfl rfl rfl (by simp [Value.cells]) rfl rfl (by decide) fun b13 w1_7 H => ⟨fun _ => H.ext_of 3 rfl, ?_⟩
      exact ⟨v12, _, cs12, rfl, rfl, rfl, rfl, rfl, rfl, rfl, hE12, H.perm (List.Perm.swap _ _ _)⟩
    · refine op_buildSlice H [.int .u8 0] ti23 ti5 rfl rfl rfl (by simp [Value.cells]) rfl rfl (by decide) fun b13 w1_7 H => ⟨fun _ => H.ext_of 2 rfl, ?_⟩
      have hE7 := H.ext_of 2 rfl
      refine op_call 98 en98 rfl [.slice ak key.length ck] rfl (by decide) ((f98_calls hE7.keeps0 (hk1.mono fun _ _ _ => trivial)).mono ?_)
      rintro e w1_6 ⟨v12, cs12, rfl, hrow12, hfr12, hE12, hE98⟩
      have H := H.new hE98 (row_ok hrow12) hfr12
      refine ⟨_, rfl, fun _ => H.ext_of 3 rfl, ?_⟩
      exact ⟨v12, _, cs12, rfl, rfl, rfl, rfl, rfl, rfl, rfl, hE12, H⟩
    · rintro f ds w7 hS ⟨v12, v13, cs12, h1, h4, h9, h10, h12, h13, rfl, hE12, H⟩
      refine DA_one 8 (by kernel_rfl) rfl (op_append H 0 rfl rfl ti23 ti5 rfl rfl h12 h13 (Src.row (H.getRow 1 rfl)) rfl (by simp [Value.oneCell']) (by omega) (by simp only [maxLen]; omega) (by decide) fun v14 w1_8 H => ⟨fun _ => H.ext_of 3 rfl, ?_⟩)
      have hE8 := H.ext_of 3 rfl
      have hk8 : SlR (tInt .u8) 1 (fun _ => True) w1_8 v14 (key ++ [0]) := SlR.ofRow (xs := key ++ [0]) (H.getRow 0 rfl) (by decide) ((hE12.keeps hE8.keeps0).snoc ⟨rfl, rfl⟩) (fun _ _ => trivial) (by rw [List.length_append]; simp only [List.length_cons, List.length_nil]; omega)
      refine DA_one 9 (by kernel_rfl) rfl (op_call 25 en25 rfl [.pointer (some ⟨sb, 0, none⟩), .slice ak key.length ck, v14, .int .u64 18446744073709551615] (by show [f 9, f 10, v14, Value.int .u64 18446744073709551615] = _; rw [h9, h10]) (by decide) ((f25_calls ((H0.ext0 hE8).tail.tail) hr ha hm hEl hIl ((hk1.mono fun _ _ _ => trivial).keeps hE8.keeps0) hk8).mono ?_))
      rintro e w1_9 ⟨v15, ks, rfl, hsc, hS15, hE25⟩
      have H := H.addNew hE25
      refine ⟨_, rfl, fun _ => H.ext_of 4 rfl, ?_⟩
      refine DA_p 10 rfl (by kernel_rfl) rfl (fun _ => y_assign rfl) (fun _ => H.ext_of 4 rfl) (by decide) fun _ => ?_
      refine DA_done (by kernel_rfl) ?_
      exact ⟨_, v15, _, hE8.size, h1, h4, rfl, rfl, hr.cell hk.allIn hsc, hS15, H.sub (.cons_cons _ (.cons _ (.cons _ (.refl _))))⟩
  rintro f ds w1 ⟨n0, v5, xs, hn0, h1, h4, h5, rfl, hxs, hS5, H⟩
  obtain ⟨a5, c5, rfl, hl5, hm5⟩ := hS5.len
  refine W_seq ?_
  refine W_seq ?_
  rcases hxs with ⟨rfl, hfe⟩ | rfl
  · refine W_region ?_
    refine OL_y (y_move h5) (by decide) ?_
    refine OL_y (y_len rfl ti49 rfl) (by decide) ?_
    refine OL_y (v := .bool true) (y_eqlT (show ((([] : List Cl).length : Nat) : Int) = 0 from rfl) rfl rfl) (by decide) ?_
    refine OL_nil ?_
    refine W_condt rfl ?_
    refine W_seq ?_
    refine W_region ?_
    refine OL_y (y_move h1) (by decide) ?_
    refine OL_y (v := .agg #[.slice ak key.length ck, .slice none 0 0, .int .u64 0, .int .u64 0, .bool false, .slice none 0 0, .slice none 0 0]) (y_build ti55 pl55 (by kernel_rfl)) (by decide) ?_
    refine OL_c (op_store (v := .agg #[.slice ak key.length ck, .slice none 0 0, .int .u64 0, .int .u64 0, .bool false, .slice none 0 0, .slice none 0 0]) H 1 rfl ti55 h4 rfl rfl (by decide) (by simp [Value.cells, Value.oneCell']) fun w3_2 H => ?_)
    refine OL_nil ?_
    refine W_ret ?_
    show RetOK _ _ _ _ _ _
    have hE := H.ext_of 2 rfl
    refine ret1c Try.results85 h4 (run_loadVarA (cs := [.slice ak key.length ck, .slice none 0 0, .int .u64 0, .int .u64 0, .bool false, .slice none 0 0, .slice none 0 0]) ti55 rfl (Cells.of (H.getOwn 1 rfl) rfl) rfl) ⟨_, rfl, ?_, hE⟩
    rw [hfe]
    exact cl_cells.2 ⟨_, _, _, rfl, (hk1.keeps hE.keeps0).mono fun _ _ h => .inl h, SlR.nil _ _ _ _, ver_cells.2 ⟨_, _, rfl, rfl, rfl, SlR.nil _ _ _ _, SlR.nil _ _ _ _⟩⟩
  · refine W_region ?_
    refine OL_y (y_move h5) (by decide) ?_
    refine OL_y (y_len rfl ti49 rfl) (by decide) ?_
    refine OL_y (v := .bool false) (y_eqlF (show ¬ (((1 : Nat) : Int) = 0) by decide) rfl rfl) (by decide) ?_
    refine OL_nil ?_
    refine W_condf rfl ?_
    refine W_skip ?_
    refine W_seq ?_
    obtain ⟨b9, o9, cs9, e9, hz9, hc9, hr9⟩ := hS5.at (i := 0) (x := fullCl a key) rfl
    have hone9 := tCl.one hr9
    obtain ⟨vk9, vs9, is9, rfl, hk9, hv9, hi9⟩ := cl_cells.1 hr9
    obtain ⟨vv9, vt9, rfl, -⟩ := ver_cells.1 hi9
    refine W_region ?_
    refine OL_y (y_move h5) (by decide) ?_
    refine OL_y (y_indexAddr ti49 ti55 (congrArg (Value.slice · _ _) e9) rfl (by simp) (by simp)) (by decide) ?_
    refine OL_y (y_loadA ti55 rfl rfl hc9 rfl) (by decide) ?_
    refine OL_c (op_store (v := .agg #[vk9, vs9, .int .u64 (fullCl a key).intent.ts, .int .u64 (fullCl a key).intent.txn, .bool (fullCl a key).intent.dead, vv9, vt9]) H 1 rfl ti55 h4 rfl rfl (by decide) hone9 fun w4_3 H => ?_)
    refine OL_nil ?_
    refine W_ret ?_
    show RetOK _ _ _ _ _ _
    have hE := H.ext_of 2 rfl
    exact ret1c Try.results85 h4 (run_loadVarA (cs := [vk9, vs9, .int .u64 (fullCl a key).intent.ts, .int .u64 (fullCl a key).intent.txn, .bool (fullCl a key).intent.dead, vv9, vt9]) ti55 rfl (Cells.of (H.getOwn 1 rfl) rfl) rfl) ⟨_, rfl, tCl.mono (tCl.keeps hr9 (H.keepsNew 0 rfl)) fun _ _ h => .inr (Nat.le_trans hn0 h), hE⟩
theorem f85c {w0 w Wp : World} {F : Nat → Prop} {mb lb sb g1 g2 m : Nat} {la : List (Int × Value)} {E : List Ent} {I : List Itn} {a : Abs} {L : List Atom} {vk : Value} {key : Key} (H : Holds w (mAt mb lb la sb g1 g2 E I F Wp w0 L)) (hr : CRep w0 F Wp E I a) (ha : a.Ok m) (hm : m ≤ 40000) (hEl : E.length ≤ 40000) (hIl : I.length ≤ 40000) (hk : SlR (tInt .u8) 1 (Dz w0 F) Wp vk key) (hkl : key.length ≤ 1000) :
    Calls Try.prog 85 [.pointer (some ⟨mb, 0, none⟩), vk].toArray w fun e w' => ∃ (vk7 iv7 ik7 : Value) (a7 : Option Addr) (c7 : Nat), e = .returned (.agg #[vk7, .slice a7 (a.v (kb key)).length c7, .int .u64 (a.i (kb key)).ts, .int .u64 (a.i (kb key)).txn, .bool (a.i (kb key)).dead, iv7, ik7]) ∧ SlR (tInt .u8) 1 (fun k => Dz w0 F k ∨ w.heap.size ≤ k) w' vk7 key ∧ SlR tVer 72 (fun k => Dz w0 F k ∨ w.heap.size ≤ k) w' (.slice a7 (a.v (kb key)).length c7) (a.v (kb key)) ∧ tVer.R (fun k => Dz w0 F k ∨ w.heap.size ≤ k) w' [.int .u64 (a.i (kb key)).ts, .int .u64 (a.i (kb key)).txn, .bool (a.i (kb key)).dead, iv7, ik7] (a.i (kb key)) ∧ (∀ u ∈ [vk7, .slice a7 (a.v (kb key)).length c7, .int .u64 (a.i (kb key)).ts, .int .u64 (a.i (kb key)).txn, .bool (a.i (kb key)).dead, iv7, ik7], u.oneCell' = true) ∧ Ext none' w w' := by
  refine (f85_calls H hr ha hm hEl hIl hk hkl).mono ?_
  rintro e w' ⟨cs, rfl, hR, hE⟩
  have hone := tCl.one hR
  obtain ⟨vk7, vs7, is7, rfl, hk7, hv7, hi7⟩ := cl_cells.1 hR
  have hi7' := hi7
  obtain ⟨iv7, ik7, rfl, -⟩ := ver_cells.1 hi7
  obtain ⟨a7, c7, rfl, hl7, hm7⟩ := hv7.len
  exact ⟨vk7, iv7, ik7, a7, c7, rfl, hk7, hv7, hi7', hone, hE⟩
end Go.Proofs.Ytpandioolpnihaa

namespace Go.Wk
open Go
/-- What a call has made, on the way of one who sees the pool too. -/
theorem Holds.keepsDN {w w0 w1 Wp : World} {F : Nat → Prop} {L L1 : List Atom} {n0 : Nat} (H1 : Holds w1 L1) (j1 k1 : Nat) (hj1 : L1[j1]? = some (exc F Wp)) (hk1 : L1[k1]? = some (shr (fun k => k < w0.heap.size) w0))
    (H : Holds w L) (i j k : Nat) (hi : L[i]? = some (shr (fun k => n0 ≤ k ∧ k < w1.heap.size) w1)) (hj : L[j]? = some (exc F Wp)) (hk : L[k]? = some (shr (fun k => k < w0.heap.size) w0)) : Keeps (fun k => Dz w0 F k ∨ n0 ≤ k) w1 w := by
  obtain ⟨a, _, _, _, e⟩ := H.get hi
  obtain ⟨_, _, _, _, e1⟩ := H1.get hj1
  obtain ⟨_, _, _, _, e2⟩ := H1.get hk1
  obtain ⟨_, _, _, _, e3⟩ := H.get hj
  obtain ⟨_, _, _, _, e4⟩ := H.get hk
  refine ⟨a, fun b hz hb => ?_⟩
  rcases hz with (hz | hz) | hz
  · exact (e4 b hz).trans (e2 b hz).symm
  · exact (e3 b hz).trans (e1 b hz).symm
  · exact e b ⟨hz, hb⟩
end Go.Wk
namespace Go.Proofs.Ytpandioolpnihaa
open Go Go.Wk
set_option linter.unusedVariables false
set_option linter.unusedSimpArgs false

section
variable {W w0 Wp : World} {F : Nat → Prop} {sb g1 g2 : Nat} {E : List Ent} {I : List Itn} {L : List Atom}
theorem cInL (P : List Atom) (H : Holds W (P ++ cAt sb g1 g2 E I F Wp w0 L)) : Holds W (cAt sb g1 g2 E I F Wp w0 (P ++ L)) := by
  refine H.perm ?_
  have e : ∀ Y, cAt sb g1 g2 E I F Wp w0 Y = cAt sb g1 g2 E I F Wp w0 [] ++ Y := fun Y => by simp [cAt]
  rw [e L, e (P ++ L), ← List.append_assoc, ← List.append_assoc]
  exact List.perm_append_comm.append_right L
theorem cOutL (P : List Atom) (H : Holds W (cAt sb g1 g2 E I F Wp w0 (P ++ L))) : Holds W (P ++ cAt sb g1 g2 E I F Wp w0 L) := by
  refine H.perm ?_
  have e : ∀ Y, cAt sb g1 g2 E I F Wp w0 Y = cAt sb g1 g2 E I F Wp w0 [] ++ Y := fun Y => by simp [cAt]
  rw [e L, e (P ++ L), ← List.append_assoc, ← List.append_assoc]
  exact List.perm_append_comm.append_right L
end
section
variable {W w0 Wp : World} {F : Nat → Prop} {sb g1 g2 : Nat} {E : List Ent} {I : List Itn} {x y z u v : Atom} {L : List Atom}
theorem cIn4 (H : Holds W (x :: y :: z :: u :: cAt sb g1 g2 E I F Wp w0 L)) : Holds W (cAt sb g1 g2 E I F Wp w0 (x :: y :: z :: u :: L)) := cInL [x, y, z, u] H
theorem cOut4 (H : Holds W (cAt sb g1 g2 E I F Wp w0 (x :: y :: z :: u :: L))) : Holds W (x :: y :: z :: u :: cAt sb g1 g2 E I F Wp w0 L) := cOutL [x, y, z, u] H
end
theorem prepA_no {a : Abs} {c : Cmd} (h : prepE a c ≠ 0) : prepA a c = a := if_neg h
theorem prepA_do {a : Abs} {c : Cmd} (h : prepE a c = 0) : prepA a c = c.writes.foldl (doW c) a := if_pos h

set_option maxHeartbeats 16000000 in
theorem f75_calls {w0 w Wp : World} {F : Nat → Prop} {mb lb sb g1 g2 m : Nat} {la : List (Int × Value)} {E : List Ent} {I : List Itn} {a : Abs} {L : List Atom} {cs : List Value} {c : Cmd} (H : Holds w (mAt mb lb la sb g1 g2 E I F Wp w0 L)) (hr : CRep w0 F Wp E I a) (ha : a.Ok m) (hm : m ≤ 40000) (hEl : E.length ≤ 40000) (hIl : I.length ≤ 30000) (hc : tCmd.R (Dz w0 F) Wp cs c) (hwk : ∀ x ∈ c.writes, x.key.length ≤ 1000) :
    Calls Try.prog 75 [.pointer (some ⟨mb, 0, none⟩), .agg cs.toArray].toArray w fun e w' => e = .returned (.int .i64 (prepE a c)) ∧ ∃ (I' : List Itn) (F' : Nat → Prop) (Wp' : World), Holds w' (mAt mb lb la sb g1 g2 E I' F' Wp' w0 L) ∧ CRep w0 F' Wp' E I' (prepA a c) ∧ Grow w0 F Wp F' Wp' ∧ I'.length ≤ I.length + c.writes.length := by
  obtain ⟨vll, vlh, vlo, vhi, vtx, vwr, vke, vco, vix, rfl, hcl, hsq, hkd, htx, hts, hlk, hlo, hhi, htxs, hwr, hke, htb⟩ := cmd_cells.1 hc
  obtain ⟨aw, cw, rfl, hlw, hmw⟩ := hwr.len
  obtain ⟨ake, cke, rfl, -, -⟩ := hke.len
  generalize hfl : c.flag = fl at *
  refine calls_of_W' Try.func75 rfl Try.ntmps75 rfl ?_
  refine W_seq ?_
  refine W_region ?_
  refine OL_c (op_box (v := .agg #[.int .u64 c.client, .int .u64 c.seq, .int .i64 c.kind, .int .u64 c.txn, .int .u64 c.ts, .bool fl, .int .u64 c.lk.txn, .int .i64 c.lk.level, .int .i64 c.lk.mode, vll, vlh, vlo, vhi, vtx, .slice aw c.writes.length cw, .slice ake c.keys.length cke, .int .i64 c.tb.id, .string c.tb.name, vco, .int .i64 c.tb.key, vix]) H rfl (by decide) fun b3 w0_0 H => ?_)
  refine OL_y (y_assign rfl) (by decide) ?_
  refine OL_nil ?_
  refine W_seq ?_
  refine W_seq ?_
  by_cases hz : c.txn = 0
  · refine W_region ?_
    refine OL_y (y_fieldAddr ti78 rfl ti24 rfl rfl) (by decide) ?_
    refine OL_y (y_loadS (v := .int .u64 c.txn) ti24 rfl rfl (Cells.unit (H.getOwn 0 rfl) rfl)) (by decide) ?_
    refine OL_y (v := .bool true) (y_eqlT hz rfl rfl) (by decide) ?_
    refine OL_nil ?_
    refine W_condt rfl ?_
    refine W_seq ?_
    refine W_region ?_
    refine OL_y (y_assign rfl) (by decide) ?_
    refine OL_nil ?_
    refine W_ret ?_
    show RetOK _ _ _ _ _ _
    have he : prepE a c = 150 := if_pos hz
    exact ret1 (v := .int .i64 150) Try.results75 rfl ⟨by rw [he], I, F, Wp, H.tail, by rw [prepA_no (by rw [he]; decide)]; exact hr, Grow.refl hr.base, Nat.le_add_right _ _⟩
  · refine W_region ?_
    refine OL_y (y_fieldAddr ti78 rfl ti24 rfl rfl) (by decide) ?_
    refine OL_y (y_loadS (v := .int .u64 c.txn) ti24 rfl rfl (Cells.unit (H.getOwn 0 rfl) rfl)) (by decide) ?_
    refine OL_y (v := .bool false) (y_eqlF hz rfl rfl) (by decide) ?_
    refine OL_nil ?_
    refine W_condf rfl ?_
    refine W_skip ?_
    refine W_seq ?_
    refine W_seq ?_
    refine W_region ?_
    refine OL_y (y_fieldAddr ti78 rfl ti72 rfl rfl) (by decide) ?_
    refine OL_y (y_loadS (v := .slice aw c.writes.length cw) ti72 rfl rfl (Cells.unit (H.getOwn 0 rfl) rfl)) (by decide) ?_
    refine OL_y (y_len rfl ti72 rfl) (by decide) ?_
    refine OL_y (y_move rfl) (by decide) ?_
    refine OL_nil ?_
    refine W_range (N := c.writes.length) (by simp only [maxLen] at hmw ⊢; omega) (fun j f ds w' => f 0 = .pointer (some ⟨mb, 0, none⟩) ∧ f 3 = .pointer (some ⟨b3, 0, none⟩) ∧ f 14 = .slice aw c.writes.length cw ∧ ds = [] ∧ (∀ x ∈ c.writes.take j, bars a c x = 0) ∧ Holds w' (own b3 (.cells #[.int .u64 c.client, .int .u64 c.seq, .int .i64 c.kind, .int .u64 c.txn, .int .u64 c.ts, .bool fl, .int .u64 c.lk.txn, .int .i64 c.lk.level, .int .i64 c.lk.mode, vll, vlh, vlo, vhi, vtx, .slice aw c.writes.length cw, .slice ake c.keys.length cke, .int .i64 c.tb.id, .string c.tb.name, vco, .int .i64 c.tb.key, vix] 78) :: mAt mb lb la sb g1 g2 E I F Wp w0 L))
        ⟨rfl, rfl, rfl, rfl, by simp, H⟩
        rfl rfl (by decide) (by decide) (by decide) rfl rfl ?_ rfl rfl ?_
    · rintro j f ds w5 hj ⟨h0, h3, h14, rfl, hok, H⟩ hti htn
      have hxj := List.getElem?_eq_getElem hj
      have hxk := hwk _ (List.getElem_mem hj)
      generalize c.writes[j] = x at *
      obtain ⟨b9, o9, cs9, e9, hz9, hc9, hr9⟩ := hwr.at hxj
      have hc9' := hc9.ext ((H.dz 6 7 rfl rfl hr.base).2 _ hz9 hc9.lt)
      have hone9 := tWr.one hr9
      obtain ⟨vk, vv, rfl, hk9, hv9⟩ := wr_cells.1 hr9
      have h14' := h14.trans (congrArg (Value.slice · _ _) e9)
      refine W_block ?_
      refine W_seq ?_
      refine W_region ?_
      refine OL_y (y_indexAddr ti72 ti89 h14' hti (by omega) (by omega)) (by decide) ?_
      refine OL_y (y_loadA (cs := [vk, .bool x.dead, vv]) ti89 rfl rfl hc9' rfl) (by decide) ?_
      refine OL_var (v := .agg #[vk, .bool x.dead, vv]) H ti89 rfl (by decide) (fun _ => rfl) rfl (hone9) fun b6 w5_2 H => ?_
      refine OL_nil ?_
      refine W_seq ?_
      refine W_region ?_
      refine OL_y (y_move h0) (by decide) ?_
      refine OL_y (y_fieldAddr ti89 rfl ti23 rfl rfl) (by decide) ?_
      refine OL_y (y_loadS (v := vk) ti23 rfl rfl (Cells.unit (H.getOwn 0 rfl) rfl)) (by decide) ?_
      refine OL_c (op_call 85 en85 rfl [.pointer (some ⟨mb, 0, none⟩), vk] rfl (by decide) ((f85c (H.tail.tail) hr ha hm hEl (by omega) hk9 hxk).mono ?_))
      rintro e w6_3 ⟨vk7, iv7, ik7, a7, c7, rfl, hk7, hv7, hi7, hone7, hE85⟩
      refine ⟨_, rfl, ?_⟩
      have H := H.addNew hE85
      have H1 := H
      generalize hvs : a.v (kb x.key) = vs at *
      generalize hit : a.i (kb x.key) = it at *
      refine OL_var (v := .agg #[vk7, .slice a7 vs.length c7, .int .u64 it.ts, .int .u64 it.txn, .bool it.dead, iv7, ik7]) H ti55 rfl (by decide) (fun _ => rfl) rfl (hone7) fun b7 w6_4 H => ?_
      refine OL_nil ?_
      refine W_block ?_
      refine W_seq ?_
      by_cases hp : it.txn = 0
      · refine W_region ?_
        refine OL_y (y_fieldAddr ti55 rfl ti32 rfl rfl) (by decide) ?_
        refine OL_y (y_fieldAddr ti32 rfl ti24 rfl rfl) (by decide) ?_
        refine OL_y (y_loadS (v := .int .u64 it.txn) ti24 rfl rfl (Cells.unit (H.getOwn 0 rfl) rfl)) (by decide) ?_
        refine OL_y (v := .bool false) (y_neqF hp rfl rfl) (by decide) ?_
        refine OL_y (v := .bool false) (y_move rfl) (by decide) ?_
        refine OL_s rfl (by decide) rfl rfl (by simp) ?_
        refine OL_s rfl (by decide) rfl rfl (by simp) ?_
        refine OL_s rfl (by decide) rfl rfl (by simp) ?_
        refine OL_s rfl (by decide) rfl rfl (by simp) ?_
        refine OL_s rfl (by decide) rfl rfl (by simp) ?_
        refine OL_s rfl (by decide) rfl rfl (by simp) ?_
        refine OL_y (y_pick (b := false) (v := .bool false) rfl rfl) (by decide) ?_
        refine OL_y (v := .bool false) (y_assign rfl) (by decide) ?_
        refine OL_nil ?_
        refine W_condf rfl ?_
        refine W_seq ?_
        rcases fl with _ | _
        · refine W_drawQ H mixed (by kernel_rfl) (by kernel_rfl) fun wd9 H => ?_
          refine QL_y (y_fieldAddr ti78 rfl ti4 rfl h3) (by decide) ?_
          refine QL_y (y_loadS (v := .bool false) ti4 rfl rfl (Cells.unit (H.getOwn 3 rfl) rfl)) (by decide) ?_
          refine QL_y (v := .bool false) (y_move rfl) (by decide) ?_
          refine QL_s rfl (by decide) rfl rfl (by simp) ?_
          refine QL_s rfl (by decide) rfl rfl (by simp) ?_
          refine QL_s rfl (by decide) rfl rfl (by simp) ?_
          refine QL_s rfl (by decide) rfl rfl (by simp) ?_
          refine QL_y (y_pick (b := false) (v := .bool false) rfl rfl) (by decide) ?_
          refine QL_y (v := .bool false) (y_move rfl) (by decide) ?_
          refine QL_s rfl (by decide) rfl rfl (by simp) ?_
          refine QL_s rfl (by decide) rfl rfl (by simp) ?_
          refine QL_s rfl (by decide) rfl rfl (by simp) ?_
          refine QL_s rfl (by decide) rfl rfl (by simp) ?_
          refine QL_s rfl (by decide) rfl rfl (by simp) ?_
          refine QL_s rfl (by decide) rfl rfl (by simp) ?_
          refine QL_s rfl (by decide) rfl rfl (by simp) ?_
          refine QL_s rfl (by decide) rfl rfl (by simp) ?_
          refine QL_y (y_pick (b := false) (v := .bool false) rfl rfl) (by decide) ?_
          refine QL_y (v := .bool false) (y_assign rfl) (by decide) ?_
          refine QL_nil ?_
          refine W_condf rfl ?_
          refine W_skip ?_
          have hb : bars a c x = 0 := bars_none (by rw [hit]; first | exact .inl hp | exact .inr hq) (.inl hfl)
          exact ⟨hti, htn, h0, h3, h14, rfl, take_all hxj hok hb, H.tail.tail.tail⟩
        · rcases vs with _ | ⟨u, us⟩
          · refine W_drawQ H mixed (by kernel_rfl) (by kernel_rfl) fun wd9 H => ?_
            refine QL_y (y_fieldAddr ti78 rfl ti4 rfl h3) (by decide) ?_
            refine QL_y (y_loadS (v := .bool true) ti4 rfl rfl (Cells.unit (H.getOwn 3 rfl) rfl)) (by decide) ?_
            refine QL_y (v := .bool true) (y_move rfl) (by decide) ?_
            refine QL_yg rfl (by decide) rfl (y_fieldAddr ti55 rfl ti53 rfl rfl) (by decide) ?_
            refine QL_yg rfl (by decide) rfl (y_loadS (v := .slice a7 ([] : List Ver).length c7) ti53 rfl rfl (Cells.unit (H.getOwn 0 rfl) rfl)) (by decide) ?_
            refine QL_yg rfl (by decide) rfl (y_len rfl ti53 rfl) (by decide) ?_
            refine QL_yg (v := .bool false) rfl (by decide) rfl (y_gtrF (show ¬ ((0 : Int) < ((([] : List Ver).length : Nat) : Int)) by simp) rfl rfl) (by decide) ?_
            refine QL_y (y_pick (b := true) (v := .bool false) rfl rfl) (by decide) ?_
            refine QL_y (v := .bool false) (y_move rfl) (by decide) ?_
            refine QL_s rfl (by decide) rfl rfl (by simp) ?_
            refine QL_s rfl (by decide) rfl rfl (by simp) ?_
            refine QL_s rfl (by decide) rfl rfl (by simp) ?_
            refine QL_s rfl (by decide) rfl rfl (by simp) ?_
            refine QL_s rfl (by decide) rfl rfl (by simp) ?_
            refine QL_s rfl (by decide) rfl rfl (by simp) ?_
            refine QL_s rfl (by decide) rfl rfl (by simp) ?_
            refine QL_s rfl (by decide) rfl rfl (by simp) ?_
            refine QL_y (y_pick (b := false) (v := .bool false) rfl rfl) (by decide) ?_
            refine QL_y (v := .bool false) (y_assign rfl) (by decide) ?_
            refine QL_nil ?_
            refine W_condf rfl ?_
            refine W_skip ?_
            have hb : bars a c x = 0 := bars_none (by rw [hit]; first | exact .inl hp | exact .inr hq) (.inr (by rw [hvs]; rfl))
            exact ⟨hti, htn, h0, h3, h14, rfl, take_all hxj hok hb, H.tail.tail.tail⟩
          · by_cases ht : c.ts < u.ts
            · refine W_drawQ H mixed (by kernel_rfl) (by kernel_rfl) fun wd9 H => ?_
              obtain ⟨b8, o8, cs8, e8, hz8, hc8, hr8⟩ := hv7.at (i := 0) rfl
              have hc8' := hc8.ext ((H1.keepsDN 8 9 rfl rfl H 1 9 10 rfl rfl rfl).2 _ hz8 hc8.lt)
              obtain ⟨uv8, uk8, rfl, -⟩ := ver_cells.1 hr8
              refine QL_y (y_fieldAddr ti78 rfl ti4 rfl h3) (by decide) ?_
              refine QL_y (y_loadS (v := .bool true) ti4 rfl rfl (Cells.unit (H.getOwn 3 rfl) rfl)) (by decide) ?_
              refine QL_y (v := .bool true) (y_move rfl) (by decide) ?_
              refine QL_yg rfl (by decide) rfl (y_fieldAddr ti55 rfl ti53 rfl rfl) (by decide) ?_
              refine QL_yg rfl (by decide) rfl (y_loadS (v := .slice a7 (u :: us).length c7) ti53 rfl rfl (Cells.unit (H.getOwn 0 rfl) rfl)) (by decide) ?_
              refine QL_yg rfl (by decide) rfl (y_len rfl ti53 rfl) (by decide) ?_
              refine QL_yg (v := .bool true) rfl (by decide) rfl (y_gtrT (show (0 : Int) < (((u :: us).length : Nat) : Int) by simp only [List.length_cons]; omega) rfl rfl) (by decide) ?_
              refine QL_y (y_pick (b := true) (v := .bool true) rfl rfl) (by decide) ?_
              refine QL_y (v := .bool true) (y_move rfl) (by decide) ?_
              refine QL_yg rfl (by decide) rfl (y_fieldAddr ti55 rfl ti53 rfl rfl) (by decide) ?_
              refine QL_yg rfl (by decide) rfl (y_loadS (v := .slice a7 (u :: us).length c7) ti53 rfl rfl (Cells.unit (H.getOwn 0 rfl) rfl)) (by decide) ?_
              refine QL_yg rfl (by decide) rfl (y_indexAddr ti53 ti32 (congrArg (Value.slice · _ _) e8) rfl (by simp) (by simp)) (by decide) ?_
              refine QL_yg rfl (by decide) rfl (y_fieldAddr ti32 rfl ti24 rfl rfl) (by decide) ?_
              refine QL_yg rfl (by decide) rfl (y_loadS (v := .int .u64 u.ts) ti24 rfl rfl (hc8'.take (xs := [.int .u64 u.ts]) 0 rfl)) (by decide) ?_
              refine QL_yg rfl (by decide) rfl (y_fieldAddr ti78 rfl ti24 rfl h3) (by decide) ?_
              refine QL_yg rfl (by decide) rfl (y_loadS (v := .int .u64 c.ts) ti24 rfl rfl (Cells.unit (H.getOwn 3 rfl) rfl)) (by decide) ?_
              refine QL_yg (v := .bool true) rfl (by decide) rfl (y_gtrT ht rfl rfl) (by decide) ?_
              refine QL_y (y_pick (b := true) (v := .bool true) rfl rfl) (by decide) ?_
              refine QL_y (v := .bool true) (y_assign rfl) (by decide) ?_
              refine QL_nil ?_
              refine W_condt rfl ?_
              refine W_seq ?_
              refine W_region ?_
              refine OL_y (y_assign rfl) (by decide) ?_
              refine OL_nil ?_
              refine W_ret ?_
              show RetOK _ _ _ _ _ _
              have hb : bars a c x = 160 := bars_stale (by rw [hit]; first | exact .inl hp | exact .inr hq) hfl (by rw [hvs]; exact decide_eq_true ht)
              have he : prepE a c = 160 := by unfold prepE; rw [if_neg hz, prepW_at hxj hok (by rw [hb]; decide), hb]
              exact ret1 (v := .int .i64 160) Try.results75 rfl ⟨by rw [he], I, F, Wp, H.tail.tail.tail.tail, by rw [prepA_no (by rw [he]; decide)]; exact hr, Grow.refl hr.base, Nat.le_add_right _ _⟩
            · refine W_drawQ H mixed (by kernel_rfl) (by kernel_rfl) fun wd9 H => ?_
              obtain ⟨b8, o8, cs8, e8, hz8, hc8, hr8⟩ := hv7.at (i := 0) rfl
              have hc8' := hc8.ext ((H1.keepsDN 8 9 rfl rfl H 1 9 10 rfl rfl rfl).2 _ hz8 hc8.lt)
              obtain ⟨uv8, uk8, rfl, -⟩ := ver_cells.1 hr8
              refine QL_y (y_fieldAddr ti78 rfl ti4 rfl h3) (by decide) ?_
              refine QL_y (y_loadS (v := .bool true) ti4 rfl rfl (Cells.unit (H.getOwn 3 rfl) rfl)) (by decide) ?_
              refine QL_y (v := .bool true) (y_move rfl) (by decide) ?_
              refine QL_yg rfl (by decide) rfl (y_fieldAddr ti55 rfl ti53 rfl rfl) (by decide) ?_
              refine QL_yg rfl (by decide) rfl (y_loadS (v := .slice a7 (u :: us).length c7) ti53 rfl rfl (Cells.unit (H.getOwn 0 rfl) rfl)) (by decide) ?_
              refine QL_yg rfl (by decide) rfl (y_len rfl ti53 rfl) (by decide) ?_
              refine QL_yg (v := .bool true) rfl (by decide) rfl (y_gtrT (show (0 : Int) < (((u :: us).length : Nat) : Int) by simp only [List.length_cons]; omega) rfl rfl) (by decide) ?_
              refine QL_y (y_pick (b := true) (v := .bool true) rfl rfl) (by decide) ?_
              refine QL_y (v := .bool true) (y_move rfl) (by decide) ?_
              refine QL_yg rfl (by decide) rfl (y_fieldAddr ti55 rfl ti53 rfl rfl) (by decide) ?_
              refine QL_yg rfl (by decide) rfl (y_loadS (v := .slice a7 (u :: us).length c7) ti53 rfl rfl (Cells.unit (H.getOwn 0 rfl) rfl)) (by decide) ?_
              refine QL_yg rfl (by decide) rfl (y_indexAddr ti53 ti32 (congrArg (Value.slice · _ _) e8) rfl (by simp) (by simp)) (by decide) ?_
              refine QL_yg rfl (by decide) rfl (y_fieldAddr ti32 rfl ti24 rfl rfl) (by decide) ?_
              refine QL_yg rfl (by decide) rfl (y_loadS (v := .int .u64 u.ts) ti24 rfl rfl (hc8'.take (xs := [.int .u64 u.ts]) 0 rfl)) (by decide) ?_
              refine QL_yg rfl (by decide) rfl (y_fieldAddr ti78 rfl ti24 rfl h3) (by decide) ?_
              refine QL_yg rfl (by decide) rfl (y_loadS (v := .int .u64 c.ts) ti24 rfl rfl (Cells.unit (H.getOwn 3 rfl) rfl)) (by decide) ?_
              refine QL_yg (v := .bool false) rfl (by decide) rfl (y_gtrF ht rfl rfl) (by decide) ?_
              refine QL_y (y_pick (b := true) (v := .bool false) rfl rfl) (by decide) ?_
              refine QL_y (v := .bool false) (y_assign rfl) (by decide) ?_
              refine QL_nil ?_
              refine W_condf rfl ?_
              refine W_skip ?_
              have hb : bars a c x = 0 := bars_none (by rw [hit]; first | exact .inl hp | exact .inr hq) (.inr (by rw [hvs]; exact decide_eq_false ht))
              exact ⟨hti, htn, h0, h3, h14, rfl, take_all hxj hok hb, H.tail.tail.tail⟩
      · by_cases hq : it.txn = c.txn
        · refine W_region ?_
          refine OL_y (y_fieldAddr ti55 rfl ti32 rfl rfl) (by decide) ?_
          refine OL_y (y_fieldAddr ti32 rfl ti24 rfl rfl) (by decide) ?_
          refine OL_y (y_loadS (v := .int .u64 it.txn) ti24 rfl rfl (Cells.unit (H.getOwn 0 rfl) rfl)) (by decide) ?_
          refine OL_y (v := .bool true) (y_neqT hp rfl rfl) (by decide) ?_
          refine OL_y (v := .bool true) (y_move rfl) (by decide) ?_
          refine OL_yg rfl (by decide) rfl (y_fieldAddr ti55 rfl ti32 rfl rfl) (by decide) ?_
          refine OL_yg rfl (by decide) rfl (y_fieldAddr ti32 rfl ti24 rfl rfl) (by decide) ?_
          refine OL_yg rfl (by decide) rfl (y_loadS (v := .int .u64 it.txn) ti24 rfl rfl (Cells.unit (H.getOwn 0 rfl) rfl)) (by decide) ?_
          refine OL_yg rfl (by decide) rfl (y_fieldAddr ti78 rfl ti24 rfl h3) (by decide) ?_
          refine OL_yg rfl (by decide) rfl (y_loadS (v := .int .u64 c.txn) ti24 rfl rfl (Cells.unit (H.getOwn 3 rfl) rfl)) (by decide) ?_
          refine OL_yg (v := .bool false) rfl (by decide) rfl (y_neqF hq rfl rfl) (by decide) ?_
          refine OL_y (y_pick (b := true) (v := .bool false) rfl rfl) (by decide) ?_
          refine OL_y (v := .bool false) (y_assign rfl) (by decide) ?_
          refine OL_nil ?_
          refine W_condf rfl ?_
          refine W_seq ?_
          rcases fl with _ | _
          · refine W_drawQ H mixed (by kernel_rfl) (by kernel_rfl) fun wd9 H => ?_
            refine QL_y (y_fieldAddr ti78 rfl ti4 rfl h3) (by decide) ?_
            refine QL_y (y_loadS (v := .bool false) ti4 rfl rfl (Cells.unit (H.getOwn 3 rfl) rfl)) (by decide) ?_
            refine QL_y (v := .bool false) (y_move rfl) (by decide) ?_
            refine QL_s rfl (by decide) rfl rfl (by simp) ?_
            refine QL_s rfl (by decide) rfl rfl (by simp) ?_
            refine QL_s rfl (by decide) rfl rfl (by simp) ?_
            refine QL_s rfl (by decide) rfl rfl (by simp) ?_
            refine QL_y (y_pick (b := false) (v := .bool false) rfl rfl) (by decide) ?_
            refine QL_y (v := .bool false) (y_move rfl) (by decide) ?_
            refine QL_s rfl (by decide) rfl rfl (by simp) ?_
            refine QL_s rfl (by decide) rfl rfl (by simp) ?_
            refine QL_s rfl (by decide) rfl rfl (by simp) ?_
            refine QL_s rfl (by decide) rfl rfl (by simp) ?_
            refine QL_s rfl (by decide) rfl rfl (by simp) ?_
            refine QL_s rfl (by decide) rfl rfl (by simp) ?_
            refine QL_s rfl (by decide) rfl rfl (by simp) ?_
            refine QL_s rfl (by decide) rfl rfl (by simp) ?_
            refine QL_y (y_pick (b := false) (v := .bool false) rfl rfl) (by decide) ?_
            refine QL_y (v := .bool false) (y_assign rfl) (by decide) ?_
            refine QL_nil ?_
            refine W_condf rfl ?_
            refine W_skip ?_
            have hb : bars a c x = 0 := bars_none (by rw [hit]; first | exact .inl hp | exact .inr hq) (.inl hfl)
            exact ⟨hti, htn, h0, h3, h14, rfl, take_all hxj hok hb, H.tail.tail.tail⟩
          · rcases vs with _ | ⟨u, us⟩
            · refine W_drawQ H mixed (by kernel_rfl) (by kernel_rfl) fun wd9 H => ?_
              refine QL_y (y_fieldAddr ti78 rfl ti4 rfl h3) (by decide) ?_
              refine QL_y (y_loadS (v := .bool true) ti4 rfl rfl (Cells.unit (H.getOwn 3 rfl) rfl)) (by decide) ?_
              refine QL_y (v := .bool true) (y_move rfl) (by decide) ?_
              refine QL_yg rfl (by decide) rfl (y_fieldAddr ti55 rfl ti53 rfl rfl) (by decide) ?_
              refine QL_yg rfl (by decide) rfl (y_loadS (v := .slice a7 ([] : List Ver).length c7) ti53 rfl rfl (Cells.unit (H.getOwn 0 rfl) rfl)) (by decide) ?_
              refine QL_yg rfl (by decide) rfl (y_len rfl ti53 rfl) (by decide) ?_
              refine QL_yg (v := .bool false) rfl (by decide) rfl (y_gtrF (show ¬ ((0 : Int) < ((([] : List Ver).length : Nat) : Int)) by simp) rfl rfl) (by decide) ?_
              refine QL_y (y_pick (b := true) (v := .bool false) rfl rfl) (by decide) ?_
              refine QL_y (v := .bool false) (y_move rfl) (by decide) ?_
              refine QL_s rfl (by decide) rfl rfl (by simp) ?_
              refine QL_s rfl (by decide) rfl rfl (by simp) ?_
              refine QL_s rfl (by decide) rfl rfl (by simp) ?_
              refine QL_s rfl (by decide) rfl rfl (by simp) ?_
              refine QL_s rfl (by decide) rfl rfl (by simp) ?_
              refine QL_s rfl (by decide) rfl rfl (by simp) ?_
              refine QL_s rfl (by decide) rfl rfl (by simp) ?_
              refine QL_s rfl (by decide) rfl rfl (by simp) ?_
              refine QL_y (y_pick (b := false) (v := .bool false) rfl rfl) (by decide) ?_
              refine QL_y (v := .bool false) (y_assign rfl) (by decide) ?_
              refine QL_nil ?_
              refine W_condf rfl ?_
              refine W_skip ?_
              have hb : bars a c x = 0 := bars_none (by rw [hit]; first | exact .inl hp | exact .inr hq) (.inr (by rw [hvs]; rfl))
              exact ⟨hti, htn, h0, h3, h14, rfl, take_all hxj hok hb, H.tail.tail.tail⟩
            · by_cases ht : c.ts < u.ts
              · refine W_drawQ H mixed (by kernel_rfl) (by kernel_rfl) fun wd9 H => ?_
                obtain ⟨b8, o8, cs8, e8, hz8, hc8, hr8⟩ := hv7.at (i := 0) rfl
                have hc8' := hc8.ext ((H1.keepsDN 8 9 rfl rfl H 1 9 10 rfl rfl rfl).2 _ hz8 hc8.lt)
                obtain ⟨uv8, uk8, rfl, -⟩ := ver_cells.1 hr8
                refine QL_y (y_fieldAddr ti78 rfl ti4 rfl h3) (by decide) ?_
                refine QL_y (y_loadS (v := .bool true) ti4 rfl rfl (Cells.unit (H.getOwn 3 rfl) rfl)) (by decide) ?_
                refine QL_y (v := .bool true) (y_move rfl) (by decide) ?_
                refine QL_yg rfl (by decide) rfl (y_fieldAddr ti55 rfl ti53 rfl rfl) (by decide) ?_
                refine QL_yg rfl (by decide) rfl (y_loadS (v := .slice a7 (u :: us).length c7) ti53 rfl rfl (Cells.unit (H.getOwn 0 rfl) rfl)) (by decide) ?_
                refine QL_yg rfl (by decide) rfl (y_len rfl ti53 rfl) (by decide) ?_
                refine QL_yg (v := .bool true) rfl (by decide) rfl (y_gtrT (show (0 : Int) < (((u :: us).length : Nat) : Int) by simp only [List.length_cons]; omega) rfl rfl) (by decide) ?_
                refine QL_y (y_pick (b := true) (v := .bool true) rfl rfl) (by decide) ?_
                refine QL_y (v := .bool true) (y_move rfl) (by decide) ?_
                refine QL_yg rfl (by decide) rfl (y_fieldAddr ti55 rfl ti53 rfl rfl) (by decide) ?_
                refine QL_yg rfl (by decide) rfl (y_loadS (v := .slice a7 (u :: us).length c7) ti53 rfl rfl (Cells.unit (H.getOwn 0 rfl) rfl)) (by decide) ?_
                refine QL_yg rfl (by decide) rfl (y_indexAddr ti53 ti32 (congrArg (Value.slice · _ _) e8) rfl (by simp) (by simp)) (by decide) ?_
                refine QL_yg rfl (by decide) rfl (y_fieldAddr ti32 rfl ti24 rfl rfl) (by decide) ?_
                refine QL_yg rfl (by decide) rfl (y_loadS (v := .int .u64 u.ts) ti24 rfl rfl (hc8'.take (xs := [.int .u64 u.ts]) 0 rfl)) (by decide) ?_
                refine QL_yg rfl (by decide) rfl (y_fieldAddr ti78 rfl ti24 rfl h3) (by decide) ?_
                refine QL_yg rfl (by decide) rfl (y_loadS (v := .int .u64 c.ts) ti24 rfl rfl (Cells.unit (H.getOwn 3 rfl) rfl)) (by decide) ?_
                refine QL_yg (v := .bool true) rfl (by decide) rfl (y_gtrT ht rfl rfl) (by decide) ?_
                refine QL_y (y_pick (b := true) (v := .bool true) rfl rfl) (by decide) ?_
                refine QL_y (v := .bool true) (y_assign rfl) (by decide) ?_
                refine QL_nil ?_
                refine W_condt rfl ?_
                refine W_seq ?_
                refine W_region ?_
                refine OL_y (y_assign rfl) (by decide) ?_
                refine OL_nil ?_
                refine W_ret ?_
                show RetOK _ _ _ _ _ _
                have hb : bars a c x = 160 := bars_stale (by rw [hit]; first | exact .inl hp | exact .inr hq) hfl (by rw [hvs]; exact decide_eq_true ht)
                have he : prepE a c = 160 := by unfold prepE; rw [if_neg hz, prepW_at hxj hok (by rw [hb]; decide), hb]
                exact ret1 (v := .int .i64 160) Try.results75 rfl ⟨by rw [he], I, F, Wp, H.tail.tail.tail.tail, by rw [prepA_no (by rw [he]; decide)]; exact hr, Grow.refl hr.base, Nat.le_add_right _ _⟩
              · refine W_drawQ H mixed (by kernel_rfl) (by kernel_rfl) fun wd9 H => ?_
                obtain ⟨b8, o8, cs8, e8, hz8, hc8, hr8⟩ := hv7.at (i := 0) rfl
                have hc8' := hc8.ext ((H1.keepsDN 8 9 rfl rfl H 1 9 10 rfl rfl rfl).2 _ hz8 hc8.lt)
                obtain ⟨uv8, uk8, rfl, -⟩ := ver_cells.1 hr8
                refine QL_y (y_fieldAddr ti78 rfl ti4 rfl h3) (by decide) ?_
                refine QL_y (y_loadS (v := .bool true) ti4 rfl rfl (Cells.unit (H.getOwn 3 rfl) rfl)) (by decide) ?_
                refine QL_y (v := .bool true) (y_move rfl) (by decide) ?_
                refine QL_yg rfl (by decide) rfl (y_fieldAddr ti55 rfl ti53 rfl rfl) (by decide) ?_
                refine QL_yg rfl (by decide) rfl (y_loadS (v := .slice a7 (u :: us).length c7) ti53 rfl rfl (Cells.unit (H.getOwn 0 rfl) rfl)) (by decide) ?_
                refine QL_yg rfl (by decide) rfl (y_len rfl ti53 rfl) (by decide) ?_
                refine QL_yg (v := .bool true) rfl (by decide) rfl (y_gtrT (show (0 : Int) < (((u :: us).length : Nat) : Int) by simp only [List.length_cons]; omega) rfl rfl) (by decide) ?_
                refine QL_y (y_pick (b := true) (v := .bool true) rfl rfl) (by decide) ?_
                refine QL_y (v := .bool true) (y_move rfl) (by decide) ?_
                refine QL_yg rfl (by decide) rfl (y_fieldAddr ti55 rfl ti53 rfl rfl) (by decide) ?_
                refine QL_yg rfl (by decide) rfl (y_loadS (v := .slice a7 (u :: us).length c7) ti53 rfl rfl (Cells.unit (H.getOwn 0 rfl) rfl)) (by decide) ?_
                refine QL_yg rfl (by decide) rfl (y_indexAddr ti53 ti32 (congrArg (Value.slice · _ _) e8) rfl (by simp) (by simp)) (by decide) ?_
                refine QL_yg rfl (by decide) rfl (y_fieldAddr ti32 rfl ti24 rfl rfl) (by decide) ?_
                refine QL_yg rfl (by decide) rfl (y_loadS (v := .int .u64 u.ts) ti24 rfl rfl (hc8'.take (xs := [.int .u64 u.ts]) 0 rfl)) (by decide) ?_
                refine QL_yg rfl (by decide) rfl (y_fieldAddr ti78 rfl ti24 rfl h3) (by decide) ?_
                refine QL_yg rfl (by decide) rfl (y_loadS (v := .int .u64 c.ts) ti24 rfl rfl (Cells.unit (H.getOwn 3 rfl) rfl)) (by decide) ?_
                refine QL_yg (v := .bool false) rfl (by decide) rfl (y_gtrF ht rfl rfl) (by decide) ?_
                refine QL_y (y_pick (b := true) (v := .bool false) rfl rfl) (by decide) ?_
                refine QL_y (v := .bool false) (y_assign rfl) (by decide) ?_
                refine QL_nil ?_
                refine W_condf rfl ?_
                refine W_skip ?_
                have hb : bars a c x = 0 := bars_none (by rw [hit]; first | exact .inl hp | exact .inr hq) (.inr (by rw [hvs]; exact decide_eq_false ht))
                exact ⟨hti, htn, h0, h3, h14, rfl, take_all hxj hok hb, H.tail.tail.tail⟩
        · refine W_region ?_
          refine OL_y (y_fieldAddr ti55 rfl ti32 rfl rfl) (by decide) ?_
          refine OL_y (y_fieldAddr ti32 rfl ti24 rfl rfl) (by decide) ?_
          refine OL_y (y_loadS (v := .int .u64 it.txn) ti24 rfl rfl (Cells.unit (H.getOwn 0 rfl) rfl)) (by decide) ?_
          refine OL_y (v := .bool true) (y_neqT hp rfl rfl) (by decide) ?_
          refine OL_y (v := .bool true) (y_move rfl) (by decide) ?_
          refine OL_yg rfl (by decide) rfl (y_fieldAddr ti55 rfl ti32 rfl rfl) (by decide) ?_
          refine OL_yg rfl (by decide) rfl (y_fieldAddr ti32 rfl ti24 rfl rfl) (by decide) ?_
          refine OL_yg rfl (by decide) rfl (y_loadS (v := .int .u64 it.txn) ti24 rfl rfl (Cells.unit (H.getOwn 0 rfl) rfl)) (by decide) ?_
          refine OL_yg rfl (by decide) rfl (y_fieldAddr ti78 rfl ti24 rfl h3) (by decide) ?_
          refine OL_yg rfl (by decide) rfl (y_loadS (v := .int .u64 c.txn) ti24 rfl rfl (Cells.unit (H.getOwn 3 rfl) rfl)) (by decide) ?_
          refine OL_yg (v := .bool true) rfl (by decide) rfl (y_neqT hq rfl rfl) (by decide) ?_
          refine OL_y (y_pick (b := true) (v := .bool true) rfl rfl) (by decide) ?_
          refine OL_y (v := .bool true) (y_assign rfl) (by decide) ?_
          refine OL_nil ?_
          refine W_condt rfl ?_
          refine W_seq ?_
          refine W_region ?_
          refine OL_y (y_assign rfl) (by decide) ?_
          refine OL_nil ?_
          refine W_ret ?_
          show RetOK _ _ _ _ _ _
          have hb : bars a c x = 180 := bars_busy (by rw [hit]; exact hp) (by rw [hit]; exact hq)
          have he : prepE a c = 180 := by unfold prepE; rw [if_neg hz, prepW_at hxj hok (by rw [hb]; decide), hb]
          exact ret1 (v := .int .i64 180) Try.results75 rfl ⟨by rw [he], I, F, Wp, H.tail.tail.tail.tail, by rw [prepA_no (by rw [he]; decide)]; exact hr, Grow.refl hr.base, Nat.le_add_right _ _⟩
    · rintro f ds w5 ⟨h0, h3, h14, rfl, hok, H⟩ hti htn
      rw [List.take_length] at hok
      refine W_seq ?_
      refine W_seq ?_
      refine W_region ?_
      refine OL_y (y_fieldAddr ti78 rfl ti72 rfl h3) (by decide) ?_
      refine OL_y (y_loadS (v := .slice aw c.writes.length cw) ti72 rfl rfl (Cells.unit (H.getOwn 0 rfl) rfl)) (by decide) ?_
      refine OL_y (y_len rfl ti72 rfl) (by decide) ?_
      refine OL_y (y_move rfl) (by decide) ?_
      refine OL_nil ?_
      refine W_range (N := c.writes.length) (by simp only [maxLen] at hmw ⊢; omega) (fun j f ds w' => ∃ (I' : List Itn) (F' : Nat → Prop) (Wp' : World), f 0 = .pointer (some ⟨mb, 0, none⟩) ∧ f 3 = .pointer (some ⟨b3, 0, none⟩) ∧ f 58 = .slice aw c.writes.length cw ∧ ds = [] ∧ CRep w0 F' Wp' E I' ((c.writes.take j).foldl (doW c) a) ∧ Grow w0 F Wp F' Wp' ∧ I'.length ≤ I.length + j ∧ Holds w' (own b3 (.cells #[.int .u64 c.client, .int .u64 c.seq, .int .i64 c.kind, .int .u64 c.txn, .int .u64 c.ts, .bool fl, .int .u64 c.lk.txn, .int .i64 c.lk.level, .int .i64 c.lk.mode, vll, vlh, vlo, vhi, vtx, .slice aw c.writes.length cw, .slice ake c.keys.length cke, .int .i64 c.tb.id, .string c.tb.name, vco, .int .i64 c.tb.key, vix] 78) :: mAt mb lb la sb g1 g2 E I' F' Wp' w0 L))
          ⟨I, F, Wp, h0, h3, rfl, rfl, hr, Grow.refl hr.base, Nat.le_refl _, H⟩
          rfl rfl (by decide) (by decide) (by decide) rfl rfl ?_ rfl rfl ?_
      · rintro j f ds w6 hj ⟨I', F', Wp', h0, h3, h58, rfl, hr', gr, hIl', H⟩ hti htn
        have hxj := List.getElem?_eq_getElem hj
        have hfo : (c.writes.take (j + 1)).foldl (doW c) a = doW c ((c.writes.take j).foldl (doW c) a) (c.writes[j]) := by rw [List.take_add_one, hxj, Option.toList_some, List.foldl_append]; rfl
        generalize c.writes[j] = x at *
        obtain ⟨bx, ox, cs9, e9, hz9, hc9, hr9⟩ := (gr.slr hwr).at hxj
        have hc9' := hc9.ext ((H.dz 6 7 rfl rfl hr'.base).2 _ hz9 hc9.lt)
        have hone9 := tWr.one hr9
        obtain ⟨vk, vv, rfl, hk9, hv9⟩ := wr_cells.1 hr9
        obtain ⟨ak9, ck9, rfl, -, -⟩ := hk9.len
        obtain ⟨av9, cv9, rfl, -, -⟩ := hv9.len
        have h58' := h58.trans (congrArg (Value.slice · _ _) e9)
        refine W_block ?_
        refine W_seq ?_
        refine W_region ?_
        refine OL_y (y_indexAddr ti72 ti89 h58' hti (by omega) (by omega)) (by decide) ?_
        refine OL_y (y_loadA (cs := [.slice ak9 x.key.length ck9, .bool x.dead, .slice av9 x.val.length cv9]) ti89 rfl rfl hc9' rfl) (by decide) ?_
        refine OL_var (v := .agg #[.slice ak9 x.key.length ck9, .bool x.dead, .slice av9 x.val.length cv9]) H ti89 rfl (by decide) (fun _ => rfl) rfl (hone9) fun b9 w14_2 H => ?_
        refine OL_nil ?_
        refine W_drawD H mixed (by kernel_rfl) [] (fun wq w' => w'.heap[mb]? = some (.cells #[.pointer (some ⟨sb, 0, none⟩), .map (some lb)] 123) ∧ w'.heap[b9]? = some (.cells #[.slice ak9 x.key.length ck9, .bool x.dead, .slice av9 x.val.length cv9] 89) ∧ w'.heap[b3]? = some (.cells #[.int .u64 c.client, .int .u64 c.seq, .int .i64 c.kind, .int .u64 c.txn, .int .u64 c.ts, .bool fl, .int .u64 c.lk.txn, .int .i64 c.lk.level, .int .i64 c.lk.mode, vll, vlh, vlo, vhi, vtx, .slice aw c.writes.length cw, .slice ake c.keys.length cke, .int .i64 c.tb.id, .string c.tb.name, vco, .int .i64 c.tb.key, vix] 78)) fun wd15 H hEd => ?_
        have hS : ∀ {ls : Array Bool}, Sx [] (fun w' => w'.heap[mb]? = some (.cells #[.pointer (some ⟨sb, 0, none⟩), .map (some lb)] 123) ∧ w'.heap[b9]? = some (.cells #[.slice ak9 x.key.length ck9, .bool x.dead, .slice av9 x.val.length cv9] 89) ∧ w'.heap[b3]? = some (.cells #[.int .u64 c.client, .int .u64 c.seq, .int .i64 c.kind, .int .u64 c.txn, .int .u64 c.ts, .bool fl, .int .u64 c.lk.txn, .int .i64 c.lk.level, .int .i64 c.lk.mode, vll, vlh, vlo, vhi, vtx, .slice aw c.writes.length cw, .slice ake c.keys.length cke, .int .i64 c.tb.id, .string c.tb.name, vco, .int .i64 c.tb.key, vix] 78)) ls wd15 := fun {_} _ => ⟨H.getOwn 2 rfl, H.getOwn 0 rfl, H.getOwn 1 rfl⟩
        refine DA_p 0 rfl (by kernel_rfl) rfl (fun _ => y_move h0) hS (by decide) fun hS => ?_
        refine DA_p 1 rfl (by kernel_rfl) rfl (fun _ => y_nilCheck rfl ⟨_, rfl⟩) hS (by decide) fun hS => ?_
        refine DA_p 2 rfl (by kernel_rfl) rfl (fun _ => y_fieldAddr ti123 rfl ti26 rfl rfl) hS (by decide) fun hS => ?_
        refine DA_y 3 rfl (by kernel_rfl) rfl (by kernel_rfl) (fun w' h => y_loadS (v := .pointer (some ⟨sb, 0, none⟩)) ti26 rfl rfl (Cells.unit h.1 rfl)) hS (by decide) fun hS => ?_
        refine DA_p 4 rfl (by kernel_rfl) rfl (fun _ => y_fieldAddr ti89 rfl ti23 rfl rfl) hS (by decide) fun hS => ?_
        refine DA_y 5 rfl (by kernel_rfl) rfl (by kernel_rfl) (fun w' h => y_loadS (v := .slice ak9 x.key.length ck9) ti23 rfl rfl (Cells.unit h.2.1 rfl)) hS (by decide) fun hS => ?_
        refine DA_p 6 rfl (by kernel_rfl) rfl (fun _ => y_fieldAddr ti78 rfl ti24 rfl h3) hS (by decide) fun hS => ?_
        refine DA_y 7 rfl (by kernel_rfl) rfl (by kernel_rfl) (fun w' h => y_loadS (v := .int .u64 c.txn) ti24 rfl rfl (Cells.unit h.2.2 rfl)) hS (by decide) fun hS => ?_
        refine DA_p 8 rfl (by kernel_rfl) rfl (fun _ => y_fieldAddr ti89 rfl ti4 rfl rfl) hS (by decide) fun hS => ?_
        refine DA_y 9 rfl (by kernel_rfl) rfl (by kernel_rfl) (fun w' h => y_loadS (v := .bool x.dead) ti4 rfl rfl (Cells.unit h.2.1 rfl)) hS (by decide) fun hS => ?_
        refine DA_p 10 rfl (by kernel_rfl) rfl (fun _ => y_fieldAddr ti89 rfl ti23 rfl rfl) hS (by decide) fun hS => ?_
        refine DA_y 11 rfl (by kernel_rfl) rfl (by kernel_rfl) (fun w' h => y_loadS (v := .slice av9 x.val.length cv9) ti23 rfl rfl (Cells.unit h.2.1 rfl)) hS (by decide) fun hS => ?_
        refine DA_p 12 rfl (by kernel_rfl) rfl (fun _ => y_fieldAddr ti78 rfl ti30 rfl h3) hS (by decide) fun hS => ?_
        refine DA_y 13 rfl (by kernel_rfl) rfl (by kernel_rfl) (fun w' h => y_loadS (v := .slice ake c.keys.length cke) ti30 rfl rfl (Cells.unit h.2.2 rfl)) hS (by decide) fun hS => ?_
        refine DA_p (v := .agg #[.int .u64 0, .int .u64 c.txn, .bool x.dead, .slice av9 x.val.length cv9, .slice ake c.keys.length cke]) 14 rfl (by kernel_rfl) rfl (fun _ => y_build ti32 pl32 (by kernel_rfl)) hS (by decide) fun hS => ?_
        refine DA_one 15 (by kernel_rfl) rfl (op_call 37 en37 rfl [.pointer (some ⟨sb, 0, none⟩), .slice ak9 x.key.length ck9, .agg #[.int .u64 0, .int .u64 c.txn, .bool x.dead, .slice av9 x.val.length cv9, .slice ake c.keys.length cke]] rfl (by decide) ((f37_calls (u := wVer c x) (cIn4 H) hr' hk9 (ver_cells.2 ⟨_, _, rfl, rfl, htx, hv9, gr.slr hke⟩)).mono ?_))
        rintro e w15_15 ⟨rfl, I2, F2, Wp2, H, hr2, gr2, hI2⟩
        refine ⟨_, rfl, fun _ => ⟨(cOut4 H).getOwn 2 rfl, (cOut4 H).getOwn 0 rfl, (cOut4 H).getOwn 1 rfl⟩, ?_⟩
        have H := cOut4 H
        refine DA_done (by kernel_rfl) ?_
        exact ⟨hti, htn, I2, F2, Wp2, h0, h3, h58, rfl, by rw [hfo]; exact hr2, gr.trans gr2, by omega, H.tail⟩
      · rintro f ds w6 ⟨I', F', Wp', h0, h3, h58, rfl, hr', gr, hIl', H⟩ hti htn
        rw [List.take_length] at hr'
        refine W_seq ?_
        refine W_region ?_
        refine OL_y (y_assign rfl) (by decide) ?_
        refine OL_nil ?_
        refine W_ret ?_
        show RetOK _ _ _ _ _ _
        have he : prepE a c = 0 := by unfold prepE; rw [if_neg hz, prepW_ok hok]
        exact ret1 (v := .int .i64 0) Try.results75 rfl ⟨by rw [he], I', F', Wp', H.tail, by rw [prepA_do he]; exact hr', gr, hIl'⟩
end Go.Proofs.Ytpandioolpnihaa

namespace Go.Wk
open Go
/-- What a call has made goes into the pool. -/
theorem Holds.poolN {w w' w0 Wp : World} {L : List Atom} {F : Nat → Prop} (H : Holds w L) (hE : Ext none' w w') (i j : Nat) (hi : L[i]? = some (exc F Wp)) (hj : L[j]? = some (shr (fun k => k < w0.heap.size) w0)) (hW : Ext none' w0 Wp) :
    ∃ F' : Nat → Prop, Holds w' (L.set i (exc F' w')) ∧ Grow w0 F Wp F' w' ∧ ∀ k, k < w'.heap.size → (Dz w0 F k ∨ w.heap.size ≤ k) → Dz w0 F' k := by
  obtain ⟨H, g⟩ := H.poolC hE i j hi hj hW
  exact ⟨_, H, g, fun k h1 h2 => h2.elim (fun h => h.imp id .inl) fun h => .inr (.inr ⟨h, h1⟩)⟩
end Go.Wk
namespace Go.Proofs.Ytpandioolpnihaa
open Go Go.Wk
set_option linter.unusedVariables false
set_option linter.unusedSimpArgs false

/-- An answer of one cell with one version. -/
theorem one_cell {w w0 Wp : World} {F : Nat → Prop} {mb lb sb g1 g2 b1 b2 : Nat} {la : List (Int × Value)} {E : List Ent} {I : List Itn} {L P : List Atom} {vk : Value} {ucs : List Value} {key : Key} {u : Ver} (H : Holds w (row 55 7 (.slice (some ⟨b2, 0, none⟩) 1 1) 1 [vk, .slice (some ⟨b1, 0, none⟩) 1 1, .int .u64 0, .int .u64 0, .bool false, .slice none 0 0, .slice none 0 0] :: row 32 5 (.slice (some ⟨b1, 0, none⟩) 1 1) 1 ucs :: (P ++ mAt mb lb la sb g1 g2 E I F Wp w0 L))) (hb : Ext none' w0 Wp) (hk : SlR (tInt .u8) 1 (Dz w0 F) Wp vk key) (hu : tVer.R (Dz w0 F) Wp ucs u) :
    ∃ (F' : Nat → Prop) (Wp' : World), Holds w (mAt mb lb la sb g1 g2 E I F' Wp' w0 L) ∧ Grow w0 F Wp F' Wp' ∧ tRes.R (Dz w0 F') Wp' [.int .i64 0, .int .u64 0, .int .u64 0, .bool false, .slice none 0 0, .slice (some ⟨b2, 0, none⟩) 1 1, .slice none 0 0] ⟨0, [⟨key, [u], noV⟩]⟩ := by
  have h55 := H.getRow 0 rfl
  have h32 := H.getRow 1 rfl
  have H := H.sub (.cons_cons _ (.cons_cons _ (List.sublist_append_right P _)))
  obtain ⟨H, p1⟩ := H.poolX rfl 6 7 rfl rfl hb
  obtain ⟨H, p2⟩ := Holds.poolX (L := mAt mb lb la sb g1 g2 E I _ _ w0 L) H rfl 5 6 rfl rfl p1.base
  refine ⟨_, _, H, p1.trans p2, ?_⟩
  have g := p1.trans p2
  have hu' := g.R hu
  have hk' := g.slr hk
  have h1 : SlR tVer 72 _ w (.slice (some ⟨b1, 0, none⟩) 1 1) [u] := SlR.ofRow h32 (by decide) ((Els.nil _ _ _).snoc hu') (fun k hk => .inr (.inr hk)) (by simp)
  have hn : ∀ {Z : Nat → Prop}, tVer.R Z w [.int .u64 0, .int .u64 0, .bool false, .slice none 0 0, .slice none 0 0] noV := fun {Z} => ver_cells.2 ⟨_, _, rfl, rfl, rfl, SlR.nil _ _ _ _, SlR.nil _ _ _ _⟩
  have hc : tCl.R _ w [vk, .slice (some ⟨b1, 0, none⟩) 1 1, .int .u64 0, .int .u64 0, .bool false, .slice none 0 0, .slice none 0 0] ⟨key, [u], noV⟩ := cl_cells.2 ⟨_, _, _, rfl, hk', h1, hn⟩
  have h2 : SlR tCl 120 _ w (.slice (some ⟨b2, 0, none⟩) 1 1) [⟨key, [u], noV⟩] := SlR.ofRow h55 (by decide) ((Els.nil _ _ _).snoc hc) (fun k hk => .inr (.inl (.inr hk))) (by simp)
  exact res_cells.2 ⟨_, rfl, rfl, h2⟩

set_option maxHeartbeats 16000000 in
theorem f76_calls {w0 w Wp : World} {F : Nat → Prop} {mb lb sb g1 g2 m : Nat} {la : List (Int × Value)} {E : List Ent} {I : List Itn} {a : Abs} {L : List Atom} {cs : List Value} {c : Cmd} (H : Holds w (mAt mb lb la sb g1 g2 E I F Wp w0 L)) (hr : CRep w0 F Wp E I a) (ha : a.Ok m) (hm : m ≤ 40000) (hEl : E.length ≤ 40000) (hIl : I.length ≤ 30000) (hc : tCmd.R (Dz w0 F) Wp cs c) (hlk : c.lo.length ≤ 1000) :
    Calls Try.prog 76 [.pointer (some ⟨mb, 0, none⟩), .agg cs.toArray].toArray w fun e w' => ∃ (rcs : List Value) (F' : Nat → Prop) (Wp' : World), e = .returned (.agg rcs.toArray) ∧ Holds w' (mAt mb lb la sb g1 g2 E I F' Wp' w0 L) ∧ Grow w0 F Wp F' Wp' ∧ tRes.R (Dz w0 F') Wp' rcs (fetchR a c) := by
  obtain ⟨vll, vlh, vlo, vhi, vtx, vwr, vke, vco, vix, rfl, hcl, hsq, hkd, htx, hts, hlk1, hlo, hhi, htxs, hwr, hke, htb⟩ := cmd_cells.1 hc
  refine calls_of_W' Try.func76 rfl Try.ntmps76 rfl ?_
  refine W_seq ?_
  refine W_region ?_
  refine OL_c (op_box (v := .agg #[.int .u64 c.client, .int .u64 c.seq, .int .i64 c.kind, .int .u64 c.txn, .int .u64 c.ts, .bool c.flag, .int .u64 c.lk.txn, .int .i64 c.lk.level, .int .i64 c.lk.mode, vll, vlh, vlo, vhi, vtx, vwr, vke, .int .i64 c.tb.id, .string c.tb.name, vco, .int .i64 c.tb.key, vix]) H rfl (by decide) fun b3 w0_0 H => ?_)
  refine OL_c (op_alloc H ti84 (by decide) fun b4 w0_1 H => ?_)
  refine OL_nil ?_
  refine W_seq ?_
  refine W_region ?_
  refine OL_y (y_move rfl) (by decide) ?_
  refine OL_y (y_fieldAddr ti78 rfl ti23 rfl rfl) (by decide) ?_
  refine OL_y (y_loadS (v := vlo) ti23 rfl rfl (Cells.unit (H.getOwn 1 rfl) rfl)) (by decide) ?_
  refine OL_c (op_call 85 en85 rfl [.pointer (some ⟨mb, 0, none⟩), vlo] rfl (by decide) ((f85c (H.tail.tail) hr ha hm hEl (by omega) hlo hlk).mono ?_))
  rintro e w1_3 ⟨vk7, iv7, ik7, a7, c7, rfl, hk7, hv7, hi7, hone7, hE85⟩
  refine ⟨_, rfl, ?_⟩
  obtain ⟨F1, H, gr1, hF1⟩ := H.poolN hE85 7 8 rfl rfl hr.base
  have hr1 := hr.grow gr1
  have hk7 := hk7.mono hF1
  have hv7 := hv7.mono hF1
  have hi7 := tVer.mono hi7 hF1
  have hvm := (ha (kb c.lo)).2
  obtain ⟨ak7, ck7, rfl, -, -⟩ := hk7.len
  refine OL_var (v := .agg #[.slice ak7 c.lo.length ck7, .slice a7 (a.v (kb c.lo)).length c7, .int .u64 (a.i (kb c.lo)).ts, .int .u64 (a.i (kb c.lo)).txn, .bool (a.i (kb c.lo)).dead, iv7, ik7]) H ti55 rfl (by decide) (fun _ => rfl) rfl (hone7) fun b5 w1_4 H => ?_
  refine OL_nil ?_
  refine W_seq ?_
  refine W_seq ?_
  refine W_region ?_
  refine OL_y (y_fieldAddr ti55 rfl ti53 rfl rfl) (by decide) ?_
  refine OL_y (y_loadS (v := .slice a7 (a.v (kb c.lo)).length c7) ti53 rfl rfl (Cells.unit (H.getOwn 0 rfl) rfl)) (by decide) ?_
  refine OL_y (y_len rfl ti53 rfl) (by decide) ?_
  refine OL_y (y_move rfl) (by decide) ?_
  refine OL_nil ?_
  refine W_range (N := (a.v (kb c.lo)).length) (by simp only [maxLen]; omega) (fun j f ds w' => f 0 = .pointer (some ⟨mb, 0, none⟩) ∧ f 3 = .pointer (some ⟨b3, 0, none⟩) ∧ f 4 = .pointer (some ⟨b4, 0, none⟩) ∧ f 5 = .pointer (some ⟨b5, 0, none⟩) ∧ f 14 = .slice a7 (a.v (kb c.lo)).length c7 ∧ ds = [] ∧ (∀ y ∈ (a.v (kb c.lo)).take j, decide (y.txn = c.txn) = false) ∧ Holds w' (own b5 (.cells #[.slice ak7 c.lo.length ck7, .slice a7 (a.v (kb c.lo)).length c7, .int .u64 (a.i (kb c.lo)).ts, .int .u64 (a.i (kb c.lo)).txn, .bool (a.i (kb c.lo)).dead, iv7, ik7] 55) :: own b4 (.cells #[.int .i64 0, .int .u64 0, .int .u64 0, .bool false, .slice none 0 0, .slice none 0 0, .slice none 0 0] 84) :: own b3 (.cells #[.int .u64 c.client, .int .u64 c.seq, .int .i64 c.kind, .int .u64 c.txn, .int .u64 c.ts, .bool c.flag, .int .u64 c.lk.txn, .int .i64 c.lk.level, .int .i64 c.lk.mode, vll, vlh, vlo, vhi, vtx, vwr, vke, .int .i64 c.tb.id, .string c.tb.name, vco, .int .i64 c.tb.key, vix] 78) :: mAt mb lb la sb g1 g2 E I F1 w1_3 w0 L))
      ⟨rfl, rfl, rfl, rfl, rfl, rfl, by simp, H⟩
      rfl rfl (by decide) (by decide) (by decide) rfl rfl ?_ rfl rfl ?_
  · rintro j f ds w5 hj ⟨h0, h3, h4, h5, h14, rfl, hok, H⟩ hti htn
    have hxj := List.getElem?_eq_getElem hj
    generalize (a.v (kb c.lo))[j] = u at *
    obtain ⟨bx, ox, cs9, e9, hz9, hc9, hr9⟩ := hv7.at hxj
    have hc9' := hc9.ext ((H.dz 8 9 rfl rfl hr1.base).2 _ hz9 hc9.lt)
    have hone9 := tVer.one hr9
    have hr9' := hr9
    obtain ⟨uv, uk, rfl, -⟩ := ver_cells.1 hr9
    have h14' := h14.trans (congrArg (Value.slice · _ _) e9)
    refine W_block ?_
    refine W_seq ?_
    refine W_region ?_
    refine OL_y (y_indexAddr ti53 ti32 h14' hti (by omega) (by omega)) (by decide) ?_
    refine OL_y (y_loadA (cs := [.int .u64 u.ts, .int .u64 u.txn, .bool u.dead, uv, uk]) ti32 rfl rfl hc9' rfl) (by decide) ?_
    refine OL_var (v := .agg #[.int .u64 u.ts, .int .u64 u.txn, .bool u.dead, uv, uk]) H ti32 rfl (by decide) (fun _ => rfl) rfl (hone9) fun b7 w4_2 H => ?_
    refine OL_nil ?_
    refine W_seq ?_
    by_cases hy : u.txn = c.txn
    · refine W_region ?_
      refine OL_y (y_fieldAddr ti32 rfl ti24 rfl rfl) (by decide) ?_
      refine OL_y (y_loadS (v := .int .u64 u.txn) ti24 rfl rfl (Cells.unit (H.getOwn 0 rfl) rfl)) (by decide) ?_
      refine OL_y (y_fieldAddr ti78 rfl ti24 rfl h3) (by decide) ?_
      refine OL_y (y_loadS (v := .int .u64 c.txn) ti24 rfl rfl (Cells.unit (H.getOwn 3 rfl) rfl)) (by decide) ?_
      refine OL_y (v := .bool true) (y_eqlT hy rfl rfl) (by decide) ?_
      refine OL_nil ?_
      refine W_condt rfl ?_
      refine W_seq ?_
      refine W_region ?_
      refine OL_y (y_fieldAddr ti55 rfl ti23 rfl h5) (by decide) ?_
      refine OL_y (y_loadS (v := .slice ak7 c.lo.length ck7) ti23 rfl rfl (Cells.unit (H.getOwn 1 rfl) rfl)) (by decide) ?_
      refine OL_y (y_loadA (cs := [.int .u64 u.ts, .int .u64 u.txn, .bool u.dead, uv, uk]) ti32 rfl rfl (Cells.of (H.getOwn 0 rfl) rfl) rfl) (by decide) ?_
      refine OL_c (op_buildSlice H [.agg #[.int .u64 u.ts, .int .u64 u.txn, .bool u.dead, uv, uk]] ti53 ti32 rfl rfl rfl (by simp [Value.cells]) rfl rfl (by decide) fun b28 w6_3 H => ?_)
      refine OL_y (v := .agg #[.slice ak7 c.lo.length ck7, .slice (some ⟨b28, 0, none⟩) 1 1, .int .u64 0, .int .u64 0, .bool false, .slice none 0 0, .slice none 0 0]) (y_build ti55 pl55 (by kernel_rfl)) (by decide) ?_
      refine OL_c (op_buildSlice H [.agg #[.slice ak7 c.lo.length ck7, .slice (some ⟨b28, 0, none⟩) 1 1, .int .u64 0, .int .u64 0, .bool false, .slice none 0 0, .slice none 0 0]] ti49 ti55 rfl rfl rfl (by simp [Value.cells]) rfl rfl (by decide) fun b30 w6_5 H => ?_)
      refine OL_y (v := .agg #[.int .i64 0, .int .u64 0, .int .u64 0, .bool false, .slice none 0 0, .slice (some ⟨b30, 0, none⟩) 1 1, .slice none 0 0]) (y_build ti84 pl84 (by kernel_rfl)) (by decide) ?_
      refine OL_c (op_store (v := .agg #[.int .i64 0, .int .u64 0, .int .u64 0, .bool false, .slice none 0 0, .slice (some ⟨b30, 0, none⟩) 1 1, .slice none 0 0]) H 4 rfl ti84 h4 rfl rfl (by decide) (by simp [Value.cells, Value.oneCell']) fun w6_7 H => ?_)
      refine OL_nil ?_
      refine W_ret ?_
      show RetOK _ _ _ _ _ _
      have hf : foundV a c = some u := find_at hxj hok (decide_eq_true hy)
      have he : fetchR a c = ⟨0, [⟨c.lo, [u], noV⟩]⟩ := by unfold fetchR; rw [hf]
      obtain ⟨F2, W2, H2, g2, hT⟩ := one_cell (P := [_, _, _, _]) H hr1.base hk7 hr9'
      exact ret1c Try.results76 h4 (run_loadVarA (cs := [.int .i64 0, .int .u64 0, .int .u64 0, .bool false, .slice none 0 0, .slice (some ⟨b30, 0, none⟩) 1 1, .slice none 0 0]) ti84 rfl (Cells.of (H.getOwn 4 rfl) rfl) rfl) ⟨_, F2, W2, rfl, H2, gr1.trans g2, by rw [he]; exact hT⟩
    · refine W_region ?_
      refine OL_y (y_fieldAddr ti32 rfl ti24 rfl rfl) (by decide) ?_
      refine OL_y (y_loadS (v := .int .u64 u.txn) ti24 rfl rfl (Cells.unit (H.getOwn 0 rfl) rfl)) (by decide) ?_
      refine OL_y (y_fieldAddr ti78 rfl ti24 rfl h3) (by decide) ?_
      refine OL_y (y_loadS (v := .int .u64 c.txn) ti24 rfl rfl (Cells.unit (H.getOwn 3 rfl) rfl)) (by decide) ?_
      refine OL_y (v := .bool false) (y_eqlF hy rfl rfl) (by decide) ?_
      refine OL_nil ?_
      refine W_condf rfl ?_
      refine W_skip ?_
      refine ⟨hti, htn, h0, h3, h4, h5, h14, rfl, fun y hy1 => ?_, H.tail⟩
      rw [List.take_add_one, hxj] at hy1
      rcases List.mem_append.1 hy1 with hy1 | hy1
      · exact hok y hy1
      · have : y = u := by simpa using hy1
        subst this; exact decide_eq_false hy
  · rintro f ds w5 ⟨h0, h3, h4, h5, h14, rfl, hok, H⟩ hti htn
    rw [List.take_length] at hok
    have hf : foundV a c = none := find_no hok
    refine W_seq ?_
    refine W_seq ?_
    by_cases hi : (a.i (kb c.lo)).txn = c.txn
    · by_cases hz : c.txn = 0
      · refine W_region ?_
        refine OL_y (y_fieldAddr ti55 rfl ti32 rfl h5) (by decide) ?_
        refine OL_y (y_fieldAddr ti32 rfl ti24 rfl rfl) (by decide) ?_
        refine OL_y (y_loadS (v := .int .u64 (a.i (kb c.lo)).txn) ti24 rfl rfl (Cells.unit (H.getOwn 0 rfl) rfl)) (by decide) ?_
        refine OL_y (y_fieldAddr ti78 rfl ti24 rfl h3) (by decide) ?_
        refine OL_y (y_loadS (v := .int .u64 c.txn) ti24 rfl rfl (Cells.unit (H.getOwn 2 rfl) rfl)) (by decide) ?_
        refine OL_y (v := .bool false) (y_neqF hi rfl rfl) (by decide) ?_
        refine OL_y (v := .bool false) (y_move rfl) (by decide) ?_
        refine OL_yg rfl (by decide) rfl (y_fieldAddr ti78 rfl ti24 rfl h3) (by decide) ?_
        refine OL_yg rfl (by decide) rfl (y_loadS (v := .int .u64 c.txn) ti24 rfl rfl (Cells.unit (H.getOwn 2 rfl) rfl)) (by decide) ?_
        refine OL_yg (v := .bool true) rfl (by decide) rfl (y_eqlT hz rfl rfl) (by decide) ?_
        refine OL_y (y_pick (b := false) (v := .bool true) rfl rfl) (by decide) ?_
        refine OL_nil ?_
        refine W_condt rfl ?_
        refine W_seq ?_
        refine W_region ?_
        refine OL_y (v := .agg #[.int .i64 3, .int .u64 0, .int .u64 0, .bool false, .slice none 0 0, .slice none 0 0, .slice none 0 0]) (y_build ti84 pl84 (by kernel_rfl)) (by decide) ?_
        refine OL_c (op_store (v := .agg #[.int .i64 3, .int .u64 0, .int .u64 0, .bool false, .slice none 0 0, .slice none 0 0, .slice none 0 0]) H 1 rfl ti84 h4 rfl rfl (by decide) (by simp [Value.cells, Value.oneCell']) fun w9_1 H => ?_)
        refine OL_nil ?_
        refine W_ret ?_
        show RetOK _ _ _ _ _ _
        have he : fetchR a c = ⟨3, []⟩ := by unfold fetchR; rw [hf]; exact if_neg fun h => h.1 hz
        exact ret1c Try.results76 h4 (run_loadVarA (cs := [.int .i64 3, .int .u64 0, .int .u64 0, .bool false, .slice none 0 0, .slice none 0 0, .slice none 0 0]) ti84 rfl (Cells.of (H.getOwn 1 rfl) rfl) rfl) ⟨_, F1, w1_3, rfl, H.tail.tail.tail, gr1, by rw [he]; exact res_cells.2 ⟨_, rfl, rfl, SlR.nil _ _ _ _⟩⟩
      · refine W_region ?_
        refine OL_y (y_fieldAddr ti55 rfl ti32 rfl h5) (by decide) ?_
        refine OL_y (y_fieldAddr ti32 rfl ti24 rfl rfl) (by decide) ?_
        refine OL_y (y_loadS (v := .int .u64 (a.i (kb c.lo)).txn) ti24 rfl rfl (Cells.unit (H.getOwn 0 rfl) rfl)) (by decide) ?_
        refine OL_y (y_fieldAddr ti78 rfl ti24 rfl h3) (by decide) ?_
        refine OL_y (y_loadS (v := .int .u64 c.txn) ti24 rfl rfl (Cells.unit (H.getOwn 2 rfl) rfl)) (by decide) ?_
        refine OL_y (v := .bool false) (y_neqF hi rfl rfl) (by decide) ?_
        refine OL_y (v := .bool false) (y_move rfl) (by decide) ?_
        refine OL_yg rfl (by decide) rfl (y_fieldAddr ti78 rfl ti24 rfl h3) (by decide) ?_
        refine OL_yg rfl (by decide) rfl (y_loadS (v := .int .u64 c.txn) ti24 rfl rfl (Cells.unit (H.getOwn 2 rfl) rfl)) (by decide) ?_
        refine OL_yg (v := .bool false) rfl (by decide) rfl (y_eqlF hz rfl rfl) (by decide) ?_
        refine OL_y (y_pick (b := false) (v := .bool false) rfl rfl) (by decide) ?_
        refine OL_nil ?_
        refine W_condf rfl ?_
        refine W_skip ?_
        refine W_seq ?_
        refine W_region ?_
        refine OL_y (y_fieldAddr ti55 rfl ti32 rfl h5) (by decide) ?_
        refine OL_y (y_loadA (cs := [.int .u64 (a.i (kb c.lo)).ts, .int .u64 (a.i (kb c.lo)).txn, .bool (a.i (kb c.lo)).dead, iv7, ik7]) ti32 rfl rfl (Cells.of (H.getOwn 0 rfl) rfl) rfl) (by decide) ?_
        refine OL_var (v := .agg #[.int .u64 (a.i (kb c.lo)).ts, .int .u64 (a.i (kb c.lo)).txn, .bool (a.i (kb c.lo)).dead, iv7, ik7]) H ti32 rfl (by decide) (fun _ => rfl) rfl (tVer.one hi7) fun b8 w10_2 H => ?_
        refine OL_nil ?_
        refine W_seq ?_
        refine W_region ?_
        refine OL_y (y_fieldAddr ti78 rfl ti24 rfl h3) (by decide) ?_
        refine OL_y (y_loadS (v := .int .u64 c.ts) ti24 rfl rfl (Cells.unit (H.getOwn 3 rfl) rfl)) (by decide) ?_
        refine OL_y (y_fieldAddr ti32 rfl ti24 rfl rfl) (by decide) ?_
        refine OL_c (op_store (v := .int .u64 c.ts) H 0 rfl ti24 rfl rfl rfl (Nat.le_of_ble_eq_true rfl) (by simp [Value.cells, Value.oneCell']) fun w11_3 H => ?_)
        refine OL_nil ?_
        refine W_seq ?_
        refine W_region ?_
        refine OL_y (y_fieldAddr ti55 rfl ti23 rfl h5) (by decide) ?_
        refine OL_y (y_loadS (v := .slice ak7 c.lo.length ck7) ti23 rfl rfl (Cells.unit (H.getOwn 1 rfl) rfl)) (by decide) ?_
        refine OL_y (y_loadA (cs := [.int .u64 c.ts, .int .u64 (a.i (kb c.lo)).txn, .bool (a.i (kb c.lo)).dead, iv7, ik7]) ti32 rfl rfl (Cells.of (H.getOwn 0 rfl) rfl) rfl) (by decide) ?_
        refine OL_c (op_buildSlice H [.agg #[.int .u64 c.ts, .int .u64 (a.i (kb c.lo)).txn, .bool (a.i (kb c.lo)).dead, iv7, ik7]] ti53 ti32 rfl rfl rfl (by simp [Value.cells]) rfl rfl (by decide) fun b53 w12_3 H => ?_)
        refine OL_y (v := .agg #[.slice ak7 c.lo.length ck7, .slice (some ⟨b53, 0, none⟩) 1 1, .int .u64 0, .int .u64 0, .bool false, .slice none 0 0, .slice none 0 0]) (y_build ti55 pl55 (by kernel_rfl)) (by decide) ?_
        refine OL_c (op_buildSlice H [.agg #[.slice ak7 c.lo.length ck7, .slice (some ⟨b53, 0, none⟩) 1 1, .int .u64 0, .int .u64 0, .bool false, .slice none 0 0, .slice none 0 0]] ti49 ti55 rfl rfl rfl (by simp [Value.cells]) rfl rfl (by decide) fun b55 w12_5 H => ?_)
        refine OL_y (v := .agg #[.int .i64 0, .int .u64 0, .int .u64 0, .bool false, .slice none 0 0, .slice (some ⟨b55, 0, none⟩) 1 1, .slice none 0 0]) (y_build ti84 pl84 (by kernel_rfl)) (by decide) ?_
        refine OL_c (op_store (v := .agg #[.int .i64 0, .int .u64 0, .int .u64 0, .bool false, .slice none 0 0, .slice (some ⟨b55, 0, none⟩) 1 1, .slice none 0 0]) H 4 rfl ti84 h4 rfl rfl (by decide) (by simp [Value.cells, Value.oneCell']) fun w12_7 H => ?_)
        refine OL_nil ?_
        refine W_ret ?_
        show RetOK _ _ _ _ _ _
        have he : fetchR a c = ⟨0, [⟨c.lo, [(a.i (kb c.lo)).atTs c.ts], noV⟩]⟩ := by unfold fetchR; rw [hf]; exact if_pos ⟨hz, hi⟩
        obtain ⟨iv8, ik8, e8, hi1, hi2, hi3, hi4⟩ := ver_cells.1 hi7
        injection e8 with _ e8; injection e8 with _ e8; injection e8 with _ e8; injection e8 with e8 e9; injection e9 with e9 _
        subst e8 e9
        obtain ⟨F2, W2, H2, g2, hT⟩ := one_cell (P := [_, _, _, _]) (u := (a.i (kb c.lo)).atTs c.ts) H hr1.base hk7 (ver_cells.2 ⟨_, _, rfl, hts, hi2, hi3, hi4⟩)
        exact ret1c Try.results76 h4 (run_loadVarA (cs := [.int .i64 0, .int .u64 0, .int .u64 0, .bool false, .slice none 0 0, .slice (some ⟨b55, 0, none⟩) 1 1, .slice none 0 0]) ti84 rfl (Cells.of (H.getOwn 4 rfl) rfl) rfl) ⟨_, F2, W2, rfl, H2, gr1.trans g2, by rw [he]; exact hT⟩
    · refine W_region ?_
      refine OL_y (y_fieldAddr ti55 rfl ti32 rfl h5) (by decide) ?_
      refine OL_y (y_fieldAddr ti32 rfl ti24 rfl rfl) (by decide) ?_
      refine OL_y (y_loadS (v := .int .u64 (a.i (kb c.lo)).txn) ti24 rfl rfl (Cells.unit (H.getOwn 0 rfl) rfl)) (by decide) ?_
      refine OL_y (y_fieldAddr ti78 rfl ti24 rfl h3) (by decide) ?_
      refine OL_y (y_loadS (v := .int .u64 c.txn) ti24 rfl rfl (Cells.unit (H.getOwn 2 rfl) rfl)) (by decide) ?_
      refine OL_y (v := .bool true) (y_neqT hi rfl rfl) (by decide) ?_
      refine OL_y (v := .bool true) (y_move rfl) (by decide) ?_
      refine OL_s rfl (by decide) rfl rfl (by simp) ?_
      refine OL_s rfl (by decide) rfl rfl (by simp) ?_
      refine OL_s rfl (by decide) rfl rfl (by simp) ?_
      refine OL_y (y_pick (b := true) (v := .bool true) rfl rfl) (by decide) ?_
      refine OL_nil ?_
      refine W_condt rfl ?_
      refine W_seq ?_
      refine W_region ?_
      refine OL_y (v := .agg #[.int .i64 3, .int .u64 0, .int .u64 0, .bool false, .slice none 0 0, .slice none 0 0, .slice none 0 0]) (y_build ti84 pl84 (by kernel_rfl)) (by decide) ?_
      refine OL_c (op_store (v := .agg #[.int .i64 3, .int .u64 0, .int .u64 0, .bool false, .slice none 0 0, .slice none 0 0, .slice none 0 0]) H 1 rfl ti84 h4 rfl rfl (by decide) (by simp [Value.cells, Value.oneCell']) fun w9_1 H => ?_)
      refine OL_nil ?_
      refine W_ret ?_
      show RetOK _ _ _ _ _ _
      have he : fetchR a c = ⟨3, []⟩ := by unfold fetchR; rw [hf]; exact if_neg fun h => hi h.2
      exact ret1c Try.results76 h4 (run_loadVarA (cs := [.int .i64 3, .int .u64 0, .int .u64 0, .bool false, .slice none 0 0, .slice none 0 0, .slice none 0 0]) ti84 rfl (Cells.of (H.getOwn 1 rfl) rfl) rfl) ⟨_, F1, w1_3, rfl, H.tail.tail.tail, gr1, by rw [he]; exact res_cells.2 ⟨_, rfl, rfl, SlR.nil _ _ _ _⟩⟩
end Go.Proofs.Ytpandioolpnihaa

namespace Go.Proofs.Ytpandioolpnihaa
open Go Go.Wk
set_option linter.unusedVariables false
set_option linter.unusedSimpArgs false

set_option maxHeartbeats 16000000 in
theorem f78_calls {w0 w Wp : World} {F : Nat → Prop} {b : Nat} {q v : Value} {R : List RE} {a : Abs} {L : List Atom} {vk : Value} {key : Key} (H : Holds w (sAt b q v R F Wp w0 L)) (hr : RRep w0 F Wp R a) (hk : SlR (tInt .u8) 1 (Dz w0 F) Wp vk key) (hl : R.length ≤ 40000) :
    Calls Try.prog 78 [.pointer (some ⟨b, 0, none⟩), vk].toArray w fun e w' => ∃ cs : List Value, e = .returned (.agg cs.toArray) ∧ tCl.R (Dz w0 F) Wp cs (fullCl a key) ∧ Ext none' w w' := by
  have H0 := H
  have hkP := hk
  have hk := hk.keeps (H0.dz 2 3 rfl rfl hr.base)
  obtain ⟨av, cv, rfl, hlv, hmv⟩ := H0.rowLen 1 rfl
  obtain ⟨ak, ck, rfl, -, -⟩ := hk.len
  have H := Holds.start w
  refine calls_of_W' Try.func78 rfl Try.ntmps78 rfl ?_
  refine W_seq ?_
  refine W_region ?_
  refine OL_c (op_alloc H ti55 (by decide) fun b4 w0_0 H => ?_)
  refine OL_nil ?_
  refine W_seq ?_
  refine W_seq ?_
  refine W_region ?_
  refine OL_y (y_move rfl) (by decide) ?_
  refine OL_y (y_nilCheck rfl ⟨_, rfl⟩) (by decide) ?_
  refine OL_y (y_fieldAddr ti68 rfl ti66 rfl rfl) (by decide) ?_
  refine OL_y (y_fieldAddr ti66 rfl ti49 rfl rfl) (by decide) ?_
  refine OL_y (y_loadS (v := .slice av R.length cv) ti49 rfl rfl (Cells.unit ((H0.ext0 (H.ext_of 1 rfl)).getOwn 0 rfl) rfl)) (by decide) ?_
  refine OL_y (y_len rfl ti49 rfl) (by decide) ?_
  refine OL_y (y_move rfl) (by decide) ?_
  refine OL_nil ?_
  refine W_range (N := R.length) (by simp only [maxLen]; omega) (fun j f ds w' => f 1 = .slice ak key.length ck ∧ f 4 = .pointer (some ⟨b4, 0, none⟩) ∧ f 11 = .slice av R.length cv ∧ ds = [] ∧ (∀ e ∈ R.take j, e.k ≠ kb key) ∧ Holds w' [own b4 (.cells #[.slice none 0 0, .slice none 0 0, .int .u64 0, .int .u64 0, .bool false, .slice none 0 0, .slice none 0 0] 55), shr (fun k => k < w.heap.size) w])
      ⟨rfl, rfl, rfl, rfl, by simp, H⟩
      rfl rfl (by decide) (by decide) (by decide) rfl rfl ?_ rfl rfl ?_
  · rintro j f ds w5 hj ⟨h1, h4, h11, rfl, hok, H⟩ hti htn
    have hxj := List.getElem?_eq_getElem hj
    have hem := List.getElem_mem hj
    have HS := H0.ext0 (H.ext_of 1 rfl)
    obtain ⟨br, cr, hvr, -, -⟩ := ownsRow_cells (HS.getRow 1 rfl) (by omega)
    have hC := rowElAt RE.len (HS.getRow 1 rfl) (b := br) (by rw [hvr]; rfl) hxj
    have hT := hr.good _ hem
    have hone := tCl.one hT
    have hkS := (hr.key hem).keeps (H0.dz 2 3 rfl rfl hr.base)
    have hva := hr.va _ hem
    have hex := hkS.allIn
    have hey := hk.allIn
    generalize R[j] = e at *
    have h11' := h11.trans hvr
    refine W_block ?_
    refine W_seq ?_
    refine W_region ?_
    refine OL_y (y_indexAddr ti49 ti55 h11' hti (by omega) (by omega)) (by decide) ?_
    refine OL_y (y_loadA (cs := [e.vk, e.vs, .int .u64 e.c.intent.ts, .int .u64 e.c.intent.txn, .bool e.c.intent.dead, e.iv, e.ik]) ti55 rfl rfl hC rfl) (by decide) ?_
    refine OL_var (v := .agg #[e.vk, e.vs, .int .u64 e.c.intent.ts, .int .u64 e.c.intent.txn, .bool e.c.intent.dead, e.iv, e.ik]) H ti55 rfl (by decide) (fun _ => rfl) rfl (hone) fun b6 w3_2 H => ?_
    refine OL_nil ?_
    refine W_seq ?_
    refine W_region ?_
    refine OL_y (y_fieldAddr ti55 rfl ti23 rfl rfl) (by decide) ?_
    refine OL_y (y_loadS (v := e.vk) ti23 rfl rfl (Cells.unit (H.getOwn 0 rfl) rfl)) (by decide) ?_
    refine OL_y (y_toStr Try.underlying23 Try.underlying5 Try.underlying9 rfl (hkS.keeps (H.keepsAll 2 rfl _))) (by decide) ?_
    refine OL_y (y_move h1) (by decide) ?_
    refine OL_y (y_toStr Try.underlying23 Try.underlying5 Try.underlying9 rfl (hk.keeps (H.keepsAll 2 rfl _))) (by decide) ?_
    refine OL_y (y_eqlS rfl rfl) (by decide) ?_
    refine OL_nil ?_
    refine W_cond rfl (fun hc => ?_) (fun hc => ?_)
    · refine W_seq ?_
      refine W_region ?_
      refine OL_y (y_loadA (cs := [e.vk, e.vs, .int .u64 e.c.intent.ts, .int .u64 e.c.intent.txn, .bool e.c.intent.dead, e.iv, e.ik]) ti55 rfl rfl (Cells.of (H.getOwn 0 rfl) rfl) rfl) (by decide) ?_
      refine OL_c (op_store (v := .agg #[e.vk, e.vs, .int .u64 e.c.intent.ts, .int .u64 e.c.intent.txn, .bool e.c.intent.dead, e.iv, e.ik]) H 1 rfl ti55 h4 rfl rfl (by decide) hone fun w5_1 H => ?_)
      refine OL_nil ?_
      refine W_ret ?_
      show RetOK _ _ _ _ _ _
      have hke : kb e.c.key = kb key := of_decide_eq_true hc
      have hkk : e.c.key = key := kb_inj hex hey hke
      exact ret1c Try.results78 h4 (run_loadVarA (cs := e.cs) ti55 rfl (Cells.of (H.getOwn 1 rfl) rfl) rfl) ⟨_, rfl, by unfold fullCl; rw [← hkk, hva.1, hva.2]; exact hT, H.ext_of 2 rfl⟩
    · refine W_skip ?_
      have hke : ¬ kb e.c.key = kb key := of_decide_eq_false hc
      refine ⟨hti, htn, h1, h4, h11, rfl, fun y hy => ?_, H.tail⟩
      rw [List.take_add_one, hxj] at hy
      rcases List.mem_append.1 hy with hy | hy
      · exact hok y hy
      · have : y = e := by simpa using hy
        rw [this]; exact hke
  · rintro f ds w5 ⟨h1, h4, h11, rfl, hok, H⟩ hti htn
    rw [List.take_length] at hok
    have hno := hr.vn (kb key) fun hin => by obtain ⟨e, he, h⟩ := List.mem_map.1 hin; exact hok e he h
    refine W_seq ?_
    refine W_region ?_
    refine OL_y (y_move h1) (by decide) ?_
    refine OL_y (v := .agg #[.slice ak key.length ck, .slice none 0 0, .int .u64 0, .int .u64 0, .bool false, .slice none 0 0, .slice none 0 0]) (y_build ti55 pl55 (by kernel_rfl)) (by decide) ?_
    refine OL_c (op_store (v := .agg #[.slice ak key.length ck, .slice none 0 0, .int .u64 0, .int .u64 0, .bool false, .slice none 0 0, .slice none 0 0]) H 0 rfl ti55 h4 rfl rfl (by decide) (by simp [Value.cells, Value.oneCell']) fun w7_2 H => ?_)
    refine OL_nil ?_
    refine W_ret ?_
    show RetOK _ _ _ _ _ _
    exact ret1c Try.results78 h4 (run_loadVarA (cs := [.slice ak key.length ck, .slice none 0 0, .int .u64 0, .int .u64 0, .bool false, .slice none 0 0, .slice none 0 0]) ti55 rfl (Cells.of (H.getOwn 0 rfl) rfl) rfl) ⟨_, rfl, by unfold fullCl; rw [hno.1, hno.2]; exact cl_cells.2 ⟨_, _, _, rfl, hkP, SlR.nil _ _ _ _, ver_cells.2 ⟨_, _, rfl, rfl, rfl, SlR.nil _ _ _ _, SlR.nil _ _ _ _⟩⟩, H.ext_of 1 rfl⟩
end Go.Proofs.Ytpandioolpnihaa

namespace Go.Proofs.Ytpandioolpnihaa
open Go Go.Wk
set_option linter.unusedVariables false
set_option linter.unusedSimpArgs false

section
variable {W w0 Wp : World} {F : Nat → Prop} {b : Nat} {q v : Value} {R : List RE} {x y z u t : Atom} {L : List Atom}
theorem sInL (P : List Atom) (H : Holds W (P ++ sAt b q v R F Wp w0 L)) : Holds W (sAt b q v R F Wp w0 (P ++ L)) := by
  refine H.perm ?_
  have e : ∀ Y, sAt b q v R F Wp w0 Y = sAt b q v R F Wp w0 [] ++ Y := fun Y => by simp
  rw [e L, e (P ++ L), ← List.append_assoc, ← List.append_assoc]
  exact List.perm_append_comm.append_right L
theorem sOutL (P : List Atom) (H : Holds W (sAt b q v R F Wp w0 (P ++ L))) : Holds W (P ++ sAt b q v R F Wp w0 L) := by
  refine H.perm ?_
  have e : ∀ Y, sAt b q v R F Wp w0 Y = sAt b q v R F Wp w0 [] ++ Y := fun Y => by simp
  rw [e L, e (P ++ L), ← List.append_assoc, ← List.append_assoc]
  exact List.perm_append_comm.append_right L
theorem sIn2 (H : Holds W (x :: y :: sAt b q v R F Wp w0 L)) : Holds W (sAt b q v R F Wp w0 (x :: y :: L)) := sInL [x, y] H
theorem sOut2 (H : Holds W (sAt b q v R F Wp w0 (x :: y :: L))) : Holds W (x :: y :: sAt b q v R F Wp w0 L) := sOutL [x, y] H
theorem sIn3 (H : Holds W (x :: y :: z :: sAt b q v R F Wp w0 L)) : Holds W (sAt b q v R F Wp w0 (x :: y :: z :: L)) := sInL [x, y, z] H
theorem sOut3 (H : Holds W (sAt b q v R F Wp w0 (x :: y :: z :: L))) : Holds W (x :: y :: z :: sAt b q v R F Wp w0 L) := sOutL [x, y, z] H
end

set_option maxHeartbeats 16000000 in
theorem f77_calls {w0 w Wp : World} {F : Nat → Prop} {rb : Nat} {qv v : Value} {R : List RE} {a : Abs} {L : List Atom} {cs : List Value} {c : Cmd} (H : Holds w (sAt rb qv v R F Wp w0 L)) (hr : RRep w0 F Wp R a) (hRl : R.length ≤ 30000) (hc : tCmd.R (Dz w0 F) Wp cs c) (hwn : c.writes.length ≤ 1000) :
    Calls Try.prog 77 [.pointer (some ⟨rb, 0, none⟩), .agg cs.toArray].toArray w fun e w' => e = .returned (.int .i64 (prepE a c)) ∧ ∃ (v' : Value) (R' : List RE) (F' : Nat → Prop) (Wp' : World), Holds w' (sAt rb qv v' R' F' Wp' w0 L) ∧ RRep w0 F' Wp' R' (prepA a c) ∧ Grow w0 F Wp F' Wp' ∧ R'.length ≤ R.length + c.writes.length := by
  obtain ⟨vll, vlh, vlo, vhi, vtx, vwr, vke, vco, vix, rfl, hcl, hsq, hkd, htx, hts, hlk, hlo, hhi, htxs, hwr, hke, htb⟩ := cmd_cells.1 hc
  obtain ⟨aw, cw, rfl, hlw, hmw⟩ := hwr.len
  obtain ⟨ake, cke, rfl, -, -⟩ := hke.len
  generalize hfl : c.flag = fl at *
  refine calls_of_W' Try.func77 rfl Try.ntmps77 rfl ?_
  refine W_seq ?_
  refine W_region ?_
  refine OL_c (op_box (v := .agg #[.int .u64 c.client, .int .u64 c.seq, .int .i64 c.kind, .int .u64 c.txn, .int .u64 c.ts, .bool fl, .int .u64 c.lk.txn, .int .i64 c.lk.level, .int .i64 c.lk.mode, vll, vlh, vlo, vhi, vtx, .slice aw c.writes.length cw, .slice ake c.keys.length cke, .int .i64 c.tb.id, .string c.tb.name, vco, .int .i64 c.tb.key, vix]) H rfl (by decide) fun b3 w0_0 H => ?_)
  refine OL_y (y_assign rfl) (by decide) ?_
  refine OL_nil ?_
  refine W_seq ?_
  refine W_seq ?_
  by_cases hz : c.txn = 0
  · refine W_region ?_
    refine OL_y (y_fieldAddr ti78 rfl ti24 rfl rfl) (by decide) ?_
    refine OL_y (y_loadS (v := .int .u64 c.txn) ti24 rfl rfl (Cells.unit (H.getOwn 0 rfl) rfl)) (by decide) ?_
    refine OL_y (v := .bool true) (y_eqlT hz rfl rfl) (by decide) ?_
    refine OL_nil ?_
    refine W_condt rfl ?_
    refine W_seq ?_
    refine W_region ?_
    refine OL_y (y_assign rfl) (by decide) ?_
    refine OL_nil ?_
    refine W_ret ?_
    show RetOK _ _ _ _ _ _
    have he : prepE a c = 150 := if_pos hz
    exact ret1 (v := .int .i64 150) Try.results77 rfl ⟨by rw [he], v, R, F, Wp, H.tail, by rw [prepA_no (by rw [he]; decide)]; exact hr, Grow.refl hr.base, Nat.le_add_right _ _⟩
  · refine W_region ?_
    refine OL_y (y_fieldAddr ti78 rfl ti24 rfl rfl) (by decide) ?_
    refine OL_y (y_loadS (v := .int .u64 c.txn) ti24 rfl rfl (Cells.unit (H.getOwn 0 rfl) rfl)) (by decide) ?_
    refine OL_y (v := .bool false) (y_eqlF hz rfl rfl) (by decide) ?_
    refine OL_nil ?_
    refine W_condf rfl ?_
    refine W_skip ?_
    refine W_seq ?_
    refine W_seq ?_
    refine W_region ?_
    refine OL_y (y_fieldAddr ti78 rfl ti72 rfl rfl) (by decide) ?_
    refine OL_y (y_loadS (v := .slice aw c.writes.length cw) ti72 rfl rfl (Cells.unit (H.getOwn 0 rfl) rfl)) (by decide) ?_
    refine OL_y (y_len rfl ti72 rfl) (by decide) ?_
    refine OL_y (y_move rfl) (by decide) ?_
    refine OL_nil ?_
    refine W_range (N := c.writes.length) (by simp only [maxLen] at hmw ⊢; omega) (fun j f ds w' => f 0 = .pointer (some ⟨rb, 0, none⟩) ∧ f 3 = .pointer (some ⟨b3, 0, none⟩) ∧ f 14 = .slice aw c.writes.length cw ∧ ds = [] ∧ (∀ x ∈ c.writes.take j, bars a c x = 0) ∧ Holds w' (own b3 (.cells #[.int .u64 c.client, .int .u64 c.seq, .int .i64 c.kind, .int .u64 c.txn, .int .u64 c.ts, .bool fl, .int .u64 c.lk.txn, .int .i64 c.lk.level, .int .i64 c.lk.mode, vll, vlh, vlo, vhi, vtx, .slice aw c.writes.length cw, .slice ake c.keys.length cke, .int .i64 c.tb.id, .string c.tb.name, vco, .int .i64 c.tb.key, vix] 78) :: sAt rb qv v R F Wp w0 L))
        ⟨rfl, rfl, rfl, rfl, by simp, H⟩
        rfl rfl (by decide) (by decide) (by decide) rfl rfl ?_ rfl rfl ?_
    · rintro j f ds w5 hj ⟨h0, h3, h14, rfl, hok, H⟩ hti htn
      have hxj := List.getElem?_eq_getElem hj
      generalize c.writes[j] = x at *
      obtain ⟨b9, o9, cs9, e9, hz9, hc9, hr9⟩ := hwr.at hxj
      have hc9' := hc9.ext ((H.dz 3 4 rfl rfl hr.base).2 _ hz9 hc9.lt)
      have hone9 := tWr.one hr9
      obtain ⟨vk, vv, rfl, hk9, hv9⟩ := wr_cells.1 hr9
      have h14' := h14.trans (congrArg (Value.slice · _ _) e9)
      refine W_block ?_
      refine W_seq ?_
      refine W_region ?_
      refine OL_y (y_indexAddr ti72 ti89 h14' hti (by omega) (by omega)) (by decide) ?_
      refine OL_y (y_loadA (cs := [vk, .bool x.dead, vv]) ti89 rfl rfl hc9' rfl) (by decide) ?_
      refine OL_var (v := .agg #[vk, .bool x.dead, vv]) H ti89 rfl (by decide) (fun _ => rfl) rfl (hone9) fun b6 w5_2 H => ?_
      refine OL_nil ?_
      refine W_seq ?_
      refine W_region ?_
      refine OL_y (y_move h0) (by decide) ?_
      refine OL_y (y_fieldAddr ti89 rfl ti23 rfl rfl) (by decide) ?_
      refine OL_y (y_loadS (v := vk) ti23 rfl rfl (Cells.unit (H.getOwn 0 rfl) rfl)) (by decide) ?_
      refine OL_c (op_call 78 en78 rfl [.pointer (some ⟨rb, 0, none⟩), vk] rfl (by decide) ((f78_calls H.tail.tail hr hk9 (by omega)).mono ?_))
      rintro e w6_3 ⟨cs7, rfl, hT7, hE78⟩
      refine ⟨_, rfl, ?_⟩
      have H := H.ext0 hE78
      have hone7 := tCl.one hT7
      obtain ⟨vk7, vs7, is7, rfl, hk7, hv7, hi7⟩ := cl_cells.1 hT7
      obtain ⟨iv7, ik7, rfl, -⟩ := ver_cells.1 hi7
      have hv7 : SlR tVer 72 (Dz w0 F) Wp vs7 (a.v (kb x.key)) := hv7
      obtain ⟨a7, c7, rfl, -, -⟩ := hv7.len
      generalize hvs : a.v (kb x.key) = vs at *
      generalize hit : a.i (kb x.key) = it at *
      have hone7 : ∀ u ∈ [vk7, .slice a7 vs.length c7, .int .u64 it.ts, .int .u64 it.txn, .bool it.dead, iv7, ik7], u.oneCell' = true := by rw [← hit]; exact hone7
      rw [show (fullCl a x.key).intent = it from hit]
      refine OL_var (v := .agg #[vk7, .slice a7 vs.length c7, .int .u64 it.ts, .int .u64 it.txn, .bool it.dead, iv7, ik7]) H ti55 rfl (by decide) (fun _ => rfl) rfl (hone7) fun b7 w6_4 H => ?_
      refine OL_nil ?_
      refine W_seq ?_
      refine W_seq ?_
      by_cases hp : it.txn = 0
      · refine W_region ?_
        refine OL_y (y_fieldAddr ti55 rfl ti32 rfl rfl) (by decide) ?_
        refine OL_y (y_fieldAddr ti32 rfl ti24 rfl rfl) (by decide) ?_
        refine OL_y (y_loadS (v := .int .u64 it.txn) ti24 rfl rfl (Cells.unit (H.getOwn 0 rfl) rfl)) (by decide) ?_
        refine OL_y (v := .bool false) (y_neqF hp rfl rfl) (by decide) ?_
        refine OL_y (v := .bool false) (y_move rfl) (by decide) ?_
        refine OL_s rfl (by decide) rfl rfl (by simp) ?_
        refine OL_s rfl (by decide) rfl rfl (by simp) ?_
        refine OL_s rfl (by decide) rfl rfl (by simp) ?_
        refine OL_s rfl (by decide) rfl rfl (by simp) ?_
        refine OL_s rfl (by decide) rfl rfl (by simp) ?_
        refine OL_s rfl (by decide) rfl rfl (by simp) ?_
        refine OL_y (y_pick (b := false) (v := .bool false) rfl rfl) (by decide) ?_
        refine OL_nil ?_
        refine W_condf rfl ?_
        refine W_skip ?_
        refine W_seq ?_
        rcases fl with _ | _
        · refine W_drawQ H mixed (by kernel_rfl) (by kernel_rfl) fun wd9 H => ?_
          refine QL_y (y_fieldAddr ti78 rfl ti4 rfl h3) (by decide) ?_
          refine QL_y (y_loadS (v := .bool false) ti4 rfl rfl (Cells.unit (H.getOwn 2 rfl) rfl)) (by decide) ?_
          refine QL_y (v := .bool false) (y_move rfl) (by decide) ?_
          refine QL_s rfl (by decide) rfl rfl (by simp) ?_
          refine QL_s rfl (by decide) rfl rfl (by simp) ?_
          refine QL_s rfl (by decide) rfl rfl (by simp) ?_
          refine QL_s rfl (by decide) rfl rfl (by simp) ?_
          refine QL_y (y_pick (b := false) (v := .bool false) rfl rfl) (by decide) ?_
          refine QL_y (v := .bool false) (y_move rfl) (by decide) ?_
          refine QL_s rfl (by decide) rfl rfl (by simp) ?_
          refine QL_s rfl (by decide) rfl rfl (by simp) ?_
          refine QL_s rfl (by decide) rfl rfl (by simp) ?_
          refine QL_s rfl (by decide) rfl rfl (by simp) ?_
          refine QL_s rfl (by decide) rfl rfl (by simp) ?_
          refine QL_s rfl (by decide) rfl rfl (by simp) ?_
          refine QL_s rfl (by decide) rfl rfl (by simp) ?_
          refine QL_s rfl (by decide) rfl rfl (by simp) ?_
          refine QL_y (y_pick (b := false) (v := .bool false) rfl rfl) (by decide) ?_
          refine QL_nil ?_
          refine W_condf rfl ?_
          refine W_skip ?_
          have hb : bars a c x = 0 := bars_none (by rw [hit]; first | exact .inl hp | exact .inr hq) (.inl hfl)
          exact ⟨hti, htn, h0, h3, h14, rfl, take_all hxj hok hb, H.tail.tail⟩
        · rcases vs with _ | ⟨u, us⟩
          · refine W_drawQ H mixed (by kernel_rfl) (by kernel_rfl) fun wd9 H => ?_
            refine QL_y (y_fieldAddr ti78 rfl ti4 rfl h3) (by decide) ?_
            refine QL_y (y_loadS (v := .bool true) ti4 rfl rfl (Cells.unit (H.getOwn 2 rfl) rfl)) (by decide) ?_
            refine QL_y (v := .bool true) (y_move rfl) (by decide) ?_
            refine QL_yg rfl (by decide) rfl (y_fieldAddr ti55 rfl ti53 rfl rfl) (by decide) ?_
            refine QL_yg rfl (by decide) rfl (y_loadS (v := .slice a7 ([] : List Ver).length c7) ti53 rfl rfl (Cells.unit (H.getOwn 0 rfl) rfl)) (by decide) ?_
            refine QL_yg rfl (by decide) rfl (y_len rfl ti53 rfl) (by decide) ?_
            refine QL_yg (v := .bool false) rfl (by decide) rfl (y_gtrF (show ¬ ((0 : Int) < ((([] : List Ver).length : Nat) : Int)) by simp) rfl rfl) (by decide) ?_
            refine QL_y (y_pick (b := true) (v := .bool false) rfl rfl) (by decide) ?_
            refine QL_y (v := .bool false) (y_move rfl) (by decide) ?_
            refine QL_s rfl (by decide) rfl rfl (by simp) ?_
            refine QL_s rfl (by decide) rfl rfl (by simp) ?_
            refine QL_s rfl (by decide) rfl rfl (by simp) ?_
            refine QL_s rfl (by decide) rfl rfl (by simp) ?_
            refine QL_s rfl (by decide) rfl rfl (by simp) ?_
            refine QL_s rfl (by decide) rfl rfl (by simp) ?_
            refine QL_s rfl (by decide) rfl rfl (by simp) ?_
            refine QL_s rfl (by decide) rfl rfl (by simp) ?_
            refine QL_y (y_pick (b := false) (v := .bool false) rfl rfl) (by decide) ?_
            refine QL_nil ?_
            refine W_condf rfl ?_
            refine W_skip ?_
            have hb : bars a c x = 0 := bars_none (by rw [hit]; first | exact .inl hp | exact .inr hq) (.inr (by rw [hvs]; rfl))
            exact ⟨hti, htn, h0, h3, h14, rfl, take_all hxj hok hb, H.tail.tail⟩
          · by_cases ht : c.ts < u.ts
            · refine W_drawQ H mixed (by kernel_rfl) (by kernel_rfl) fun wd9 H => ?_
              obtain ⟨b8, o8, cs8, e8, hz8, hc8, hr8⟩ := hv7.at (i := 0) rfl
              have hc8' := hc8.ext ((H.dz 5 6 rfl rfl hr.base).2 _ hz8 hc8.lt)
              obtain ⟨uv8, uk8, rfl, -⟩ := ver_cells.1 hr8
              refine QL_y (y_fieldAddr ti78 rfl ti4 rfl h3) (by decide) ?_
              refine QL_y (y_loadS (v := .bool true) ti4 rfl rfl (Cells.unit (H.getOwn 2 rfl) rfl)) (by decide) ?_
              refine QL_y (v := .bool true) (y_move rfl) (by decide) ?_
              refine QL_yg rfl (by decide) rfl (y_fieldAddr ti55 rfl ti53 rfl rfl) (by decide) ?_
              refine QL_yg rfl (by decide) rfl (y_loadS (v := .slice a7 (u :: us).length c7) ti53 rfl rfl (Cells.unit (H.getOwn 0 rfl) rfl)) (by decide) ?_
              refine QL_yg rfl (by decide) rfl (y_len rfl ti53 rfl) (by decide) ?_
              refine QL_yg (v := .bool true) rfl (by decide) rfl (y_gtrT (show (0 : Int) < (((u :: us).length : Nat) : Int) by simp only [List.length_cons]; omega) rfl rfl) (by decide) ?_
              refine QL_y (y_pick (b := true) (v := .bool true) rfl rfl) (by decide) ?_
              refine QL_y (v := .bool true) (y_move rfl) (by decide) ?_
              refine QL_yg rfl (by decide) rfl (y_fieldAddr ti55 rfl ti53 rfl rfl) (by decide) ?_
              refine QL_yg rfl (by decide) rfl (y_loadS (v := .slice a7 (u :: us).length c7) ti53 rfl rfl (Cells.unit (H.getOwn 0 rfl) rfl)) (by decide) ?_
              refine QL_yg rfl (by decide) rfl (y_indexAddr ti53 ti32 (congrArg (Value.slice · _ _) e8) rfl (by simp) (by simp)) (by decide) ?_
              refine QL_yg rfl (by decide) rfl (y_fieldAddr ti32 rfl ti24 rfl rfl) (by decide) ?_
              refine QL_yg rfl (by decide) rfl (y_loadS (v := .int .u64 u.ts) ti24 rfl rfl (hc8'.take (xs := [.int .u64 u.ts]) 0 rfl)) (by decide) ?_
              refine QL_yg rfl (by decide) rfl (y_fieldAddr ti78 rfl ti24 rfl h3) (by decide) ?_
              refine QL_yg rfl (by decide) rfl (y_loadS (v := .int .u64 c.ts) ti24 rfl rfl (Cells.unit (H.getOwn 2 rfl) rfl)) (by decide) ?_
              refine QL_yg (v := .bool true) rfl (by decide) rfl (y_gtrT ht rfl rfl) (by decide) ?_
              refine QL_y (y_pick (b := true) (v := .bool true) rfl rfl) (by decide) ?_
              refine QL_nil ?_
              refine W_condt rfl ?_
              refine W_seq ?_
              refine W_region ?_
              refine OL_y (y_assign rfl) (by decide) ?_
              refine OL_nil ?_
              refine W_ret ?_
              show RetOK _ _ _ _ _ _
              have hb : bars a c x = 160 := bars_stale (by rw [hit]; first | exact .inl hp | exact .inr hq) hfl (by rw [hvs]; exact decide_eq_true ht)
              have he : prepE a c = 160 := by unfold prepE; rw [if_neg hz, prepW_at hxj hok (by rw [hb]; decide), hb]
              exact ret1 (v := .int .i64 160) Try.results77 rfl ⟨by rw [he], v, R, F, Wp, H.tail.tail.tail, by rw [prepA_no (by rw [he]; decide)]; exact hr, Grow.refl hr.base, Nat.le_add_right _ _⟩
            · refine W_drawQ H mixed (by kernel_rfl) (by kernel_rfl) fun wd9 H => ?_
              obtain ⟨b8, o8, cs8, e8, hz8, hc8, hr8⟩ := hv7.at (i := 0) rfl
              have hc8' := hc8.ext ((H.dz 5 6 rfl rfl hr.base).2 _ hz8 hc8.lt)
              obtain ⟨uv8, uk8, rfl, -⟩ := ver_cells.1 hr8
              refine QL_y (y_fieldAddr ti78 rfl ti4 rfl h3) (by decide) ?_
              refine QL_y (y_loadS (v := .bool true) ti4 rfl rfl (Cells.unit (H.getOwn 2 rfl) rfl)) (by decide) ?_
              refine QL_y (v := .bool true) (y_move rfl) (by decide) ?_
              refine QL_yg rfl (by decide) rfl (y_fieldAddr ti55 rfl ti53 rfl rfl) (by decide) ?_
              refine QL_yg rfl (by decide) rfl (y_loadS (v := .slice a7 (u :: us).length c7) ti53 rfl rfl (Cells.unit (H.getOwn 0 rfl) rfl)) (by decide) ?_
              refine QL_yg rfl (by decide) rfl (y_len rfl ti53 rfl) (by decide) ?_
              refine QL_yg (v := .bool true) rfl (by decide) rfl (y_gtrT (show (0 : Int) < (((u :: us).length : Nat) : Int) by simp only [List.length_cons]; omega) rfl rfl) (by decide) ?_
              refine QL_y (y_pick (b := true) (v := .bool true) rfl rfl) (by decide) ?_
              refine QL_y (v := .bool true) (y_move rfl) (by decide) ?_
              refine QL_yg rfl (by decide) rfl (y_fieldAddr ti55 rfl ti53 rfl rfl) (by decide) ?_
              refine QL_yg rfl (by decide) rfl (y_loadS (v := .slice a7 (u :: us).length c7) ti53 rfl rfl (Cells.unit (H.getOwn 0 rfl) rfl)) (by decide) ?_
              refine QL_yg rfl (by decide) rfl (y_indexAddr ti53 ti32 (congrArg (Value.slice · _ _) e8) rfl (by simp) (by simp)) (by decide) ?_
              refine QL_yg rfl (by decide) rfl (y_fieldAddr ti32 rfl ti24 rfl rfl) (by decide) ?_
              refine QL_yg rfl (by decide) rfl (y_loadS (v := .int .u64 u.ts) ti24 rfl rfl (hc8'.take (xs := [.int .u64 u.ts]) 0 rfl)) (by decide) ?_
              refine QL_yg rfl (by decide) rfl (y_fieldAddr ti78 rfl ti24 rfl h3) (by decide) ?_
              refine QL_yg rfl (by decide) rfl (y_loadS (v := .int .u64 c.ts) ti24 rfl rfl (Cells.unit (H.getOwn 2 rfl) rfl)) (by decide) ?_
              refine QL_yg (v := .bool false) rfl (by decide) rfl (y_gtrF ht rfl rfl) (by decide) ?_
              refine QL_y (y_pick (b := true) (v := .bool false) rfl rfl) (by decide) ?_
              refine QL_nil ?_
              refine W_condf rfl ?_
              refine W_skip ?_
              have hb : bars a c x = 0 := bars_none (by rw [hit]; first | exact .inl hp | exact .inr hq) (.inr (by rw [hvs]; exact decide_eq_false ht))
              exact ⟨hti, htn, h0, h3, h14, rfl, take_all hxj hok hb, H.tail.tail⟩
      · by_cases hq : it.txn = c.txn
        · refine W_region ?_
          refine OL_y (y_fieldAddr ti55 rfl ti32 rfl rfl) (by decide) ?_
          refine OL_y (y_fieldAddr ti32 rfl ti24 rfl rfl) (by decide) ?_
          refine OL_y (y_loadS (v := .int .u64 it.txn) ti24 rfl rfl (Cells.unit (H.getOwn 0 rfl) rfl)) (by decide) ?_
          refine OL_y (v := .bool true) (y_neqT hp rfl rfl) (by decide) ?_
          refine OL_y (v := .bool true) (y_move rfl) (by decide) ?_
          refine OL_yg rfl (by decide) rfl (y_fieldAddr ti55 rfl ti32 rfl rfl) (by decide) ?_
          refine OL_yg rfl (by decide) rfl (y_fieldAddr ti32 rfl ti24 rfl rfl) (by decide) ?_
          refine OL_yg rfl (by decide) rfl (y_loadS (v := .int .u64 it.txn) ti24 rfl rfl (Cells.unit (H.getOwn 0 rfl) rfl)) (by decide) ?_
          refine OL_yg rfl (by decide) rfl (y_fieldAddr ti78 rfl ti24 rfl h3) (by decide) ?_
          refine OL_yg rfl (by decide) rfl (y_loadS (v := .int .u64 c.txn) ti24 rfl rfl (Cells.unit (H.getOwn 2 rfl) rfl)) (by decide) ?_
          refine OL_yg (v := .bool false) rfl (by decide) rfl (y_neqF hq rfl rfl) (by decide) ?_
          refine OL_y (y_pick (b := true) (v := .bool false) rfl rfl) (by decide) ?_
          refine OL_nil ?_
          refine W_condf rfl ?_
          refine W_skip ?_
          refine W_seq ?_
          rcases fl with _ | _
          · refine W_drawQ H mixed (by kernel_rfl) (by kernel_rfl) fun wd9 H => ?_
            refine QL_y (y_fieldAddr ti78 rfl ti4 rfl h3) (by decide) ?_
            refine QL_y (y_loadS (v := .bool false) ti4 rfl rfl (Cells.unit (H.getOwn 2 rfl) rfl)) (by decide) ?_
            refine QL_y (v := .bool false) (y_move rfl) (by decide) ?_
            refine QL_s rfl (by decide) rfl rfl (by simp) ?_
            refine QL_s rfl (by decide) rfl rfl (by simp) ?_
            refine QL_s rfl (by decide) rfl rfl (by simp) ?_
            refine QL_s rfl (by decide) rfl rfl (by simp) ?_
            refine QL_y (y_pick (b := false) (v := .bool false) rfl rfl) (by decide) ?_
            refine QL_y (v := .bool false) (y_move rfl) (by decide) ?_
            refine QL_s rfl (by decide) rfl rfl (by simp) ?_
            refine QL_s rfl (by decide) rfl rfl (by simp) ?_
            refine QL_s rfl (by decide) rfl rfl (by simp) ?_
            refine QL_s rfl (by decide) rfl rfl (by simp) ?_
            refine QL_s rfl (by decide) rfl rfl (by simp) ?_
            refine QL_s rfl (by decide) rfl rfl (by simp) ?_
            refine QL_s rfl (by decide) rfl rfl (by simp) ?_
            refine QL_s rfl (by decide) rfl rfl (by simp) ?_
            refine QL_y (y_pick (b := false) (v := .bool false) rfl rfl) (by decide) ?_
            refine QL_nil ?_
            refine W_condf rfl ?_
            refine W_skip ?_
            have hb : bars a c x = 0 := bars_none (by rw [hit]; first | exact .inl hp | exact .inr hq) (.inl hfl)
            exact ⟨hti, htn, h0, h3, h14, rfl, take_all hxj hok hb, H.tail.tail⟩
          · rcases vs with _ | ⟨u, us⟩
            · refine W_drawQ H mixed (by kernel_rfl) (by kernel_rfl) fun wd9 H => ?_
              refine QL_y (y_fieldAddr ti78 rfl ti4 rfl h3) (by decide) ?_
              refine QL_y (y_loadS (v := .bool true) ti4 rfl rfl (Cells.unit (H.getOwn 2 rfl) rfl)) (by decide) ?_
              refine QL_y (v := .bool true) (y_move rfl) (by decide) ?_
              refine QL_yg rfl (by decide) rfl (y_fieldAddr ti55 rfl ti53 rfl rfl) (by decide) ?_
              refine QL_yg rfl (by decide) rfl (y_loadS (v := .slice a7 ([] : List Ver).length c7) ti53 rfl rfl (Cells.unit (H.getOwn 0 rfl) rfl)) (by decide) ?_
              refine QL_yg rfl (by decide) rfl (y_len rfl ti53 rfl) (by decide) ?_
              refine QL_yg (v := .bool false) rfl (by decide) rfl (y_gtrF (show ¬ ((0 : Int) < ((([] : List Ver).length : Nat) : Int)) by simp) rfl rfl) (by decide) ?_
              refine QL_y (y_pick (b := true) (v := .bool false) rfl rfl) (by decide) ?_
              refine QL_y (v := .bool false) (y_move rfl) (by decide) ?_
              refine QL_s rfl (by decide) rfl rfl (by simp) ?_
              refine QL_s rfl (by decide) rfl rfl (by simp) ?_
              refine QL_s rfl (by decide) rfl rfl (by simp) ?_
              refine QL_s rfl (by decide) rfl rfl (by simp) ?_
              refine QL_s rfl (by decide) rfl rfl (by simp) ?_
              refine QL_s rfl (by decide) rfl rfl (by simp) ?_
              refine QL_s rfl (by decide) rfl rfl (by simp) ?_
              refine QL_s rfl (by decide) rfl rfl (by simp) ?_
              refine QL_y (y_pick (b := false) (v := .bool false) rfl rfl) (by decide) ?_
              refine QL_nil ?_
              refine W_condf rfl ?_
              refine W_skip ?_
              have hb : bars a c x = 0 := bars_none (by rw [hit]; first | exact .inl hp | exact .inr hq) (.inr (by rw [hvs]; rfl))
              exact ⟨hti, htn, h0, h3, h14, rfl, take_all hxj hok hb, H.tail.tail⟩
            · by_cases ht : c.ts < u.ts
              · refine W_drawQ H mixed (by kernel_rfl) (by kernel_rfl) fun wd9 H => ?_
                obtain ⟨b8, o8, cs8, e8, hz8, hc8, hr8⟩ := hv7.at (i := 0) rfl
                have hc8' := hc8.ext ((H.dz 5 6 rfl rfl hr.base).2 _ hz8 hc8.lt)
                obtain ⟨uv8, uk8, rfl, -⟩ := ver_cells.1 hr8
                refine QL_y (y_fieldAddr ti78 rfl ti4 rfl h3) (by decide) ?_
                refine QL_y (y_loadS (v := .bool true) ti4 rfl rfl (Cells.unit (H.getOwn 2 rfl) rfl)) (by decide) ?_
                refine QL_y (v := .bool true) (y_move rfl) (by decide) ?_
                refine QL_yg rfl (by decide) rfl (y_fieldAddr ti55 rfl ti53 rfl rfl) (by decide) ?_
                refine QL_yg rfl (by decide) rfl (y_loadS (v := .slice a7 (u :: us).length c7) ti53 rfl rfl (Cells.unit (H.getOwn 0 rfl) rfl)) (by decide) ?_
                refine QL_yg rfl (by decide) rfl (y_len rfl ti53 rfl) (by decide) ?_
                refine QL_yg (v := .bool true) rfl (by decide) rfl (y_gtrT (show (0 : Int) < (((u :: us).length : Nat) : Int) by simp only [List.length_cons]; omega) rfl rfl) (by decide) ?_
                refine QL_y (y_pick (b := true) (v := .bool true) rfl rfl) (by decide) ?_
                refine QL_y (v := .bool true) (y_move rfl) (by decide) ?_
                refine QL_yg rfl (by decide) rfl (y_fieldAddr ti55 rfl ti53 rfl rfl) (by decide) ?_
                refine QL_yg rfl (by decide) rfl (y_loadS (v := .slice a7 (u :: us).length c7) ti53 rfl rfl (Cells.unit (H.getOwn 0 rfl) rfl)) (by decide) ?_
                refine QL_yg rfl (by decide) rfl (y_indexAddr ti53 ti32 (congrArg (Value.slice · _ _) e8) rfl (by simp) (by simp)) (by decide) ?_
                refine QL_yg rfl (by decide) rfl (y_fieldAddr ti32 rfl ti24 rfl rfl) (by decide) ?_
                refine QL_yg rfl (by decide) rfl (y_loadS (v := .int .u64 u.ts) ti24 rfl rfl (hc8'.take (xs := [.int .u64 u.ts]) 0 rfl)) (by decide) ?_
                refine QL_yg rfl (by decide) rfl (y_fieldAddr ti78 rfl ti24 rfl h3) (by decide) ?_
                refine QL_yg rfl (by decide) rfl (y_loadS (v := .int .u64 c.ts) ti24 rfl rfl (Cells.unit (H.getOwn 2 rfl) rfl)) (by decide) ?_
                refine QL_yg (v := .bool true) rfl (by decide) rfl (y_gtrT ht rfl rfl) (by decide) ?_
                refine QL_y (y_pick (b := true) (v := .bool true) rfl rfl) (by decide) ?_
                refine QL_nil ?_
                refine W_condt rfl ?_
                refine W_seq ?_
                refine W_region ?_
                refine OL_y (y_assign rfl) (by decide) ?_
                refine OL_nil ?_
                refine W_ret ?_
                show RetOK _ _ _ _ _ _
                have hb : bars a c x = 160 := bars_stale (by rw [hit]; first | exact .inl hp | exact .inr hq) hfl (by rw [hvs]; exact decide_eq_true ht)
                have he : prepE a c = 160 := by unfold prepE; rw [if_neg hz, prepW_at hxj hok (by rw [hb]; decide), hb]
                exact ret1 (v := .int .i64 160) Try.results77 rfl ⟨by rw [he], v, R, F, Wp, H.tail.tail.tail, by rw [prepA_no (by rw [he]; decide)]; exact hr, Grow.refl hr.base, Nat.le_add_right _ _⟩
              · refine W_drawQ H mixed (by kernel_rfl) (by kernel_rfl) fun wd9 H => ?_
                obtain ⟨b8, o8, cs8, e8, hz8, hc8, hr8⟩ := hv7.at (i := 0) rfl
                have hc8' := hc8.ext ((H.dz 5 6 rfl rfl hr.base).2 _ hz8 hc8.lt)
                obtain ⟨uv8, uk8, rfl, -⟩ := ver_cells.1 hr8
                refine QL_y (y_fieldAddr ti78 rfl ti4 rfl h3) (by decide) ?_
                refine QL_y (y_loadS (v := .bool true) ti4 rfl rfl (Cells.unit (H.getOwn 2 rfl) rfl)) (by decide) ?_
                refine QL_y (v := .bool true) (y_move rfl) (by decide) ?_
                refine QL_yg rfl (by decide) rfl (y_fieldAddr ti55 rfl ti53 rfl rfl) (by decide) ?_
                refine QL_yg rfl (by decide) rfl (y_loadS (v := .slice a7 (u :: us).length c7) ti53 rfl rfl (Cells.unit (H.getOwn 0 rfl) rfl)) (by decide) ?_
                refine QL_yg rfl (by decide) rfl (y_len rfl ti53 rfl) (by decide) ?_
                refine QL_yg (v := .bool true) rfl (by decide) rfl (y_gtrT (show (0 : Int) < (((u :: us).length : Nat) : Int) by simp only [List.length_cons]; omega) rfl rfl) (by decide) ?_
                refine QL_y (y_pick (b := true) (v := .bool true) rfl rfl) (by decide) ?_
                refine QL_y (v := .bool true) (y_move rfl) (by decide) ?_
                refine QL_yg rfl (by decide) rfl (y_fieldAddr ti55 rfl ti53 rfl rfl) (by decide) ?_
                refine QL_yg rfl (by decide) rfl (y_loadS (v := .slice a7 (u :: us).length c7) ti53 rfl rfl (Cells.unit (H.getOwn 0 rfl) rfl)) (by decide) ?_
                refine QL_yg rfl (by decide) rfl (y_indexAddr ti53 ti32 (congrArg (Value.slice · _ _) e8) rfl (by simp) (by simp)) (by decide) ?_
                refine QL_yg rfl (by decide) rfl (y_fieldAddr ti32 rfl ti24 rfl rfl) (by decide) ?_
                refine QL_yg rfl (by decide) rfl (y_loadS (v := .int .u64 u.ts) ti24 rfl rfl (hc8'.take (xs := [.int .u64 u.ts]) 0 rfl)) (by decide) ?_
                refine QL_yg rfl (by decide) rfl (y_fieldAddr ti78 rfl ti24 rfl h3) (by decide) ?_
                refine QL_yg rfl (by decide) rfl (y_loadS (v := .int .u64 c.ts) ti24 rfl rfl (Cells.unit (H.getOwn 2 rfl) rfl)) (by decide) ?_
                refine QL_yg (v := .bool false) rfl (by decide) rfl (y_gtrF ht rfl rfl) (by decide) ?_
                refine QL_y (y_pick (b := true) (v := .bool false) rfl rfl) (by decide) ?_
                refine QL_nil ?_
                refine W_condf rfl ?_
                refine W_skip ?_
                have hb : bars a c x = 0 := bars_none (by rw [hit]; first | exact .inl hp | exact .inr hq) (.inr (by rw [hvs]; exact decide_eq_false ht))
                exact ⟨hti, htn, h0, h3, h14, rfl, take_all hxj hok hb, H.tail.tail⟩
        · refine W_region ?_
          refine OL_y (y_fieldAddr ti55 rfl ti32 rfl rfl) (by decide) ?_
          refine OL_y (y_fieldAddr ti32 rfl ti24 rfl rfl) (by decide) ?_
          refine OL_y (y_loadS (v := .int .u64 it.txn) ti24 rfl rfl (Cells.unit (H.getOwn 0 rfl) rfl)) (by decide) ?_
          refine OL_y (v := .bool true) (y_neqT hp rfl rfl) (by decide) ?_
          refine OL_y (v := .bool true) (y_move rfl) (by decide) ?_
          refine OL_yg rfl (by decide) rfl (y_fieldAddr ti55 rfl ti32 rfl rfl) (by decide) ?_
          refine OL_yg rfl (by decide) rfl (y_fieldAddr ti32 rfl ti24 rfl rfl) (by decide) ?_
          refine OL_yg rfl (by decide) rfl (y_loadS (v := .int .u64 it.txn) ti24 rfl rfl (Cells.unit (H.getOwn 0 rfl) rfl)) (by decide) ?_
          refine OL_yg rfl (by decide) rfl (y_fieldAddr ti78 rfl ti24 rfl h3) (by decide) ?_
          refine OL_yg rfl (by decide) rfl (y_loadS (v := .int .u64 c.txn) ti24 rfl rfl (Cells.unit (H.getOwn 2 rfl) rfl)) (by decide) ?_
          refine OL_yg (v := .bool true) rfl (by decide) rfl (y_neqT hq rfl rfl) (by decide) ?_
          refine OL_y (y_pick (b := true) (v := .bool true) rfl rfl) (by decide) ?_
          refine OL_nil ?_
          refine W_condt rfl ?_
          refine W_seq ?_
          refine W_region ?_
          refine OL_y (y_assign rfl) (by decide) ?_
          refine OL_nil ?_
          refine W_ret ?_
          show RetOK _ _ _ _ _ _
          have hb : bars a c x = 180 := bars_busy (by rw [hit]; exact hp) (by rw [hit]; exact hq)
          have he : prepE a c = 180 := by unfold prepE; rw [if_neg hz, prepW_at hxj hok (by rw [hb]; decide), hb]
          exact ret1 (v := .int .i64 180) Try.results77 rfl ⟨by rw [he], v, R, F, Wp, H.tail.tail.tail, by rw [prepA_no (by rw [he]; decide)]; exact hr, Grow.refl hr.base, Nat.le_add_right _ _⟩
    · rintro f ds w5 ⟨h0, h3, h14, rfl, hok, H⟩ hti htn
      rw [List.take_length] at hok
      refine W_seq ?_
      refine W_seq ?_
      refine W_region ?_
      refine OL_y (y_fieldAddr ti78 rfl ti72 rfl h3) (by decide) ?_
      refine OL_y (y_loadS (v := .slice aw c.writes.length cw) ti72 rfl rfl (Cells.unit (H.getOwn 0 rfl) rfl)) (by decide) ?_
      refine OL_y (y_len rfl ti72 rfl) (by decide) ?_
      refine OL_y (y_move rfl) (by decide) ?_
      refine OL_nil ?_
      refine W_range (N := c.writes.length) (by simp only [maxLen] at hmw ⊢; omega) (fun j f ds w' => ∃ (v' : Value) (R' : List RE) (F' : Nat → Prop) (Wp' : World), f 0 = .pointer (some ⟨rb, 0, none⟩) ∧ f 3 = .pointer (some ⟨b3, 0, none⟩) ∧ f 56 = .slice aw c.writes.length cw ∧ ds = [] ∧ RRep w0 F' Wp' R' ((c.writes.take j).foldl (doW c) a) ∧ Grow w0 F Wp F' Wp' ∧ R'.length ≤ R.length + j ∧ Holds w' (own b3 (.cells #[.int .u64 c.client, .int .u64 c.seq, .int .i64 c.kind, .int .u64 c.txn, .int .u64 c.ts, .bool fl, .int .u64 c.lk.txn, .int .i64 c.lk.level, .int .i64 c.lk.mode, vll, vlh, vlo, vhi, vtx, .slice aw c.writes.length cw, .slice ake c.keys.length cke, .int .i64 c.tb.id, .string c.tb.name, vco, .int .i64 c.tb.key, vix] 78) :: sAt rb qv v' R' F' Wp' w0 L))
          ⟨v, R, F, Wp, h0, h3, rfl, rfl, hr, Grow.refl hr.base, Nat.le_refl _, H⟩
          rfl rfl (by decide) (by decide) (by decide) rfl rfl ?_ rfl rfl ?_
      · rintro j f ds w6 hj ⟨v', R', F', Wp', h0, h3, h56, rfl, hr', gr, hRl', H⟩ hti htn
        have hxj := List.getElem?_eq_getElem hj
        have hfo : (c.writes.take (j + 1)).foldl (doW c) a = doW c ((c.writes.take j).foldl (doW c) a) (c.writes[j]) := by rw [List.take_add_one, hxj, Option.toList_some, List.foldl_append]; rfl
        generalize c.writes[j] = x at *
        obtain ⟨bx, ox, cs9, e9, hz9, hc9, hr9⟩ := (gr.slr hwr).at hxj
        have hc9' := hc9.ext ((H.dz 3 4 rfl rfl hr'.base).2 _ hz9 hc9.lt)
        have hone9 := tWr.one hr9
        obtain ⟨vk, vv, rfl, hk9, hv9⟩ := wr_cells.1 hr9
        obtain ⟨ak9, ck9, rfl, -, -⟩ := hk9.len
        obtain ⟨av9, cv9, rfl, -, -⟩ := hv9.len
        have h56' := h56.trans (congrArg (Value.slice · _ _) e9)
        refine W_block ?_
        refine W_seq ?_
        refine W_region ?_
        refine OL_y (y_indexAddr ti72 ti89 h56' hti (by omega) (by omega)) (by decide) ?_
        refine OL_y (y_loadA (cs := [.slice ak9 x.key.length ck9, .bool x.dead, .slice av9 x.val.length cv9]) ti89 rfl rfl hc9' rfl) (by decide) ?_
        refine OL_var (v := .agg #[.slice ak9 x.key.length ck9, .bool x.dead, .slice av9 x.val.length cv9]) H ti89 rfl (by decide) (fun _ => rfl) rfl (hone9) fun b9 w14_2 H => ?_
        refine OL_nil ?_
        refine W_drawD H mixed (by kernel_rfl) [] (fun wq w' => w'.heap[b9]? = some (.cells #[.slice ak9 x.key.length ck9, .bool x.dead, .slice av9 x.val.length cv9] 89) ∧ w'.heap[b3]? = some (.cells #[.int .u64 c.client, .int .u64 c.seq, .int .i64 c.kind, .int .u64 c.txn, .int .u64 c.ts, .bool fl, .int .u64 c.lk.txn, .int .i64 c.lk.level, .int .i64 c.lk.mode, vll, vlh, vlo, vhi, vtx, .slice aw c.writes.length cw, .slice ake c.keys.length cke, .int .i64 c.tb.id, .string c.tb.name, vco, .int .i64 c.tb.key, vix] 78)) fun wd15 H hEd => ?_
        have hS : ∀ {ls : Array Bool}, Sx [] (fun w' => w'.heap[b9]? = some (.cells #[.slice ak9 x.key.length ck9, .bool x.dead, .slice av9 x.val.length cv9] 89) ∧ w'.heap[b3]? = some (.cells #[.int .u64 c.client, .int .u64 c.seq, .int .i64 c.kind, .int .u64 c.txn, .int .u64 c.ts, .bool fl, .int .u64 c.lk.txn, .int .i64 c.lk.level, .int .i64 c.lk.mode, vll, vlh, vlo, vhi, vtx, .slice aw c.writes.length cw, .slice ake c.keys.length cke, .int .i64 c.tb.id, .string c.tb.name, vco, .int .i64 c.tb.key, vix] 78)) ls wd15 := fun {_} _ => ⟨H.getOwn 0 rfl, H.getOwn 1 rfl⟩
        refine DA_p 0 rfl (by kernel_rfl) rfl (fun _ => y_move h0) hS (by decide) fun hS => ?_
        refine DA_p 1 rfl (by kernel_rfl) rfl (fun _ => y_nilCheck rfl ⟨_, rfl⟩) hS (by decide) fun hS => ?_
        refine DA_p 2 rfl (by kernel_rfl) rfl (fun _ => y_fieldAddr ti68 rfl ti66 rfl rfl) hS (by decide) fun hS => ?_
        refine DA_p 3 rfl (by kernel_rfl) rfl (fun _ => y_fieldAddr ti89 rfl ti23 rfl rfl) hS (by decide) fun hS => ?_
        refine DA_y 4 rfl (by kernel_rfl) rfl (by kernel_rfl) (fun w' h => y_loadS (v := .slice ak9 x.key.length ck9) ti23 rfl rfl (Cells.unit h.1 rfl)) hS (by decide) fun hS => ?_
        refine DA_p 5 rfl (by kernel_rfl) rfl (fun _ => y_fieldAddr ti78 rfl ti24 rfl h3) hS (by decide) fun hS => ?_
        refine DA_y 6 rfl (by kernel_rfl) rfl (by kernel_rfl) (fun w' h => y_loadS (v := .int .u64 c.txn) ti24 rfl rfl (Cells.unit h.2 rfl)) hS (by decide) fun hS => ?_
        refine DA_p 7 rfl (by kernel_rfl) rfl (fun _ => y_fieldAddr ti89 rfl ti4 rfl rfl) hS (by decide) fun hS => ?_
        refine DA_y 8 rfl (by kernel_rfl) rfl (by kernel_rfl) (fun w' h => y_loadS (v := .bool x.dead) ti4 rfl rfl (Cells.unit h.1 rfl)) hS (by decide) fun hS => ?_
        refine DA_p 9 rfl (by kernel_rfl) rfl (fun _ => y_fieldAddr ti89 rfl ti23 rfl rfl) hS (by decide) fun hS => ?_
        refine DA_y 10 rfl (by kernel_rfl) rfl (by kernel_rfl) (fun w' h => y_loadS (v := .slice av9 x.val.length cv9) ti23 rfl rfl (Cells.unit h.1 rfl)) hS (by decide) fun hS => ?_
        refine DA_p 11 rfl (by kernel_rfl) rfl (fun _ => y_fieldAddr ti78 rfl ti30 rfl h3) hS (by decide) fun hS => ?_
        refine DA_y 12 rfl (by kernel_rfl) rfl (by kernel_rfl) (fun w' h => y_loadS (v := .slice ake c.keys.length cke) ti30 rfl rfl (Cells.unit h.2 rfl)) hS (by decide) fun hS => ?_
        refine DA_p (v := .agg #[.int .u64 0, .int .u64 c.txn, .bool x.dead, .slice av9 x.val.length cv9, .slice ake c.keys.length cke]) 13 rfl (by kernel_rfl) rfl (fun _ => y_build ti32 pl32 (by kernel_rfl)) hS (by decide) fun hS => ?_
        refine DA_one 14 (by kernel_rfl) rfl (op_call 38 en38 rfl [.pointer (some ⟨rb, 1, none⟩), .slice ak9 x.key.length ck9, .agg #[.int .u64 0, .int .u64 c.txn, .bool x.dead, .slice av9 x.val.length cv9, .slice ake c.keys.length cke]] rfl (by decide) ((f38s_calls (u := wVer c x) (sIn2 H) hr' hk9 (ver_cells.2 ⟨_, _, rfl, rfl, htx, hv9, gr.slr hke⟩) (by omega)).mono ?_))
        rintro e w15_14 ⟨rfl, v2, R2, F2, Wp2, H, hr2, gr2, hR2⟩
        refine ⟨_, rfl, fun _ => ⟨(sOut2 H).getOwn 0 rfl, (sOut2 H).getOwn 1 rfl⟩, ?_⟩
        have H := sOut2 H
        refine DA_done (by kernel_rfl) ?_
        exact ⟨hti, htn, v2, R2, F2, Wp2, h0, h3, h56, rfl, by rw [hfo]; exact hr2, gr.trans gr2, by omega, H.tail⟩
      · rintro f ds w6 ⟨v', R', F', Wp', h0, h3, h56, rfl, hr', gr, hRl', H⟩ hti htn
        rw [List.take_length] at hr'
        refine W_seq ?_
        refine W_region ?_
        refine OL_y (y_assign rfl) (by decide) ?_
        refine OL_nil ?_
        refine W_ret ?_
        show RetOK _ _ _ _ _ _
        have he : prepE a c = 0 := by unfold prepE; rw [if_neg hz, prepW_ok hok]
        exact ret1 (v := .int .i64 0) Try.results77 rfl ⟨by rw [he], v', R', F', Wp', H.tail, by rw [prepA_do he]; exact hr', gr, hRl'⟩
end Go.Proofs.Ytpandioolpnihaa

namespace Go.Proofs.Ytpandioolpnihaa
open Go Go.Wk
set_option linter.unusedVariables false
set_option linter.unusedSimpArgs false

section
variable {W w0 Wp : World} {F : Nat → Prop} {mb lb sb g1 g2 : Nat} {la : List (Int × Value)} {E : List Ent} {I : List Itn} {x y z : Atom} {L : List Atom}
theorem mInL (P : List Atom) (H : Holds W (P ++ mAt mb lb la sb g1 g2 E I F Wp w0 L)) : Holds W (mAt mb lb la sb g1 g2 E I F Wp w0 (P ++ L)) := by
  refine H.perm ?_
  have e : ∀ Y, mAt mb lb la sb g1 g2 E I F Wp w0 Y = mAt mb lb la sb g1 g2 E I F Wp w0 [] ++ Y := fun Y => by simp [mAt, cAt]
  rw [e L, e (P ++ L), ← List.append_assoc, ← List.append_assoc]
  exact List.perm_append_comm.append_right L
theorem mOutL (P : List Atom) (H : Holds W (mAt mb lb la sb g1 g2 E I F Wp w0 (P ++ L))) : Holds W (P ++ mAt mb lb la sb g1 g2 E I F Wp w0 L) := by
  refine H.perm ?_
  have e : ∀ Y, mAt mb lb la sb g1 g2 E I F Wp w0 Y = mAt mb lb la sb g1 g2 E I F Wp w0 [] ++ Y := fun Y => by simp [mAt, cAt]
  rw [e L, e (P ++ L), ← List.append_assoc, ← List.append_assoc]
  exact List.perm_append_comm.append_right L
theorem mIn2 (H : Holds W (x :: y :: mAt mb lb la sb g1 g2 E I F Wp w0 L)) : Holds W (mAt mb lb la sb g1 g2 E I F Wp w0 (x :: y :: L)) := mInL [x, y] H
theorem mOut2 (H : Holds W (mAt mb lb la sb g1 g2 E I F Wp w0 (x :: y :: L))) : Holds W (x :: y :: mAt mb lb la sb g1 g2 E I F Wp w0 L) := mOutL [x, y] H
theorem mIn3 (H : Holds W (x :: y :: z :: mAt mb lb la sb g1 g2 E I F Wp w0 L)) : Holds W (mAt mb lb la sb g1 g2 E I F Wp w0 (x :: y :: z :: L)) := mInL [x, y, z] H
theorem mOut3 (H : Holds W (mAt mb lb la sb g1 g2 E I F Wp w0 (x :: y :: z :: L))) : Holds W (x :: y :: z :: mAt mb lb la sb g1 g2 E I F Wp w0 L) := mOutL [x, y, z] H
end
theorem prepW_in (a : Abs) (c : Cmd) : ∀ ws : List Wr, InK .i64 (prepW a c ws)
  | [] => rfl
  | w :: ws => by
    unfold prepW
    split
    · exact prepW_in a c ws
    · unfold bars; split
      · rfl
      · split <;> rfl
theorem prepE_in (a : Abs) (c : Cmd) : InK .i64 (prepE a c) := by
  unfold prepE; split
  · rfl
  · exact prepW_in a c _
theorem prepA_ok {a : Abs} {m : Nat} (h : a.Ok m) (c : Cmd) : (prepA a c).Ok m := by
  unfold prepA; split
  · intro k; rw [doW_v]; exact h k
  · exact h

set_option maxHeartbeats 16000000 in
theorem f60_calls {w0 w Wp : World} {F : Nat → Prop} {mb lb sb g1 g2 m : Nat} {la : List (Int × Value)} {E : List Ent} {I : List Itn} {a : Abs} {L : List Atom} {cs : List Value} {c : Cmd} (H : Holds w (mAt mb lb la sb g1 g2 E I F Wp w0 L)) (hr : CRep w0 F Wp E I a) (ha : a.Ok m) (hm : m ≤ 10000) (hEl : E.length ≤ 10000) (hIl : I.length ≤ 9000) (hc : tCmd.R (Dz w0 F) Wp cs c) (hll : c.lo.length ≤ 1000) (hwk : ∀ x ∈ c.writes, x.key.length ≤ 1000) :
    Calls Try.prog 60 [.pointer (some ⟨mb, 0, none⟩), .agg cs.toArray].toArray w fun e w' => ∃ (rcs : List Value) (r : Rs) (a' : Abs) (E' : List Ent) (I' : List Itn) (F' : Nat → Prop) (Wp' : World), e = .returned (.agg rcs.toArray) ∧ OneR a c a' r ∧ Holds w' (mAt mb lb la sb g1 g2 E' I' F' Wp' w0 L) ∧ CRep w0 F' Wp' E' I' a' ∧ Grow w0 F Wp F' Wp' ∧ tRes.R (Dz w0 F') Wp' rcs r ∧ a'.Ok (m + I.length) ∧ I'.length ≤ I.length + c.writes.length ∧ E'.length ≤ E.length + I.length := by
  have hc0 := hc
  obtain ⟨vll, vlh, vlo, vhi, vtx, vwr, vke, vco, vix, rfl, hcl, hsq, hkd, htx, hts, hlk1, hlo, hhi, htxs, hwr, hke, htb⟩ := cmd_cells.1 hc
  refine calls_of_W' Try.func60 rfl Try.ntmps60 rfl ?_
  refine W_seq ?_
  refine W_region ?_
  refine OL_c (op_box (v := .agg #[.int .u64 c.client, .int .u64 c.seq, .int .i64 c.kind, .int .u64 c.txn, .int .u64 c.ts, .bool c.flag, .int .u64 c.lk.txn, .int .i64 c.lk.level, .int .i64 c.lk.mode, vll, vlh, vlo, vhi, vtx, vwr, vke, .int .i64 c.tb.id, .string c.tb.name, vco, .int .i64 c.tb.key, vix]) H rfl (by decide) fun b3 w0_0 H => ?_)
  refine OL_c (op_alloc H ti84 (by decide) fun b4 w0_1 H => ?_)
  refine OL_nil ?_
  refine W_seq ?_
  refine W_seq ?_
  refine W_region ?_
  refine OL_y (y_fieldAddr ti78 rfl ti3 rfl rfl) (by decide) ?_
  refine OL_y (y_loadS (v := .int .i64 c.kind) ti3 rfl rfl (Cells.unit (H.getOwn 1 rfl) rfl)) (by decide) ?_
  refine OL_nil ?_
  refine W_block ?_
  refine W_seq ?_
  by_cases h8 : c.kind = 8
  · refine W_region ?_
    refine OL_y (v := .bool true) (y_eqlT h8 rfl rfl) (by decide) ?_
    refine OL_y (v := .bool true) (y_assign rfl) (by decide) ?_
    refine OL_nil ?_
    refine W_condt rfl ?_
    refine W_seq ?_
    refine W_region ?_
    refine OL_y (y_move rfl) (by decide) ?_
    refine OL_y (y_loadA (cs := [.int .u64 c.client, .int .u64 c.seq, .int .i64 c.kind, .int .u64 c.txn, .int .u64 c.ts, .bool c.flag, .int .u64 c.lk.txn, .int .i64 c.lk.level, .int .i64 c.lk.mode, vll, vlh, vlo, vhi, vtx, vwr, vke, .int .i64 c.tb.id, .string c.tb.name, vco, .int .i64 c.tb.key, vix]) ti78 rfl rfl (Cells.of (H.getOwn 1 rfl) rfl) rfl) (by decide) ?_
    refine OL_c (op_call 75 en75 rfl [.pointer (some ⟨mb, 0, none⟩), .agg #[.int .u64 c.client, .int .u64 c.seq, .int .i64 c.kind, .int .u64 c.txn, .int .u64 c.ts, .bool c.flag, .int .u64 c.lk.txn, .int .i64 c.lk.level, .int .i64 c.lk.mode, vll, vlh, vlo, vhi, vtx, vwr, vke, .int .i64 c.tb.id, .string c.tb.name, vco, .int .i64 c.tb.key, vix]] rfl (by decide) ((f75_calls (mIn2 H) hr ha (by omega) (by omega) (by omega) hc0 hwk).mono ?_))
    rintro e w3_2 ⟨rfl, I', F', Wp', H, hr', gr, hI'⟩
    refine ⟨_, rfl, ?_⟩
    have H := mOut2 H
    refine OL_y (v := .agg #[.int .i64 (prepE a c), .int .u64 0, .int .u64 0, .bool false, .slice none 0 0, .slice none 0 0, .slice none 0 0]) (y_build ti84 pl84 (by kernel_rfl)) (by decide) ?_
    refine OL_c (op_store (v := .agg #[.int .i64 (prepE a c), .int .u64 0, .int .u64 0, .bool false, .slice none 0 0, .slice none 0 0, .slice none 0 0]) H 0 rfl ti84 rfl rfl rfl (by decide) (by simp [Value.cells, Value.oneCell']) fun w3_4 H => ?_)
    refine OL_nil ?_
    refine W_ret ?_
    show RetOK _ _ _ _ _ _
    exact ret1c Try.results60 rfl (run_loadVarA (cs := [.int .i64 (prepE a c), .int .u64 0, .int .u64 0, .bool false, .slice none 0 0, .slice none 0 0, .slice none 0 0]) ti84 rfl (Cells.of (H.getOwn 0 rfl) rfl) rfl) ⟨_, _, _, E, I', F', Wp', rfl, one8 h8, H.tail.tail, hr', gr, res_cells.2 ⟨_, rfl, prepE_in a c, SlR.nil _ _ _ _⟩, (prepA_ok ha c).mono (by omega), hI', by omega⟩
  · refine W_region ?_
    refine OL_y (v := .bool false) (y_eqlF h8 rfl rfl) (by decide) ?_
    refine OL_y (v := .bool false) (y_assign rfl) (by decide) ?_
    refine OL_nil ?_
    refine W_condf rfl ?_
    refine W_seq ?_
    by_cases h9 : c.kind = 9
    · refine W_region ?_
      refine OL_y (v := .bool true) (y_eqlT h9 rfl rfl) (by decide) ?_
      refine OL_y (v := .bool true) (y_assign rfl) (by decide) ?_
      refine OL_nil ?_
      refine W_condt rfl ?_
      refine W_seq ?_
      refine W_drawD H mixed (by kernel_rfl) [] (fun wq w' => w'.heap[mb]? = some (.cells #[.pointer (some ⟨sb, 0, none⟩), .map (some lb)] 123) ∧ w'.heap[b3]? = some (.cells #[.int .u64 c.client, .int .u64 c.seq, .int .i64 c.kind, .int .u64 c.txn, .int .u64 c.ts, .bool c.flag, .int .u64 c.lk.txn, .int .i64 c.lk.level, .int .i64 c.lk.mode, vll, vlh, vlo, vhi, vtx, vwr, vke, .int .i64 c.tb.id, .string c.tb.name, vco, .int .i64 c.tb.key, vix] 78)) fun wd5 H hEd => ?_
      have hS : ∀ {ls : Array Bool}, Sx [] (fun w' => w'.heap[mb]? = some (.cells #[.pointer (some ⟨sb, 0, none⟩), .map (some lb)] 123) ∧ w'.heap[b3]? = some (.cells #[.int .u64 c.client, .int .u64 c.seq, .int .i64 c.kind, .int .u64 c.txn, .int .u64 c.ts, .bool c.flag, .int .u64 c.lk.txn, .int .i64 c.lk.level, .int .i64 c.lk.mode, vll, vlh, vlo, vhi, vtx, vwr, vke, .int .i64 c.tb.id, .string c.tb.name, vco, .int .i64 c.tb.key, vix] 78)) ls wd5 := fun {_} _ => ⟨H.getOwn 2 rfl, H.getOwn 1 rfl⟩
      refine DA_p 0 rfl (by kernel_rfl) rfl (fun _ => y_move rfl) hS (by decide) fun hS => ?_
      refine DA_p 1 rfl (by kernel_rfl) rfl (fun _ => y_nilCheck rfl ⟨_, rfl⟩) hS (by decide) fun hS => ?_
      refine DA_p 2 rfl (by kernel_rfl) rfl (fun _ => y_fieldAddr ti123 rfl ti26 rfl rfl) hS (by decide) fun hS => ?_
      refine DA_y 3 rfl (by kernel_rfl) rfl (by kernel_rfl) (fun w' h => y_loadS (v := .pointer (some ⟨sb, 0, none⟩)) ti26 rfl rfl (Cells.unit h.1 rfl)) hS (by decide) fun hS => ?_
      refine DA_p 4 rfl (by kernel_rfl) rfl (fun _ => y_fieldAddr ti78 rfl ti24 rfl rfl) hS (by decide) fun hS => ?_
      refine DA_y 5 rfl (by kernel_rfl) rfl (by kernel_rfl) (fun w' h => y_loadS (v := .int .u64 c.txn) ti24 rfl rfl (Cells.unit h.2 rfl)) hS (by decide) fun hS => ?_
      refine DA_p 6 rfl (by kernel_rfl) rfl (fun _ => y_fieldAddr ti78 rfl ti24 rfl rfl) hS (by decide) fun hS => ?_
      refine DA_y 7 rfl (by kernel_rfl) rfl (by kernel_rfl) (fun w' h => y_loadS (v := .int .u64 c.ts) ti24 rfl rfl (Cells.unit h.2 rfl)) hS (by decide) fun hS => ?_
      refine DA_one 8 (by kernel_rfl) rfl (op_call 27 en27 rfl [.pointer (some ⟨sb, 0, none⟩), .int .u64 c.txn, .int .u64 c.ts] rfl (by decide) ((f27_calls (cIn4 H) hr (by omega) ha (by omega) hts).mono ?_))
      rintro e w5_8 ⟨ks, rfl, hks, E', I', F', Wp', H, hr', ha', gr, hI', hE', hkI⟩
      refine ⟨_, rfl, fun _ => ⟨(cOut4 H).getOwn 2 rfl, (cOut4 H).getOwn 1 rfl⟩, ?_⟩
      have H := cOut4 H
      refine DA_done (by kernel_rfl) ?_
      refine W_seq ?_
      refine W_region ?_
      refine OL_y (v := .agg #[.int .i64 0, .int .u64 0, .int .u64 0, .bool false, .slice none 0 0, .slice none 0 0, .slice none 0 0]) (y_build ti84 pl84 (by kernel_rfl)) (by decide) ?_
      refine OL_c (op_store (v := .agg #[.int .i64 0, .int .u64 0, .int .u64 0, .bool false, .slice none 0 0, .slice none 0 0, .slice none 0 0]) H 0 rfl ti84 rfl rfl rfl (by decide) (by simp [Value.cells, Value.oneCell']) fun w6_1 H => ?_)
      refine OL_nil ?_
      refine W_ret ?_
      show RetOK _ _ _ _ _ _
      exact ret1c Try.results60 rfl (run_loadVarA (cs := [.int .i64 0, .int .u64 0, .int .u64 0, .bool false, .slice none 0 0, .slice none 0 0, .slice none 0 0]) ti84 rfl (Cells.of (H.getOwn 0 rfl) rfl) rfl) ⟨_, _, _, E', I', F', Wp', rfl, one9 h9 hks, H.tail.tail, hr', gr, res_cells.2 ⟨_, rfl, rfl, SlR.nil _ _ _ _⟩, ha'.mono (by omega), by omega, by omega⟩
    · refine W_region ?_
      refine OL_y (v := .bool false) (y_eqlF h9 rfl rfl) (by decide) ?_
      refine OL_y (v := .bool false) (y_assign rfl) (by decide) ?_
      refine OL_nil ?_
      refine W_condf rfl ?_
      refine W_seq ?_
      by_cases h10 : c.kind = 10
      · refine W_region ?_
        refine OL_y (v := .bool true) (y_eqlT h10 rfl rfl) (by decide) ?_
        refine OL_y (v := .bool true) (y_assign rfl) (by decide) ?_
        refine OL_nil ?_
        refine W_condt rfl ?_
        refine W_seq ?_
        refine W_drawD H mixed (by kernel_rfl) [] (fun wq w' => w'.heap[mb]? = some (.cells #[.pointer (some ⟨sb, 0, none⟩), .map (some lb)] 123) ∧ w'.heap[b3]? = some (.cells #[.int .u64 c.client, .int .u64 c.seq, .int .i64 c.kind, .int .u64 c.txn, .int .u64 c.ts, .bool c.flag, .int .u64 c.lk.txn, .int .i64 c.lk.level, .int .i64 c.lk.mode, vll, vlh, vlo, vhi, vtx, vwr, vke, .int .i64 c.tb.id, .string c.tb.name, vco, .int .i64 c.tb.key, vix] 78)) fun wd8 H hEd => ?_
        have hS : ∀ {ls : Array Bool}, Sx [] (fun w' => w'.heap[mb]? = some (.cells #[.pointer (some ⟨sb, 0, none⟩), .map (some lb)] 123) ∧ w'.heap[b3]? = some (.cells #[.int .u64 c.client, .int .u64 c.seq, .int .i64 c.kind, .int .u64 c.txn, .int .u64 c.ts, .bool c.flag, .int .u64 c.lk.txn, .int .i64 c.lk.level, .int .i64 c.lk.mode, vll, vlh, vlo, vhi, vtx, vwr, vke, .int .i64 c.tb.id, .string c.tb.name, vco, .int .i64 c.tb.key, vix] 78)) ls wd8 := fun {_} _ => ⟨H.getOwn 2 rfl, H.getOwn 1 rfl⟩
        refine DA_p 0 rfl (by kernel_rfl) rfl (fun _ => y_move rfl) hS (by decide) fun hS => ?_
        refine DA_p 1 rfl (by kernel_rfl) rfl (fun _ => y_nilCheck rfl ⟨_, rfl⟩) hS (by decide) fun hS => ?_
        refine DA_p 2 rfl (by kernel_rfl) rfl (fun _ => y_fieldAddr ti123 rfl ti26 rfl rfl) hS (by decide) fun hS => ?_
        refine DA_y 3 rfl (by kernel_rfl) rfl (by kernel_rfl) (fun w' h => y_loadS (v := .pointer (some ⟨sb, 0, none⟩)) ti26 rfl rfl (Cells.unit h.1 rfl)) hS (by decide) fun hS => ?_
        refine DA_p 4 rfl (by kernel_rfl) rfl (fun _ => y_fieldAddr ti78 rfl ti24 rfl rfl) hS (by decide) fun hS => ?_
        refine DA_y 5 rfl (by kernel_rfl) rfl (by kernel_rfl) (fun w' h => y_loadS (v := .int .u64 c.txn) ti24 rfl rfl (Cells.unit h.2 rfl)) hS (by decide) fun hS => ?_
        refine DA_one 6 (by kernel_rfl) rfl (op_call 40 en40 rfl [.pointer (some ⟨sb, 0, none⟩), .int .u64 c.txn] rfl (by decide) ((f40_calls (cIn4 H) hr (by omega)).mono ?_))
        rintro e w8_6 ⟨ks, rfl, hks, I', F', Wp', H, hr', gr, hI'⟩
        refine ⟨_, rfl, fun _ => ⟨(cOut4 H).getOwn 2 rfl, (cOut4 H).getOwn 1 rfl⟩, ?_⟩
        have H := cOut4 H
        refine DA_done (by kernel_rfl) ?_
        refine W_seq ?_
        refine W_region ?_
        refine OL_y (v := .agg #[.int .i64 0, .int .u64 0, .int .u64 0, .bool false, .slice none 0 0, .slice none 0 0, .slice none 0 0]) (y_build ti84 pl84 (by kernel_rfl)) (by decide) ?_
        refine OL_c (op_store (v := .agg #[.int .i64 0, .int .u64 0, .int .u64 0, .bool false, .slice none 0 0, .slice none 0 0, .slice none 0 0]) H 0 rfl ti84 rfl rfl rfl (by decide) (by simp [Value.cells, Value.oneCell']) fun w9_1 H => ?_)
        refine OL_nil ?_
        refine W_ret ?_
        show RetOK _ _ _ _ _ _
        exact ret1c Try.results60 rfl (run_loadVarA (cs := [.int .i64 0, .int .u64 0, .int .u64 0, .bool false, .slice none 0 0, .slice none 0 0, .slice none 0 0]) ti84 rfl (Cells.of (H.getOwn 0 rfl) rfl) rfl) ⟨_, _, _, E, I', F', Wp', rfl, one10 h10 hks, H.tail.tail, hr', gr, res_cells.2 ⟨_, rfl, rfl, SlR.nil _ _ _ _⟩, Abs.Ok.mono (a := a.clear ks) ha (by omega), by omega, by omega⟩
      · refine W_region ?_
        refine OL_y (v := .bool false) (y_eqlF h10 rfl rfl) (by decide) ?_
        refine OL_y (v := .bool false) (y_assign rfl) (by decide) ?_
        refine OL_nil ?_
        refine W_condf rfl ?_
        refine W_seq ?_
        by_cases h11 : c.kind = 11
        · refine W_region ?_
          refine OL_y (v := .bool true) (y_eqlT h11 rfl rfl) (by decide) ?_
          refine OL_y (v := .bool true) (y_assign rfl) (by decide) ?_
          refine OL_nil ?_
          refine W_condt rfl ?_
          refine W_seq ?_
          refine W_drawD H mixed (by kernel_rfl) [] (fun wq w' => w'.heap[mb]? = some (.cells #[.pointer (some ⟨sb, 0, none⟩), .map (some lb)] 123) ∧ w'.heap[b3]? = some (.cells #[.int .u64 c.client, .int .u64 c.seq, .int .i64 c.kind, .int .u64 c.txn, .int .u64 c.ts, .bool c.flag, .int .u64 c.lk.txn, .int .i64 c.lk.level, .int .i64 c.lk.mode, vll, vlh, vlo, vhi, vtx, vwr, vke, .int .i64 c.tb.id, .string c.tb.name, vco, .int .i64 c.tb.key, vix] 78)) fun wd11 H hEd => ?_
          have hS : ∀ {ls : Array Bool}, Sx [] (fun w' => w'.heap[mb]? = some (.cells #[.pointer (some ⟨sb, 0, none⟩), .map (some lb)] 123) ∧ w'.heap[b3]? = some (.cells #[.int .u64 c.client, .int .u64 c.seq, .int .i64 c.kind, .int .u64 c.txn, .int .u64 c.ts, .bool c.flag, .int .u64 c.lk.txn, .int .i64 c.lk.level, .int .i64 c.lk.mode, vll, vlh, vlo, vhi, vtx, vwr, vke, .int .i64 c.tb.id, .string c.tb.name, vco, .int .i64 c.tb.key, vix] 78)) ls wd11 := fun {_} _ => ⟨H.getOwn 2 rfl, H.getOwn 1 rfl⟩
          refine DA_p 0 rfl (by kernel_rfl) rfl (fun _ => y_move rfl) hS (by decide) fun hS => ?_
          refine DA_p 1 rfl (by kernel_rfl) rfl (fun _ => y_nilCheck rfl ⟨_, rfl⟩) hS (by decide) fun hS => ?_
          refine DA_p 2 rfl (by kernel_rfl) rfl (fun _ => y_fieldAddr ti123 rfl ti26 rfl rfl) hS (by decide) fun hS => ?_
          refine DA_y 3 rfl (by kernel_rfl) rfl (by kernel_rfl) (fun w' h => y_loadS (v := .pointer (some ⟨sb, 0, none⟩)) ti26 rfl rfl (Cells.unit h.1 rfl)) hS (by decide) fun hS => ?_
          refine DA_p 4 rfl (by kernel_rfl) rfl (fun _ => y_fieldAddr ti78 rfl ti23 rfl rfl) hS (by decide) fun hS => ?_
          refine DA_y 5 rfl (by kernel_rfl) rfl (by kernel_rfl) (fun w' h => y_loadS (v := vlo) ti23 rfl rfl (Cells.unit h.2 rfl)) hS (by decide) fun hS => ?_
          refine DA_p 6 rfl (by kernel_rfl) rfl (fun _ => y_fieldAddr ti78 rfl ti23 rfl rfl) hS (by decide) fun hS => ?_
          refine DA_y 7 rfl (by kernel_rfl) rfl (by kernel_rfl) (fun w' h => y_loadS (v := vhi) ti23 rfl rfl (Cells.unit h.2 rfl)) hS (by decide) fun hS => ?_
          refine DA_p 8 rfl (by kernel_rfl) rfl (fun _ => y_fieldAddr ti78 rfl ti24 rfl rfl) hS (by decide) fun hS => ?_
          refine DA_y 9 rfl (by kernel_rfl) rfl (by kernel_rfl) (fun w' h => y_loadS (v := .int .u64 c.ts) ti24 rfl rfl (Cells.unit h.2 rfl)) hS (by decide) fun hS => ?_
          refine DA_one 10 (by kernel_rfl) rfl (op_call 25 en25 rfl [.pointer (some ⟨sb, 0, none⟩), vlo, vhi, .int .u64 c.ts] rfl (by decide) ((f25_calls (H.tail.tail.tail.tail) hr ha (by omega) (by omega) (by omega) (hlo.keeps (H.dz 7 8 rfl rfl hr.base)) (hhi.keeps (H.dz 7 8 rfl rfl hr.base))).mono ?_))
          rintro e w11_10 ⟨v47, ks, rfl, hsc, hS47, hE25⟩
          refine ⟨_, rfl, fun _ => ⟨(H.ext0 hE25).getOwn 2 rfl, (H.ext0 hE25).getOwn 1 rfl⟩, ?_⟩
          obtain ⟨F1, H, gr, hF1⟩ := H.poolN hE25 7 8 rfl rfl hr.base
          have hS47 := hS47.mono fun k h1 h2 => hF1 k h1 (.inr h2)
          obtain ⟨a47, c47, rfl, -, -⟩ := hS47.len
          refine DA_p (v := .agg #[.int .i64 0, .int .u64 0, .int .u64 0, .bool false, .slice none 0 0, .slice a47 (ks.map (cellOf a c.ts)).length c47, .slice none 0 0]) 11 rfl (by kernel_rfl) rfl (fun _ => y_build ti84 pl84 (by kernel_rfl)) (fun _ => ⟨H.getOwn 2 rfl, H.getOwn 1 rfl⟩) (by decide) fun _ => ?_
          refine DA_one 12 (by kernel_rfl) rfl (op_store (v := .agg #[.int .i64 0, .int .u64 0, .int .u64 0, .bool false, .slice none 0 0, .slice a47 (ks.map (cellOf a c.ts)).length c47, .slice none 0 0]) H 0 rfl ti84 rfl rfl rfl (by decide) (by simp [Value.cells, Value.oneCell']) fun w11_12 H => ⟨fun _ => ⟨H.getOwn 2 rfl, H.getOwn 1 rfl⟩, ?_⟩)
          refine DA_done (by kernel_rfl) ?_
          refine W_ret ?_
          show RetOK _ _ _ _ _ _
          exact ret1c Try.results60 rfl (run_loadVarA (cs := [.int .i64 0, .int .u64 0, .int .u64 0, .bool false, .slice none 0 0, .slice a47 (ks.map (cellOf a c.ts)).length c47, .slice none 0 0]) ti84 rfl (Cells.of (H.getOwn 0 rfl) rfl) rfl) ⟨_, _, _, E, I, F1, _, rfl, one11 h11 hsc, H.tail.tail, hr.grow gr, gr, res_cells.2 ⟨_, rfl, rfl, hS47⟩, ha.mono (by omega), by omega, by omega⟩
        · refine W_region ?_
          refine OL_y (v := .bool false) (y_eqlF h11 rfl rfl) (by decide) ?_
          refine OL_y (v := .bool false) (y_assign rfl) (by decide) ?_
          refine OL_nil ?_
          refine W_condf rfl ?_
          refine W_seq ?_
          by_cases h12 : c.kind = 12
          · refine W_region ?_
            refine OL_y (v := .bool true) (y_eqlT h12 rfl rfl) (by decide) ?_
            refine OL_y (v := .bool true) (y_assign rfl) (by decide) ?_
            refine OL_nil ?_
            refine W_condt rfl ?_
            refine W_seq ?_
            refine W_region ?_
            refine OL_y (y_move rfl) (by decide) ?_
            refine OL_y (y_loadA (cs := [.int .u64 c.client, .int .u64 c.seq, .int .i64 c.kind, .int .u64 c.txn, .int .u64 c.ts, .bool c.flag, .int .u64 c.lk.txn, .int .i64 c.lk.level, .int .i64 c.lk.mode, vll, vlh, vlo, vhi, vtx, vwr, vke, .int .i64 c.tb.id, .string c.tb.name, vco, .int .i64 c.tb.key, vix]) ti78 rfl rfl (Cells.of (H.getOwn 1 rfl) rfl) rfl) (by decide) ?_
            refine OL_c (op_call 76 en76 rfl [.pointer (some ⟨mb, 0, none⟩), .agg #[.int .u64 c.client, .int .u64 c.seq, .int .i64 c.kind, .int .u64 c.txn, .int .u64 c.ts, .bool c.flag, .int .u64 c.lk.txn, .int .i64 c.lk.level, .int .i64 c.lk.mode, vll, vlh, vlo, vhi, vtx, vwr, vke, .int .i64 c.tb.id, .string c.tb.name, vco, .int .i64 c.tb.key, vix]] rfl (by decide) ((f76_calls (mIn2 H) hr ha (by omega) (by omega) (by omega) hc0 hll).mono ?_))
            rintro e w13_2 ⟨rcs, F', Wp', rfl, H, gr, hR⟩
            refine ⟨_, rfl, ?_⟩
            have H := mOut2 H
            have hR0 := hR
            obtain ⟨vr, rfl, hr1, hr2⟩ := res_cells.1 hR
            refine OL_c (op_store (v := .agg #[.int .i64 (fetchR a c).err, .int .u64 0, .int .u64 0, .bool false, .slice none 0 0, vr, .slice none 0 0]) H 0 rfl ti84 rfl rfl rfl (by decide) (tRes.one hR0) fun w13_3 H => ?_)
            refine OL_nil ?_
            refine W_ret ?_
            show RetOK _ _ _ _ _ _
            exact ret1c Try.results60 rfl (run_loadVarA (cs := [.int .i64 (fetchR a c).err, .int .u64 0, .int .u64 0, .bool false, .slice none 0 0, vr, .slice none 0 0]) ti84 rfl (Cells.of (H.getOwn 0 rfl) rfl) rfl) ⟨_, _, _, E, I, F', Wp', rfl, one12 h12, H.tail.tail, hr.grow gr, gr, hR0, ha.mono (by omega), by omega, by omega⟩
          · refine W_region ?_
            refine OL_y (v := .bool false) (y_eqlF h12 rfl rfl) (by decide) ?_
            refine OL_y (v := .bool false) (y_assign rfl) (by decide) ?_
            refine OL_nil ?_
            refine W_condf rfl ?_
            refine W_seq ?_
            by_cases h13 : c.kind = 13
            · refine W_region ?_
              refine OL_y (v := .bool true) (y_eqlT h13 rfl rfl) (by decide) ?_
              refine OL_y (v := .bool true) (y_assign rfl) (by decide) ?_
              refine OL_nil ?_
              refine W_condt rfl ?_
              refine W_seq ?_
              refine W_drawD H mixed (by kernel_rfl) [] (fun wq w' => w'.heap[mb]? = some (.cells #[.pointer (some ⟨sb, 0, none⟩), .map (some lb)] 123) ∧ w'.heap[b3]? = some (.cells #[.int .u64 c.client, .int .u64 c.seq, .int .i64 c.kind, .int .u64 c.txn, .int .u64 c.ts, .bool c.flag, .int .u64 c.lk.txn, .int .i64 c.lk.level, .int .i64 c.lk.mode, vll, vlh, vlo, vhi, vtx, vwr, vke, .int .i64 c.tb.id, .string c.tb.name, vco, .int .i64 c.tb.key, vix] 78)) fun wd15 H hEd => ?_
              have hS : ∀ {ls : Array Bool}, Sx [] (fun w' => w'.heap[mb]? = some (.cells #[.pointer (some ⟨sb, 0, none⟩), .map (some lb)] 123) ∧ w'.heap[b3]? = some (.cells #[.int .u64 c.client, .int .u64 c.seq, .int .i64 c.kind, .int .u64 c.txn, .int .u64 c.ts, .bool c.flag, .int .u64 c.lk.txn, .int .i64 c.lk.level, .int .i64 c.lk.mode, vll, vlh, vlo, vhi, vtx, vwr, vke, .int .i64 c.tb.id, .string c.tb.name, vco, .int .i64 c.tb.key, vix] 78)) ls wd15 := fun {_} _ => ⟨H.getOwn 2 rfl, H.getOwn 1 rfl⟩
              refine DA_p 0 rfl (by kernel_rfl) rfl (fun _ => y_move rfl) hS (by decide) fun hS => ?_
              refine DA_p 1 rfl (by kernel_rfl) rfl (fun _ => y_nilCheck rfl ⟨_, rfl⟩) hS (by decide) fun hS => ?_
              refine DA_p 2 rfl (by kernel_rfl) rfl (fun _ => y_fieldAddr ti123 rfl ti26 rfl rfl) hS (by decide) fun hS => ?_
              refine DA_y 3 rfl (by kernel_rfl) rfl (by kernel_rfl) (fun w' h => y_loadS (v := .pointer (some ⟨sb, 0, none⟩)) ti26 rfl rfl (Cells.unit h.1 rfl)) hS (by decide) fun hS => ?_
              refine DA_p 4 rfl (by kernel_rfl) rfl (fun _ => y_fieldAddr ti78 rfl ti24 rfl rfl) hS (by decide) fun hS => ?_
              refine DA_y 5 rfl (by kernel_rfl) rfl (by kernel_rfl) (fun w' h => y_loadS (v := .int .u64 c.ts) ti24 rfl rfl (Cells.unit h.2 rfl)) hS (by decide) fun hS => ?_
              refine DA_one 6 (by kernel_rfl) rfl (op_call 21 en21 rfl [.pointer (some ⟨sb, 0, none⟩), .int .u64 c.ts] rfl (by decide) ((f21_calls (cIn4 H) hr ha (by omega) (by omega) (by omega)).mono ?_))
              rintro e w15_6 ⟨ks, rfl, hks, E', F', Wp', H, hr', gr, hE'⟩
              refine ⟨_, rfl, fun _ => ⟨(cOut4 H).getOwn 2 rfl, (cOut4 H).getOwn 1 rfl⟩, ?_⟩
              have H := cOut4 H
              refine DA_done (by kernel_rfl) ?_
              refine W_seq ?_
              refine W_region ?_
              refine OL_y (v := .agg #[.int .i64 0, .int .u64 0, .int .u64 0, .bool false, .slice none 0 0, .slice none 0 0, .slice none 0 0]) (y_build ti84 pl84 (by kernel_rfl)) (by decide) ?_
              refine OL_c (op_store (v := .agg #[.int .i64 0, .int .u64 0, .int .u64 0, .bool false, .slice none 0 0, .slice none 0 0, .slice none 0 0]) H 0 rfl ti84 rfl rfl rfl (by decide) (by simp [Value.cells, Value.oneCell']) fun w16_1 H => ?_)
              refine OL_nil ?_
              refine W_ret ?_
              show RetOK _ _ _ _ _ _
              exact ret1c Try.results60 rfl (run_loadVarA (cs := [.int .i64 0, .int .u64 0, .int .u64 0, .bool false, .slice none 0 0, .slice none 0 0, .slice none 0 0]) ti84 rfl (Cells.of (H.getOwn 0 rfl) rfl) rfl) ⟨_, _, _, E', I, F', Wp', rfl, one13 h13, H.tail.tail, hr', gr, res_cells.2 ⟨_, rfl, rfl, SlR.nil _ _ _ _⟩, (gc_ok ha _).mono (by omega), by omega, by omega⟩
            · refine W_region ?_
              refine OL_y (v := .bool false) (y_eqlF h13 rfl rfl) (by decide) ?_
              refine OL_y (v := .bool false) (y_assign rfl) (by decide) ?_
              refine OL_nil ?_
              refine W_condf rfl ?_
              refine W_skip ?_
              refine W_seq ?_
              refine W_region ?_
              refine OL_y (v := .agg #[.int .i64 1, .int .u64 0, .int .u64 0, .bool false, .slice none 0 0, .slice none 0 0, .slice none 0 0]) (y_build ti84 pl84 (by kernel_rfl)) (by decide) ?_
              refine OL_c (op_store (v := .agg #[.int .i64 1, .int .u64 0, .int .u64 0, .bool false, .slice none 0 0, .slice none 0 0, .slice none 0 0]) H 0 rfl ti84 rfl rfl rfl (by decide) (by simp [Value.cells, Value.oneCell']) fun w17_1 H => ?_)
              refine OL_nil ?_
              refine W_ret ?_
              show RetOK _ _ _ _ _ _
              exact ret1c Try.results60 rfl (run_loadVarA (cs := [.int .i64 1, .int .u64 0, .int .u64 0, .bool false, .slice none 0 0, .slice none 0 0, .slice none 0 0]) ti84 rfl (Cells.of (H.getOwn 0 rfl) rfl) rfl) ⟨_, _, _, E, I, F, Wp, rfl, oneNo h8 h9 h10 h11 h12 h13, H.tail.tail, hr, Grow.refl hr.base, res_cells.2 ⟨_, rfl, rfl, SlR.nil _ _ _ _⟩, ha.mono (by omega), by omega, by omega⟩
end Go.Proofs.Ytpandioolpnihaa
