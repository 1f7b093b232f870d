/- cow: copies, as the reference makes them. -/
import Derived.Test.YtjdppjomhkbljaaFn11
set_option linter.unusedVariables false
set_option linter.unusedSimpArgs false
set_option linter.unusedSectionVars false
namespace Go.Eng.T
open Go.Proofs
open Cel (enc dec)
set_option maxRecDepth 100000
set_option maxHeartbeats 4000000
def c_spec_l29Copy : Contract := ⟨60, fun args M => match args with
  | [.agg [.sl a1 n1 _, .sl a2 n2 _, .sl a3 n3 _]] => .eff ((Row2Ok Int a1 n1 M ∧ RowOk Int a2 n2 (M a2.r) ∧ Row2Ok Int a3 n3 M) ∧ n2 = 12) (Nat × List (Nat × List Int) × Nat × Nat × List (Nat × List Int)) (fun p => CowC (row2 Int a1 n1 M) (row Int a2 n2 (M a2.r)) (row2 Int a3 n3 M) p) (fun p => .agg [.sl ⟨.loc 0, 0, 0, 0⟩ n1 p.1, .sl ⟨.loc 2, 0, 0, 0⟩ n2 p.2.2.1, .sl ⟨.loc 3, 0, 0, 0⟩ n3 p.2.2.2.1]) (fun p => [.rows true 23 1 [(p.1, nestC (.loc 1) p.2.1)], .rows true 3 1 (mems p.2.1), rowG true 3 p.2.2.1 (row Int a2 n2 (M a2.r)), .rows true 23 1 [(p.2.2.2.1, nestC (.loc 4) p.2.2.2.2)], .rows true 3 1 (mems p.2.2.2.2)]) (fun _ => [])
  | _ => .bad⟩
theorem ok_spec_l29Copy : fnP Try.prog c_spec_l29Copy.f = true ∧ ∀ args M, (c_spec_l29Copy.sp args M).OK Try.prog c_spec_l29Copy.f args M := by
  refine ⟨fp_60, fun args M => ?_⟩
  unfold c_spec_l29Copy
  dsimp only
  split
  case h_2 => trivial
  rename_i a1 n1 c1 a2 n2 c2 a3 n3 c3
  rintro ⟨⟨h1, h2, h3⟩, l2⟩
  obtain ⟨s1, X, hX, rfl, t1⟩ := h1.x
  obtain ⟨s2, R, hR, rfl, t2⟩ := h2.x
  obtain ⟨s3, Z, hZ, rfl, t3⟩ := h3.x
  rw [hX, hR, hZ]
  refine goIn hf_60 rfl (nt := 50) rfl (rs := [.cell 2 25]) rfl (C := []) trivial (q := fun f => [].contains f) trivial mixed (O := ots [(5, otl [0, 2, 3, 5] (.gob 1 (otl [] (.gob 4 (otl [6, 7, 8, 9, 10, 11, 12] .nil))))), (9, otl [0, 2, 3, 5] (.gob 1 (otl [] (.gob 4 (otl [6, 7, 8, 9, 10, 11, 12] .nil)))))]) (by kernel_rfl) ?_
  obtain ⟨own2, ty2, cnt2, cap2, len2, get2, hM2, hf2, hic2, hkn2, hget2⟩ := t2 (by omega)
  have w2 : win (fun k => List.map AC.up (get2 a2.i (a2.k + k))) R.length = R.map enc := win_enc (g := fun k => get2 a2.i (a2.k + k)) hget2
  simp only [↓WP, ↓grdD, ↓grdT, ↓un_dead, ↓binVC, ↓buildVC, ↓sliceVC, WQ, WN, Int.reduceToNat, renl, cll, rent, clt, ↓reduceIte, Nat.reduceLeDiff, Nat.reduceEqDiff, Nat.reduceLT, reduceCtorEq, List.append_nil, Nat.reduceAdd, Nat.reduceSub, Nat.reduceBEq, forall_const, implies_true, cond_true, cond_false, AV.ren, AC.ren, AV.cl, AC.cl, eq_self, List.all_cons, List.all_nil, AV.eqv, AC.eqv, eqvl, eqvt, Sl.eqv, List.map_append, List.length_map, List.length_append, List.length_replicate, List.length_set, List.map_replicate, nilVC, zr_25, el_23, zr_3, fl_25_1, sz_23, fs_25, sz_25, fl_25_0, sz_22, sd_22, el_22, zr_23, fl_25_2, hM2, hf2, w2]
  repeat' (first | with_reducible refine And.intro ?_ ?_ | intro _)
  all_goals try omega
  all_goals try exact .inl trivial
  rename_i k2 hk2 _
  refine loopI (J := {p : Nat × Nat × List (Nat × List Int) // p.1 ≤ X.length ∧ p.1 ≤ p.2.1 ∧ FamTo X p.1 p.2.2}) (fun p => ⟨slots 50 [(1, .c (.ptr ⟨.loc 0, 0, 0, 0⟩)), (2, .c (.ptr ⟨.loc 1, 0, 0, 0⟩)), (3, .c (.ptr ⟨.loc 3, 0, 0, 0⟩)), (4, I p.1.1)], M, [], [.box 25 [.sl a1.up X.length c1, .sl a2.up R.length c2, .sl a3.up Z.length c3], .box 25 [.sl ⟨.nil, 0, 0, 0⟩ 0 0, .sl ⟨.nil, 0, 0, 0⟩ 0 0, .sl ⟨.nil, 0, 0, 0⟩ 0 0], rowG true 3 k2 R, .box 25 [.sl ⟨.loc 4, 0, 0, 0⟩ p.1.1 p.1.2.1, .sl ⟨.loc 2, 0, 0, 0⟩ R.length k2, .sl ⟨.nil, 0, 0, 0⟩ 0 0], .rows true 23 1 [(p.1.2.1, nestC (.loc 5) p.1.2.2)], .rows true 3 1 (mems (pad X.length p.1.2.2))]⟩) (fun p => X.length - p.1.1) ⟨(0, 0, []), by omega, Nat.le_refl _, FamTo.nil X⟩
    (Le.trans (Le_gh _ [(23, 1)]) (Le.trans (Le_fam 3 1 X.length) (Le_intro [0, 1, 2, 3, 4, 5] (by simp only [WL, WNL, swA_new, swA_ne, nest_sw_ne, mapLL, List.mem_cons, Nat.reduceAdd, Nat.reduceLT, Nat.reduceLeDiff, Nat.reduceEqDiff, okU, List.nodup_cons, List.not_mem_nil, toT, toL, toO, keysO, renl, rent, cll, clt, eq_self, AV.eqv, AC.eqv, eqvl, eqvt, Sl.eqv, rowsLe, mapLL, rowsCl, List.map_append, List.length_map, List.length_append, List.length_set, List.map_replicate, rowG, List.getElem?_cons_zero, List.getElem?_cons_succ, List.getElem?_nil, List.append_nil, List.nil_append, List.cons_append, ghosts, St.gh, Option.some.injEq, implies_true, setT, AV.ren, AC.ren, AV.cl, AC.cl, List.replicate_succ, List.replicate_zero, List.nodup_nil, List.length_nil, List.length_cons, List.getD_cons_zero, List.getD_cons_succ, ↓reduceIte, pad_nil, mems_rep, nest_nil]; try simp)))) ?_
  rintro ⟨⟨i, cp, G⟩, hi, hcp, hG⟩
  dsimp only at hi hcp hG
  have hw := wS (i := i) (by omega)
  have hGl := hG.1
  rcases Nat.lt_or_ge i X.length with hlt | hge
  · obtain ⟨own, ty, cnt, cap, len, get, b, c, hM, hf, hic, hkn, hget⟩ := t1 (by omega)
    obtain ⟨g1, g2, g3, g4⟩ := hget i hlt
    have hpl : (pad X.length G).length = X.length := pad_length (by omega)
    obtain ⟨gs, Y, hY, hYl, hbt⟩ := g3.x
    rw [g4] at hY
    have hst0 := fun k h1 h2 => hG.step (k := k) hlt h1 h2
    rw [hY] at g1 gs hbt hst0
    rcases Nat.eq_zero_or_pos Y.length with h0 | h0
    · obtain rfl : Y = [] := List.eq_nil_of_length_eq_zero h0
      simp only [↓WP, ↓grdD, ↓grdT, ↓un_dead, ↓binVC, ↓buildVC, ↓sliceVC, WQ, WN, Int.reduceToNat, renl, cll, rent, clt, ↓reduceIte, Nat.reduceLeDiff, Nat.reduceEqDiff, Nat.reduceLT, reduceCtorEq, List.append_nil, Nat.reduceAdd, Nat.reduceSub, Nat.reduceBEq, forall_const, implies_true, cond_true, cond_false, AV.ren, AC.ren, AV.cl, AC.cl, eq_self, List.all_cons, List.all_nil, AV.eqv, AC.eqv, eqvl, eqvt, Sl.eqv, List.map_append, List.length_map, List.length_append, List.length_replicate, List.length_set, List.map_replicate, nilVC, zr_25, el_23, zr_3, fl_25_1, sz_23, fs_25, sz_25, fl_25_0, sz_22, sd_22, el_22, zr_23, fl_25_2, dlt hlt, hw, hM, hf, g1, hGl]
      repeat' (first | with_reducible refine And.intro ?_ ?_ | intro _)
      all_goals try omega
      all_goals try exact .inr trivial
      all_goals try rfl
      · rename_i hin
        refine ⟨⟨(i + 1, cp, G ++ [(0, [])]), hlt, hin, hst0 0 (by simp) (by simp)⟩, Le.trans (Le_eqv (j := 4) true 23 1 (nestC (.loc 5) (G ++ [((0 : Nat), ([] : List Int))])) rfl nest_app0) (Le_intro [0, 1, 2, 3, 4, 5] ?_), by show X.length - (i + 1) < X.length - i; omega⟩
        simp only [WL, WNL, swA_new, swA_ne, nest_sw_ne, mapLL, List.mem_cons, Nat.reduceAdd, Nat.reduceLT, Nat.reduceLeDiff, Nat.reduceEqDiff, okU, List.nodup_cons, List.not_mem_nil, toT, toL, toO, keysO, renl, rent, cll, clt, eq_self, AV.eqv, AC.eqv, eqvl, eqvt, Sl.eqv, rowsLe, mapLL, rowsCl, List.map_append, List.length_map, List.length_append, List.length_set, List.map_replicate, rowG, List.getElem?_cons_zero, List.getElem?_cons_succ, List.getElem?_nil, List.append_nil, List.nil_append, List.cons_append, ghosts, St.gh, Option.some.injEq, implies_true, setT, AV.ren, AC.ren, AV.cl, AC.cl, List.replicate_succ, List.replicate_zero, List.nodup_nil, List.length_nil, List.length_cons, List.getD_cons_zero, List.getD_cons_succ, ↓reduceIte, pad_zero hGl hlt]
        try simp
      · rename_i c3 hc3 _
        refine ⟨⟨(i + 1, c3, G ++ [(0, [])]), hlt, hc3, hst0 0 (by simp) (by simp)⟩, Le.trans (Le_eqv (j := 7) true 23 1 (nestC (.loc 5) (G ++ [((0 : Nat), ([] : List Int))])) rfl nest_app0) (Le_intro [0, 1, 2, 3, 7, 5] ?_), by show X.length - (i + 1) < X.length - i; omega⟩
        simp only [WL, WNL, swA_new, swA_ne, nest_sw_ne, mapLL, List.mem_cons, Nat.reduceAdd, Nat.reduceLT, Nat.reduceLeDiff, Nat.reduceEqDiff, okU, List.nodup_cons, List.not_mem_nil, toT, toL, toO, keysO, renl, rent, cll, clt, eq_self, AV.eqv, AC.eqv, eqvl, eqvt, Sl.eqv, rowsLe, mapLL, rowsCl, List.map_append, List.length_map, List.length_append, List.length_set, List.map_replicate, rowG, List.getElem?_cons_zero, List.getElem?_cons_succ, List.getElem?_nil, List.append_nil, List.nil_append, List.cons_append, ghosts, St.gh, Option.some.injEq, implies_true, setT, AV.ren, AC.ren, AV.cl, AC.cl, List.replicate_succ, List.replicate_zero, List.nodup_nil, List.length_nil, List.length_cons, List.getD_cons_zero, List.getD_cons_succ, ↓reduceIte, pad_zero hGl hlt]
        try simp
    · obtain ⟨own', ty', cnt', cap', len', get', hM', hf', hic', hkn', hget'⟩ := hbt h0
      have w' : win (fun k => List.map AC.up (get' (b i).i ((b i).k + k))) Y.length = Y.map enc := win_enc (g := fun k => get' (b i).i ((b i).k + k)) hget'
      simp only [↓WP, ↓grdD, ↓grdT, ↓un_dead, ↓binVC, ↓buildVC, ↓sliceVC, WQ, WN, Int.reduceToNat, renl, cll, rent, clt, ↓reduceIte, Nat.reduceLeDiff, Nat.reduceEqDiff, Nat.reduceLT, reduceCtorEq, List.append_nil, Nat.reduceAdd, Nat.reduceSub, Nat.reduceBEq, forall_const, implies_true, cond_true, cond_false, AV.ren, AC.ren, AV.cl, AC.cl, eq_self, List.all_cons, List.all_nil, AV.eqv, AC.eqv, eqvl, eqvt, Sl.eqv, List.map_append, List.length_map, List.length_append, List.length_replicate, List.length_set, List.map_replicate, nilVC, zr_25, el_23, zr_3, fl_25_1, sz_23, fs_25, sz_25, fl_25_0, sz_22, sd_22, el_22, zr_23, fl_25_2, dlt hlt, hw, hM, hf, g1, hGl, hM', hf', w']
      repeat' (first | with_reducible refine And.intro ?_ ?_ | intro _)
      all_goals try omega
      all_goals try exact .inr trivial
      all_goals try exact .inl trivial
      all_goals try rfl
      · rename_i k hk _ hin
        refine ⟨⟨(i + 1, cp, G ++ [(k, Y)]), hlt, hin, hst0 k gs hk⟩, Le.trans (Le_swap (j := 5) (j2 := 6) (i0 := i) true 3 1 (mems (pad X.length G)) (by decide) rfl rfl (by rw [mems_len, hpl]; exact hlt)) (Le_intro [0, 1, 2, 3, 4, 5] ?_), by show X.length - (i + 1) < X.length - i; omega⟩
        simp only [WL, WNL, swA_new, swA_ne, nest_sw_ne, mapLL, List.mem_cons, Nat.reduceAdd, Nat.reduceLT, Nat.reduceLeDiff, Nat.reduceEqDiff, okU, List.nodup_cons, List.not_mem_nil, toT, toL, toO, keysO, renl, rent, cll, clt, eq_self, AV.eqv, AC.eqv, eqvl, eqvt, Sl.eqv, rowsLe, mapLL, rowsCl, List.map_append, List.length_map, List.length_append, List.length_set, List.map_replicate, rowG, List.getElem?_cons_zero, List.getElem?_cons_succ, List.getElem?_nil, List.append_nil, List.nil_append, List.cons_append, ghosts, St.gh, Option.some.injEq, implies_true, setT, AV.ren, AC.ren, AV.cl, AC.cl, List.replicate_succ, List.replicate_zero, List.nodup_nil, List.length_nil, List.length_cons, List.getD_cons_zero, List.getD_cons_succ, ↓reduceIte, nest_app (j := 5) (j2 := 6) (X := Y) (by decide) rfl hGl, pad_set (k, Y) hGl hlt]
        try simp
      · rename_i k hk _ _ c3 hc3 _
        refine ⟨⟨(i + 1, c3, G ++ [(k, Y)]), hlt, hc3, hst0 k gs hk⟩, Le.trans (Le_swap (j := 5) (j2 := 6) (i0 := i) true 3 1 (mems (pad X.length G)) (by decide) rfl rfl (by rw [mems_len, hpl]; exact hlt)) (Le_intro [0, 1, 2, 3, 8, 5] ?_), by show X.length - (i + 1) < X.length - i; omega⟩
        simp only [WL, WNL, swA_new, swA_ne, nest_sw_ne, mapLL, List.mem_cons, Nat.reduceAdd, Nat.reduceLT, Nat.reduceLeDiff, Nat.reduceEqDiff, okU, List.nodup_cons, List.not_mem_nil, toT, toL, toO, keysO, renl, rent, cll, clt, eq_self, AV.eqv, AC.eqv, eqvl, eqvt, Sl.eqv, rowsLe, mapLL, rowsCl, List.map_append, List.length_map, List.length_append, List.length_set, List.map_replicate, rowG, List.getElem?_cons_zero, List.getElem?_cons_succ, List.getElem?_nil, List.append_nil, List.nil_append, List.cons_append, ghosts, St.gh, Option.some.injEq, implies_true, setT, AV.ren, AC.ren, AV.cl, AC.cl, List.replicate_succ, List.replicate_zero, List.nodup_nil, List.length_nil, List.length_cons, List.getD_cons_zero, List.getD_cons_succ, ↓reduceIte, nest_app (j := 5) (j2 := 6) (X := Y) (by decide) rfl hGl, pad_set (k, Y) hGl hlt]
        try simp
  · obtain rfl : i = X.length := by omega
    simp only [↓WP, ↓grdD, ↓grdT, ↓un_dead, ↓binVC, ↓buildVC, ↓sliceVC, WQ, WN, Int.reduceToNat, renl, cll, rent, clt, ↓reduceIte, Nat.reduceLeDiff, Nat.reduceEqDiff, Nat.reduceLT, reduceCtorEq, List.append_nil, Nat.reduceAdd, Nat.reduceSub, Nat.reduceBEq, forall_const, implies_true, cond_true, cond_false, AV.ren, AC.ren, AV.cl, AC.cl, eq_self, List.all_cons, List.all_nil, AV.eqv, AC.eqv, eqvl, eqvt, Sl.eqv, List.map_append, List.length_map, List.length_append, List.length_replicate, List.length_set, List.map_replicate, nilVC, zr_25, el_23, zr_3, fl_25_1, sz_23, fs_25, sz_25, fl_25_0, sz_22, sd_22, el_22, zr_23, fl_25_2, dge hge, hw]
    obtain ⟨qx1, qx2, qx3⟩ := hG.all s1
    have hpx := pad_all qx1
    obtain ⟨GX, rfl⟩ : ∃ GX, GX = G := ⟨_, rfl⟩
    obtain ⟨cpX, rfl⟩ : ∃ c, c = cp := ⟨_, rfl⟩
    refine loopI (J := {p : Nat × Nat × List (Nat × List Int) // p.1 ≤ Z.length ∧ p.1 ≤ p.2.1 ∧ FamTo Z p.1 p.2.2}) (fun p => ⟨slots 50 [(1, .c (.ptr ⟨.loc 0, 0, 0, 0⟩)), (2, .c (.ptr ⟨.loc 1, 0, 0, 0⟩)), (3, .c (.ptr ⟨.loc 3, 0, 0, 0⟩)), (5, I p.1.1)], M, [], [.box 25 [.sl a1.up X.length c1, .sl a2.up R.length c2, .sl a3.up Z.length c3], .box 25 [.sl ⟨.nil, 0, 0, 0⟩ 0 0, .sl ⟨.nil, 0, 0, 0⟩ 0 0, .sl ⟨.nil, 0, 0, 0⟩ 0 0], rowG true 3 k2 R, .box 25 [.sl ⟨.loc 4, 0, 0, 0⟩ X.length cpX, .sl ⟨.loc 2, 0, 0, 0⟩ R.length k2, .sl ⟨.loc 6, 0, 0, 0⟩ p.1.1 p.1.2.1], .rows true 23 1 [(cpX, nestC (.loc 5) GX)], .rows true 3 1 (mems GX), .rows true 23 1 [(p.1.2.1, nestC (.loc 7) p.1.2.2)], .rows true 3 1 (mems (pad Z.length p.1.2.2))]⟩) (fun p => Z.length - p.1.1) ⟨(0, 0, []), by omega, Nat.le_refl _, FamTo.nil Z⟩
      (Le.trans (Le_gh _ [(23, 1)]) (Le.trans (Le_fam 3 1 Z.length) (Le_intro [0, 1, 2, 3, 4, 5, 6, 7] (by simp only [WL, WNL, swA_new, swA_ne, nest_sw_ne, mapLL, List.mem_cons, Nat.reduceAdd, Nat.reduceLT, Nat.reduceLeDiff, Nat.reduceEqDiff, okU, List.nodup_cons, List.not_mem_nil, toT, toL, toO, keysO, renl, rent, cll, clt, eq_self, AV.eqv, AC.eqv, eqvl, eqvt, Sl.eqv, rowsLe, mapLL, rowsCl, List.map_append, List.length_map, List.length_append, List.length_set, List.map_replicate, rowG, List.getElem?_cons_zero, List.getElem?_cons_succ, List.getElem?_nil, List.append_nil, List.nil_append, List.cons_append, ghosts, St.gh, Option.some.injEq, implies_true, setT, AV.ren, AC.ren, AV.cl, AC.cl, List.replicate_succ, List.replicate_zero, List.nodup_nil, List.length_nil, List.length_cons, List.getD_cons_zero, List.getD_cons_succ, ↓reduceIte, pad_nil, mems_rep, nest_nil, hpx]; try simp)))) ?_
    clear hw
    rintro ⟨⟨i, cp, G⟩, hi, hcp2, hG2⟩
    dsimp only at hi hcp2 hG2
    have hw := wS (i := i) (by omega)
    have hGl := hG2.1
    rcases Nat.lt_or_ge i Z.length with hlt | hge
    · obtain ⟨own, ty, cnt, cap, len, get, b, c, hM, hf, hic, hkn, hget⟩ := t3 (by omega)
      obtain ⟨g1, g2, g3, g4⟩ := hget i hlt
      have hpl : (pad Z.length G).length = Z.length := pad_length (by omega)
      obtain ⟨gs, Y, hY, hYl, hbt⟩ := g3.x
      rw [g4] at hY
      have hst0 := fun k h1 h2 => hG2.step (k := k) hlt h1 h2
      rw [hY] at g1 gs hbt hst0
      rcases Nat.eq_zero_or_pos Y.length with h0 | h0
      · obtain rfl : Y = [] := List.eq_nil_of_length_eq_zero h0
        simp only [↓WP, ↓grdD, ↓grdT, ↓un_dead, ↓binVC, ↓buildVC, ↓sliceVC, WQ, WN, Int.reduceToNat, renl, cll, rent, clt, ↓reduceIte, Nat.reduceLeDiff, Nat.reduceEqDiff, Nat.reduceLT, reduceCtorEq, List.append_nil, Nat.reduceAdd, Nat.reduceSub, Nat.reduceBEq, forall_const, implies_true, cond_true, cond_false, AV.ren, AC.ren, AV.cl, AC.cl, eq_self, List.all_cons, List.all_nil, AV.eqv, AC.eqv, eqvl, eqvt, Sl.eqv, List.map_append, List.length_map, List.length_append, List.length_replicate, List.length_set, List.map_replicate, nilVC, zr_25, el_23, zr_3, fl_25_1, sz_23, fs_25, sz_25, fl_25_0, sz_22, sd_22, el_22, zr_23, fl_25_2, dlt hlt, hw, hM, hf, g1, hGl]
        repeat' (first | with_reducible refine And.intro ?_ ?_ | intro _)
        all_goals try omega
        all_goals try exact .inr trivial
        all_goals try rfl
        · rename_i hin
          refine ⟨⟨(i + 1, cp, G ++ [(0, [])]), hlt, hin, hst0 0 (by simp) (by simp)⟩, Le.trans (Le_eqv (j := 6) true 23 1 (nestC (.loc 7) (G ++ [((0 : Nat), ([] : List Int))])) rfl nest_app0) (Le_intro [0, 1, 2, 3, 4, 5, 6, 7] ?_), by show Z.length - (i + 1) < Z.length - i; omega⟩
          simp only [WL, WNL, swA_new, swA_ne, nest_sw_ne, mapLL, List.mem_cons, Nat.reduceAdd, Nat.reduceLT, Nat.reduceLeDiff, Nat.reduceEqDiff, okU, List.nodup_cons, List.not_mem_nil, toT, toL, toO, keysO, renl, rent, cll, clt, eq_self, AV.eqv, AC.eqv, eqvl, eqvt, Sl.eqv, rowsLe, mapLL, rowsCl, List.map_append, List.length_map, List.length_append, List.length_set, List.map_replicate, rowG, List.getElem?_cons_zero, List.getElem?_cons_succ, List.getElem?_nil, List.append_nil, List.nil_append, List.cons_append, ghosts, St.gh, Option.some.injEq, implies_true, setT, AV.ren, AC.ren, AV.cl, AC.cl, List.replicate_succ, List.replicate_zero, List.nodup_nil, List.length_nil, List.length_cons, List.getD_cons_zero, List.getD_cons_succ, ↓reduceIte, pad_zero hGl hlt]
          try simp
        · rename_i c3 hc3 _
          refine ⟨⟨(i + 1, c3, G ++ [(0, [])]), hlt, hc3, hst0 0 (by simp) (by simp)⟩, Le.trans (Le_eqv (j := 9) true 23 1 (nestC (.loc 7) (G ++ [((0 : Nat), ([] : List Int))])) rfl nest_app0) (Le_intro [0, 1, 2, 3, 4, 5, 9, 7] ?_), by show Z.length - (i + 1) < Z.length - i; omega⟩
          simp only [WL, WNL, swA_new, swA_ne, nest_sw_ne, mapLL, List.mem_cons, Nat.reduceAdd, Nat.reduceLT, Nat.reduceLeDiff, Nat.reduceEqDiff, okU, List.nodup_cons, List.not_mem_nil, toT, toL, toO, keysO, renl, rent, cll, clt, eq_self, AV.eqv, AC.eqv, eqvl, eqvt, Sl.eqv, rowsLe, mapLL, rowsCl, List.map_append, List.length_map, List.length_append, List.length_set, List.map_replicate, rowG, List.getElem?_cons_zero, List.getElem?_cons_succ, List.getElem?_nil, List.append_nil, List.nil_append, List.cons_append, ghosts, St.gh, Option.some.injEq, implies_true, setT, AV.ren, AC.ren, AV.cl, AC.cl, List.replicate_succ, List.replicate_zero, List.nodup_nil, List.length_nil, List.length_cons, List.getD_cons_zero, List.getD_cons_succ, ↓reduceIte, pad_zero hGl hlt]
          try simp
      · obtain ⟨own', ty', cnt', cap', len', get', hM', hf', hic', hkn', hget'⟩ := hbt h0
        have w' : win (fun k => List.map AC.up (get' (b i).i ((b i).k + k))) Y.length = Y.map enc := win_enc (g := fun k => get' (b i).i ((b i).k + k)) hget'
        simp only [↓WP, ↓grdD, ↓grdT, ↓un_dead, ↓binVC, ↓buildVC, ↓sliceVC, WQ, WN, Int.reduceToNat, renl, cll, rent, clt, ↓reduceIte, Nat.reduceLeDiff, Nat.reduceEqDiff, Nat.reduceLT, reduceCtorEq, List.append_nil, Nat.reduceAdd, Nat.reduceSub, Nat.reduceBEq, forall_const, implies_true, cond_true, cond_false, AV.ren, AC.ren, AV.cl, AC.cl, eq_self, List.all_cons, List.all_nil, AV.eqv, AC.eqv, eqvl, eqvt, Sl.eqv, List.map_append, List.length_map, List.length_append, List.length_replicate, List.length_set, List.map_replicate, nilVC, zr_25, el_23, zr_3, fl_25_1, sz_23, fs_25, sz_25, fl_25_0, sz_22, sd_22, el_22, zr_23, fl_25_2, dlt hlt, hw, hM, hf, g1, hGl, hM', hf', w']
        repeat' (first | with_reducible refine And.intro ?_ ?_ | intro _)
        all_goals try omega
        all_goals try exact .inr trivial
        all_goals try exact .inl trivial
        all_goals try rfl
        · rename_i k hk _ hin
          refine ⟨⟨(i + 1, cp, G ++ [(k, Y)]), hlt, hin, hst0 k gs hk⟩, Le.trans (Le_swap (j := 7) (j2 := 8) (i0 := i) true 3 1 (mems (pad Z.length G)) (by decide) rfl rfl (by rw [mems_len, hpl]; exact hlt)) (Le_intro [0, 1, 2, 3, 4, 5, 6, 7] ?_), by show Z.length - (i + 1) < Z.length - i; omega⟩
          simp only [WL, WNL, swA_new, swA_ne, nest_sw_ne, mapLL, List.mem_cons, Nat.reduceAdd, Nat.reduceLT, Nat.reduceLeDiff, Nat.reduceEqDiff, okU, List.nodup_cons, List.not_mem_nil, toT, toL, toO, keysO, renl, rent, cll, clt, eq_self, AV.eqv, AC.eqv, eqvl, eqvt, Sl.eqv, rowsLe, mapLL, rowsCl, List.map_append, List.length_map, List.length_append, List.length_set, List.map_replicate, rowG, List.getElem?_cons_zero, List.getElem?_cons_succ, List.getElem?_nil, List.append_nil, List.nil_append, List.cons_append, ghosts, St.gh, Option.some.injEq, implies_true, setT, AV.ren, AC.ren, AV.cl, AC.cl, List.replicate_succ, List.replicate_zero, List.nodup_nil, List.length_nil, List.length_cons, List.getD_cons_zero, List.getD_cons_succ, ↓reduceIte, nest_app (j := 7) (j2 := 8) (X := Y) (by decide) rfl hGl, pad_set (k, Y) hGl hlt, nest_sw_ne (j := 7) (j2 := 8) (q := 5) (by decide) (by decide)]
          try simp
        · rename_i k hk _ _ c3 hc3 _
          refine ⟨⟨(i + 1, c3, G ++ [(k, Y)]), hlt, hc3, hst0 k gs hk⟩, Le.trans (Le_swap (j := 7) (j2 := 8) (i0 := i) true 3 1 (mems (pad Z.length G)) (by decide) rfl rfl (by rw [mems_len, hpl]; exact hlt)) (Le_intro [0, 1, 2, 3, 4, 5, 10, 7] ?_), by show Z.length - (i + 1) < Z.length - i; omega⟩
          simp only [WL, WNL, swA_new, swA_ne, nest_sw_ne, mapLL, List.mem_cons, Nat.reduceAdd, Nat.reduceLT, Nat.reduceLeDiff, Nat.reduceEqDiff, okU, List.nodup_cons, List.not_mem_nil, toT, toL, toO, keysO, renl, rent, cll, clt, eq_self, AV.eqv, AC.eqv, eqvl, eqvt, Sl.eqv, rowsLe, mapLL, rowsCl, List.map_append, List.length_map, List.length_append, List.length_set, List.map_replicate, rowG, List.getElem?_cons_zero, List.getElem?_cons_succ, List.getElem?_nil, List.append_nil, List.nil_append, List.cons_append, ghosts, St.gh, Option.some.injEq, implies_true, setT, AV.ren, AC.ren, AV.cl, AC.cl, List.replicate_succ, List.replicate_zero, List.nodup_nil, List.length_nil, List.length_cons, List.getD_cons_zero, List.getD_cons_succ, ↓reduceIte, nest_app (j := 7) (j2 := 8) (X := Y) (by decide) rfl hGl, pad_set (k, Y) hGl hlt, nest_sw_ne (j := 7) (j2 := 8) (q := 5) (by decide) (by decide)]
          try simp
    · obtain rfl : i = Z.length := by omega
      simp only [↓WP, ↓grdD, ↓grdT, ↓un_dead, ↓binVC, ↓buildVC, ↓sliceVC, WQ, WN, Int.reduceToNat, renl, cll, rent, clt, ↓reduceIte, Nat.reduceLeDiff, Nat.reduceEqDiff, Nat.reduceLT, reduceCtorEq, List.append_nil, Nat.reduceAdd, Nat.reduceSub, Nat.reduceBEq, forall_const, implies_true, cond_true, cond_false, AV.ren, AC.ren, AV.cl, AC.cl, eq_self, List.all_cons, List.all_nil, AV.eqv, AC.eqv, eqvl, eqvt, Sl.eqv, List.map_append, List.length_map, List.length_append, List.length_replicate, List.length_set, List.map_replicate, nilVC, zr_25, el_23, zr_3, fl_25_1, sz_23, fs_25, sz_25, fl_25_0, sz_22, sd_22, el_22, zr_23, fl_25_2, dge hge, hw]
      obtain ⟨q1, q2, q3⟩ := hG2.all s3
      refine end_ret ?_
      simp only [↓WP, ↓grdD, ↓grdT, ↓un_dead, ↓binVC, ↓buildVC, ↓sliceVC, WQ, WN, Int.reduceToNat, renl, cll, rent, clt, ↓reduceIte, Nat.reduceLeDiff, Nat.reduceEqDiff, Nat.reduceLT, reduceCtorEq, List.append_nil, Nat.reduceAdd, Nat.reduceSub, Nat.reduceBEq, forall_const, implies_true, cond_true, cond_false, AV.ren, AC.ren, AV.cl, AC.cl, eq_self, List.all_cons, List.all_nil, AV.eqv, AC.eqv, eqvl, eqvt, Sl.eqv, List.map_append, List.length_map, List.length_append, List.length_replicate, List.length_set, List.map_replicate, nilVC, zr_25, el_23, zr_3, fl_25_1, sz_23, fs_25, sz_25, fl_25_0, sz_22, sd_22, el_22, zr_23, fl_25_2]
      refine ⟨(cpX, GX, k2, cp, G), [], [4, 5, 2, 6, 7], ?_⟩
      simp only [WL, WNL, swA_new, swA_ne, nest_sw_ne, mapLL, List.mem_cons, Nat.reduceAdd, Nat.reduceLT, Nat.reduceLeDiff, Nat.reduceEqDiff, okU, List.nodup_cons, List.not_mem_nil, toT, toL, toO, keysO, renl, rent, cll, clt, eq_self, AV.eqv, AC.eqv, eqvl, eqvt, Sl.eqv, rowsLe, mapLL, rowsCl, List.map_append, List.length_map, List.length_append, List.length_set, List.map_replicate, rowG, List.getElem?_cons_zero, List.getElem?_cons_succ, List.getElem?_nil, List.append_nil, List.nil_append, List.cons_append, ghosts, St.gh, Option.some.injEq, implies_true, setT, AV.ren, AC.ren, AV.cl, AC.cl, List.replicate_succ, List.replicate_zero, List.nodup_nil, List.length_nil, List.length_cons, List.getD_cons_zero, List.getD_cons_succ, ↓reduceIte, retP, pad_all q1]
      simp [CowC, hcp, qx2, qx3, hcp2, q2, q3, s1, s2, s3, hk2]
theorem q_spec_l29Copy : Quiet c_spec_l29Copy := by
  intro args M
  unfold c_spec_l29Copy
  dsimp only
  split <;> first | trivial | (intro _; rfl)
end Go.Eng.T
