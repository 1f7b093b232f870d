/- sig: copies. -/
import Derived.Test.YtbogabgpchgfpaaFn6
set_option linter.unusedVariables false
set_option linter.unusedSimpArgs false
set_option linter.unusedSectionVars false
namespace Go.Eng.T
open Go.Proofs
open Cel (enc dec)
set_option maxRecDepth 100000
set_option maxHeartbeats 4000000
def c_slices_Clone_bool : Contract := ⟨67, fun args M => match args with
  | [.c (.sl a n c)] => .eff (RowOk Bool a n (M a.r) ∧ n ≤ c) Nat (fun k => n ≤ k) (fun k => .c (.sl ⟨.loc 0, 0, 0, 0⟩ n k)) (fun k => [rowG true 4 k (row Bool a n (M a.r))]) (fun _ => [])
  | _ => .bad⟩
theorem ok_slices_Clone_bool : fnP Try.prog c_slices_Clone_bool.f = true ∧ ∀ args M, (c_slices_Clone_bool.sp args M).OK Try.prog c_slices_Clone_bool.f args M := by
  refine ⟨fp_67, fun args M => ?_⟩
  unfold c_slices_Clone_bool
  dsimp only
  split
  case h_2 => trivial
  rename_i a n c
  rintro ⟨hrow, hc⟩
  obtain ⟨hs, X, hX, rfl, hat⟩ := hrow.x
  rw [hX]
  refine goIn hf_67 rfl (nt := 8) rfl (rs := [.tmp 2]) rfl (C := []) trivial (q := fun _ => false) okQ_none mixed (O := fun _ => .nil) (by kernel_rfl) ?_
  rcases Nat.eq_zero_or_pos X.length with h0 | h0
  · obtain rfl : X = [] := List.eq_nil_of_length_eq_zero h0
    simp only [↓WP, ↓grdD, ↓grdT, ↓un_dead, ↓binVC, ↓buildVC, ↓sliceVC, WQ, WN, Int.reduceToNat, renl, cll, rent, clt, ↓reduceIte, Nat.reduceLeDiff, Nat.reduceEqDiff, Nat.reduceLT, reduceCtorEq, List.append_nil, Nat.reduceAdd, Nat.reduceSub, Nat.reduceBEq, forall_const, implies_true, cond_true, cond_false, AV.ren, AC.ren, AV.cl, AC.cl, eq_self, List.all_cons, List.all_nil, AV.eqv, AC.eqv, eqvl, eqvt, Sl.eqv, List.map_append, List.length_map, List.length_append, List.length_replicate, List.length_set, List.map_replicate, nilVC, slt_22, el_22, zr_4]
    repeat' (first | with_reducible refine And.intro ?_ ?_ | intro _)
    all_goals try omega
    all_goals try rfl
    all_goals
      refine end_ret ?_
      simp only [↓WP, ↓grdD, ↓grdT, ↓un_dead, ↓binVC, ↓buildVC, ↓sliceVC, WQ, WN, Int.reduceToNat, renl, cll, rent, clt, ↓reduceIte, Nat.reduceLeDiff, Nat.reduceEqDiff, Nat.reduceLT, reduceCtorEq, List.append_nil, Nat.reduceAdd, Nat.reduceSub, Nat.reduceBEq, forall_const, implies_true, cond_true, cond_false, AV.ren, AC.ren, AV.cl, AC.cl, eq_self, List.all_cons, List.all_nil, AV.eqv, AC.eqv, eqvl, eqvt, Sl.eqv, List.map_append, List.length_map, List.length_append, List.length_replicate, List.length_set, List.map_replicate, nilVC, slt_22, el_22, zr_4]
      refine ⟨0, [(4, 1)], [0], ?_⟩
      simp [WL, WNL, swA_new, swA_ne, nest_sw_ne, mapLL, List.mem_cons, Nat.reduceAdd, Nat.reduceLT, Nat.reduceLeDiff, Nat.reduceEqDiff, okU, List.nodup_cons, List.not_mem_nil, toT, toL, toO, keysO, renl, rent, cll, clt, eq_self, AV.eqv, AC.eqv, eqvl, eqvt, Sl.eqv, rowsLe, mapLL, rowsCl, List.map_append, List.length_map, List.length_append, List.length_set, List.map_replicate, rowG, List.getElem?_cons_zero, List.getElem?_cons_succ, List.getElem?_nil, List.append_nil, List.nil_append, List.cons_append, ghosts, St.gh, Option.some.injEq, implies_true, setT, AV.ren, AC.ren, AV.cl, AC.cl, List.replicate_succ, List.replicate_zero, List.nodup_nil, List.length_nil, List.length_cons, List.getD_cons_zero, List.getD_cons_succ, ↓reduceIte, retP]
  · obtain ⟨own, ty, cnt, cap, len, get, hM, hf, hic, hkn, hget⟩ := hat h0
    have hwin : win (fun k => List.map AC.up (get a.i (a.k + k))) X.length = X.map enc := win_enc (g := fun k => get a.i (a.k + k)) hget
    simp only [↓WP, ↓grdD, ↓grdT, ↓un_dead, ↓binVC, ↓buildVC, ↓sliceVC, WQ, WN, Int.reduceToNat, renl, cll, rent, clt, ↓reduceIte, Nat.reduceLeDiff, Nat.reduceEqDiff, Nat.reduceLT, reduceCtorEq, List.append_nil, Nat.reduceAdd, Nat.reduceSub, Nat.reduceBEq, forall_const, implies_true, cond_true, cond_false, AV.ren, AC.ren, AV.cl, AC.cl, eq_self, List.all_cons, List.all_nil, AV.eqv, AC.eqv, eqvl, eqvt, Sl.eqv, List.map_append, List.length_map, List.length_append, List.length_replicate, List.length_set, List.map_replicate, nilVC, slt_22, el_22, zr_4, hM, hf, hwin]
    refine fun b hb => ⟨fun e => absurd (hb e) (by omega), fun _ => ?_⟩
    repeat' (first | with_reducible refine And.intro ?_ ?_ | intro _)
    all_goals try omega
    all_goals try rfl
    all_goals try exact .inl trivial
    all_goals
      rename_i k hk _
      refine end_ret ?_
      simp only [↓WP, ↓grdD, ↓grdT, ↓un_dead, ↓binVC, ↓buildVC, ↓sliceVC, WQ, WN, Int.reduceToNat, renl, cll, rent, clt, ↓reduceIte, Nat.reduceLeDiff, Nat.reduceEqDiff, Nat.reduceLT, reduceCtorEq, List.append_nil, Nat.reduceAdd, Nat.reduceSub, Nat.reduceBEq, forall_const, implies_true, cond_true, cond_false, AV.ren, AC.ren, AV.cl, AC.cl, eq_self, List.all_cons, List.all_nil, AV.eqv, AC.eqv, eqvl, eqvt, Sl.eqv, List.map_append, List.length_map, List.length_append, List.length_replicate, List.length_set, List.map_replicate, nilVC, slt_22, el_22, zr_4]
      refine ⟨k, [], [0], ?_⟩
      simp only [WL, WNL, swA_new, swA_ne, nest_sw_ne, mapLL, List.mem_cons, Nat.reduceAdd, Nat.reduceLT, Nat.reduceLeDiff, Nat.reduceEqDiff, okU, List.nodup_cons, List.not_mem_nil, toT, toL, toO, keysO, renl, rent, cll, clt, eq_self, AV.eqv, AC.eqv, eqvl, eqvt, Sl.eqv, rowsLe, mapLL, rowsCl, List.map_append, List.length_map, List.length_append, List.length_set, List.map_replicate, rowG, List.getElem?_cons_zero, List.getElem?_cons_succ, List.getElem?_nil, List.append_nil, List.nil_append, List.cons_append, ghosts, St.gh, Option.some.injEq, implies_true, setT, AV.ren, AC.ren, AV.cl, AC.cl, List.replicate_succ, List.replicate_zero, List.nodup_nil, List.length_nil, List.length_cons, List.getD_cons_zero, List.getD_cons_succ, ↓reduceIte, retP]
      simp [hk]
theorem q_slices_Clone_bool : Quiet c_slices_Clone_bool := by
  intro args M
  unfold c_slices_Clone_bool
  dsimp only
  split <;> first | trivial | (intro _; rfl)
def c_slices_Clone_int : Contract := ⟨68, fun args M => match args with
  | [.c (.sl a n c)] => .eff (RowOk Int a n (M a.r) ∧ n ≤ c) Nat (fun k => n ≤ k) (fun k => .c (.sl ⟨.loc 0, 0, 0, 0⟩ n k)) (fun k => [rowG true 3 k (row Int a n (M a.r))]) (fun _ => [])
  | _ => .bad⟩
theorem ok_slices_Clone_int : fnP Try.prog c_slices_Clone_int.f = true ∧ ∀ args M, (c_slices_Clone_int.sp args M).OK Try.prog c_slices_Clone_int.f args M := by
  refine ⟨fp_68, fun args M => ?_⟩
  unfold c_slices_Clone_int
  dsimp only
  split
  case h_2 => trivial
  rename_i a n c
  rintro ⟨hrow, hc⟩
  obtain ⟨hs, X, hX, rfl, hat⟩ := hrow.x
  rw [hX]
  refine goIn hf_68 rfl (nt := 8) rfl (rs := [.tmp 2]) rfl (C := []) trivial (q := fun _ => false) okQ_none mixed (O := fun _ => .nil) (by kernel_rfl) ?_
  rcases Nat.eq_zero_or_pos X.length with h0 | h0
  · obtain rfl : X = [] := List.eq_nil_of_length_eq_zero h0
    simp only [↓WP, ↓grdD, ↓grdT, ↓un_dead, ↓binVC, ↓buildVC, ↓sliceVC, WQ, WN, Int.reduceToNat, renl, cll, rent, clt, ↓reduceIte, Nat.reduceLeDiff, Nat.reduceEqDiff, Nat.reduceLT, reduceCtorEq, List.append_nil, Nat.reduceAdd, Nat.reduceSub, Nat.reduceBEq, forall_const, implies_true, cond_true, cond_false, AV.ren, AC.ren, AV.cl, AC.cl, eq_self, List.all_cons, List.all_nil, AV.eqv, AC.eqv, eqvl, eqvt, Sl.eqv, List.map_append, List.length_map, List.length_append, List.length_replicate, List.length_set, List.map_replicate, nilVC, slt_23, el_23, zr_3]
    repeat' (first | with_reducible refine And.intro ?_ ?_ | intro _)
    all_goals try omega
    all_goals try rfl
    all_goals
      refine end_ret ?_
      simp only [↓WP, ↓grdD, ↓grdT, ↓un_dead, ↓binVC, ↓buildVC, ↓sliceVC, WQ, WN, Int.reduceToNat, renl, cll, rent, clt, ↓reduceIte, Nat.reduceLeDiff, Nat.reduceEqDiff, Nat.reduceLT, reduceCtorEq, List.append_nil, Nat.reduceAdd, Nat.reduceSub, Nat.reduceBEq, forall_const, implies_true, cond_true, cond_false, AV.ren, AC.ren, AV.cl, AC.cl, eq_self, List.all_cons, List.all_nil, AV.eqv, AC.eqv, eqvl, eqvt, Sl.eqv, List.map_append, List.length_map, List.length_append, List.length_replicate, List.length_set, List.map_replicate, nilVC, slt_23, el_23, zr_3]
      refine ⟨0, [(3, 1)], [0], ?_⟩
      simp [WL, WNL, swA_new, swA_ne, nest_sw_ne, mapLL, List.mem_cons, Nat.reduceAdd, Nat.reduceLT, Nat.reduceLeDiff, Nat.reduceEqDiff, okU, List.nodup_cons, List.not_mem_nil, toT, toL, toO, keysO, renl, rent, cll, clt, eq_self, AV.eqv, AC.eqv, eqvl, eqvt, Sl.eqv, rowsLe, mapLL, rowsCl, List.map_append, List.length_map, List.length_append, List.length_set, List.map_replicate, rowG, List.getElem?_cons_zero, List.getElem?_cons_succ, List.getElem?_nil, List.append_nil, List.nil_append, List.cons_append, ghosts, St.gh, Option.some.injEq, implies_true, setT, AV.ren, AC.ren, AV.cl, AC.cl, List.replicate_succ, List.replicate_zero, List.nodup_nil, List.length_nil, List.length_cons, List.getD_cons_zero, List.getD_cons_succ, ↓reduceIte, retP]
  · obtain ⟨own, ty, cnt, cap, len, get, hM, hf, hic, hkn, hget⟩ := hat h0
    have hwin : win (fun k => List.map AC.up (get a.i (a.k + k))) X.length = X.map enc := win_enc (g := fun k => get a.i (a.k + k)) hget
    simp only [↓WP, ↓grdD, ↓grdT, ↓un_dead, ↓binVC, ↓buildVC, ↓sliceVC, WQ, WN, Int.reduceToNat, renl, cll, rent, clt, ↓reduceIte, Nat.reduceLeDiff, Nat.reduceEqDiff, Nat.reduceLT, reduceCtorEq, List.append_nil, Nat.reduceAdd, Nat.reduceSub, Nat.reduceBEq, forall_const, implies_true, cond_true, cond_false, AV.ren, AC.ren, AV.cl, AC.cl, eq_self, List.all_cons, List.all_nil, AV.eqv, AC.eqv, eqvl, eqvt, Sl.eqv, List.map_append, List.length_map, List.length_append, List.length_replicate, List.length_set, List.map_replicate, nilVC, slt_23, el_23, zr_3, hM, hf, hwin]
    refine fun b hb => ⟨fun e => absurd (hb e) (by omega), fun _ => ?_⟩
    repeat' (first | with_reducible refine And.intro ?_ ?_ | intro _)
    all_goals try omega
    all_goals try rfl
    all_goals try exact .inl trivial
    all_goals
      rename_i k hk _
      refine end_ret ?_
      simp only [↓WP, ↓grdD, ↓grdT, ↓un_dead, ↓binVC, ↓buildVC, ↓sliceVC, WQ, WN, Int.reduceToNat, renl, cll, rent, clt, ↓reduceIte, Nat.reduceLeDiff, Nat.reduceEqDiff, Nat.reduceLT, reduceCtorEq, List.append_nil, Nat.reduceAdd, Nat.reduceSub, Nat.reduceBEq, forall_const, implies_true, cond_true, cond_false, AV.ren, AC.ren, AV.cl, AC.cl, eq_self, List.all_cons, List.all_nil, AV.eqv, AC.eqv, eqvl, eqvt, Sl.eqv, List.map_append, List.length_map, List.length_append, List.length_replicate, List.length_set, List.map_replicate, nilVC, slt_23, el_23, zr_3]
      refine ⟨k, [], [0], ?_⟩
      simp only [WL, WNL, swA_new, swA_ne, nest_sw_ne, mapLL, List.mem_cons, Nat.reduceAdd, Nat.reduceLT, Nat.reduceLeDiff, Nat.reduceEqDiff, okU, List.nodup_cons, List.not_mem_nil, toT, toL, toO, keysO, renl, rent, cll, clt, eq_self, AV.eqv, AC.eqv, eqvl, eqvt, Sl.eqv, rowsLe, mapLL, rowsCl, List.map_append, List.length_map, List.length_append, List.length_set, List.map_replicate, rowG, List.getElem?_cons_zero, List.getElem?_cons_succ, List.getElem?_nil, List.append_nil, List.nil_append, List.cons_append, ghosts, St.gh, Option.some.injEq, implies_true, setT, AV.ren, AC.ren, AV.cl, AC.cl, List.replicate_succ, List.replicate_zero, List.nodup_nil, List.length_nil, List.length_cons, List.getD_cons_zero, List.getD_cons_succ, ↓reduceIte, retP]
      simp [hk]
theorem q_slices_Clone_int : Quiet c_slices_Clone_int := by
  intro args M
  unfold c_slices_Clone_int
  dsimp only
  split <;> first | trivial | (intro _; rfl)
def c_impl_cloneSig : Contract := ⟨58, fun args M => match args with
  | [.agg [.sl a1 n1 c1, .sl a2 n2 c2, .sl a3 n3 c3, .sl a4 n4 c4, .int .i64 u]] => .eff ((RowOk Bool a1 n1 (M a1.r) ∧ RowOk Bool a2 n2 (M a2.r) ∧ RowOk Int a3 n3 (M a3.r) ∧ RowOk Int a4 n4 (M a4.r)) ∧ n1 ≤ c1 ∧ n2 ≤ c2 ∧ n3 ≤ c3 ∧ n4 ≤ c4) (Nat × Nat × Nat × Nat) (fun p => n1 ≤ p.1 ∧ n2 ≤ p.2.1 ∧ n3 ≤ p.2.2.1 ∧ n4 ≤ p.2.2.2) (fun p => .agg [.sl ⟨.loc 0, 0, 0, 0⟩ n1 p.1, .sl ⟨.loc 1, 0, 0, 0⟩ n2 p.2.1, .sl ⟨.loc 2, 0, 0, 0⟩ n3 p.2.2.1, .sl ⟨.loc 3, 0, 0, 0⟩ n4 p.2.2.2, .int .i64 u]) (fun p => [rowG true 4 p.1 (row Bool a1 n1 (M a1.r)), rowG true 4 p.2.1 (row Bool a2 n2 (M a2.r)), rowG true 3 p.2.2.1 (row Int a3 n3 (M a3.r)), rowG true 3 p.2.2.2 (row Int a4 n4 (M a4.r))]) (fun _ => [])
  | _ => .bad⟩
theorem ok_impl_cloneSig : fnP Try.prog c_impl_cloneSig.f = true ∧ ∀ args M, (c_impl_cloneSig.sp args M).OK Try.prog c_impl_cloneSig.f args M := by
  refine ⟨fp_58, fun args M => ?_⟩
  unfold c_impl_cloneSig
  dsimp only
  split
  case h_2 => trivial
  rename_i a1 n1 c1 a2 n2 c2 a3 n3 c3 a4 n4 c4 u
  rintro ⟨⟨h1, h2, h3, h4⟩, k1, k2, k3, k4⟩
  refine goIn hf_58 rfl (nt := 18) rfl (rs := [.cell 2 25]) rfl (C := [c_slices_Clone_bool, c_slices_Clone_int]) ⟨(by first | exact .inl ok_slices_Clone_bool | exact ok_slices_Clone_bool), (by first | exact .inl ok_slices_Clone_int | exact ok_slices_Clone_int), trivial⟩ (q := fun f => [67, 68].contains f) ⟨fun _ => q_slices_Clone_bool, fun _ => q_slices_Clone_int, trivial⟩ mixed (O := ots [(1, otl [0, 1, 3, 4, 6, 7, 9, 10, 12, 13, 2, 5, 8, 11, 14, 15] .nil)]) (by kernel_rfl) ?_
  simp only [↓WP, ↓grdD, ↓grdT, ↓un_dead, ↓binVC, ↓buildVC, ↓sliceVC, WQ, WN, Int.reduceToNat, renl, cll, rent, clt, ↓reduceIte, Nat.reduceLeDiff, Nat.reduceEqDiff, Nat.reduceLT, reduceCtorEq, List.append_nil, Nat.reduceAdd, Nat.reduceSub, Nat.reduceBEq, forall_const, implies_true, cond_true, cond_false, AV.ren, AC.ren, AV.cl, AC.cl, eq_self, List.all_cons, List.all_nil, AV.eqv, AC.eqv, eqvl, eqvt, Sl.eqv, List.map_append, List.length_map, List.length_append, List.length_replicate, List.length_set, List.map_replicate, nilVC, zr_25, fl_25_0, sz_22, fl_25_1, fl_25_2, sz_23, fl_25_3, fl_25_4, sz_3, fs_25, sz_25, c_slices_Clone_bool, c_slices_Clone_int]
  repeat' (first | with_reducible refine And.intro ?_ ?_ | intro _)
  all_goals try omega
  all_goals try assumption
  rename_i p1 hp1 p2 hp2 p3 hp3 p4 hp4
  refine end_ret ?_
  simp only [↓WP, ↓grdD, ↓grdT, ↓un_dead, ↓binVC, ↓buildVC, ↓sliceVC, WQ, WN, Int.reduceToNat, renl, cll, rent, clt, ↓reduceIte, Nat.reduceLeDiff, Nat.reduceEqDiff, Nat.reduceLT, reduceCtorEq, List.append_nil, Nat.reduceAdd, Nat.reduceSub, Nat.reduceBEq, forall_const, implies_true, cond_true, cond_false, AV.ren, AC.ren, AV.cl, AC.cl, eq_self, List.all_cons, List.all_nil, AV.eqv, AC.eqv, eqvl, eqvt, Sl.eqv, List.map_append, List.length_map, List.length_append, List.length_replicate, List.length_set, List.map_replicate, nilVC, zr_25, fl_25_0, sz_22, fl_25_1, fl_25_2, sz_23, fl_25_3, fl_25_4, sz_3, fs_25, sz_25, c_slices_Clone_bool, c_slices_Clone_int]
  refine ⟨(p1, p2, p3, p4), [], [2, 3, 4, 5], ?_⟩
  simp only [WL, WNL, swA_new, swA_ne, nest_sw_ne, mapLL, List.mem_cons, Nat.reduceAdd, Nat.reduceLT, Nat.reduceLeDiff, Nat.reduceEqDiff, okU, List.nodup_cons, List.not_mem_nil, toT, toL, toO, keysO, renl, rent, cll, clt, eq_self, AV.eqv, AC.eqv, eqvl, eqvt, Sl.eqv, rowsLe, mapLL, rowsCl, List.map_append, List.length_map, List.length_append, List.length_set, List.map_replicate, rowG, List.getElem?_cons_zero, List.getElem?_cons_succ, List.getElem?_nil, List.append_nil, List.nil_append, List.cons_append, ghosts, St.gh, Option.some.injEq, implies_true, setT, AV.ren, AC.ren, AV.cl, AC.cl, List.replicate_succ, List.replicate_zero, List.nodup_nil, List.length_nil, List.length_cons, List.getD_cons_zero, List.getD_cons_succ, ↓reduceIte, retP]
  simp [hp1, hp2, hp3, hp4]
def c_spec_l32Copy : Contract := ⟨57, fun args M => match args with
  | [.agg [.sl a1 n1 c1, .sl a2 n2 c2, .sl a3 n3 c3, .sl a4 n4 c4, .int .i64 u]] => .eff ((RowOk Bool a1 n1 (M a1.r) ∧ RowOk Bool a2 n2 (M a2.r) ∧ RowOk Int a3 n3 (M a3.r) ∧ RowOk Int a4 n4 (M a4.r)) ∧ (n1 = 16 ∧ n2 = 16 ∧ n3 = 16)) (Nat × Nat × Nat × Nat) (fun p => n1 ≤ p.1 ∧ n2 ≤ p.2.1 ∧ n3 ≤ p.2.2.1 ∧ n4 ≤ p.2.2.2) (fun p => .agg [.sl ⟨.loc 0, 0, 0, 0⟩ n1 p.1, .sl ⟨.loc 1, 0, 0, 0⟩ n2 p.2.1, .sl ⟨.loc 2, 0, 0, 0⟩ n3 p.2.2.1, .sl ⟨.loc 3, 0, 0, 0⟩ n4 p.2.2.2, .int .i64 u]) (fun p => [rowG true 4 p.1 (row Bool a1 n1 (M a1.r)), rowG true 4 p.2.1 (row Bool a2 n2 (M a2.r)), rowG true 3 p.2.2.1 (row Int a3 n3 (M a3.r)), rowG true 3 p.2.2.2 (row Int a4 n4 (M a4.r))]) (fun _ => [])
  | _ => .bad⟩
theorem ok_spec_l32Copy : fnP Try.prog c_spec_l32Copy.f = true ∧ ∀ args M, (c_spec_l32Copy.sp args M).OK Try.prog c_spec_l32Copy.f args M := by
  refine ⟨fp_57, fun args M => ?_⟩
  unfold c_spec_l32Copy
  dsimp only
  split
  case h_2 => trivial
  rename_i a1 n1 c1 a2 n2 c2 a3 n3 c3 a4 n4 c4 u
  rintro ⟨⟨h1, h2, h3, h4⟩, l1, l2, l3⟩
  obtain ⟨s1, P, hP, rfl, t1⟩ := h1.x
  obtain ⟨s2, K, hK, rfl, t2⟩ := h2.x
  obtain ⟨s3, D, hD, rfl, t3⟩ := h3.x
  obtain ⟨s4, I, hI, rfl, t4⟩ := h4.x
  rw [hP, hK, hD, hI]
  refine goIn hf_57 rfl (nt := 22) rfl (rs := [.cell 2 25]) rfl (C := []) trivial (q := fun f => [].contains f) trivial mixed (O := ots [(1, otl [0, 1, 4, 5, 8, 9, 12, 13, 16] (.gob 2 (otl [] (.gob 6 (otl [] (.gob 10 (otl [] (.gob 14 (otl [] (.gob 17 (otl [3, 7, 11, 15, 18, 19] .nil)))))))))))]) (by kernel_rfl) ?_
  obtain ⟨own1, ty1, cnt1, cap1, len1, get1, hM1, hf1, hic1, hkn1, hget1⟩ := t1 (by omega)
  obtain ⟨own2, ty2, cnt2, cap2, len2, get2, hM2, hf2, hic2, hkn2, hget2⟩ := t2 (by omega)
  obtain ⟨own3, ty3, cnt3, cap3, len3, get3, hM3, hf3, hic3, hkn3, hget3⟩ := t3 (by omega)
  have w1 : win (fun k => List.map AC.up (get1 a1.i (a1.k + k))) P.length = P.map enc := win_enc (g := fun k => get1 a1.i (a1.k + k)) hget1
  have w2 : win (fun k => List.map AC.up (get2 a2.i (a2.k + k))) K.length = K.map enc := win_enc (g := fun k => get2 a2.i (a2.k + k)) hget2
  have w3 : win (fun k => List.map AC.up (get3 a3.i (a3.k + k))) D.length = D.map enc := win_enc (g := fun k => get3 a3.i (a3.k + k)) hget3
  rcases Nat.eq_zero_or_pos I.length with l4 | l4
  · obtain rfl : I = [] := List.eq_nil_of_length_eq_zero l4
    simp only [↓WP, ↓grdD, ↓grdT, ↓un_dead, ↓binVC, ↓buildVC, ↓sliceVC, WQ, WN, Int.reduceToNat, renl, cll, rent, clt, ↓reduceIte, Nat.reduceLeDiff, Nat.reduceEqDiff, Nat.reduceLT, reduceCtorEq, List.append_nil, Nat.reduceAdd, Nat.reduceSub, Nat.reduceBEq, forall_const, implies_true, cond_true, cond_false, AV.ren, AC.ren, AV.cl, AC.cl, eq_self, List.all_cons, List.all_nil, AV.eqv, AC.eqv, eqvl, eqvt, Sl.eqv, List.map_append, List.length_map, List.length_append, List.length_replicate, List.length_set, List.map_replicate, nilVC, zr_25, el_22, zr_4, fl_25_0, sz_22, fl_25_1, el_23, zr_3, fl_25_2, sz_23, fl_25_3, fl_25_4, sz_3, fs_25, sz_25, hM1, hf1, w1, hM2, hf2, w2, hM3, hf3, w3]
    repeat' (first | with_reducible refine And.intro ?_ ?_ | intro _)
    all_goals try omega
    all_goals try rfl
    all_goals try exact .inl trivial
    rename_i p1 hp1 _ _ _ p2 hp2 _ _ _ p3 hp3 _
    refine end_ret ?_
    simp only [↓WP, ↓grdD, ↓grdT, ↓un_dead, ↓binVC, ↓buildVC, ↓sliceVC, WQ, WN, Int.reduceToNat, renl, cll, rent, clt, ↓reduceIte, Nat.reduceLeDiff, Nat.reduceEqDiff, Nat.reduceLT, reduceCtorEq, List.append_nil, Nat.reduceAdd, Nat.reduceSub, Nat.reduceBEq, forall_const, implies_true, cond_true, cond_false, AV.ren, AC.ren, AV.cl, AC.cl, eq_self, List.all_cons, List.all_nil, AV.eqv, AC.eqv, eqvl, eqvt, Sl.eqv, List.map_append, List.length_map, List.length_append, List.length_replicate, List.length_set, List.map_replicate, nilVC, zr_25, el_22, zr_4, fl_25_0, sz_22, fl_25_1, el_23, zr_3, fl_25_2, sz_23, fl_25_3, fl_25_4, sz_3, fs_25, sz_25]
    refine ⟨(p1, p2, p3, 0), [(3, 1)], [2, 3, 4, 5], ?_⟩
    simp only [WL, WNL, swA_new, swA_ne, nest_sw_ne, mapLL, List.mem_cons, Nat.reduceAdd, Nat.reduceLT, Nat.reduceLeDiff, Nat.reduceEqDiff, okU, List.nodup_cons, List.not_mem_nil, toT, toL, toO, keysO, renl, rent, cll, clt, eq_self, AV.eqv, AC.eqv, eqvl, eqvt, Sl.eqv, rowsLe, mapLL, rowsCl, List.map_append, List.length_map, List.length_append, List.length_set, List.map_replicate, rowG, List.getElem?_cons_zero, List.getElem?_cons_succ, List.getElem?_nil, List.append_nil, List.nil_append, List.cons_append, ghosts, St.gh, Option.some.injEq, implies_true, setT, AV.ren, AC.ren, AV.cl, AC.cl, List.replicate_succ, List.replicate_zero, List.nodup_nil, List.length_nil, List.length_cons, List.getD_cons_zero, List.getD_cons_succ, ↓reduceIte, retP]
    simp [hp1, hp2, hp3]
  · obtain ⟨own4, ty4, cnt4, cap4, len4, get4, hM4, hf4, hic4, hkn4, hget4⟩ := t4 (by omega)
    have w4 : win (fun k => List.map AC.up (get4 a4.i (a4.k + k))) I.length = I.map enc := win_enc (g := fun k => get4 a4.i (a4.k + k)) hget4
    simp only [↓WP, ↓grdD, ↓grdT, ↓un_dead, ↓binVC, ↓buildVC, ↓sliceVC, WQ, WN, Int.reduceToNat, renl, cll, rent, clt, ↓reduceIte, Nat.reduceLeDiff, Nat.reduceEqDiff, Nat.reduceLT, reduceCtorEq, List.append_nil, Nat.reduceAdd, Nat.reduceSub, Nat.reduceBEq, forall_const, implies_true, cond_true, cond_false, AV.ren, AC.ren, AV.cl, AC.cl, eq_self, List.all_cons, List.all_nil, AV.eqv, AC.eqv, eqvl, eqvt, Sl.eqv, List.map_append, List.length_map, List.length_append, List.length_replicate, List.length_set, List.map_replicate, nilVC, zr_25, el_22, zr_4, fl_25_0, sz_22, fl_25_1, el_23, zr_3, fl_25_2, sz_23, fl_25_3, fl_25_4, sz_3, fs_25, sz_25, hM1, hf1, w1, hM2, hf2, w2, hM3, hf3, w3, hM4, hf4, w4]
    repeat' (first | with_reducible refine And.intro ?_ ?_ | intro _)
    all_goals try omega
    all_goals try rfl
    all_goals try exact .inl trivial
    rename_i p1 hp1 _ _ _ p2 hp2 _ _ _ p3 hp3 _ _ _ p4 hp4 _
    refine end_ret ?_
    simp only [↓WP, ↓grdD, ↓grdT, ↓un_dead, ↓binVC, ↓buildVC, ↓sliceVC, WQ, WN, Int.reduceToNat, renl, cll, rent, clt, ↓reduceIte, Nat.reduceLeDiff, Nat.reduceEqDiff, Nat.reduceLT, reduceCtorEq, List.append_nil, Nat.reduceAdd, Nat.reduceSub, Nat.reduceBEq, forall_const, implies_true, cond_true, cond_false, AV.ren, AC.ren, AV.cl, AC.cl, eq_self, List.all_cons, List.all_nil, AV.eqv, AC.eqv, eqvl, eqvt, Sl.eqv, List.map_append, List.length_map, List.length_append, List.length_replicate, List.length_set, List.map_replicate, nilVC, zr_25, el_22, zr_4, fl_25_0, sz_22, fl_25_1, el_23, zr_3, fl_25_2, sz_23, fl_25_3, fl_25_4, sz_3, fs_25, sz_25]
    refine ⟨(p1, p2, p3, p4), [], [2, 3, 4, 5], ?_⟩
    simp only [WL, WNL, swA_new, swA_ne, nest_sw_ne, mapLL, List.mem_cons, Nat.reduceAdd, Nat.reduceLT, Nat.reduceLeDiff, Nat.reduceEqDiff, okU, List.nodup_cons, List.not_mem_nil, toT, toL, toO, keysO, renl, rent, cll, clt, eq_self, AV.eqv, AC.eqv, eqvl, eqvt, Sl.eqv, rowsLe, mapLL, rowsCl, List.map_append, List.length_map, List.length_append, List.length_set, List.map_replicate, rowG, List.getElem?_cons_zero, List.getElem?_cons_succ, List.getElem?_nil, List.append_nil, List.nil_append, List.cons_append, ghosts, St.gh, Option.some.injEq, implies_true, setT, AV.ren, AC.ren, AV.cl, AC.cl, List.replicate_succ, List.replicate_zero, List.nodup_nil, List.length_nil, List.length_cons, List.getD_cons_zero, List.getD_cons_succ, ↓reduceIte, retP]
    simp [hp1, hp2, hp3, hp4]
end Go.Eng.T
