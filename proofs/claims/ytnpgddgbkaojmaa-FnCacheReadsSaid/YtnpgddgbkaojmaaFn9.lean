/- cache: copies; what a sync gives. -/
import Derived.Test.YtnpgddgbkaojmaaFn8
set_option linter.unusedVariables false
set_option linter.unusedSimpArgs false
set_option linter.unusedSectionVars false
namespace Go.Eng.T
open Go.Proofs
open Cel (enc dec)
set_option maxRecDepth 100000
set_option maxHeartbeats 4000000
def c_slices_Clone_Row : Contract := ⟨69, fun args M => match args with
  | [.c (.sl a n c)] => .eff (RowOk TR a n (M a.r) ∧ n ≤ c) Nat (fun k => n ≤ k) (fun k => .c (.sl ⟨.loc 0, 0, 0, 0⟩ n k)) (fun k => [rowG true 60 k (row TR a n (M a.r))]) (fun _ => [])
  | _ => .bad⟩
theorem ok_slices_Clone_Row : fnP Try.prog c_slices_Clone_Row.f = true ∧ ∀ args M, (c_slices_Clone_Row.sp args M).OK Try.prog c_slices_Clone_Row.f args M := by
  refine ⟨fp_69, fun args M => ?_⟩
  unfold c_slices_Clone_Row
  dsimp only
  split
  case h_2 => trivial
  rename_i a n c
  rintro ⟨hrow, hc⟩
  obtain ⟨hs, X, hX, rfl, hat⟩ := hrow.x
  rw [hX]
  refine goIn hf_69 rfl (nt := 8) rfl (rs := [.tmp 2]) rfl (C := []) trivial (q := fun _ => false) okQ_none mixed (O := fun _ => .nil) (by kernel_rfl) ?_
  rcases Nat.eq_zero_or_pos X.length with h0 | h0
  · obtain rfl : X = [] := List.eq_nil_of_length_eq_zero h0
    simp only [↓WP, ↓grdD, ↓grdT, ↓un_dead, ↓binVC, ↓buildVC, ↓sliceVC, WQ, WN, Int.reduceToNat, renl, cll, rent, clt, ↓reduceIte, Nat.reduceLeDiff, Nat.reduceEqDiff, Nat.reduceLT, reduceCtorEq, List.append_nil, Nat.reduceAdd, Nat.reduceSub, Nat.reduceBEq, forall_const, implies_true, cond_true, cond_false, AV.ren, AC.ren, AV.cl, AC.cl, eq_self, List.all_cons, List.all_nil, AV.eqv, AC.eqv, eqvl, eqvt, Sl.eqv, List.map_append, List.length_map, List.length_append, List.length_replicate, List.length_set, List.map_replicate, nilVC, slt_23, el_23, zr_60]
    repeat' (first | with_reducible refine And.intro ?_ ?_ | intro _)
    all_goals try omega
    all_goals try rfl
    all_goals
      refine end_ret ?_
      simp only [↓WP, ↓grdD, ↓grdT, ↓un_dead, ↓binVC, ↓buildVC, ↓sliceVC, WQ, WN, Int.reduceToNat, renl, cll, rent, clt, ↓reduceIte, Nat.reduceLeDiff, Nat.reduceEqDiff, Nat.reduceLT, reduceCtorEq, List.append_nil, Nat.reduceAdd, Nat.reduceSub, Nat.reduceBEq, forall_const, implies_true, cond_true, cond_false, AV.ren, AC.ren, AV.cl, AC.cl, eq_self, List.all_cons, List.all_nil, AV.eqv, AC.eqv, eqvl, eqvt, Sl.eqv, List.map_append, List.length_map, List.length_append, List.length_replicate, List.length_set, List.map_replicate, nilVC, slt_23, el_23, zr_60]
      refine ⟨0, [(60, 3)], [0], ?_⟩
      simp [WL, WNL, swA_new, swA_ne, nest_sw_ne, mapLL, List.mem_cons, Nat.reduceAdd, Nat.reduceLT, Nat.reduceLeDiff, Nat.reduceEqDiff, okU, List.nodup_cons, List.not_mem_nil, toT, toL, toO, keysO, renl, rent, cll, clt, eq_self, AV.eqv, AC.eqv, eqvl, eqvt, Sl.eqv, rowsLe, mapLL, rowsCl, List.map_append, List.length_map, List.length_append, List.length_set, List.map_replicate, rowG, List.getElem?_cons_zero, List.getElem?_cons_succ, List.getElem?_nil, List.append_nil, List.nil_append, List.cons_append, ghosts, St.gh, Option.some.injEq, implies_true, setT, AV.ren, AC.ren, AV.cl, AC.cl, List.replicate_succ, List.replicate_zero, List.nodup_nil, List.length_nil, List.length_cons, List.getD_cons_zero, List.getD_cons_succ, ↓reduceIte, retP]
  · obtain ⟨own, ty, cnt, cap, len, get, hM, hf, hic, hkn, hget⟩ := hat h0
    have hwin : win (fun k => List.map AC.up (get a.i (a.k + k))) X.length = X.map enc := win_enc (g := fun k => get a.i (a.k + k)) hget
    simp only [↓WP, ↓grdD, ↓grdT, ↓un_dead, ↓binVC, ↓buildVC, ↓sliceVC, WQ, WN, Int.reduceToNat, renl, cll, rent, clt, ↓reduceIte, Nat.reduceLeDiff, Nat.reduceEqDiff, Nat.reduceLT, reduceCtorEq, List.append_nil, Nat.reduceAdd, Nat.reduceSub, Nat.reduceBEq, forall_const, implies_true, cond_true, cond_false, AV.ren, AC.ren, AV.cl, AC.cl, eq_self, List.all_cons, List.all_nil, AV.eqv, AC.eqv, eqvl, eqvt, Sl.eqv, List.map_append, List.length_map, List.length_append, List.length_replicate, List.length_set, List.map_replicate, nilVC, slt_23, el_23, zr_60, hM, hf, hwin]
    refine fun b hb => ⟨fun e => absurd (hb e) (by omega), fun _ => ?_⟩
    repeat' (first | with_reducible refine And.intro ?_ ?_ | intro _)
    all_goals try omega
    all_goals try rfl
    all_goals try exact .inl trivial
    all_goals
      rename_i k hk _
      refine end_ret ?_
      simp only [↓WP, ↓grdD, ↓grdT, ↓un_dead, ↓binVC, ↓buildVC, ↓sliceVC, WQ, WN, Int.reduceToNat, renl, cll, rent, clt, ↓reduceIte, Nat.reduceLeDiff, Nat.reduceEqDiff, Nat.reduceLT, reduceCtorEq, List.append_nil, Nat.reduceAdd, Nat.reduceSub, Nat.reduceBEq, forall_const, implies_true, cond_true, cond_false, AV.ren, AC.ren, AV.cl, AC.cl, eq_self, List.all_cons, List.all_nil, AV.eqv, AC.eqv, eqvl, eqvt, Sl.eqv, List.map_append, List.length_map, List.length_append, List.length_replicate, List.length_set, List.map_replicate, nilVC, slt_23, el_23, zr_60]
      refine ⟨k, [], [0], ?_⟩
      simp only [WL, WNL, swA_new, swA_ne, nest_sw_ne, mapLL, List.mem_cons, Nat.reduceAdd, Nat.reduceLT, Nat.reduceLeDiff, Nat.reduceEqDiff, okU, List.nodup_cons, List.not_mem_nil, toT, toL, toO, keysO, renl, rent, cll, clt, eq_self, AV.eqv, AC.eqv, eqvl, eqvt, Sl.eqv, rowsLe, mapLL, rowsCl, List.map_append, List.length_map, List.length_append, List.length_set, List.map_replicate, rowG, List.getElem?_cons_zero, List.getElem?_cons_succ, List.getElem?_nil, List.append_nil, List.nil_append, List.cons_append, ghosts, St.gh, Option.some.injEq, implies_true, setT, AV.ren, AC.ren, AV.cl, AC.cl, List.replicate_succ, List.replicate_zero, List.nodup_nil, List.length_nil, List.length_cons, List.getD_cons_zero, List.getD_cons_succ, ↓reduceIte, retP]
      simp [hk]
theorem q_slices_Clone_Row : Quiet c_slices_Clone_Row := by
  intro args M
  unfold c_slices_Clone_Row
  dsimp only
  split <;> first | trivial | (intro _; rfl)
def c_slices_Clone_string : Contract := ⟨68, fun args M => match args with
  | [.c (.sl a n c)] => .eff (RowOk ByteArray a n (M a.r) ∧ n ≤ c) Nat (fun k => n ≤ k) (fun k => .c (.sl ⟨.loc 0, 0, 0, 0⟩ n k)) (fun k => [rowG true 9 k (row ByteArray a n (M a.r))]) (fun _ => [])
  | _ => .bad⟩
theorem ok_slices_Clone_string : fnP Try.prog c_slices_Clone_string.f = true ∧ ∀ args M, (c_slices_Clone_string.sp args M).OK Try.prog c_slices_Clone_string.f args M := by
  refine ⟨fp_68, fun args M => ?_⟩
  unfold c_slices_Clone_string
  dsimp only
  split
  case h_2 => trivial
  rename_i a n c
  rintro ⟨hrow, hc⟩
  obtain ⟨hs, X, hX, rfl, hat⟩ := hrow.x
  rw [hX]
  refine goIn hf_68 rfl (nt := 8) rfl (rs := [.tmp 2]) rfl (C := []) trivial (q := fun _ => false) okQ_none mixed (O := fun _ => .nil) (by kernel_rfl) ?_
  rcases Nat.eq_zero_or_pos X.length with h0 | h0
  · obtain rfl : X = [] := List.eq_nil_of_length_eq_zero h0
    simp only [↓WP, ↓grdD, ↓grdT, ↓un_dead, ↓binVC, ↓buildVC, ↓sliceVC, WQ, WN, Int.reduceToNat, renl, cll, rent, clt, ↓reduceIte, Nat.reduceLeDiff, Nat.reduceEqDiff, Nat.reduceLT, reduceCtorEq, List.append_nil, Nat.reduceAdd, Nat.reduceSub, Nat.reduceBEq, forall_const, implies_true, cond_true, cond_false, AV.ren, AC.ren, AV.cl, AC.cl, eq_self, List.all_cons, List.all_nil, AV.eqv, AC.eqv, eqvl, eqvt, Sl.eqv, List.map_append, List.length_map, List.length_append, List.length_replicate, List.length_set, List.map_replicate, nilVC, slt_22, el_22, zr_9]
    repeat' (first | with_reducible refine And.intro ?_ ?_ | intro _)
    all_goals try omega
    all_goals try rfl
    all_goals
      refine end_ret ?_
      simp only [↓WP, ↓grdD, ↓grdT, ↓un_dead, ↓binVC, ↓buildVC, ↓sliceVC, WQ, WN, Int.reduceToNat, renl, cll, rent, clt, ↓reduceIte, Nat.reduceLeDiff, Nat.reduceEqDiff, Nat.reduceLT, reduceCtorEq, List.append_nil, Nat.reduceAdd, Nat.reduceSub, Nat.reduceBEq, forall_const, implies_true, cond_true, cond_false, AV.ren, AC.ren, AV.cl, AC.cl, eq_self, List.all_cons, List.all_nil, AV.eqv, AC.eqv, eqvl, eqvt, Sl.eqv, List.map_append, List.length_map, List.length_append, List.length_replicate, List.length_set, List.map_replicate, nilVC, slt_22, el_22, zr_9]
      refine ⟨0, [(9, 1)], [0], ?_⟩
      simp [WL, WNL, swA_new, swA_ne, nest_sw_ne, mapLL, List.mem_cons, Nat.reduceAdd, Nat.reduceLT, Nat.reduceLeDiff, Nat.reduceEqDiff, okU, List.nodup_cons, List.not_mem_nil, toT, toL, toO, keysO, renl, rent, cll, clt, eq_self, AV.eqv, AC.eqv, eqvl, eqvt, Sl.eqv, rowsLe, mapLL, rowsCl, List.map_append, List.length_map, List.length_append, List.length_set, List.map_replicate, rowG, List.getElem?_cons_zero, List.getElem?_cons_succ, List.getElem?_nil, List.append_nil, List.nil_append, List.cons_append, ghosts, St.gh, Option.some.injEq, implies_true, setT, AV.ren, AC.ren, AV.cl, AC.cl, List.replicate_succ, List.replicate_zero, List.nodup_nil, List.length_nil, List.length_cons, List.getD_cons_zero, List.getD_cons_succ, ↓reduceIte, retP]
  · obtain ⟨own, ty, cnt, cap, len, get, hM, hf, hic, hkn, hget⟩ := hat h0
    have hwin : win (fun k => List.map AC.up (get a.i (a.k + k))) X.length = X.map enc := win_enc (g := fun k => get a.i (a.k + k)) hget
    simp only [↓WP, ↓grdD, ↓grdT, ↓un_dead, ↓binVC, ↓buildVC, ↓sliceVC, WQ, WN, Int.reduceToNat, renl, cll, rent, clt, ↓reduceIte, Nat.reduceLeDiff, Nat.reduceEqDiff, Nat.reduceLT, reduceCtorEq, List.append_nil, Nat.reduceAdd, Nat.reduceSub, Nat.reduceBEq, forall_const, implies_true, cond_true, cond_false, AV.ren, AC.ren, AV.cl, AC.cl, eq_self, List.all_cons, List.all_nil, AV.eqv, AC.eqv, eqvl, eqvt, Sl.eqv, List.map_append, List.length_map, List.length_append, List.length_replicate, List.length_set, List.map_replicate, nilVC, slt_22, el_22, zr_9, hM, hf, hwin]
    refine fun b hb => ⟨fun e => absurd (hb e) (by omega), fun _ => ?_⟩
    repeat' (first | with_reducible refine And.intro ?_ ?_ | intro _)
    all_goals try omega
    all_goals try rfl
    all_goals try exact .inl trivial
    all_goals
      rename_i k hk _
      refine end_ret ?_
      simp only [↓WP, ↓grdD, ↓grdT, ↓un_dead, ↓binVC, ↓buildVC, ↓sliceVC, WQ, WN, Int.reduceToNat, renl, cll, rent, clt, ↓reduceIte, Nat.reduceLeDiff, Nat.reduceEqDiff, Nat.reduceLT, reduceCtorEq, List.append_nil, Nat.reduceAdd, Nat.reduceSub, Nat.reduceBEq, forall_const, implies_true, cond_true, cond_false, AV.ren, AC.ren, AV.cl, AC.cl, eq_self, List.all_cons, List.all_nil, AV.eqv, AC.eqv, eqvl, eqvt, Sl.eqv, List.map_append, List.length_map, List.length_append, List.length_replicate, List.length_set, List.map_replicate, nilVC, slt_22, el_22, zr_9]
      refine ⟨k, [], [0], ?_⟩
      simp only [WL, WNL, swA_new, swA_ne, nest_sw_ne, mapLL, List.mem_cons, Nat.reduceAdd, Nat.reduceLT, Nat.reduceLeDiff, Nat.reduceEqDiff, okU, List.nodup_cons, List.not_mem_nil, toT, toL, toO, keysO, renl, rent, cll, clt, eq_self, AV.eqv, AC.eqv, eqvl, eqvt, Sl.eqv, rowsLe, mapLL, rowsCl, List.map_append, List.length_map, List.length_append, List.length_set, List.map_replicate, rowG, List.getElem?_cons_zero, List.getElem?_cons_succ, List.getElem?_nil, List.append_nil, List.nil_append, List.cons_append, ghosts, St.gh, Option.some.injEq, implies_true, setT, AV.ren, AC.ren, AV.cl, AC.cl, List.replicate_succ, List.replicate_zero, List.nodup_nil, List.length_nil, List.length_cons, List.getD_cons_zero, List.getD_cons_succ, ↓reduceIte, retP]
      simp [hk]
theorem q_slices_Clone_string : Quiet c_slices_Clone_string := by
  intro args M
  unfold c_slices_Clone_string
  dsimp only
  split <;> first | trivial | (intro _; rfl)
def c_impl_cloneCache : Contract := ⟨49, fun args M => match args with
  | [.agg [.int .i64 cap, .sl a n ca, .sl b m cb, .int .i64 rd, .int .i64 pt]] => .eff (RowOk ByteArray a n (M a.r) ∧ n ≤ ca ∧ RowOk TR b m (M b.r) ∧ m ≤ cb) (Nat × Nat) (fun p => n ≤ p.1 ∧ m ≤ p.2) (fun p => .agg [.int .i64 cap, .sl ⟨.loc 0, 0, 0, 0⟩ n p.1, .sl ⟨.loc 1, 0, 0, 0⟩ m p.2, .int .i64 rd, .int .i64 pt]) (fun p => [rowG true 9 p.1 (row ByteArray a n (M a.r)), rowG true 60 p.2 (row TR b m (M b.r))]) (fun _ => [])
  | _ => .bad⟩
theorem ok_impl_cloneCache : fnP Try.prog c_impl_cloneCache.f = true ∧ ∀ args M, (c_impl_cloneCache.sp args M).OK Try.prog c_impl_cloneCache.f args M := by
  refine ⟨fp_49, fun args M => ?_⟩
  unfold c_impl_cloneCache
  dsimp only
  split
  case h_2 => trivial
  rename_i cap a n ca b m cb rd pt
  rintro ⟨ha, hc, hb, hd⟩
  refine goIn hf_49 rfl (nt := 12) rfl (rs := [.cell 2 25]) rfl (C := [c_slices_Clone_string, c_slices_Clone_Row]) ⟨(by first | exact .inl ok_slices_Clone_string | exact ok_slices_Clone_string), (by first | exact .inl ok_slices_Clone_Row | exact ok_slices_Clone_Row), trivial⟩ (q := fun f => [68, 69].contains f) ⟨fun _ => q_slices_Clone_string, fun _ => q_slices_Clone_Row, trivial⟩ mixed (O := ots [(1, otl [0, 1, 3, 4, 2, 6, 5, 7, 8, 9] .nil)]) (by kernel_rfl) ?_
  simp only [↓WP, ↓grdD, ↓grdT, ↓un_dead, ↓binVC, ↓buildVC, ↓sliceVC, WQ, WN, Int.reduceToNat, renl, cll, rent, clt, ↓reduceIte, Nat.reduceLeDiff, Nat.reduceEqDiff, Nat.reduceLT, reduceCtorEq, List.append_nil, Nat.reduceAdd, Nat.reduceSub, Nat.reduceBEq, forall_const, implies_true, cond_true, cond_false, AV.ren, AC.ren, AV.cl, AC.cl, eq_self, List.all_cons, List.all_nil, AV.eqv, AC.eqv, eqvl, eqvt, Sl.eqv, List.map_append, List.length_map, List.length_append, List.length_replicate, List.length_set, List.map_replicate, nilVC, zr_25, fl_25_1, sz_22, fl_25_2, sz_23, sz_25, c_slices_Clone_string, c_slices_Clone_Row]
  repeat' (first | with_reducible refine And.intro ?_ ?_ | intro _)
  all_goals try omega
  all_goals try first | exact ha | exact hb
  rename_i k1 hk1 k2 hk2
  refine end_ret ?_
  simp only [↓WP, ↓grdD, ↓grdT, ↓un_dead, ↓binVC, ↓buildVC, ↓sliceVC, WQ, WN, Int.reduceToNat, renl, cll, rent, clt, ↓reduceIte, Nat.reduceLeDiff, Nat.reduceEqDiff, Nat.reduceLT, reduceCtorEq, List.append_nil, Nat.reduceAdd, Nat.reduceSub, Nat.reduceBEq, forall_const, implies_true, cond_true, cond_false, AV.ren, AC.ren, AV.cl, AC.cl, eq_self, List.all_cons, List.all_nil, AV.eqv, AC.eqv, eqvl, eqvt, Sl.eqv, List.map_append, List.length_map, List.length_append, List.length_replicate, List.length_set, List.map_replicate, nilVC, zr_25, fl_25_1, sz_22, fl_25_2, sz_23, sz_25, c_slices_Clone_string, c_slices_Clone_Row]
  refine ⟨(k1, k2), [], [2, 3], ?_⟩
  simp only [WL, WNL, swA_new, swA_ne, nest_sw_ne, mapLL, List.mem_cons, Nat.reduceAdd, Nat.reduceLT, Nat.reduceLeDiff, Nat.reduceEqDiff, okU, List.nodup_cons, List.not_mem_nil, toT, toL, toO, keysO, renl, rent, cll, clt, eq_self, AV.eqv, AC.eqv, eqvl, eqvt, Sl.eqv, rowsLe, mapLL, rowsCl, List.map_append, List.length_map, List.length_append, List.length_set, List.map_replicate, rowG, List.getElem?_cons_zero, List.getElem?_cons_succ, List.getElem?_nil, List.append_nil, List.nil_append, List.cons_append, ghosts, St.gh, Option.some.injEq, implies_true, setT, AV.ren, AC.ren, AV.cl, AC.cl, List.replicate_succ, List.replicate_zero, List.nodup_nil, List.length_nil, List.length_cons, List.getD_cons_zero, List.getD_cons_succ, ↓reduceIte, retP]
  simp [hk1, hk2]
def c_spec_l30Copy : Contract := ⟨48, fun args M => match args with
  | [.agg [.int .i64 cap, .sl a n ca, .sl b m cb, .int .i64 rd, .int .i64 pt]] => .eff (RowOk ByteArray a n (M a.r) ∧ RowOk TR b m (M b.r)) (Nat × Nat) (fun p => n ≤ p.1 ∧ m ≤ p.2) (fun p => .agg [.int .i64 cap, .sl ⟨.loc 0, 0, 0, 0⟩ n p.1, .sl ⟨.loc 1, 0, 0, 0⟩ m p.2, .int .i64 rd, .int .i64 pt]) (fun p => [rowG true 9 p.1 (row ByteArray a n (M a.r)), rowG true 60 p.2 (row TR b m (M b.r))]) (fun _ => [])
  | _ => .bad⟩
theorem ok_spec_l30Copy : fnP Try.prog c_spec_l30Copy.f = true ∧ ∀ args M, (c_spec_l30Copy.sp args M).OK Try.prog c_spec_l30Copy.f args M := by
  refine ⟨fp_48, fun args M => ?_⟩
  unfold c_spec_l30Copy
  dsimp only
  split
  case h_2 => trivial
  rename_i cap a n ca b m cb rd pt
  rintro ⟨ha, hb⟩
  obtain ⟨hs, D, hD, rfl, hat⟩ := ha.x
  obtain ⟨hs', R, hR, rfl, hbt⟩ := hb.x
  rw [hD, hR]
  refine goIn hf_48 rfl (nt := 14) rfl (rs := [.cell 2 25]) rfl (C := []) trivial (q := fun _ => false) okQ_none mixed (O := fun _ => .nil) (by kernel_rfl) ?_
  rcases Nat.eq_zero_or_pos D.length with h0 | h0
  · obtain rfl : D = [] := List.eq_nil_of_length_eq_zero h0
    rcases Nat.eq_zero_or_pos R.length with h1 | h1
    · obtain rfl : R = [] := List.eq_nil_of_length_eq_zero h1
      simp only [↓WP, ↓grdD, ↓grdT, ↓un_dead, ↓binVC, ↓buildVC, ↓sliceVC, WQ, WN, Int.reduceToNat, renl, cll, rent, clt, ↓reduceIte, Nat.reduceLeDiff, Nat.reduceEqDiff, Nat.reduceLT, reduceCtorEq, List.append_nil, Nat.reduceAdd, Nat.reduceSub, Nat.reduceBEq, forall_const, implies_true, cond_true, cond_false, AV.ren, AC.ren, AV.cl, AC.cl, eq_self, List.all_cons, List.all_nil, AV.eqv, AC.eqv, eqvl, eqvt, Sl.eqv, List.map_append, List.length_map, List.length_append, List.length_replicate, List.length_set, List.map_replicate, nilVC, zr_25, el_22, zr_9, fl_25_1, sz_22, el_23, zr_60, fl_25_2, sz_23, sz_25]
      repeat' (first | with_reducible refine And.intro ?_ ?_ | intro _)
      all_goals try omega
      all_goals try rfl
      all_goals
        refine end_ret ?_
        simp only [↓WP, ↓grdD, ↓grdT, ↓un_dead, ↓binVC, ↓buildVC, ↓sliceVC, WQ, WN, Int.reduceToNat, renl, cll, rent, clt, ↓reduceIte, Nat.reduceLeDiff, Nat.reduceEqDiff, Nat.reduceLT, reduceCtorEq, List.append_nil, Nat.reduceAdd, Nat.reduceSub, Nat.reduceBEq, forall_const, implies_true, cond_true, cond_false, AV.ren, AC.ren, AV.cl, AC.cl, eq_self, List.all_cons, List.all_nil, AV.eqv, AC.eqv, eqvl, eqvt, Sl.eqv, List.map_append, List.length_map, List.length_append, List.length_replicate, List.length_set, List.map_replicate, nilVC, zr_25, el_22, zr_9, fl_25_1, sz_22, el_23, zr_60, fl_25_2, sz_23, sz_25]
        refine ⟨(0, 0), [(9, 1), (60, 3)], [2, 3], ?_⟩
        simp [WL, WNL, swA_new, swA_ne, nest_sw_ne, mapLL, List.mem_cons, Nat.reduceAdd, Nat.reduceLT, Nat.reduceLeDiff, Nat.reduceEqDiff, okU, List.nodup_cons, List.not_mem_nil, toT, toL, toO, keysO, renl, rent, cll, clt, eq_self, AV.eqv, AC.eqv, eqvl, eqvt, Sl.eqv, rowsLe, mapLL, rowsCl, List.map_append, List.length_map, List.length_append, List.length_set, List.map_replicate, rowG, List.getElem?_cons_zero, List.getElem?_cons_succ, List.getElem?_nil, List.append_nil, List.nil_append, List.cons_append, ghosts, St.gh, Option.some.injEq, implies_true, setT, AV.ren, AC.ren, AV.cl, AC.cl, List.replicate_succ, List.replicate_zero, List.nodup_nil, List.length_nil, List.length_cons, List.getD_cons_zero, List.getD_cons_succ, ↓reduceIte, retP]
    · obtain ⟨own, ty, cnt, cap1, len, get, hM, hf, hic, hkn, hget⟩ := hbt h1
      have hwin : win (fun k => List.map AC.up (get b.i (b.k + k))) R.length = R.map enc := win_enc (g := fun k => get b.i (b.k + k)) hget
      simp only [↓WP, ↓grdD, ↓grdT, ↓un_dead, ↓binVC, ↓buildVC, ↓sliceVC, WQ, WN, Int.reduceToNat, renl, cll, rent, clt, ↓reduceIte, Nat.reduceLeDiff, Nat.reduceEqDiff, Nat.reduceLT, reduceCtorEq, List.append_nil, Nat.reduceAdd, Nat.reduceSub, Nat.reduceBEq, forall_const, implies_true, cond_true, cond_false, AV.ren, AC.ren, AV.cl, AC.cl, eq_self, List.all_cons, List.all_nil, AV.eqv, AC.eqv, eqvl, eqvt, Sl.eqv, List.map_append, List.length_map, List.length_append, List.length_replicate, List.length_set, List.map_replicate, nilVC, zr_25, el_22, zr_9, fl_25_1, sz_22, el_23, zr_60, fl_25_2, sz_23, sz_25, hM, hf, hwin]
      repeat' (first | with_reducible refine And.intro ?_ ?_ | intro _)
      all_goals try omega
      all_goals try rfl
      all_goals try exact .inl trivial
      all_goals
        rename_i k hk _
        refine end_ret ?_
        simp only [↓WP, ↓grdD, ↓grdT, ↓un_dead, ↓binVC, ↓buildVC, ↓sliceVC, WQ, WN, Int.reduceToNat, renl, cll, rent, clt, ↓reduceIte, Nat.reduceLeDiff, Nat.reduceEqDiff, Nat.reduceLT, reduceCtorEq, List.append_nil, Nat.reduceAdd, Nat.reduceSub, Nat.reduceBEq, forall_const, implies_true, cond_true, cond_false, AV.ren, AC.ren, AV.cl, AC.cl, eq_self, List.all_cons, List.all_nil, AV.eqv, AC.eqv, eqvl, eqvt, Sl.eqv, List.map_append, List.length_map, List.length_append, List.length_replicate, List.length_set, List.map_replicate, nilVC, zr_25, el_22, zr_9, fl_25_1, sz_22, el_23, zr_60, fl_25_2, sz_23, sz_25]
        refine ⟨(0, k), [(9, 1)], [3, 2], ?_⟩
        simp only [WL, WNL, swA_new, swA_ne, nest_sw_ne, mapLL, List.mem_cons, Nat.reduceAdd, Nat.reduceLT, Nat.reduceLeDiff, Nat.reduceEqDiff, okU, List.nodup_cons, List.not_mem_nil, toT, toL, toO, keysO, renl, rent, cll, clt, eq_self, AV.eqv, AC.eqv, eqvl, eqvt, Sl.eqv, rowsLe, mapLL, rowsCl, List.map_append, List.length_map, List.length_append, List.length_set, List.map_replicate, rowG, List.getElem?_cons_zero, List.getElem?_cons_succ, List.getElem?_nil, List.append_nil, List.nil_append, List.cons_append, ghosts, St.gh, Option.some.injEq, implies_true, setT, AV.ren, AC.ren, AV.cl, AC.cl, List.replicate_succ, List.replicate_zero, List.nodup_nil, List.length_nil, List.length_cons, List.getD_cons_zero, List.getD_cons_succ, ↓reduceIte, retP]
        simp [hk]
  · obtain ⟨own, ty, cnt, cap1, len, get, hM, hf, hic, hkn, hget⟩ := hat h0
    have hwin : win (fun k => List.map AC.up (get a.i (a.k + k))) D.length = D.map enc := win_enc (g := fun k => get a.i (a.k + k)) hget
    rcases Nat.eq_zero_or_pos R.length with h1 | h1
    · obtain rfl : R = [] := List.eq_nil_of_length_eq_zero h1
      simp only [↓WP, ↓grdD, ↓grdT, ↓un_dead, ↓binVC, ↓buildVC, ↓sliceVC, WQ, WN, Int.reduceToNat, renl, cll, rent, clt, ↓reduceIte, Nat.reduceLeDiff, Nat.reduceEqDiff, Nat.reduceLT, reduceCtorEq, List.append_nil, Nat.reduceAdd, Nat.reduceSub, Nat.reduceBEq, forall_const, implies_true, cond_true, cond_false, AV.ren, AC.ren, AV.cl, AC.cl, eq_self, List.all_cons, List.all_nil, AV.eqv, AC.eqv, eqvl, eqvt, Sl.eqv, List.map_append, List.length_map, List.length_append, List.length_replicate, List.length_set, List.map_replicate, nilVC, zr_25, el_22, zr_9, fl_25_1, sz_22, el_23, zr_60, fl_25_2, sz_23, sz_25, hM, hf, hwin]
      repeat' (first | with_reducible refine And.intro ?_ ?_ | intro _)
      all_goals try omega
      all_goals try rfl
      all_goals try exact .inl trivial
      all_goals
        rename_i k hk _
        refine end_ret ?_
        simp only [↓WP, ↓grdD, ↓grdT, ↓un_dead, ↓binVC, ↓buildVC, ↓sliceVC, WQ, WN, Int.reduceToNat, renl, cll, rent, clt, ↓reduceIte, Nat.reduceLeDiff, Nat.reduceEqDiff, Nat.reduceLT, reduceCtorEq, List.append_nil, Nat.reduceAdd, Nat.reduceSub, Nat.reduceBEq, forall_const, implies_true, cond_true, cond_false, AV.ren, AC.ren, AV.cl, AC.cl, eq_self, List.all_cons, List.all_nil, AV.eqv, AC.eqv, eqvl, eqvt, Sl.eqv, List.map_append, List.length_map, List.length_append, List.length_replicate, List.length_set, List.map_replicate, nilVC, zr_25, el_22, zr_9, fl_25_1, sz_22, el_23, zr_60, fl_25_2, sz_23, sz_25]
        refine ⟨(k, 0), [(60, 3)], [2, 3], ?_⟩
        simp only [WL, WNL, swA_new, swA_ne, nest_sw_ne, mapLL, List.mem_cons, Nat.reduceAdd, Nat.reduceLT, Nat.reduceLeDiff, Nat.reduceEqDiff, okU, List.nodup_cons, List.not_mem_nil, toT, toL, toO, keysO, renl, rent, cll, clt, eq_self, AV.eqv, AC.eqv, eqvl, eqvt, Sl.eqv, rowsLe, mapLL, rowsCl, List.map_append, List.length_map, List.length_append, List.length_set, List.map_replicate, rowG, List.getElem?_cons_zero, List.getElem?_cons_succ, List.getElem?_nil, List.append_nil, List.nil_append, List.cons_append, ghosts, St.gh, Option.some.injEq, implies_true, setT, AV.ren, AC.ren, AV.cl, AC.cl, List.replicate_succ, List.replicate_zero, List.nodup_nil, List.length_nil, List.length_cons, List.getD_cons_zero, List.getD_cons_succ, ↓reduceIte, retP]
        simp [hk]
    · obtain ⟨own', ty', cnt', cap', len', get', hM', hf', hic', hkn', hget'⟩ := hbt h1
      have hwin' : win (fun k => List.map AC.up (get' b.i (b.k + k))) R.length = R.map enc := win_enc (g := fun k => get' b.i (b.k + k)) hget'
      simp only [↓WP, ↓grdD, ↓grdT, ↓un_dead, ↓binVC, ↓buildVC, ↓sliceVC, WQ, WN, Int.reduceToNat, renl, cll, rent, clt, ↓reduceIte, Nat.reduceLeDiff, Nat.reduceEqDiff, Nat.reduceLT, reduceCtorEq, List.append_nil, Nat.reduceAdd, Nat.reduceSub, Nat.reduceBEq, forall_const, implies_true, cond_true, cond_false, AV.ren, AC.ren, AV.cl, AC.cl, eq_self, List.all_cons, List.all_nil, AV.eqv, AC.eqv, eqvl, eqvt, Sl.eqv, List.map_append, List.length_map, List.length_append, List.length_replicate, List.length_set, List.map_replicate, nilVC, zr_25, el_22, zr_9, fl_25_1, sz_22, el_23, zr_60, fl_25_2, sz_23, sz_25, hM, hf, hwin, hM', hf', hwin']
      repeat' (first | with_reducible refine And.intro ?_ ?_ | intro _)
      all_goals try omega
      all_goals try rfl
      all_goals try exact .inl trivial
      all_goals
        rename_i k1 hk1 _ _ _ k2 hk2 _
        refine end_ret ?_
        simp only [↓WP, ↓grdD, ↓grdT, ↓un_dead, ↓binVC, ↓buildVC, ↓sliceVC, WQ, WN, Int.reduceToNat, renl, cll, rent, clt, ↓reduceIte, Nat.reduceLeDiff, Nat.reduceEqDiff, Nat.reduceLT, reduceCtorEq, List.append_nil, Nat.reduceAdd, Nat.reduceSub, Nat.reduceBEq, forall_const, implies_true, cond_true, cond_false, AV.ren, AC.ren, AV.cl, AC.cl, eq_self, List.all_cons, List.all_nil, AV.eqv, AC.eqv, eqvl, eqvt, Sl.eqv, List.map_append, List.length_map, List.length_append, List.length_replicate, List.length_set, List.map_replicate, nilVC, zr_25, el_22, zr_9, fl_25_1, sz_22, el_23, zr_60, fl_25_2, sz_23, sz_25]
        refine ⟨(k1, k2), [], [2, 3], ?_⟩
        simp only [WL, WNL, swA_new, swA_ne, nest_sw_ne, mapLL, List.mem_cons, Nat.reduceAdd, Nat.reduceLT, Nat.reduceLeDiff, Nat.reduceEqDiff, okU, List.nodup_cons, List.not_mem_nil, toT, toL, toO, keysO, renl, rent, cll, clt, eq_self, AV.eqv, AC.eqv, eqvl, eqvt, Sl.eqv, rowsLe, mapLL, rowsCl, List.map_append, List.length_map, List.length_append, List.length_set, List.map_replicate, rowG, List.getElem?_cons_zero, List.getElem?_cons_succ, List.getElem?_nil, List.append_nil, List.nil_append, List.cons_append, ghosts, St.gh, Option.some.injEq, implies_true, setT, AV.ren, AC.ren, AV.cl, AC.cl, List.replicate_succ, List.replicate_zero, List.nodup_nil, List.length_nil, List.length_cons, List.getD_cons_zero, List.getD_cons_succ, ↓reduceIte, retP]
        simp [hk1, hk2]
/-! what a sync gives -/
def clr (x : TR) : TR := (x.1, x.2.1, false)
def syD (D : List ByteArray) (R : List TR) : Nat → List ByteArray
  | 0 => D
  | i + 1 => if (R.getD i default).2.2 = true then (syD D R i).set (R.getD i default).1.toNat (R.getD i default).2.1 else syD D R i
def syN (R : List TR) : Nat → Nat
  | 0 => 0
  | i + 1 => if (R.getD i default).2.2 = true then syN R i + 1 else syN R i
theorem syN_le (R : List TR) : ∀ i, syN R i ≤ i
  | 0 => Nat.le_refl _
  | i + 1 => by
    have := syN_le R i
    unfold syN
    split <;> omega
theorem syD_len (D : List ByteArray) (R : List TR) : ∀ i, (syD D R i).length = D.length
  | 0 => rfl
  | i + 1 => by
    have := syD_len D R i
    unfold syD
    split
    · rw [List.length_set, this]
    · exact this
abbrev Out := (Int × List ByteArray × List TR × Int × Int) × Int × ByteArray × Bool
def syncO (cap : Int) (D : List ByteArray) (R : List TR) (rd pt : Int) : Out :=
  if cacheOk cap D R rd pt then ((cap, syD D R R.length, R.map clr, rd, pt), syN R R.length, ByteArray.empty, true) else ((0, [], [], 0, 0), 0, ByteArray.empty, false)
theorem over_dirty {R : List TR} {i : Nat} (h : i < R.length) : (over (R.map clr) R i).set i (clr (R.getD i default)) = over (R.map clr) R (i + 1) := by
  have := over_set (R.map clr) R i default (by simp) h
  rwa [getD_map h] at this
theorem over_clean {R : List TR} {i : Nat} (h : i < R.length) (hd : (R.getD i default).2.2 = false) : over (R.map clr) R (i + 1) = over (R.map clr) R i := by
  rw [← over_dirty h]
  have e : clr (R.getD i default) = (over (R.map clr) R i).getD i default := by
    rw [over_get _ _ _ _ (by simp) h]
    show ((R.getD i default).1, (R.getD i default).2.1, false) = R.getD i default
    rw [← hd]
  rw [e, set_getD_self]
end Go.Eng.T
