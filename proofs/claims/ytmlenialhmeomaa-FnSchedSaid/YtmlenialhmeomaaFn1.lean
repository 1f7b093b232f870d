/- sched: tasks and their rows. -/
import Derived.Test.YtmlenialhmeomaaTab
set_option linter.unusedVariables false
set_option linter.unusedSimpArgs false
set_option linter.unusedSectionVars false
namespace Go.Eng.T
open Go.Proofs
open Cel (enc dec)
set_option maxRecDepth 100000
set_option maxHeartbeats 4000000
def c_laws_toSTask : Contract := ⟨48, fun args M => match args with
  | [.agg [.int .i64 x, .int .i64 y, .int .i64 z]] => .pure True (.agg [.int .i64 x, .int .i64 y, .int .i64 z])
  | _ => .bad⟩
theorem ok_laws_toSTask : fnP Try.prog c_laws_toSTask.f = true ∧ ∀ args M, (c_laws_toSTask.sp args M).OK Try.prog c_laws_toSTask.f args M := by
  refine ⟨fp_48, fun args M => ?_⟩
  unfold c_laws_toSTask
  dsimp only
  split
  case h_2 => trivial
  intro _
  refine goIn hf_48 rfl (nt := 14) rfl (rs := [.cell 2 53]) rfl (C := []) trivial (q := fun _ => false) okQ_none mixed (O := fun _ => .nil) (by kernel_rfl) ?_
  simp only [↓WP, ↓grdD, ↓grdT, ↓un_dead, ↓binVC, ↓buildVC, ↓sliceVC, WQ, WN, Int.reduceToNat, renl, cll, rent, clt, ↓reduceIte, Nat.reduceLeDiff, Nat.reduceEqDiff, Nat.reduceLT, reduceCtorEq, List.append_nil, Nat.reduceAdd, Nat.reduceSub, Nat.reduceBEq, forall_const, implies_true, cond_true, cond_false, AV.ren, AC.ren, AV.cl, AC.cl, eq_self, List.all_cons, List.all_nil, AV.eqv, AC.eqv, eqvl, eqvt, Sl.eqv, List.map_append, List.length_map, List.length_append, List.length_replicate, List.length_set, List.map_replicate, nilVC, zr_53, fl_67_0, sz_3, fl_53_0, fl_67_1, fl_53_1, fl_67_2, fl_53_2, sz_53]
theorem q_laws_toSTask : Quiet c_laws_toSTask := by
  intro args M
  unfold c_laws_toSTask
  dsimp only
  split <;> first | trivial | (intro _; rfl)
def c_laws_toSTaskS : Contract := ⟨31, fun args M => match args with
  | [.c (.sl a n _)] => .eff (RowOk T3 a n (M a.r)) Unit (fun _ => True) (fun _ => .c (.sl ⟨.loc 0, 0, 0, 0⟩ n n)) (fun _ => [rowG true 53 n (row T3 a n (M a.r))]) (fun _ => [])
  | _ => .bad⟩
theorem ok_laws_toSTaskS : fnP Try.prog c_laws_toSTaskS.f = true ∧ ∀ args M, (c_laws_toSTaskS.sp args M).OK Try.prog c_laws_toSTaskS.f args M := by
  refine ⟨fp_31, fun args M => ?_⟩
  unfold c_laws_toSTaskS
  dsimp only
  split
  case h_2 => trivial
  rename_i a n c
  intro hrow
  obtain ⟨hs, X, hX, rfl, hat⟩ := hrow.x
  rw [hX]
  refine goIn hf_31 rfl (nt := 23) rfl (rs := [.tmp 2]) rfl (C := [c_laws_toSTask]) ⟨(by first | exact .inl ok_laws_toSTask | exact ok_laws_toSTask), trivial⟩ (q := fun _ => false) okQ_none mixed (O := fun _ => .nil) (by kernel_rfl) ?_
  simp only [↓WP, ↓grdD, ↓grdT, ↓un_dead, ↓binVC, ↓buildVC, ↓sliceVC, WQ, WN, Int.reduceToNat, renl, cll, rent, clt, ↓reduceIte, Nat.reduceLeDiff, Nat.reduceEqDiff, Nat.reduceLT, reduceCtorEq, List.append_nil, Nat.reduceAdd, Nat.reduceSub, Nat.reduceBEq, forall_const, implies_true, cond_true, cond_false, AV.ren, AC.ren, AV.cl, AC.cl, eq_self, List.all_cons, List.all_nil, AV.eqv, AC.eqv, eqvl, eqvt, Sl.eqv, List.map_append, List.length_map, List.length_append, List.length_replicate, List.length_set, List.map_replicate, nilVC, sd_22, el_27, zr_53, el_22, sz_67, sz_53, c_laws_toSTask]
  refine ⟨by omega, ?_⟩
  refine loopI (J := {i : Nat // i ≤ X.length}) (fun i => ⟨slots 23 [(0, .c (.sl a.up X.length c)), (3, .c (.sl ⟨.loc 0, 0, 0, 0⟩ X.length X.length)), (4, I i.1)], M, [], [rowG true 53 X.length (fill X i.1 (0, 0, 0))]⟩) (fun i => X.length - i.1) ⟨0, by omega⟩ (Le_intro [0] (by simp [WL, WNL, swA_new, swA_ne, nest_sw_ne, mapLL, List.mem_cons, Nat.reduceAdd, Nat.reduceLT, Nat.reduceLeDiff, Nat.reduceEqDiff, okU, List.nodup_cons, List.not_mem_nil, toT, toL, toO, keysO, renl, rent, cll, clt, eq_self, AV.eqv, AC.eqv, eqvl, eqvt, Sl.eqv, rowsLe, mapLL, rowsCl, List.map_append, List.length_map, List.length_append, List.length_set, List.map_replicate, rowG, List.getElem?_cons_zero, List.getElem?_cons_succ, List.getElem?_nil, List.append_nil, List.nil_append, List.cons_append, ghosts, St.gh, Option.some.injEq, implies_true, setT, AV.ren, AC.ren, AV.cl, AC.cl, List.replicate_succ, List.replicate_zero, List.nodup_nil, List.length_nil, List.length_cons, List.getD_cons_zero, List.getD_cons_succ, ↓reduceIte, fill_zero])) ?_
  rintro ⟨i, hi⟩
  have hw := wS (i := i) (by omega)
  rcases Nat.lt_or_ge i X.length with hlt | hge
  · obtain ⟨own, ty, cnt, cap, len, get, hM, hf, hic, hkn, hget⟩ := hat (by omega)
    simp only [↓WP, ↓grdD, ↓grdT, ↓un_dead, ↓binVC, ↓buildVC, ↓sliceVC, WQ, WN, Int.reduceToNat, renl, cll, rent, clt, ↓reduceIte, Nat.reduceLeDiff, Nat.reduceEqDiff, Nat.reduceLT, reduceCtorEq, List.append_nil, Nat.reduceAdd, Nat.reduceSub, Nat.reduceBEq, forall_const, implies_true, cond_true, cond_false, AV.ren, AC.ren, AV.cl, AC.cl, eq_self, List.all_cons, List.all_nil, AV.eqv, AC.eqv, eqvl, eqvt, Sl.eqv, List.map_append, List.length_map, List.length_append, List.length_replicate, List.length_set, List.map_replicate, nilVC, sd_22, el_27, zr_53, el_22, sz_67, sz_53, c_laws_toSTask, dlt hlt, hw, hM, hf, hget i hlt, fill_length]
    repeat refine ⟨by omega, ?_⟩
    refine ⟨⟨i + 1, hlt⟩, Le_intro [0] ?_, by show X.length - (i + 1) < X.length - i; omega⟩
    simp only [WL, WNL, swA_new, swA_ne, nest_sw_ne, mapLL, List.mem_cons, Nat.reduceAdd, Nat.reduceLT, Nat.reduceLeDiff, Nat.reduceEqDiff, okU, List.nodup_cons, List.not_mem_nil, toT, toL, toO, keysO, renl, rent, cll, clt, eq_self, AV.eqv, AC.eqv, eqvl, eqvt, Sl.eqv, rowsLe, mapLL, rowsCl, List.map_append, List.length_map, List.length_append, List.length_set, List.map_replicate, rowG, List.getElem?_cons_zero, List.getElem?_cons_succ, List.getElem?_nil, List.append_nil, List.nil_append, List.cons_append, ghosts, St.gh, Option.some.injEq, implies_true, setT, AV.ren, AC.ren, AV.cl, AC.cl, List.replicate_succ, List.replicate_zero, List.nodup_nil, List.length_nil, List.length_cons, List.getD_cons_zero, List.getD_cons_succ, ↓reduceIte, ← fill_set X i (0, 0, 0) default hlt, List.map_set]
    try simp
  · obtain rfl : i = X.length := by omega
    simp only [↓WP, ↓grdD, ↓grdT, ↓un_dead, ↓binVC, ↓buildVC, ↓sliceVC, WQ, WN, Int.reduceToNat, renl, cll, rent, clt, ↓reduceIte, Nat.reduceLeDiff, Nat.reduceEqDiff, Nat.reduceLT, reduceCtorEq, List.append_nil, Nat.reduceAdd, Nat.reduceSub, Nat.reduceBEq, forall_const, implies_true, cond_true, cond_false, AV.ren, AC.ren, AV.cl, AC.cl, eq_self, List.all_cons, List.all_nil, AV.eqv, AC.eqv, eqvl, eqvt, Sl.eqv, List.map_append, List.length_map, List.length_append, List.length_replicate, List.length_set, List.map_replicate, nilVC, sd_22, el_27, zr_53, el_22, sz_67, sz_53, c_laws_toSTask, dge hge, hw]
    refine end_ret ?_
    simp only [↓WP, ↓grdD, ↓grdT, ↓un_dead, ↓binVC, ↓buildVC, ↓sliceVC, WQ, WN, Int.reduceToNat, renl, cll, rent, clt, ↓reduceIte, Nat.reduceLeDiff, Nat.reduceEqDiff, Nat.reduceLT, reduceCtorEq, List.append_nil, Nat.reduceAdd, Nat.reduceSub, Nat.reduceBEq, forall_const, implies_true, cond_true, cond_false, AV.ren, AC.ren, AV.cl, AC.cl, eq_self, List.all_cons, List.all_nil, AV.eqv, AC.eqv, eqvl, eqvt, Sl.eqv, List.map_append, List.length_map, List.length_append, List.length_replicate, List.length_set, List.map_replicate, nilVC, sd_22, el_27, zr_53, el_22, sz_67, sz_53, c_laws_toSTask]
    refine ⟨(), [], [0], ?_⟩
    simp only [WL, WNL, swA_new, swA_ne, nest_sw_ne, mapLL, List.mem_cons, Nat.reduceAdd, Nat.reduceLT, Nat.reduceLeDiff, Nat.reduceEqDiff, okU, List.nodup_cons, List.not_mem_nil, toT, toL, toO, keysO, renl, rent, cll, clt, eq_self, AV.eqv, AC.eqv, eqvl, eqvt, Sl.eqv, rowsLe, mapLL, rowsCl, List.map_append, List.length_map, List.length_append, List.length_set, List.map_replicate, rowG, List.getElem?_cons_zero, List.getElem?_cons_succ, List.getElem?_nil, List.append_nil, List.nil_append, List.cons_append, ghosts, St.gh, Option.some.injEq, implies_true, setT, AV.ren, AC.ren, AV.cl, AC.cl, List.replicate_succ, List.replicate_zero, List.nodup_nil, List.length_nil, List.length_cons, List.getD_cons_zero, List.getD_cons_succ, ↓reduceIte, retP, fill_all]
    try simp
theorem q_laws_toSTaskS : Quiet c_laws_toSTaskS := by
  intro args M
  unfold c_laws_toSTaskS
  dsimp only
  split <;> first | trivial | (intro _; rfl)
def c_laws_eqSTask : Contract := ⟨49, fun args M => match args with
  | [.agg [.int .i64 x, .int .i64 y, .int .i64 z], .agg [.int .i64 x', .int .i64 y', .int .i64 z']] => .pure True (Eng.B (decide (((x, y, z) : T3) = (x', y', z'))))
  | _ => .bad⟩
theorem ok_laws_eqSTask : fnP Try.prog c_laws_eqSTask.f = true ∧ ∀ args M, (c_laws_eqSTask.sp args M).OK Try.prog c_laws_eqSTask.f args M := by
  refine ⟨fp_49, fun args M => ?_⟩
  unfold c_laws_eqSTask
  dsimp only
  split
  case h_2 => trivial
  intro _
  refine goIn hf_49 rfl (nt := 20) rfl (rs := [.tmp 4]) rfl (C := []) trivial (q := fun _ => false) okQ_none mixed (O := fun _ => .nil) (by kernel_rfl) ?_
  simp only [↓WP, ↓grdD, ↓grdT, ↓un_dead, ↓binVC, ↓buildVC, ↓sliceVC, WQ, WN, Int.reduceToNat, renl, cll, rent, clt, ↓reduceIte, Nat.reduceLeDiff, Nat.reduceEqDiff, Nat.reduceLT, reduceCtorEq, List.append_nil, Nat.reduceAdd, Nat.reduceSub, Nat.reduceBEq, forall_const, implies_true, cond_true, cond_false, AV.ren, AC.ren, AV.cl, AC.cl, eq_self, List.all_cons, List.all_nil, AV.eqv, AC.eqv, eqvl, eqvt, Sl.eqv, List.map_append, List.length_map, List.length_append, List.length_replicate, List.length_set, List.map_replicate, nilVC, fl_53_0, sz_3, fl_53_1, fl_53_2]
  simp only [WB, eq_self, Prod.mk.injEq]
  refine ⟨fun h => ?_, fun h => ⟨fun h' => ?_, fun h' => ⟨fun h'' => ?_, fun h'' => ?_⟩⟩⟩ <;> simp_all
theorem q_laws_eqSTask : Quiet c_laws_eqSTask := by
  intro args M
  unfold c_laws_eqSTask
  dsimp only
  split <;> first | trivial | (intro _; rfl)
def c_laws_eqSTaskS : Contract := ⟨34, fun args M => match args with
  | [.c (.sl a n _), .c (.sl b m _)] => .pure (RowOk T3 a n (M a.r) ∧ RowOk T3 b m (M b.r)) (Eng.B (decide (row T3 a n (M a.r) = row T3 b m (M b.r))))
  | _ => .bad⟩
theorem ok_laws_eqSTaskS : fnP Try.prog c_laws_eqSTaskS.f = true ∧ ∀ args M, (c_laws_eqSTaskS.sp args M).OK Try.prog c_laws_eqSTaskS.f args M := by
  refine ⟨fp_34, fun args M => ?_⟩
  unfold c_laws_eqSTaskS
  dsimp only
  split
  case h_2 => trivial
  rename_i a n ca b m cb
  rintro ⟨ha, hb⟩
  obtain ⟨hs, X, hX, rfl, hat⟩ := ha.x
  obtain ⟨hs', Y, hY, rfl, hbt⟩ := hb.x
  rw [hX, hY]
  refine goIn hf_34 rfl (nt := 27) rfl (rs := [.tmp 4]) rfl (C := [c_laws_eqSTask]) ⟨(by first | exact .inl ok_laws_eqSTask | exact ok_laws_eqSTask), trivial⟩ (q := fun f => [49].contains f) ⟨fun _ => q_laws_eqSTask, trivial⟩ mixed (O := ots [(6, otl [0, 1, 2, 3, 4, 5, 6, 7, 8, 9] .nil)]) (by kernel_rfl) ?_
  simp only [↓WP, ↓grdD, ↓grdT, ↓un_dead, ↓binVC, ↓buildVC, ↓sliceVC, WQ, WN, Int.reduceToNat, renl, cll, rent, clt, ↓reduceIte, Nat.reduceLeDiff, Nat.reduceEqDiff, Nat.reduceLT, reduceCtorEq, List.append_nil, Nat.reduceAdd, Nat.reduceSub, Nat.reduceBEq, forall_const, implies_true, cond_true, cond_false, AV.ren, AC.ren, AV.cl, AC.cl, eq_self, List.all_cons, List.all_nil, AV.eqv, AC.eqv, eqvl, eqvt, Sl.eqv, List.map_append, List.length_map, List.length_append, List.length_replicate, List.length_set, List.map_replicate, nilVC, sd_27, el_27, sz_53, c_laws_eqSTask]
  refine ⟨fun h => ?_, fun h => ?_⟩
  · have : X ≠ Y := by rintro rfl; simp at h
    simp [this]
  · have hl : X.length = Y.length := by simp at h; omega
    refine loopI (J := {i : Nat // i ≤ X.length ∧ X.take i = Y.take i}) (fun i => ⟨slots 27 [(0, .c (.sl a.up X.length ca)), (1, .c (.sl b.up Y.length cb)), (5, I i.1)], M, [], []⟩) (fun i => X.length - i.1) ⟨0, by omega, rfl⟩ (Le_intro [] (by simp [WL, WNL, swA_new, swA_ne, nest_sw_ne, mapLL, List.mem_cons, Nat.reduceAdd, Nat.reduceLT, Nat.reduceLeDiff, Nat.reduceEqDiff, okU, List.nodup_cons, List.not_mem_nil, toT, toL, toO, keysO, renl, rent, cll, clt, eq_self, AV.eqv, AC.eqv, eqvl, eqvt, Sl.eqv, rowsLe, mapLL, rowsCl, List.map_append, List.length_map, List.length_append, List.length_set, List.map_replicate, rowG, List.getElem?_cons_zero, List.getElem?_cons_succ, List.getElem?_nil, List.append_nil, List.nil_append, List.cons_append, ghosts, St.gh, Option.some.injEq, implies_true, setT, AV.ren, AC.ren, AV.cl, AC.cl, List.replicate_succ, List.replicate_zero, List.nodup_nil, List.length_nil, List.length_cons, List.getD_cons_zero, List.getD_cons_succ, ↓reduceIte])) ?_
    rintro ⟨i, hi, he⟩
    have hw := wS (i := i) (by omega)
    rcases Nat.lt_or_ge i X.length with hlt | hge
    · obtain ⟨own, ty, cnt, cap, len, get, hM, hf, hic, hkn, hget⟩ := hat (by omega)
      obtain ⟨own', ty', cnt', cap', len', get', hM', hf', hic', hkn', hget'⟩ := hbt (by omega)
      simp only [↓WP, ↓grdD, ↓grdT, ↓un_dead, ↓binVC, ↓buildVC, ↓sliceVC, WQ, WN, Int.reduceToNat, renl, cll, rent, clt, ↓reduceIte, Nat.reduceLeDiff, Nat.reduceEqDiff, Nat.reduceLT, reduceCtorEq, List.append_nil, Nat.reduceAdd, Nat.reduceSub, Nat.reduceBEq, forall_const, implies_true, cond_true, cond_false, AV.ren, AC.ren, AV.cl, AC.cl, eq_self, List.all_cons, List.all_nil, AV.eqv, AC.eqv, eqvl, eqvt, Sl.eqv, List.map_append, List.length_map, List.length_append, List.length_replicate, List.length_set, List.map_replicate, nilVC, sd_27, el_27, sz_53, c_laws_eqSTask, dlt hlt, hw, hM, hf, hget i hlt, hM', hf', hget' i (by omega)]
      repeat refine ⟨by omega, ?_⟩
      refine ⟨fun h1 => ?_, fun h1 => ?_⟩
      · have := ne_of_getD (X := X) (Y := Y) (i := i) (by intro e; rw [e] at h1; simp at h1)
        simp [this]
      · exact ⟨⟨i + 1, hlt, eq_step he hlt (by omega) (by simpa [Prod.ext_iff] using h1)⟩, Le_intro [] (by simp [WL, WNL, swA_new, swA_ne, nest_sw_ne, mapLL, List.mem_cons, Nat.reduceAdd, Nat.reduceLT, Nat.reduceLeDiff, Nat.reduceEqDiff, okU, List.nodup_cons, List.not_mem_nil, toT, toL, toO, keysO, renl, rent, cll, clt, eq_self, AV.eqv, AC.eqv, eqvl, eqvt, Sl.eqv, rowsLe, mapLL, rowsCl, List.map_append, List.length_map, List.length_append, List.length_set, List.map_replicate, rowG, List.getElem?_cons_zero, List.getElem?_cons_succ, List.getElem?_nil, List.append_nil, List.nil_append, List.cons_append, ghosts, St.gh, Option.some.injEq, implies_true, setT, AV.ren, AC.ren, AV.cl, AC.cl, List.replicate_succ, List.replicate_zero, List.nodup_nil, List.length_nil, List.length_cons, List.getD_cons_zero, List.getD_cons_succ, ↓reduceIte]), by show X.length - (i + 1) < X.length - i; omega⟩
    · obtain rfl : i = X.length := by omega
      simp only [↓WP, ↓grdD, ↓grdT, ↓un_dead, ↓binVC, ↓buildVC, ↓sliceVC, WQ, WN, Int.reduceToNat, renl, cll, rent, clt, ↓reduceIte, Nat.reduceLeDiff, Nat.reduceEqDiff, Nat.reduceLT, reduceCtorEq, List.append_nil, Nat.reduceAdd, Nat.reduceSub, Nat.reduceBEq, forall_const, implies_true, cond_true, cond_false, AV.ren, AC.ren, AV.cl, AC.cl, eq_self, List.all_cons, List.all_nil, AV.eqv, AC.eqv, eqvl, eqvt, Sl.eqv, List.map_append, List.length_map, List.length_append, List.length_replicate, List.length_set, List.map_replicate, nilVC, sd_27, el_27, sz_53, c_laws_eqSTask, dge hge, hw]
      simp [eq_of_take hl he]
theorem q_laws_eqSTaskS : Quiet c_laws_eqSTaskS := by
  intro args M
  unfold c_laws_eqSTaskS
  dsimp only
  split <;> first | trivial | (intro _; rfl)
def c_laws_szSTaskS : Contract := ⟨29, fun args M => match args with
  | [.c (.sl _ n _), .c (.int .i64 left)] => .pure (0 ≤ left ∧ left ≤ 1048576 ∧ n ≤ 9223372036854775807) (I (if left < n then -1 else left - n))
  | _ => .bad⟩
theorem ok_laws_szSTaskS : fnP Try.prog c_laws_szSTaskS.f = true ∧ ∀ args M, (c_laws_szSTaskS.sp args M).OK Try.prog c_laws_szSTaskS.f args M := by
  refine ⟨fp_29, fun args M => ?_⟩
  unfold c_laws_szSTaskS
  dsimp only
  split
  case h_2 => trivial
  rename_i _ n _ left
  rintro ⟨h1, h2, h3⟩
  refine goIn hf_29 rfl (nt := 12) rfl (rs := [.tmp 4]) rfl (C := []) trivial (q := fun _ => false) okQ_none mixed (O := fun _ => .nil) (by kernel_rfl) ?_
  simp only [↓WP, ↓grdD, ↓grdT, ↓un_dead, ↓binVC, ↓buildVC, ↓sliceVC, WQ, WN, Int.reduceToNat, renl, cll, rent, clt, ↓reduceIte, Nat.reduceLeDiff, Nat.reduceEqDiff, Nat.reduceLT, reduceCtorEq, List.append_nil, Nat.reduceAdd, Nat.reduceSub, Nat.reduceBEq, forall_const, implies_true, cond_true, cond_false, AV.ren, AC.ren, AV.cl, AC.cl, eq_self, List.all_cons, List.all_nil, AV.eqv, AC.eqv, eqvl, eqvt, Sl.eqv, List.map_append, List.length_map, List.length_append, List.length_replicate, List.length_set, List.map_replicate, nilVC, sd_22]
  rw [w64 (by omega) (by omega)]
  by_cases h : left < n
  · simp [h]; omega
  · simp [h]; omega
theorem q_laws_szSTaskS : Quiet c_laws_szSTaskS := by
  intro args M
  unfold c_laws_szSTaskS
  dsimp only
  split <;> first | trivial | (intro _; rfl)
def c_spec_l1In : Contract := ⟨30, fun args M => match args with
  | [.c (.int .i64 n), .c (.int .i64 lo), .c (.int .i64 hi)] => .pure True (Eng.B (decide (lo ≤ n ∧ n ≤ hi)))
  | _ => .bad⟩
theorem ok_spec_l1In : fnP Try.prog c_spec_l1In.f = true ∧ ∀ args M, (c_spec_l1In.sp args M).OK Try.prog c_spec_l1In.f args M := by
  refine ⟨fp_30, fun args M => ?_⟩
  unfold c_spec_l1In
  dsimp only
  split
  case h_2 => trivial
  rename_i n lo hi
  intro _
  refine goIn hf_30 rfl (nt := 15) rfl (rs := [.tmp 6]) rfl (C := []) trivial (q := fun _ => false) okQ_none mixed (O := fun _ => .nil) (by kernel_rfl) ?_
  simp only [↓WP, ↓grdD, ↓grdT, ↓un_dead, ↓binVC, ↓buildVC, ↓sliceVC, WQ, WN, Int.reduceToNat, renl, cll, rent, clt, ↓reduceIte, Nat.reduceLeDiff, Nat.reduceEqDiff, Nat.reduceLT, reduceCtorEq, List.append_nil, Nat.reduceAdd, Nat.reduceSub, Nat.reduceBEq, forall_const, implies_true, cond_true, cond_false, AV.ren, AC.ren, AV.cl, AC.cl, eq_self, List.all_cons, List.all_nil, AV.eqv, AC.eqv, eqvl, eqvt, Sl.eqv, List.map_append, List.length_map, List.length_append, List.length_replicate, List.length_set, List.map_replicate, nilVC, ]
  by_cases h : lo ≤ n <;> simp [h]
theorem q_spec_l1In : Quiet c_spec_l1In := by
  intro args M
  unfold c_spec_l1In
  dsimp only
  split <;> first | trivial | (intro _; rfl)
def c_impl_in : Contract := ⟨33, fun args M => match args with
  | [.c (.int .i64 n), .c (.int .i64 lo), .c (.int .i64 hi)] => .pure True (Eng.B (decide (lo ≤ n ∧ n ≤ hi)))
  | _ => .bad⟩
theorem ok_impl_in : fnP Try.prog c_impl_in.f = true ∧ ∀ args M, (c_impl_in.sp args M).OK Try.prog c_impl_in.f args M := by
  refine ⟨fp_33, fun args M => ?_⟩
  unfold c_impl_in
  dsimp only
  split
  case h_2 => trivial
  rename_i n lo hi
  intro _
  refine goIn hf_33 rfl (nt := 15) rfl (rs := [.tmp 6]) rfl (C := []) trivial (q := fun _ => false) okQ_none mixed (O := fun _ => .nil) (by kernel_rfl) ?_
  simp only [↓WP, ↓grdD, ↓grdT, ↓un_dead, ↓binVC, ↓buildVC, ↓sliceVC, WQ, WN, Int.reduceToNat, renl, cll, rent, clt, ↓reduceIte, Nat.reduceLeDiff, Nat.reduceEqDiff, Nat.reduceLT, reduceCtorEq, List.append_nil, Nat.reduceAdd, Nat.reduceSub, Nat.reduceBEq, forall_const, implies_true, cond_true, cond_false, AV.ren, AC.ren, AV.cl, AC.cl, eq_self, List.all_cons, List.all_nil, AV.eqv, AC.eqv, eqvl, eqvt, Sl.eqv, List.map_append, List.length_map, List.length_append, List.length_replicate, List.length_set, List.map_replicate, nilVC, ]
  by_cases h : lo ≤ n <;> simp [h]
theorem q_impl_in : Quiet c_impl_in := by
  intro args M
  unfold c_impl_in
  dsimp only
  split <;> first | trivial | (intro _; rfl)
end Go.Eng.T
