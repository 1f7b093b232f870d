/- wheel: timers; compare, before, timerAt. -/
import Derived.Test.YtmeedopbpdfeaaaTab
set_option linter.unusedVariables false
set_option linter.unusedSimpArgs false
set_option linter.unusedSectionVars false
namespace Go.Eng.T
open Go.Proofs
open Cel (enc dec)
set_option maxRecDepth 100000
set_option maxHeartbeats 4000000
def c_laws_toTimer : Contract := ⟨54, fun args M => match args with
  | [.agg [.int .i64 x, .int .i64 y, .int .i64 z]] => .pure True (.agg [.int .i64 x, .int .i64 y, .int .i64 z])
  | _ => .bad⟩
theorem ok_laws_toTimer : fnP Try.prog c_laws_toTimer.f = true ∧ ∀ args M, (c_laws_toTimer.sp args M).OK Try.prog c_laws_toTimer.f args M := by
  refine ⟨fp_54, fun args M => ?_⟩
  unfold c_laws_toTimer
  dsimp only
  split
  case h_2 => trivial
  intro _
  refine goIn hf_54 rfl (nt := 14) rfl (rs := [.cell 2 51]) rfl (C := []) trivial (q := fun _ => false) okQ_none mixed (O := fun _ => .nil) (by kernel_rfl) ?_
  simp only [↓WP, ↓grdD, ↓grdT, ↓un_dead, ↓binVC, ↓buildVC, ↓sliceVC, WQ, WN, Int.reduceToNat, renl, cll, rent, clt, ↓reduceIte, Nat.reduceLeDiff, Nat.reduceEqDiff, Nat.reduceLT, reduceCtorEq, List.append_nil, Nat.reduceAdd, Nat.reduceSub, Nat.reduceBEq, forall_const, implies_true, cond_true, cond_false, AV.ren, AC.ren, AV.cl, AC.cl, eq_self, List.all_cons, List.all_nil, AV.eqv, AC.eqv, eqvl, eqvt, Sl.eqv, List.map_append, List.length_map, List.length_append, List.length_replicate, List.length_set, List.map_replicate, nilVC, zr_51, fl_69_0, sz_3, fl_51_0, fl_69_1, fl_51_1, fl_69_2, fl_51_2, sz_51]
theorem q_laws_toTimer : Quiet c_laws_toTimer := by
  intro args M
  unfold c_laws_toTimer
  dsimp only
  split <;> first | trivial | (intro _; rfl)
def c_laws_toTimerS : Contract := ⟨37, fun args M => match args with
  | [.c (.sl a n _)] => .eff (RowOk T3 a n (M a.r)) Unit (fun _ => True) (fun _ => .c (.sl ⟨.loc 0, 0, 0, 0⟩ n n)) (fun _ => [rowG true 51 n (row T3 a n (M a.r))]) (fun _ => [])
  | _ => .bad⟩
theorem ok_laws_toTimerS : fnP Try.prog c_laws_toTimerS.f = true ∧ ∀ args M, (c_laws_toTimerS.sp args M).OK Try.prog c_laws_toTimerS.f args M := by
  refine ⟨fp_37, fun args M => ?_⟩
  unfold c_laws_toTimerS
  dsimp only
  split
  case h_2 => trivial
  rename_i a n c
  intro hrow
  obtain ⟨hs, X, hX, rfl, hat⟩ := hrow.x
  rw [hX]
  refine goIn hf_37 rfl (nt := 23) rfl (rs := [.tmp 2]) rfl (C := [c_laws_toTimer]) ⟨(by first | exact .inl ok_laws_toTimer | exact ok_laws_toTimer), trivial⟩ (q := fun _ => false) okQ_none mixed (O := fun _ => .nil) (by kernel_rfl) ?_
  simp only [↓WP, ↓grdD, ↓grdT, ↓un_dead, ↓binVC, ↓buildVC, ↓sliceVC, WQ, WN, Int.reduceToNat, renl, cll, rent, clt, ↓reduceIte, Nat.reduceLeDiff, Nat.reduceEqDiff, Nat.reduceLT, reduceCtorEq, List.append_nil, Nat.reduceAdd, Nat.reduceSub, Nat.reduceBEq, forall_const, implies_true, cond_true, cond_false, AV.ren, AC.ren, AV.cl, AC.cl, eq_self, List.all_cons, List.all_nil, AV.eqv, AC.eqv, eqvl, eqvt, Sl.eqv, List.map_append, List.length_map, List.length_append, List.length_replicate, List.length_set, List.map_replicate, nilVC, sd_22, el_27, zr_51, el_22, sz_69, sz_51, c_laws_toTimer]
  refine ⟨by omega, ?_⟩
  refine loopI (J := {i : Nat // i ≤ X.length}) (fun i => ⟨slots 23 [(0, .c (.sl a.up X.length c)), (3, .c (.sl ⟨.loc 0, 0, 0, 0⟩ X.length X.length)), (4, I i.1)], M, [], [rowG true 51 X.length (fill X i.1 (0, 0, 0))]⟩) (fun i => X.length - i.1) ⟨0, by omega⟩ (Le_intro [0] (by simp [WL, WNL, swA_new, swA_ne, nest_sw_ne, mapLL, List.mem_cons, Nat.reduceAdd, Nat.reduceLT, Nat.reduceLeDiff, Nat.reduceEqDiff, okU, List.nodup_cons, List.not_mem_nil, toT, toL, toO, keysO, renl, rent, cll, clt, eq_self, AV.eqv, AC.eqv, eqvl, eqvt, Sl.eqv, rowsLe, mapLL, rowsCl, List.map_append, List.length_map, List.length_append, List.length_set, List.map_replicate, rowG, List.getElem?_cons_zero, List.getElem?_cons_succ, List.getElem?_nil, List.append_nil, List.nil_append, List.cons_append, ghosts, St.gh, Option.some.injEq, implies_true, setT, AV.ren, AC.ren, AV.cl, AC.cl, List.replicate_succ, List.replicate_zero, List.nodup_nil, List.length_nil, List.length_cons, List.getD_cons_zero, List.getD_cons_succ, ↓reduceIte, fill_zero])) ?_
  rintro ⟨i, hi⟩
  have hw := wS (i := i) (by omega)
  rcases Nat.lt_or_ge i X.length with hlt | hge
  · obtain ⟨own, ty, cnt, cap, len, get, hM, hf, hic, hkn, hget⟩ := hat (by omega)
    simp only [↓WP, ↓grdD, ↓grdT, ↓un_dead, ↓binVC, ↓buildVC, ↓sliceVC, WQ, WN, Int.reduceToNat, renl, cll, rent, clt, ↓reduceIte, Nat.reduceLeDiff, Nat.reduceEqDiff, Nat.reduceLT, reduceCtorEq, List.append_nil, Nat.reduceAdd, Nat.reduceSub, Nat.reduceBEq, forall_const, implies_true, cond_true, cond_false, AV.ren, AC.ren, AV.cl, AC.cl, eq_self, List.all_cons, List.all_nil, AV.eqv, AC.eqv, eqvl, eqvt, Sl.eqv, List.map_append, List.length_map, List.length_append, List.length_replicate, List.length_set, List.map_replicate, nilVC, sd_22, el_27, zr_51, el_22, sz_69, sz_51, c_laws_toTimer, dlt hlt, hw, hM, hf, hget i hlt, fill_length]
    repeat refine ⟨by omega, ?_⟩
    refine ⟨⟨i + 1, hlt⟩, Le_intro [0] ?_, by show X.length - (i + 1) < X.length - i; omega⟩
    simp only [WL, WNL, swA_new, swA_ne, nest_sw_ne, mapLL, List.mem_cons, Nat.reduceAdd, Nat.reduceLT, Nat.reduceLeDiff, Nat.reduceEqDiff, okU, List.nodup_cons, List.not_mem_nil, toT, toL, toO, keysO, renl, rent, cll, clt, eq_self, AV.eqv, AC.eqv, eqvl, eqvt, Sl.eqv, rowsLe, mapLL, rowsCl, List.map_append, List.length_map, List.length_append, List.length_set, List.map_replicate, rowG, List.getElem?_cons_zero, List.getElem?_cons_succ, List.getElem?_nil, List.append_nil, List.nil_append, List.cons_append, ghosts, St.gh, Option.some.injEq, implies_true, setT, AV.ren, AC.ren, AV.cl, AC.cl, List.replicate_succ, List.replicate_zero, List.nodup_nil, List.length_nil, List.length_cons, List.getD_cons_zero, List.getD_cons_succ, ↓reduceIte, ← fill_set X i (0, 0, 0) default hlt, List.map_set]
    try simp
  · obtain rfl : i = X.length := by omega
    simp only [↓WP, ↓grdD, ↓grdT, ↓un_dead, ↓binVC, ↓buildVC, ↓sliceVC, WQ, WN, Int.reduceToNat, renl, cll, rent, clt, ↓reduceIte, Nat.reduceLeDiff, Nat.reduceEqDiff, Nat.reduceLT, reduceCtorEq, List.append_nil, Nat.reduceAdd, Nat.reduceSub, Nat.reduceBEq, forall_const, implies_true, cond_true, cond_false, AV.ren, AC.ren, AV.cl, AC.cl, eq_self, List.all_cons, List.all_nil, AV.eqv, AC.eqv, eqvl, eqvt, Sl.eqv, List.map_append, List.length_map, List.length_append, List.length_replicate, List.length_set, List.map_replicate, nilVC, sd_22, el_27, zr_51, el_22, sz_69, sz_51, c_laws_toTimer, dge hge, hw]
    refine end_ret ?_
    simp only [↓WP, ↓grdD, ↓grdT, ↓un_dead, ↓binVC, ↓buildVC, ↓sliceVC, WQ, WN, Int.reduceToNat, renl, cll, rent, clt, ↓reduceIte, Nat.reduceLeDiff, Nat.reduceEqDiff, Nat.reduceLT, reduceCtorEq, List.append_nil, Nat.reduceAdd, Nat.reduceSub, Nat.reduceBEq, forall_const, implies_true, cond_true, cond_false, AV.ren, AC.ren, AV.cl, AC.cl, eq_self, List.all_cons, List.all_nil, AV.eqv, AC.eqv, eqvl, eqvt, Sl.eqv, List.map_append, List.length_map, List.length_append, List.length_replicate, List.length_set, List.map_replicate, nilVC, sd_22, el_27, zr_51, el_22, sz_69, sz_51, c_laws_toTimer]
    refine ⟨(), [], [0], ?_⟩
    simp only [WL, WNL, swA_new, swA_ne, nest_sw_ne, mapLL, List.mem_cons, Nat.reduceAdd, Nat.reduceLT, Nat.reduceLeDiff, Nat.reduceEqDiff, okU, List.nodup_cons, List.not_mem_nil, toT, toL, toO, keysO, renl, rent, cll, clt, eq_self, AV.eqv, AC.eqv, eqvl, eqvt, Sl.eqv, rowsLe, mapLL, rowsCl, List.map_append, List.length_map, List.length_append, List.length_set, List.map_replicate, rowG, List.getElem?_cons_zero, List.getElem?_cons_succ, List.getElem?_nil, List.append_nil, List.nil_append, List.cons_append, ghosts, St.gh, Option.some.injEq, implies_true, setT, AV.ren, AC.ren, AV.cl, AC.cl, List.replicate_succ, List.replicate_zero, List.nodup_nil, List.length_nil, List.length_cons, List.getD_cons_zero, List.getD_cons_succ, ↓reduceIte, retP, fill_all]
    try simp
theorem q_laws_toTimerS : Quiet c_laws_toTimerS := by
  intro args M
  unfold c_laws_toTimerS
  dsimp only
  split <;> first | trivial | (intro _; rfl)
def c_laws_eqTimer : Contract := ⟨58, fun args M => match args with
  | [.agg [.int .i64 x, .int .i64 y, .int .i64 z], .agg [.int .i64 x', .int .i64 y', .int .i64 z']] => .pure True (Eng.B (decide (((x, y, z) : T3) = (x', y', z'))))
  | _ => .bad⟩
theorem ok_laws_eqTimer : fnP Try.prog c_laws_eqTimer.f = true ∧ ∀ args M, (c_laws_eqTimer.sp args M).OK Try.prog c_laws_eqTimer.f args M := by
  refine ⟨fp_58, fun args M => ?_⟩
  unfold c_laws_eqTimer
  dsimp only
  split
  case h_2 => trivial
  intro _
  refine goIn hf_58 rfl (nt := 20) rfl (rs := [.tmp 4]) rfl (C := []) trivial (q := fun _ => false) okQ_none mixed (O := fun _ => .nil) (by kernel_rfl) ?_
  simp only [↓WP, ↓grdD, ↓grdT, ↓un_dead, ↓binVC, ↓buildVC, ↓sliceVC, WQ, WN, Int.reduceToNat, renl, cll, rent, clt, ↓reduceIte, Nat.reduceLeDiff, Nat.reduceEqDiff, Nat.reduceLT, reduceCtorEq, List.append_nil, Nat.reduceAdd, Nat.reduceSub, Nat.reduceBEq, forall_const, implies_true, cond_true, cond_false, AV.ren, AC.ren, AV.cl, AC.cl, eq_self, List.all_cons, List.all_nil, AV.eqv, AC.eqv, eqvl, eqvt, Sl.eqv, List.map_append, List.length_map, List.length_append, List.length_replicate, List.length_set, List.map_replicate, nilVC, fl_51_0, sz_3, fl_51_1, fl_51_2]
  simp only [WB, eq_self, Prod.mk.injEq]
  refine ⟨fun h => ?_, fun h => ⟨fun h' => ?_, fun h' => ⟨fun h'' => ?_, fun h'' => ?_⟩⟩⟩ <;> simp_all
theorem q_laws_eqTimer : Quiet c_laws_eqTimer := by
  intro args M
  unfold c_laws_eqTimer
  dsimp only
  split <;> first | trivial | (intro _; rfl)
def c_laws_eqTimerS : Contract := ⟨41, fun args M => match args with
  | [.c (.sl a n _), .c (.sl b m _)] => .pure (RowOk T3 a n (M a.r) ∧ RowOk T3 b m (M b.r)) (Eng.B (decide (row T3 a n (M a.r) = row T3 b m (M b.r))))
  | _ => .bad⟩
theorem ok_laws_eqTimerS : fnP Try.prog c_laws_eqTimerS.f = true ∧ ∀ args M, (c_laws_eqTimerS.sp args M).OK Try.prog c_laws_eqTimerS.f args M := by
  refine ⟨fp_41, fun args M => ?_⟩
  unfold c_laws_eqTimerS
  dsimp only
  split
  case h_2 => trivial
  rename_i a n ca b m cb
  rintro ⟨ha, hb⟩
  obtain ⟨hs, X, hX, rfl, hat⟩ := ha.x
  obtain ⟨hs', Y, hY, rfl, hbt⟩ := hb.x
  rw [hX, hY]
  refine goIn hf_41 rfl (nt := 27) rfl (rs := [.tmp 4]) rfl (C := [c_laws_eqTimer]) ⟨(by first | exact .inl ok_laws_eqTimer | exact ok_laws_eqTimer), trivial⟩ (q := fun f => [58].contains f) ⟨fun _ => q_laws_eqTimer, trivial⟩ mixed (O := ots [(6, otl [0, 1, 2, 3, 4, 5, 6, 7, 8, 9] .nil)]) (by kernel_rfl) ?_
  simp only [↓WP, ↓grdD, ↓grdT, ↓un_dead, ↓binVC, ↓buildVC, ↓sliceVC, WQ, WN, Int.reduceToNat, renl, cll, rent, clt, ↓reduceIte, Nat.reduceLeDiff, Nat.reduceEqDiff, Nat.reduceLT, reduceCtorEq, List.append_nil, Nat.reduceAdd, Nat.reduceSub, Nat.reduceBEq, forall_const, implies_true, cond_true, cond_false, AV.ren, AC.ren, AV.cl, AC.cl, eq_self, List.all_cons, List.all_nil, AV.eqv, AC.eqv, eqvl, eqvt, Sl.eqv, List.map_append, List.length_map, List.length_append, List.length_replicate, List.length_set, List.map_replicate, nilVC, sd_27, el_27, sz_51, c_laws_eqTimer]
  refine ⟨fun h => ?_, fun h => ?_⟩
  · have : X ≠ Y := by rintro rfl; simp at h
    simp [this]
  · have hl : X.length = Y.length := by simp at h; omega
    refine loopI (J := {i : Nat // i ≤ X.length ∧ X.take i = Y.take i}) (fun i => ⟨slots 27 [(0, .c (.sl a.up X.length ca)), (1, .c (.sl b.up Y.length cb)), (5, I i.1)], M, [], []⟩) (fun i => X.length - i.1) ⟨0, by omega, rfl⟩ (Le_intro [] (by simp [WL, WNL, swA_new, swA_ne, nest_sw_ne, mapLL, List.mem_cons, Nat.reduceAdd, Nat.reduceLT, Nat.reduceLeDiff, Nat.reduceEqDiff, okU, List.nodup_cons, List.not_mem_nil, toT, toL, toO, keysO, renl, rent, cll, clt, eq_self, AV.eqv, AC.eqv, eqvl, eqvt, Sl.eqv, rowsLe, mapLL, rowsCl, List.map_append, List.length_map, List.length_append, List.length_set, List.map_replicate, rowG, List.getElem?_cons_zero, List.getElem?_cons_succ, List.getElem?_nil, List.append_nil, List.nil_append, List.cons_append, ghosts, St.gh, Option.some.injEq, implies_true, setT, AV.ren, AC.ren, AV.cl, AC.cl, List.replicate_succ, List.replicate_zero, List.nodup_nil, List.length_nil, List.length_cons, List.getD_cons_zero, List.getD_cons_succ, ↓reduceIte])) ?_
    rintro ⟨i, hi, he⟩
    have hw := wS (i := i) (by omega)
    rcases Nat.lt_or_ge i X.length with hlt | hge
    · obtain ⟨own, ty, cnt, cap, len, get, hM, hf, hic, hkn, hget⟩ := hat (by omega)
      obtain ⟨own', ty', cnt', cap', len', get', hM', hf', hic', hkn', hget'⟩ := hbt (by omega)
      simp only [↓WP, ↓grdD, ↓grdT, ↓un_dead, ↓binVC, ↓buildVC, ↓sliceVC, WQ, WN, Int.reduceToNat, renl, cll, rent, clt, ↓reduceIte, Nat.reduceLeDiff, Nat.reduceEqDiff, Nat.reduceLT, reduceCtorEq, List.append_nil, Nat.reduceAdd, Nat.reduceSub, Nat.reduceBEq, forall_const, implies_true, cond_true, cond_false, AV.ren, AC.ren, AV.cl, AC.cl, eq_self, List.all_cons, List.all_nil, AV.eqv, AC.eqv, eqvl, eqvt, Sl.eqv, List.map_append, List.length_map, List.length_append, List.length_replicate, List.length_set, List.map_replicate, nilVC, sd_27, el_27, sz_51, c_laws_eqTimer, dlt hlt, hw, hM, hf, hget i hlt, hM', hf', hget' i (by omega)]
      repeat refine ⟨by omega, ?_⟩
      refine ⟨fun h1 => ?_, fun h1 => ?_⟩
      · have := ne_of_getD (X := X) (Y := Y) (i := i) (by intro e; rw [e] at h1; simp at h1)
        simp [this]
      · exact ⟨⟨i + 1, hlt, eq_step he hlt (by omega) (by simpa [Prod.ext_iff] using h1)⟩, Le_intro [] (by simp [WL, WNL, swA_new, swA_ne, nest_sw_ne, mapLL, List.mem_cons, Nat.reduceAdd, Nat.reduceLT, Nat.reduceLeDiff, Nat.reduceEqDiff, okU, List.nodup_cons, List.not_mem_nil, toT, toL, toO, keysO, renl, rent, cll, clt, eq_self, AV.eqv, AC.eqv, eqvl, eqvt, Sl.eqv, rowsLe, mapLL, rowsCl, List.map_append, List.length_map, List.length_append, List.length_set, List.map_replicate, rowG, List.getElem?_cons_zero, List.getElem?_cons_succ, List.getElem?_nil, List.append_nil, List.nil_append, List.cons_append, ghosts, St.gh, Option.some.injEq, implies_true, setT, AV.ren, AC.ren, AV.cl, AC.cl, List.replicate_succ, List.replicate_zero, List.nodup_nil, List.length_nil, List.length_cons, List.getD_cons_zero, List.getD_cons_succ, ↓reduceIte]), by show X.length - (i + 1) < X.length - i; omega⟩
    · obtain rfl : i = X.length := by omega
      simp only [↓WP, ↓grdD, ↓grdT, ↓un_dead, ↓binVC, ↓buildVC, ↓sliceVC, WQ, WN, Int.reduceToNat, renl, cll, rent, clt, ↓reduceIte, Nat.reduceLeDiff, Nat.reduceEqDiff, Nat.reduceLT, reduceCtorEq, List.append_nil, Nat.reduceAdd, Nat.reduceSub, Nat.reduceBEq, forall_const, implies_true, cond_true, cond_false, AV.ren, AC.ren, AV.cl, AC.cl, eq_self, List.all_cons, List.all_nil, AV.eqv, AC.eqv, eqvl, eqvt, Sl.eqv, List.map_append, List.length_map, List.length_append, List.length_replicate, List.length_set, List.map_replicate, nilVC, sd_27, el_27, sz_51, c_laws_eqTimer, dge hge, hw]
      simp [eq_of_take hl he]
theorem q_laws_eqTimerS : Quiet c_laws_eqTimerS := by
  intro args M
  unfold c_laws_eqTimerS
  dsimp only
  split <;> first | trivial | (intro _; rfl)
def c_laws_szTimerS : Contract := ⟨35, fun args M => match args with
  | [.c (.sl _ n _), .c (.int .i64 left)] => .pure (0 ≤ left ∧ left ≤ 1048576 ∧ n ≤ 9223372036854775807) (I (if left < n then -1 else left - n))
  | _ => .bad⟩
theorem ok_laws_szTimerS : fnP Try.prog c_laws_szTimerS.f = true ∧ ∀ args M, (c_laws_szTimerS.sp args M).OK Try.prog c_laws_szTimerS.f args M := by
  refine ⟨fp_35, fun args M => ?_⟩
  unfold c_laws_szTimerS
  dsimp only
  split
  case h_2 => trivial
  rename_i _ n _ left
  rintro ⟨h1, h2, h3⟩
  refine goIn hf_35 rfl (nt := 12) rfl (rs := [.tmp 4]) rfl (C := []) trivial (q := fun _ => false) okQ_none mixed (O := fun _ => .nil) (by kernel_rfl) ?_
  simp only [↓WP, ↓grdD, ↓grdT, ↓un_dead, ↓binVC, ↓buildVC, ↓sliceVC, WQ, WN, Int.reduceToNat, renl, cll, rent, clt, ↓reduceIte, Nat.reduceLeDiff, Nat.reduceEqDiff, Nat.reduceLT, reduceCtorEq, List.append_nil, Nat.reduceAdd, Nat.reduceSub, Nat.reduceBEq, forall_const, implies_true, cond_true, cond_false, AV.ren, AC.ren, AV.cl, AC.cl, eq_self, List.all_cons, List.all_nil, AV.eqv, AC.eqv, eqvl, eqvt, Sl.eqv, List.map_append, List.length_map, List.length_append, List.length_replicate, List.length_set, List.map_replicate, nilVC, sd_22]
  rw [w64 (by omega) (by omega)]
  by_cases h : left < n
  · simp [h]; omega
  · simp [h]; omega
theorem q_laws_szTimerS : Quiet c_laws_szTimerS := by
  intro args M
  unfold c_laws_szTimerS
  dsimp only
  split <;> first | trivial | (intro _; rfl)
def c_spec_l1In : Contract := ⟨36, fun args M => match args with
  | [.c (.int .i64 n), .c (.int .i64 lo), .c (.int .i64 hi)] => .pure True (Eng.B (decide (lo ≤ n ∧ n ≤ hi)))
  | _ => .bad⟩
theorem ok_spec_l1In : fnP Try.prog c_spec_l1In.f = true ∧ ∀ args M, (c_spec_l1In.sp args M).OK Try.prog c_spec_l1In.f args M := by
  refine ⟨fp_36, fun args M => ?_⟩
  unfold c_spec_l1In
  dsimp only
  split
  case h_2 => trivial
  rename_i n lo hi
  intro _
  refine goIn hf_36 rfl (nt := 15) rfl (rs := [.tmp 6]) rfl (C := []) trivial (q := fun _ => false) okQ_none mixed (O := fun _ => .nil) (by kernel_rfl) ?_
  simp only [↓WP, ↓grdD, ↓grdT, ↓un_dead, ↓binVC, ↓buildVC, ↓sliceVC, WQ, WN, Int.reduceToNat, renl, cll, rent, clt, ↓reduceIte, Nat.reduceLeDiff, Nat.reduceEqDiff, Nat.reduceLT, reduceCtorEq, List.append_nil, Nat.reduceAdd, Nat.reduceSub, Nat.reduceBEq, forall_const, implies_true, cond_true, cond_false, AV.ren, AC.ren, AV.cl, AC.cl, eq_self, List.all_cons, List.all_nil, AV.eqv, AC.eqv, eqvl, eqvt, Sl.eqv, List.map_append, List.length_map, List.length_append, List.length_replicate, List.length_set, List.map_replicate, nilVC, ]
  by_cases h : lo ≤ n <;> simp [h]
theorem q_spec_l1In : Quiet c_spec_l1In := by
  intro args M
  unfold c_spec_l1In
  dsimp only
  split <;> first | trivial | (intro _; rfl)
def c_impl_in : Contract := ⟨38, fun args M => match args with
  | [.c (.int .i64 n), .c (.int .i64 lo), .c (.int .i64 hi)] => .pure True (Eng.B (decide (lo ≤ n ∧ n ≤ hi)))
  | _ => .bad⟩
theorem ok_impl_in : fnP Try.prog c_impl_in.f = true ∧ ∀ args M, (c_impl_in.sp args M).OK Try.prog c_impl_in.f args M := by
  refine ⟨fp_38, fun args M => ?_⟩
  unfold c_impl_in
  dsimp only
  split
  case h_2 => trivial
  rename_i n lo hi
  intro _
  refine goIn hf_38 rfl (nt := 15) rfl (rs := [.tmp 6]) rfl (C := []) trivial (q := fun _ => false) okQ_none mixed (O := fun _ => .nil) (by kernel_rfl) ?_
  simp only [↓WP, ↓grdD, ↓grdT, ↓un_dead, ↓binVC, ↓buildVC, ↓sliceVC, WQ, WN, Int.reduceToNat, renl, cll, rent, clt, ↓reduceIte, Nat.reduceLeDiff, Nat.reduceEqDiff, Nat.reduceLT, reduceCtorEq, List.append_nil, Nat.reduceAdd, Nat.reduceSub, Nat.reduceBEq, forall_const, implies_true, cond_true, cond_false, AV.ren, AC.ren, AV.cl, AC.cl, eq_self, List.all_cons, List.all_nil, AV.eqv, AC.eqv, eqvl, eqvt, Sl.eqv, List.map_append, List.length_map, List.length_append, List.length_replicate, List.length_set, List.map_replicate, nilVC, ]
  by_cases h : lo ≤ n <;> simp [h]
theorem q_impl_in : Quiet c_impl_in := by
  intro args M
  unfold c_impl_in
  dsimp only
  split <;> first | trivial | (intro _; rfl)
def c_impl_timerAt_1 : Contract := ⟨57, fun args M => match args with
  | [.agg [.int .i64 x, .int .i64 _, .int .i64 _], .c (.ptr p)] => box1 p (M p.r) fun v => .pure True (Eng.B (decide (x = v)))
  | _ => .bad⟩
theorem ok_impl_timerAt_1 : fnP Try.prog c_impl_timerAt_1.f = true ∧ ∀ args M, (c_impl_timerAt_1.sp args M).OK Try.prog c_impl_timerAt_1.f args M := by
  refine ⟨fp_57, fun args M => ?_⟩
  unfold c_impl_timerAt_1
  dsimp only
  split
  case h_2 => trivial
  rename_i x y z p
  refine box1_cases fun t v hM h1 h2 h3 => ?_
  intro _
  refine goIn hf_57 rfl (nt := 8) rfl (rs := [.tmp 3]) rfl (C := []) trivial (q := fun _ => false) okQ_none mixed (O := fun _ => .nil) (by kernel_rfl) ?_
  simp only [↓WP, ↓grdD, ↓grdT, ↓un_dead, ↓binVC, ↓buildVC, ↓sliceVC, WQ, WN, Int.reduceToNat, renl, cll, rent, clt, ↓reduceIte, Nat.reduceLeDiff, Nat.reduceEqDiff, Nat.reduceLT, reduceCtorEq, List.append_nil, Nat.reduceAdd, Nat.reduceSub, Nat.reduceBEq, forall_const, implies_true, cond_true, cond_false, AV.ren, AC.ren, AV.cl, AC.cl, eq_self, List.all_cons, List.all_nil, AV.eqv, AC.eqv, eqvl, eqvt, Sl.eqv, List.map_append, List.length_map, List.length_append, List.length_replicate, List.length_set, List.map_replicate, nilVC, fl_51_0, sz_3, hM, h1, h2, h3]
def c_slices_IndexFunc_Timer : Contract := ⟨56, fun args M => match args with
  | [.c (.sl a n _), .c (.clo f [p])] => box1 p (M p.r) fun v => .pure (f = 57 ∧ RowOk T3 a n (M a.r)) (I (idx (fun x => decide (x.1 = v)) (row T3 a n (M a.r))))
  | _ => .bad⟩
theorem ok_slices_IndexFunc_Timer : fnP Try.prog c_slices_IndexFunc_Timer.f = true ∧ ∀ args M, (c_slices_IndexFunc_Timer.sp args M).OK Try.prog c_slices_IndexFunc_Timer.f args M := by
  refine ⟨fp_56, fun args M => ?_⟩
  unfold c_slices_IndexFunc_Timer
  dsimp only
  split
  case h_2 => trivial
  rename_i a n ca f p
  refine box1_cases fun t v hMp h1 h2 h3 => ?_
  rintro ⟨rfl, ha⟩
  obtain ⟨hs, X, hX, rfl, hat⟩ := ha.x
  rw [hX]
  refine goIn hf_56 rfl (nt := 19) rfl (rs := [.tmp 4]) rfl (C := [c_impl_timerAt_1]) ⟨(by first | exact .inl ok_impl_timerAt_1 | exact ok_impl_timerAt_1), trivial⟩ (q := fun _ => false) okQ_none mixed (O := fun _ => .nil) (by kernel_rfl) ?_
  simp only [↓WP, ↓grdD, ↓grdT, ↓un_dead, ↓binVC, ↓buildVC, ↓sliceVC, WQ, WN, Int.reduceToNat, renl, cll, rent, clt, ↓reduceIte, Nat.reduceLeDiff, Nat.reduceEqDiff, Nat.reduceLT, reduceCtorEq, List.append_nil, Nat.reduceAdd, Nat.reduceSub, Nat.reduceBEq, forall_const, implies_true, cond_true, cond_false, AV.ren, AC.ren, AV.cl, AC.cl, eq_self, List.all_cons, List.all_nil, AV.eqv, AC.eqv, eqvl, eqvt, Sl.eqv, List.map_append, List.length_map, List.length_append, List.length_replicate, List.length_set, List.map_replicate, nilVC, sd_27, el_27, sz_51, c_impl_timerAt_1]
  refine loopI (J := {i : Nat // i ≤ X.length ∧ clear (fun x : T3 => decide (x.1 = v)) X i}) (fun i => ⟨slots 19 [(0, .c (.sl a.up X.length ca)), (1, .c (.clo 57 [p.up])), (7, I X.length), (8, I i.1)], M, [], []⟩) (fun i => X.length - i.1) ⟨0, by omega, clear_zero _ _⟩ (Le_intro [] (by simp [WL, WNL, swA_new, swA_ne, nest_sw_ne, mapLL, List.mem_cons, Nat.reduceAdd, Nat.reduceLT, Nat.reduceLeDiff, Nat.reduceEqDiff, okU, List.nodup_cons, List.not_mem_nil, toT, toL, toO, keysO, renl, rent, cll, clt, eq_self, AV.eqv, AC.eqv, eqvl, eqvt, Sl.eqv, rowsLe, mapLL, rowsCl, List.map_append, List.length_map, List.length_append, List.length_set, List.map_replicate, rowG, List.getElem?_cons_zero, List.getElem?_cons_succ, List.getElem?_nil, List.append_nil, List.nil_append, List.cons_append, ghosts, St.gh, Option.some.injEq, implies_true, setT, AV.ren, AC.ren, AV.cl, AC.cl, List.replicate_succ, List.replicate_zero, List.nodup_nil, List.length_nil, List.length_cons, List.getD_cons_zero, List.getD_cons_succ, ↓reduceIte])) ?_
  rintro ⟨i, hi, he⟩
  have hw := wS (i := i) (by omega)
  rcases Nat.lt_or_ge i X.length with hlt | hge
  · obtain ⟨own, ty, cnt, cap, len, get, hM, hf, hic, hkn, hget⟩ := hat (by omega)
    simp only [↓WP, ↓grdD, ↓grdT, ↓un_dead, ↓binVC, ↓buildVC, ↓sliceVC, WQ, WN, Int.reduceToNat, renl, cll, rent, clt, ↓reduceIte, Nat.reduceLeDiff, Nat.reduceEqDiff, Nat.reduceLT, reduceCtorEq, List.append_nil, Nat.reduceAdd, Nat.reduceSub, Nat.reduceBEq, forall_const, implies_true, cond_true, cond_false, AV.ren, AC.ren, AV.cl, AC.cl, eq_self, List.all_cons, List.all_nil, AV.eqv, AC.eqv, eqvl, eqvt, Sl.eqv, List.map_append, List.length_map, List.length_append, List.length_replicate, List.length_set, List.map_replicate, nilVC, sd_27, el_27, sz_51, c_impl_timerAt_1, dlt hlt, hw, hM, hf, hget i hlt, hMp, h1, h2, h3]
    repeat refine ⟨by omega, ?_⟩
    refine ⟨fun h1 => ?_, fun h1 => ?_⟩
    · have := idx_hit (p := fun x : T3 => decide (x.1 = v)) he hlt h1
      simp [this]
    · exact ⟨⟨i + 1, hlt, clear_succ he h1⟩, Le_intro [] (by simp [WL, WNL, swA_new, swA_ne, nest_sw_ne, mapLL, List.mem_cons, Nat.reduceAdd, Nat.reduceLT, Nat.reduceLeDiff, Nat.reduceEqDiff, okU, List.nodup_cons, List.not_mem_nil, toT, toL, toO, keysO, renl, rent, cll, clt, eq_self, AV.eqv, AC.eqv, eqvl, eqvt, Sl.eqv, rowsLe, mapLL, rowsCl, List.map_append, List.length_map, List.length_append, List.length_set, List.map_replicate, rowG, List.getElem?_cons_zero, List.getElem?_cons_succ, List.getElem?_nil, List.append_nil, List.nil_append, List.cons_append, ghosts, St.gh, Option.some.injEq, implies_true, setT, AV.ren, AC.ren, AV.cl, AC.cl, List.replicate_succ, List.replicate_zero, List.nodup_nil, List.length_nil, List.length_cons, List.getD_cons_zero, List.getD_cons_succ, ↓reduceIte]), by show X.length - (i + 1) < X.length - i; omega⟩
  · obtain rfl : i = X.length := by omega
    simp only [↓WP, ↓grdD, ↓grdT, ↓un_dead, ↓binVC, ↓buildVC, ↓sliceVC, WQ, WN, Int.reduceToNat, renl, cll, rent, clt, ↓reduceIte, Nat.reduceLeDiff, Nat.reduceEqDiff, Nat.reduceLT, reduceCtorEq, List.append_nil, Nat.reduceAdd, Nat.reduceSub, Nat.reduceBEq, forall_const, implies_true, cond_true, cond_false, AV.ren, AC.ren, AV.cl, AC.cl, eq_self, List.all_cons, List.all_nil, AV.eqv, AC.eqv, eqvl, eqvt, Sl.eqv, List.map_append, List.length_map, List.length_append, List.length_replicate, List.length_set, List.map_replicate, nilVC, sd_27, el_27, sz_51, c_impl_timerAt_1, dge hge, hw]
    have := idx_miss he
    simp [this]
def c_impl_compare : Contract := ⟨55, fun args M => match args with
  | [.c (.int .i64 x), .c (.int .i64 y)] => .pure True (I (if x < y then -1 else if y < x then 1 else 0))
  | _ => .bad⟩
theorem ok_impl_compare : fnP Try.prog c_impl_compare.f = true ∧ ∀ args M, (c_impl_compare.sp args M).OK Try.prog c_impl_compare.f args M := by
  refine ⟨fp_55, fun args M => ?_⟩
  unfold c_impl_compare
  dsimp only
  split
  case h_2 => trivial
  rename_i x y
  intro _
  refine goIn hf_55 rfl (nt := 13) rfl (rs := [.tmp 4]) rfl (C := []) trivial (q := fun _ => false) okQ_none mixed (O := fun _ => .nil) (by kernel_rfl) ?_
  simp only [↓WP, ↓grdD, ↓grdT, ↓un_dead, ↓binVC, ↓buildVC, ↓sliceVC, WQ, WN, Int.reduceToNat, renl, cll, rent, clt, ↓reduceIte, Nat.reduceLeDiff, Nat.reduceEqDiff, Nat.reduceLT, reduceCtorEq, List.append_nil, Nat.reduceAdd, Nat.reduceSub, Nat.reduceBEq, forall_const, implies_true, cond_true, cond_false, AV.ren, AC.ren, AV.cl, AC.cl, eq_self, List.all_cons, List.all_nil, AV.eqv, AC.eqv, eqvl, eqvt, Sl.eqv, List.map_append, List.length_map, List.length_append, List.length_replicate, List.length_set, List.map_replicate, nilVC, ]
  simp only [WB, eq_self]
  refine ⟨fun h => ?_, fun h => ⟨fun h' => ?_, fun h' => ?_⟩⟩
  · rw [if_pos h]
  · rw [if_neg h, if_pos h']
  · rw [if_neg h, if_neg h']
theorem q_impl_compare : Quiet c_impl_compare := by
  intro args M
  unfold c_impl_compare
  dsimp only
  split <;> first | trivial | (intro _; rfl)
def c_impl_before : Contract := ⟨39, fun args M => match args with
  | [.agg [.int .i64 x, .int .i64 y, .int .i64 _], .agg [.int .i64 x', .int .i64 y', .int .i64 _]] => .pure True (I (if y < y' then -1 else if y' < y then 1 else if x < x' then -1 else if x' < x then 1 else 0))
  | _ => .bad⟩
theorem ok_impl_before : fnP Try.prog c_impl_before.f = true ∧ ∀ args M, (c_impl_before.sp args M).OK Try.prog c_impl_before.f args M := by
  refine ⟨fp_39, fun args M => ?_⟩
  unfold c_impl_before
  dsimp only
  split
  case h_2 => trivial
  rename_i x y z x' y' z'
  intro _
  refine goIn hf_39 rfl (nt := 20) rfl (rs := [.tmp 4]) rfl (C := [c_impl_compare]) ⟨(by first | exact .inl ok_impl_compare | exact ok_impl_compare), trivial⟩ (q := fun _ => false) okQ_none mixed (O := fun _ => .nil) (by kernel_rfl) ?_
  simp only [↓WP, ↓grdD, ↓grdT, ↓un_dead, ↓binVC, ↓buildVC, ↓sliceVC, WQ, WN, Int.reduceToNat, renl, cll, rent, clt, ↓reduceIte, Nat.reduceLeDiff, Nat.reduceEqDiff, Nat.reduceLT, reduceCtorEq, List.append_nil, Nat.reduceAdd, Nat.reduceSub, Nat.reduceBEq, forall_const, implies_true, cond_true, cond_false, AV.ren, AC.ren, AV.cl, AC.cl, eq_self, List.all_cons, List.all_nil, AV.eqv, AC.eqv, eqvl, eqvt, Sl.eqv, List.map_append, List.length_map, List.length_append, List.length_replicate, List.length_set, List.map_replicate, nilVC, fl_51_1, sz_3, fl_51_0, c_impl_compare]
  simp only [WB, eq_self]
  refine ⟨fun h => ?_, fun h => ?_⟩
  · split
    · rfl
    · split
      · rfl
      · omega
  · subst h
    simp
theorem q_impl_before : Quiet c_impl_before := by
  intro args M
  unfold c_impl_before
  dsimp only
  split <;> first | trivial | (intro _; rfl)
def c_impl_timerAt : Contract := ⟨40, fun args M => match args with
  | [.agg [.int .i64 _, .int .i64 _, .sl a n _], .c (.int .i64 v)] => .pure (RowOk T3 a n (M a.r)) (I (idx (fun x => decide (x.1 = v)) (row T3 a n (M a.r))))
  | _ => .bad⟩
theorem ok_impl_timerAt : fnP Try.prog c_impl_timerAt.f = true ∧ ∀ args M, (c_impl_timerAt.sp args M).OK Try.prog c_impl_timerAt.f args M := by
  refine ⟨fp_40, fun args M => ?_⟩
  unfold c_impl_timerAt
  dsimp only
  split
  case h_2 => trivial
  rename_i t u a n ca v
  intro ha
  refine goIn hf_40 rfl (nt := 9) rfl (rs := [.tmp 4]) rfl (C := [c_impl_timerAt_1, c_slices_IndexFunc_Timer]) ⟨(by first | exact .inl ok_impl_timerAt_1 | exact ok_impl_timerAt_1), (by first | exact .inl ok_slices_IndexFunc_Timer | exact ok_slices_IndexFunc_Timer), trivial⟩ (q := fun _ => false) okQ_none mixed (O := fun _ => .nil) (by kernel_rfl) ?_
  simp only [↓WP, ↓grdD, ↓grdT, ↓un_dead, ↓binVC, ↓buildVC, ↓sliceVC, WQ, WN, Int.reduceToNat, renl, cll, rent, clt, ↓reduceIte, Nat.reduceLeDiff, Nat.reduceEqDiff, Nat.reduceLT, reduceCtorEq, List.append_nil, Nat.reduceAdd, Nat.reduceSub, Nat.reduceBEq, forall_const, implies_true, cond_true, cond_false, AV.ren, AC.ren, AV.cl, AC.cl, eq_self, List.all_cons, List.all_nil, AV.eqv, AC.eqv, eqvl, eqvt, Sl.eqv, List.map_append, List.length_map, List.length_append, List.length_replicate, List.length_set, List.map_replicate, nilVC, fl_29_2, sz_27, c_impl_timerAt_1, c_slices_IndexFunc_Timer]
  simp [ha]
theorem q_impl_timerAt : Quiet c_impl_timerAt := by
  intro args M
  unfold c_impl_timerAt
  dsimp only
  split <;> first | trivial | (intro _; rfl)
def c_laws_szWheel : Contract := ⟨10, fun args M => match args with
  | [.agg [.int .i64 _, .int .i64 _, .sl _ n _], .c (.int .i64 left)] => .pure (0 ≤ left ∧ left ≤ 1048576 ∧ n ≤ 9223372036854775807) (I (if left < n then -1 else left - n))
  | _ => .bad⟩
theorem ok_laws_szWheel : fnP Try.prog c_laws_szWheel.f = true ∧ ∀ args M, (c_laws_szWheel.sp args M).OK Try.prog c_laws_szWheel.f args M := by
  refine ⟨fp_10, fun args M => ?_⟩
  unfold c_laws_szWheel
  dsimp only
  split
  case h_2 => trivial
  rename_i u v a n c left
  rintro ⟨h1, h2, h3⟩
  refine goIn hf_10 rfl (nt := 12) rfl (rs := [.tmp 4]) rfl (C := [c_laws_szTimerS]) ⟨(by first | exact .inl ok_laws_szTimerS | exact ok_laws_szTimerS), trivial⟩ (q := fun _ => false) okQ_none mixed (O := fun _ => .nil) (by kernel_rfl) ?_
  simp only [↓WP, ↓grdD, ↓grdT, ↓un_dead, ↓binVC, ↓buildVC, ↓sliceVC, WQ, WN, Int.reduceToNat, renl, cll, rent, clt, ↓reduceIte, Nat.reduceLeDiff, Nat.reduceEqDiff, Nat.reduceLT, reduceCtorEq, List.append_nil, Nat.reduceAdd, Nat.reduceSub, Nat.reduceBEq, forall_const, implies_true, cond_true, cond_false, AV.ren, AC.ren, AV.cl, AC.cl, eq_self, List.all_cons, List.all_nil, AV.eqv, AC.eqv, eqvl, eqvt, Sl.eqv, List.map_append, List.length_map, List.length_append, List.length_replicate, List.length_set, List.map_replicate, nilVC, fl_24_2, sz_22, c_laws_szTimerS]
  by_cases h : left < n
  · simp [h]; omega
  · simp [h]; omega
def c_laws_toWheel : Contract := ⟨12, fun args M => match args with
  | [.agg [.int .i64 u, .int .i64 v, .sl a n _]] => .eff (RowOk T3 a n (M a.r)) Unit (fun _ => True) (fun _ => .agg [.int .i64 u, .int .i64 v, .sl ⟨.loc 0, 0, 0, 0⟩ n n]) (fun _ => [rowG true 51 n (row T3 a n (M a.r))]) (fun _ => [])
  | _ => .bad⟩
theorem ok_laws_toWheel : fnP Try.prog c_laws_toWheel.f = true ∧ ∀ args M, (c_laws_toWheel.sp args M).OK Try.prog c_laws_toWheel.f args M := by
  refine ⟨fp_12, fun args M => ?_⟩
  unfold c_laws_toWheel
  dsimp only
  split
  case h_2 => trivial
  rename_i u v a n c
  intro hrow
  refine goIn hf_12 rfl (nt := 15) rfl (rs := [.cell 2 29]) rfl (C := [c_laws_toTimerS]) ⟨(by first | exact .inl ok_laws_toTimerS | exact ok_laws_toTimerS), trivial⟩ (q := fun _ => false) okQ_none mixed (O := fun _ => .nil) (by kernel_rfl) ?_
  simp only [↓WP, ↓grdD, ↓grdT, ↓un_dead, ↓binVC, ↓buildVC, ↓sliceVC, WQ, WN, Int.reduceToNat, renl, cll, rent, clt, ↓reduceIte, Nat.reduceLeDiff, Nat.reduceEqDiff, Nat.reduceLT, reduceCtorEq, List.append_nil, Nat.reduceAdd, Nat.reduceSub, Nat.reduceBEq, forall_const, implies_true, cond_true, cond_false, AV.ren, AC.ren, AV.cl, AC.cl, eq_self, List.all_cons, List.all_nil, AV.eqv, AC.eqv, eqvl, eqvt, Sl.eqv, List.map_append, List.length_map, List.length_append, List.length_replicate, List.length_set, List.map_replicate, nilVC, zr_29, fl_24_0, sz_3, fl_29_0, fl_24_1, fl_29_1, fl_24_2, sz_22, fl_29_2, sz_27, sz_29, c_laws_toTimerS]
  refine ⟨hrow, end_ret ?_⟩
  simp only [↓WP, ↓grdD, ↓grdT, ↓un_dead, ↓binVC, ↓buildVC, ↓sliceVC, WQ, WN, Int.reduceToNat, renl, cll, rent, clt, ↓reduceIte, Nat.reduceLeDiff, Nat.reduceEqDiff, Nat.reduceLT, reduceCtorEq, List.append_nil, Nat.reduceAdd, Nat.reduceSub, Nat.reduceBEq, forall_const, implies_true, cond_true, cond_false, AV.ren, AC.ren, AV.cl, AC.cl, eq_self, List.all_cons, List.all_nil, AV.eqv, AC.eqv, eqvl, eqvt, Sl.eqv, List.map_append, List.length_map, List.length_append, List.length_replicate, List.length_set, List.map_replicate, nilVC, zr_29, fl_24_0, sz_3, fl_29_0, fl_24_1, fl_29_1, fl_24_2, sz_22, fl_29_2, sz_27, sz_29, c_laws_toTimerS]
  refine ⟨(), [], [3], ?_⟩
  simp only [WL, WNL, swA_new, swA_ne, nest_sw_ne, mapLL, List.mem_cons, Nat.reduceAdd, Nat.reduceLT, Nat.reduceLeDiff, Nat.reduceEqDiff, okU, List.nodup_cons, List.not_mem_nil, toT, toL, toO, keysO, renl, rent, cll, clt, eq_self, AV.eqv, AC.eqv, eqvl, eqvt, Sl.eqv, rowsLe, mapLL, rowsCl, List.map_append, List.length_map, List.length_append, List.length_set, List.map_replicate, rowG, List.getElem?_cons_zero, List.getElem?_cons_succ, List.getElem?_nil, List.append_nil, List.nil_append, List.cons_append, ghosts, St.gh, Option.some.injEq, implies_true, setT, AV.ren, AC.ren, AV.cl, AC.cl, List.replicate_succ, List.replicate_zero, List.nodup_nil, List.length_nil, List.length_cons, List.getD_cons_zero, List.getD_cons_succ, ↓reduceIte, retP]
theorem q_laws_toWheel : Quiet c_laws_toWheel := by
  intro args M
  unfold c_laws_toWheel
  dsimp only
  split <;> first | trivial | (intro _; rfl)
def c_laws_eqWheel : Contract := ⟨14, fun args M => match args with
  | [.agg [.int .i64 u, .int .i64 v, .sl a n _], .agg [.int .i64 u', .int .i64 v', .sl b m _]] => .pure (RowOk T3 a n (M a.r) ∧ RowOk T3 b m (M b.r)) (Eng.B (decide (u = u' ∧ v = v' ∧ row T3 a n (M a.r) = row T3 b m (M b.r))))
  | _ => .bad⟩
theorem ok_laws_eqWheel : fnP Try.prog c_laws_eqWheel.f = true ∧ ∀ args M, (c_laws_eqWheel.sp args M).OK Try.prog c_laws_eqWheel.f args M := by
  refine ⟨fp_14, fun args M => ?_⟩
  unfold c_laws_eqWheel
  dsimp only
  split
  case h_2 => trivial
  rename_i u v a n ca u' v' b m cb
  rintro ⟨ha, hb⟩
  refine goIn hf_14 rfl (nt := 21) rfl (rs := [.tmp 4]) rfl (C := [c_laws_eqTimerS]) ⟨(by first | exact .inl ok_laws_eqTimerS | exact ok_laws_eqTimerS), trivial⟩ (q := fun _ => false) okQ_none mixed (O := fun _ => .nil) (by kernel_rfl) ?_
  simp only [↓WP, ↓grdD, ↓grdT, ↓un_dead, ↓binVC, ↓buildVC, ↓sliceVC, WQ, WN, Int.reduceToNat, renl, cll, rent, clt, ↓reduceIte, Nat.reduceLeDiff, Nat.reduceEqDiff, Nat.reduceLT, reduceCtorEq, List.append_nil, Nat.reduceAdd, Nat.reduceSub, Nat.reduceBEq, forall_const, implies_true, cond_true, cond_false, AV.ren, AC.ren, AV.cl, AC.cl, eq_self, List.all_cons, List.all_nil, AV.eqv, AC.eqv, eqvl, eqvt, Sl.eqv, List.map_append, List.length_map, List.length_append, List.length_replicate, List.length_set, List.map_replicate, nilVC, fl_29_0, sz_3, fl_29_1, fl_29_2, sz_27, c_laws_eqTimerS]
  by_cases h1 : u = u' <;> by_cases h3 : v = v' <;> by_cases h2 : row T3 a n (M a.r) = row T3 b m (M b.r) <;> simp [h1, h2, h3, ha, hb]
theorem q_laws_eqWheel : Quiet c_laws_eqWheel := by
  intro args M
  unfold c_laws_eqWheel
  dsimp only
  split <;> first | trivial | (intro _; rfl)
end Go.Eng.T
