/- cache: CacheOk as it is specified. -/
import Derived.Test.YtnpgddgbkaojmaaFn6
set_option linter.unusedVariables false
set_option linter.unusedSimpArgs false
set_option linter.unusedSectionVars false
namespace Go.Eng.T
open Go.Proofs
open Cel (enc dec)
set_option maxRecDepth 100000
set_option maxHeartbeats 4000000
def c_spec_CacheOk : Contract := ⟨17, fun args M => match args with
  | [.agg [.int .i64 cap, .sl a n _, .sl b m _, .int .i64 rd, .int .i64 pt]] => .pure (RowOk ByteArray a n (M a.r) ∧ RowOk TR b m (M b.r)) (Eng.B (decide (cacheOk cap (row ByteArray a n (M a.r)) (row TR b m (M b.r)) rd pt)))
  | _ => .bad⟩
theorem ok_spec_CacheOk : fnP Try.prog c_spec_CacheOk.f = true ∧ ∀ args M, (c_spec_CacheOk.sp args M).OK Try.prog c_spec_CacheOk.f args M := by
  refine ⟨fp_17, fun args M => ?_⟩
  unfold c_spec_CacheOk
  dsimp only
  split
  case h_2 => trivial
  rename_i cap a n ca b m cb rd pt
  rintro ⟨ha, hb⟩
  obtain ⟨hs, D, hD, rfl, hat⟩ := ha.x
  obtain ⟨hs', R, hR, rfl, hbt⟩ := hb.x
  rw [hD, hR]
  refine goIn hf_17 rfl (nt := 110) rfl (rs := [.tmp 2]) rfl (C := [c_spec_l1In]) ⟨(by first | exact .inl ok_spec_l1In | exact ok_spec_l1In), trivial⟩ (q := fun f => [].contains f) ⟨fun h => absurd h (by decide), trivial⟩ mixed (O := ots [(12, otl [0, 1, 2, 3, 4, 5, 6, 7, 8, 9, 10, 11, 12, 13, 14, 15, 16, 17, 18, 19, 20, 21, 22, 23, 24, 25, 26, 27, 28, 29, 30, 31, 32] .nil), (17, otl [0, 1, 2, 3, 4, 5, 6, 7, 8] .nil)]) (by kernel_rfl) ?_
  simp only [↓WP, ↓grdD, ↓grdT, ↓un_dead, ↓binVC, ↓buildVC, ↓sliceVC, WQ, WN, Int.reduceToNat, renl, cll, rent, clt, ↓reduceIte, Nat.reduceLeDiff, Nat.reduceEqDiff, Nat.reduceLT, reduceCtorEq, List.append_nil, Nat.reduceAdd, Nat.reduceSub, Nat.reduceBEq, forall_const, implies_true, cond_true, cond_false, AV.ren, AC.ren, AV.cl, AC.cl, eq_self, List.all_cons, List.all_nil, AV.eqv, AC.eqv, eqvl, eqvt, Sl.eqv, List.map_append, List.length_map, List.length_append, List.length_replicate, List.length_set, List.map_replicate, nilVC, fl_25_0, sz_3, fl_25_1, sz_22, sd_22, fl_25_2, sz_23, sd_23, fl_25_3, fl_25_4, el_22, sz_9, st_9, el_23, sz_60, zr_60, fl_60_0, fl_60_1, fl_60_2, sz_4, c_spec_l1In]
  simp only [WB, eq_self]
  refine ⟨fun h hc => ?_, fun h => ?_⟩
  · unfold cacheOk at hc
    omega
  · have hD20 : D.length = 20 := by omega
    obtain ⟨own', ty', cnt', cap', len', get', hM', hf', hic', hkn', hget'⟩ := hat (by omega)
    refine loopI (J := {i : Nat // i ≤ D.length ∧ ∀ j, j < i → (D.getD j default).size ≤ 20}) (fun i => ⟨slots 110 [(1, .c (.ptr ⟨.loc 0, 0, 0, 0⟩)), (3, I i.1)], M, [], [.box 25 [.int .i64 cap, .sl a.up D.length ca, .sl b.up R.length cb, .int .i64 rd, .int .i64 pt]]⟩) (fun i => D.length - i.1) ⟨0, by omega, all_zero⟩ (Le_intro [0] (by simp [WL, WNL, swA_new, swA_ne, nest_sw_ne, mapLL, List.mem_cons, Nat.reduceAdd, Nat.reduceLT, Nat.reduceLeDiff, Nat.reduceEqDiff, okU, List.nodup_cons, List.not_mem_nil, toT, toL, toO, keysO, renl, rent, cll, clt, eq_self, AV.eqv, AC.eqv, eqvl, eqvt, Sl.eqv, rowsLe, mapLL, rowsCl, List.map_append, List.length_map, List.length_append, List.length_set, List.map_replicate, rowG, List.getElem?_cons_zero, List.getElem?_cons_succ, List.getElem?_nil, List.append_nil, List.nil_append, List.cons_append, ghosts, St.gh, Option.some.injEq, implies_true, setT, AV.ren, AC.ren, AV.cl, AC.cl, List.replicate_succ, List.replicate_zero, List.nodup_nil, List.length_nil, List.length_cons, List.getD_cons_zero, List.getD_cons_succ, ↓reduceIte])) ?_
    rintro ⟨i, hi, he⟩
    have hw := wS (i := i) (by omega)
    rcases Nat.lt_or_ge i D.length with hlt | hge
    · simp only [↓WP, ↓grdD, ↓grdT, ↓un_dead, ↓binVC, ↓buildVC, ↓sliceVC, WQ, WN, Int.reduceToNat, renl, cll, rent, clt, ↓reduceIte, Nat.reduceLeDiff, Nat.reduceEqDiff, Nat.reduceLT, reduceCtorEq, List.append_nil, Nat.reduceAdd, Nat.reduceSub, Nat.reduceBEq, forall_const, implies_true, cond_true, cond_false, AV.ren, AC.ren, AV.cl, AC.cl, eq_self, List.all_cons, List.all_nil, AV.eqv, AC.eqv, eqvl, eqvt, Sl.eqv, List.map_append, List.length_map, List.length_append, List.length_replicate, List.length_set, List.map_replicate, nilVC, fl_25_0, sz_3, fl_25_1, sz_22, sd_22, fl_25_2, sz_23, sd_23, fl_25_3, fl_25_4, el_22, sz_9, st_9, el_23, sz_60, zr_60, fl_60_0, fl_60_1, fl_60_2, sz_4, c_spec_l1In, dlt hlt, hw, hM', hf', hget' i hlt]
      simp only [WB, eq_self]
      refine ⟨by omega, ⟨hic', by omega⟩, fun h1 hc => ?_, fun h1 => ?_⟩
      · have := hc.2.1 i hlt; omega
      · exact ⟨⟨i + 1, hlt, all_step he (by omega)⟩, Le_intro [0] (by simp [WL, WNL, swA_new, swA_ne, nest_sw_ne, mapLL, List.mem_cons, Nat.reduceAdd, Nat.reduceLT, Nat.reduceLeDiff, Nat.reduceEqDiff, okU, List.nodup_cons, List.not_mem_nil, toT, toL, toO, keysO, renl, rent, cll, clt, eq_self, AV.eqv, AC.eqv, eqvl, eqvt, Sl.eqv, rowsLe, mapLL, rowsCl, List.map_append, List.length_map, List.length_append, List.length_set, List.map_replicate, rowG, List.getElem?_cons_zero, List.getElem?_cons_succ, List.getElem?_nil, List.append_nil, List.nil_append, List.cons_append, ghosts, St.gh, Option.some.injEq, implies_true, setT, AV.ren, AC.ren, AV.cl, AC.cl, List.replicate_succ, List.replicate_zero, List.nodup_nil, List.length_nil, List.length_cons, List.getD_cons_zero, List.getD_cons_succ, ↓reduceIte]), by show D.length - (i + 1) < D.length - i; omega⟩
    · obtain rfl : i = D.length := by omega
      simp only [↓WP, ↓grdD, ↓grdT, ↓un_dead, ↓binVC, ↓buildVC, ↓sliceVC, WQ, WN, Int.reduceToNat, renl, cll, rent, clt, ↓reduceIte, Nat.reduceLeDiff, Nat.reduceEqDiff, Nat.reduceLT, reduceCtorEq, List.append_nil, Nat.reduceAdd, Nat.reduceSub, Nat.reduceBEq, forall_const, implies_true, cond_true, cond_false, AV.ren, AC.ren, AV.cl, AC.cl, eq_self, List.all_cons, List.all_nil, AV.eqv, AC.eqv, eqvl, eqvt, Sl.eqv, List.map_append, List.length_map, List.length_append, List.length_replicate, List.length_set, List.map_replicate, nilVC, fl_25_0, sz_3, fl_25_1, sz_22, sd_22, fl_25_2, sz_23, sd_23, fl_25_3, fl_25_4, el_22, sz_9, st_9, el_23, sz_60, zr_60, fl_60_0, fl_60_1, fl_60_2, sz_4, c_spec_l1In, dge hge, hw]
      refine loopI (J := {i : Nat // i ≤ R.length ∧ ∀ j, j < i → rOk D R j}) (fun i => ⟨slots 110 [(1, .c (.ptr ⟨.loc 0, 0, 0, 0⟩)), (4, I i.1)], M, [], [.box 25 [.int .i64 cap, .sl a.up D.length ca, .sl b.up R.length cb, .int .i64 rd, .int .i64 pt]]⟩) (fun i => R.length - i.1) ⟨0, by omega, all_zero⟩ (Le_intro [0] (by simp [WL, WNL, swA_new, swA_ne, nest_sw_ne, mapLL, List.mem_cons, Nat.reduceAdd, Nat.reduceLT, Nat.reduceLeDiff, Nat.reduceEqDiff, okU, List.nodup_cons, List.not_mem_nil, toT, toL, toO, keysO, renl, rent, cll, clt, eq_self, AV.eqv, AC.eqv, eqvl, eqvt, Sl.eqv, rowsLe, mapLL, rowsCl, List.map_append, List.length_map, List.length_append, List.length_set, List.map_replicate, rowG, List.getElem?_cons_zero, List.getElem?_cons_succ, List.getElem?_nil, List.append_nil, List.nil_append, List.cons_append, ghosts, St.gh, Option.some.injEq, implies_true, setT, AV.ren, AC.ren, AV.cl, AC.cl, List.replicate_succ, List.replicate_zero, List.nodup_nil, List.length_nil, List.length_cons, List.getD_cons_zero, List.getD_cons_succ, ↓reduceIte])) ?_
      rintro ⟨i, hi, he2⟩
      have hw := wS (i := i) (by omega)
      rcases Nat.lt_or_ge i R.length with hlt | hge2
      · obtain ⟨own, ty, cnt, cap1, len, get, hM, hf, hic, hkn, hget⟩ := hbt (by omega)
        by_cases hbl : 0 ≤ (R.getD i default).1 ∧ (R.getD i default).1 ≤ 19
        · have hgD : get' a.i (a.k + (R.getD i default).1.toNat) = enc (D.getD (R.getD i default).1.toNat default) := hget' _ (by omega)
          have hd1 : decide ((R.getD i default).1 < 0) = false := by simp only [decide_eq_false_iff_not]; omega
          have hd2 : decide ((D.length : Int) ≤ (R.getD i default).1) = false := by simp only [decide_eq_false_iff_not]; omega
          simp only [↓WP, ↓grdD, ↓grdT, ↓un_dead, ↓binVC, ↓buildVC, ↓sliceVC, WQ, WN, Int.reduceToNat, renl, cll, rent, clt, ↓reduceIte, Nat.reduceLeDiff, Nat.reduceEqDiff, Nat.reduceLT, reduceCtorEq, List.append_nil, Nat.reduceAdd, Nat.reduceSub, Nat.reduceBEq, forall_const, implies_true, cond_true, cond_false, AV.ren, AC.ren, AV.cl, AC.cl, eq_self, List.all_cons, List.all_nil, AV.eqv, AC.eqv, eqvl, eqvt, Sl.eqv, List.map_append, List.length_map, List.length_append, List.length_replicate, List.length_set, List.map_replicate, nilVC, fl_25_0, sz_3, fl_25_1, sz_22, sd_22, fl_25_2, sz_23, sd_23, fl_25_3, fl_25_4, el_22, sz_9, st_9, el_23, sz_60, zr_60, fl_60_0, fl_60_1, fl_60_2, sz_4, c_spec_l1In, dlt hlt, hw, hM, hf, hget i hlt, hM', hf', hgD, hd1, hd2]
          simp only [WB, eq_self]
          refine ⟨by omega, ⟨hic, by omega⟩, fun _ => by omega, fun _ => ⟨hic', by omega⟩, fun h1 hc => ?_, fun h1 => ?_⟩
          · obtain ⟨w1, w2, w3, w4⟩ := hc.2.2 i hlt
            rcases h1 with h1 | ⟨h1, h3⟩
            · omega
            · exact h3 (w4 h1)
          · refine loopI (J := {j : Nat // j ≤ i ∧ ∀ m, m < j → (R.getD m default).1 ≠ (R.getD i default).1}) (fun j => ⟨slots 110 [(1, .c (.ptr ⟨.loc 0, 0, 0, 0⟩)), (4, I i), (5, .c (.ptr ⟨.loc 1, 0, 0, 0⟩)), (6, I j.1)], M, [], [.box 25 [.int .i64 cap, .sl a.up D.length ca, .sl b.up R.length cb, .int .i64 rd, .int .i64 pt], .box 60 [.int .i64 (R.getD i default).1, .str (R.getD i default).2.1, .bool (R.getD i default).2.2]]⟩) (fun j => i - j.1) ⟨0, by omega, fun m hm => absurd hm (by omega)⟩ (Le_intro [0, 1] (by simp [WL, WNL, swA_new, swA_ne, nest_sw_ne, mapLL, List.mem_cons, Nat.reduceAdd, Nat.reduceLT, Nat.reduceLeDiff, Nat.reduceEqDiff, okU, List.nodup_cons, List.not_mem_nil, toT, toL, toO, keysO, renl, rent, cll, clt, eq_self, AV.eqv, AC.eqv, eqvl, eqvt, Sl.eqv, rowsLe, mapLL, rowsCl, List.map_append, List.length_map, List.length_append, List.length_set, List.map_replicate, rowG, List.getElem?_cons_zero, List.getElem?_cons_succ, List.getElem?_nil, List.append_nil, List.nil_append, List.cons_append, ghosts, St.gh, Option.some.injEq, implies_true, setT, AV.ren, AC.ren, AV.cl, AC.cl, List.replicate_succ, List.replicate_zero, List.nodup_nil, List.length_nil, List.length_cons, List.getD_cons_zero, List.getD_cons_succ, ↓reduceIte])) ?_
            rintro ⟨j, hj, hje⟩
            have hwj := wS (i := j) (by omega)
            rcases Nat.lt_or_ge j i with hjlt | hjge
            · simp only [↓WP, ↓grdD, ↓grdT, ↓un_dead, ↓binVC, ↓buildVC, ↓sliceVC, WQ, WN, Int.reduceToNat, renl, cll, rent, clt, ↓reduceIte, Nat.reduceLeDiff, Nat.reduceEqDiff, Nat.reduceLT, reduceCtorEq, List.append_nil, Nat.reduceAdd, Nat.reduceSub, Nat.reduceBEq, forall_const, implies_true, cond_true, cond_false, AV.ren, AC.ren, AV.cl, AC.cl, eq_self, List.all_cons, List.all_nil, AV.eqv, AC.eqv, eqvl, eqvt, Sl.eqv, List.map_append, List.length_map, List.length_append, List.length_replicate, List.length_set, List.map_replicate, nilVC, fl_25_0, sz_3, fl_25_1, sz_22, sd_22, fl_25_2, sz_23, sd_23, fl_25_3, fl_25_4, el_22, sz_9, st_9, el_23, sz_60, zr_60, fl_60_0, fl_60_1, fl_60_2, sz_4, c_spec_l1In, dlt hjlt, hwj, hM, hf, hget j (by omega)]
              simp only [WB, eq_self]
              refine ⟨by omega, ⟨hic, by omega⟩, fun h3 hc => ?_, fun h3 => ?_⟩
              · exact (hc.2.2 i hlt).2.1 j hjlt h3
              · refine ⟨⟨j + 1, hjlt, all_step hje h3⟩, Le_intro [0, 1] (by simp [WL, WNL, swA_new, swA_ne, nest_sw_ne, mapLL, List.mem_cons, Nat.reduceAdd, Nat.reduceLT, Nat.reduceLeDiff, Nat.reduceEqDiff, okU, List.nodup_cons, List.not_mem_nil, toT, toL, toO, keysO, renl, rent, cll, clt, eq_self, AV.eqv, AC.eqv, eqvl, eqvt, Sl.eqv, rowsLe, mapLL, rowsCl, List.map_append, List.length_map, List.length_append, List.length_set, List.map_replicate, rowG, List.getElem?_cons_zero, List.getElem?_cons_succ, List.getElem?_nil, List.append_nil, List.nil_append, List.cons_append, ghosts, St.gh, Option.some.injEq, implies_true, setT, AV.ren, AC.ren, AV.cl, AC.cl, List.replicate_succ, List.replicate_zero, List.nodup_nil, List.length_nil, List.length_cons, List.getD_cons_zero, List.getD_cons_succ, ↓reduceIte]), by show i - (j + 1) < i - j; omega⟩
            · obtain rfl : j = i := by omega
              simp only [↓WP, ↓grdD, ↓grdT, ↓un_dead, ↓binVC, ↓buildVC, ↓sliceVC, WQ, WN, Int.reduceToNat, renl, cll, rent, clt, ↓reduceIte, Nat.reduceLeDiff, Nat.reduceEqDiff, Nat.reduceLT, reduceCtorEq, List.append_nil, Nat.reduceAdd, Nat.reduceSub, Nat.reduceBEq, forall_const, implies_true, cond_true, cond_false, AV.ren, AC.ren, AV.cl, AC.cl, eq_self, List.all_cons, List.all_nil, AV.eqv, AC.eqv, eqvl, eqvt, Sl.eqv, List.map_append, List.length_map, List.length_append, List.length_replicate, List.length_set, List.map_replicate, nilVC, fl_25_0, sz_3, fl_25_1, sz_22, sd_22, fl_25_2, sz_23, sd_23, fl_25_3, fl_25_4, el_22, sz_9, st_9, el_23, sz_60, zr_60, fl_60_0, fl_60_1, fl_60_2, sz_4, c_spec_l1In, dge hjge, hwj]
              refine ⟨⟨j + 1, hlt, all_step he2 ⟨hbl, hje, by omega, fun h6 => ?_⟩⟩, Le_intro [0] (by simp [WL, WNL, swA_new, swA_ne, nest_sw_ne, mapLL, List.mem_cons, Nat.reduceAdd, Nat.reduceLT, Nat.reduceLeDiff, Nat.reduceEqDiff, okU, List.nodup_cons, List.not_mem_nil, toT, toL, toO, keysO, renl, rent, cll, clt, eq_self, AV.eqv, AC.eqv, eqvl, eqvt, Sl.eqv, rowsLe, mapLL, rowsCl, List.map_append, List.length_map, List.length_append, List.length_set, List.map_replicate, rowG, List.getElem?_cons_zero, List.getElem?_cons_succ, List.getElem?_nil, List.append_nil, List.nil_append, List.cons_append, ghosts, St.gh, Option.some.injEq, implies_true, setT, AV.ren, AC.ren, AV.cl, AC.cl, List.replicate_succ, List.replicate_zero, List.nodup_nil, List.length_nil, List.length_cons, List.getD_cons_zero, List.getD_cons_succ, ↓reduceIte]), by show R.length - (j + 1) < R.length - j; omega⟩
              rcases h1.2 with h5 | h5
              · rw [h5] at h6; cases h6
              · exact h5
        · have hno : ¬ cacheOk cap D R rd pt := fun hc => hbl (hc.2.2 i hlt).1
          by_cases hn0 : (R.getD i default).1 < 0
          · simp only [↓WP, ↓grdD, ↓grdT, ↓un_dead, ↓binVC, ↓buildVC, ↓sliceVC, WQ, WN, Int.reduceToNat, renl, cll, rent, clt, ↓reduceIte, Nat.reduceLeDiff, Nat.reduceEqDiff, Nat.reduceLT, reduceCtorEq, List.append_nil, Nat.reduceAdd, Nat.reduceSub, Nat.reduceBEq, forall_const, implies_true, cond_true, cond_false, AV.ren, AC.ren, AV.cl, AC.cl, eq_self, List.all_cons, List.all_nil, AV.eqv, AC.eqv, eqvl, eqvt, Sl.eqv, List.map_append, List.length_map, List.length_append, List.length_replicate, List.length_set, List.map_replicate, nilVC, fl_25_0, sz_3, fl_25_1, sz_22, sd_22, fl_25_2, sz_23, sd_23, fl_25_3, fl_25_4, el_22, sz_9, st_9, el_23, sz_60, zr_60, fl_60_0, fl_60_1, fl_60_2, sz_4, c_spec_l1In, dlt hlt, hw, hM, hf, hget i hlt, hM', hf', decide_eq_true hn0]
            simp only [WB, eq_self]
            generalize (List.map AC.up (get' a.i (a.k + (R.getD i default).1.toNat))).getD 0 dfl = z
            refine ⟨by omega, ⟨hic, by omega⟩, ?_⟩
            cases z <;> simp [hno]
          · have hd2 : decide ((D.length : Int) ≤ (R.getD i default).1) = true := by simp only [decide_eq_true_iff]; omega
            simp only [↓WP, ↓grdD, ↓grdT, ↓un_dead, ↓binVC, ↓buildVC, ↓sliceVC, WQ, WN, Int.reduceToNat, renl, cll, rent, clt, ↓reduceIte, Nat.reduceLeDiff, Nat.reduceEqDiff, Nat.reduceLT, reduceCtorEq, List.append_nil, Nat.reduceAdd, Nat.reduceSub, Nat.reduceBEq, forall_const, implies_true, cond_true, cond_false, AV.ren, AC.ren, AV.cl, AC.cl, eq_self, List.all_cons, List.all_nil, AV.eqv, AC.eqv, eqvl, eqvt, Sl.eqv, List.map_append, List.length_map, List.length_append, List.length_replicate, List.length_set, List.map_replicate, nilVC, fl_25_0, sz_3, fl_25_1, sz_22, sd_22, fl_25_2, sz_23, sd_23, fl_25_3, fl_25_4, el_22, sz_9, st_9, el_23, sz_60, zr_60, fl_60_0, fl_60_1, fl_60_2, sz_4, c_spec_l1In, dlt hlt, hw, hM, hf, hget i hlt, hM', hf', decide_eq_false hn0, hd2]
            simp only [WB, eq_self]
            generalize (List.map AC.up (get' a.i (a.k + (R.getD i default).1.toNat))).getD 0 dfl = z
            refine ⟨by omega, ⟨hic, by omega⟩, ?_⟩
            cases z <;> simp [hno]
      · obtain rfl : i = R.length := by omega
        simp only [↓WP, ↓grdD, ↓grdT, ↓un_dead, ↓binVC, ↓buildVC, ↓sliceVC, WQ, WN, Int.reduceToNat, renl, cll, rent, clt, ↓reduceIte, Nat.reduceLeDiff, Nat.reduceEqDiff, Nat.reduceLT, reduceCtorEq, List.append_nil, Nat.reduceAdd, Nat.reduceSub, Nat.reduceBEq, forall_const, implies_true, cond_true, cond_false, AV.ren, AC.ren, AV.cl, AC.cl, eq_self, List.all_cons, List.all_nil, AV.eqv, AC.eqv, eqvl, eqvt, Sl.eqv, List.map_append, List.length_map, List.length_append, List.length_replicate, List.length_set, List.map_replicate, nilVC, fl_25_0, sz_3, fl_25_1, sz_22, sd_22, fl_25_2, sz_23, sd_23, fl_25_3, fl_25_4, el_22, sz_9, st_9, el_23, sz_60, zr_60, fl_60_0, fl_60_1, fl_60_2, sz_4, c_spec_l1In, dge hge2, hw]
        simp only [WB, eq_self]
        exact ⟨by omega, he, he2⟩
end Go.Eng.T
