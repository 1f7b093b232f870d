/- cache: CacheSync. -/
import Derived.Test.YtnpgddgbkaojmaaFn9
set_option linter.unusedVariables false
set_option linter.unusedSimpArgs false
set_option linter.unusedSectionVars false
namespace Go.Eng.T
open Go.Proofs
open Cel (enc dec)
set_option maxRecDepth 100000
set_option maxHeartbeats 4000000
def c_impl_CacheSync : Contract := ⟨23, fun args M => match args with
  | [.agg [.int .i64 cap, .sl a n ca, .sl b m cb, .int .i64 rd, .int .i64 pt]] => .eff (RowOk ByteArray a n (M a.r) ∧ n ≤ ca ∧ RowOk TR b m (M b.r) ∧ m ≤ cb) (Nat × Nat) (fun p => (syncO cap (row ByteArray a n (M a.r)) (row TR b m (M b.r)) rd pt).1.2.1.length ≤ p.1 ∧ (syncO cap (row ByteArray a n (M a.r)) (row TR b m (M b.r)) rd pt).1.2.2.1.length ≤ p.2) (fun p => .tup [(true, [.int .i64 (syncO cap (row ByteArray a n (M a.r)) (row TR b m (M b.r)) rd pt).1.1, .sl ⟨.loc 0, 0, 0, 0⟩ (syncO cap (row ByteArray a n (M a.r)) (row TR b m (M b.r)) rd pt).1.2.1.length p.1, .sl ⟨.loc 1, 0, 0, 0⟩ (syncO cap (row ByteArray a n (M a.r)) (row TR b m (M b.r)) rd pt).1.2.2.1.length p.2, .int .i64 (syncO cap (row ByteArray a n (M a.r)) (row TR b m (M b.r)) rd pt).1.2.2.2.1, .int .i64 (syncO cap (row ByteArray a n (M a.r)) (row TR b m (M b.r)) rd pt).1.2.2.2.2]), (false, [.int .i64 (syncO cap (row ByteArray a n (M a.r)) (row TR b m (M b.r)) rd pt).2.1]), (false, [.bool (syncO cap (row ByteArray a n (M a.r)) (row TR b m (M b.r)) rd pt).2.2.2])]) (fun p => [rowG true 9 p.1 (syncO cap (row ByteArray a n (M a.r)) (row TR b m (M b.r)) rd pt).1.2.1, rowG true 60 p.2 (syncO cap (row ByteArray a n (M a.r)) (row TR b m (M b.r)) rd pt).1.2.2.1]) (fun _ => [])
  | _ => .bad⟩
theorem ok_impl_CacheSync : fnP Try.prog c_impl_CacheSync.f = true ∧ ∀ args M, (c_impl_CacheSync.sp args M).OK Try.prog c_impl_CacheSync.f args M := by
  refine ⟨fp_23, fun args M => ?_⟩
  unfold c_impl_CacheSync
  dsimp only
  split
  case h_2 => trivial
  rename_i cap a n ca b m cb rd pt
  rintro ⟨ha, hc, hb, hd⟩
  obtain ⟨hs, D, hD, rfl, hat⟩ := ha.x
  obtain ⟨hs', R, hR, rfl, hbt⟩ := hb.x
  rw [hD, hR]
  refine goIn hf_23 rfl (nt := 42) rfl (rs := [.cell 2 25, .tmp 3, .tmp 4]) rfl (C := [c_impl_CacheOk, c_impl_cloneCache]) ⟨(by first | exact .inl ok_impl_CacheOk | exact ok_impl_CacheOk), (by first | exact .inl ok_impl_cloneCache | exact ok_impl_cloneCache), trivial⟩ (q := fun _ => false) okQ_none mixed (O := fun _ => .nil) (by kernel_rfl) ?_
  by_cases hok : cacheOk cap D R rd pt
  · have hO : syncO cap D R rd pt = ((cap, syD D R R.length, R.map clr, rd, pt), (syN R R.length : Int), ByteArray.empty, true) := if_pos hok
    have hD20 : D.length = 20 := hok.1.2.1
    have hR6 : R.length ≤ 6 := by have := hok.1.2.2.1; have := hok.1.1; omega
    have hsl := syD_len D R R.length
    rw [hO]
    simp only [↓WP, ↓grdD, ↓grdT, ↓un_dead, ↓binVC, ↓buildVC, ↓sliceVC, WQ, WN, Int.reduceToNat, renl, cll, rent, clt, ↓reduceIte, Nat.reduceLeDiff, Nat.reduceEqDiff, Nat.reduceLT, reduceCtorEq, List.append_nil, Nat.reduceAdd, Nat.reduceSub, Nat.reduceBEq, forall_const, implies_true, cond_true, cond_false, AV.ren, AC.ren, AV.cl, AC.cl, eq_self, List.all_cons, List.all_nil, AV.eqv, AC.eqv, eqvl, eqvt, Sl.eqv, List.map_append, List.length_map, List.length_append, List.length_replicate, List.length_set, List.map_replicate, nilVC, zr_25, sz_25, fs_25, fl_25_2, sz_23, sd_23, el_23, sz_60, zr_60, fl_60_2, sz_4, fl_25_1, sz_22, fl_60_0, sz_3, fl_60_1, sz_9, el_22, c_impl_CacheOk, c_impl_cloneCache, hD, hR, decide_eq_true hok]
    refine ⟨⟨ha, hb⟩, ⟨ha, hc, hb, hd⟩, fun p hp => ?_⟩
    obtain ⟨k1, k2⟩ := p
    obtain ⟨hp1, hp2⟩ := hp
    dsimp only at hp1 hp2
    refine loopI (J := {i : Nat // i ≤ R.length}) (fun i => ⟨slots 42 [(2, .c (.ptr ⟨.loc 1, 0, 0, 0⟩)), (5, .c (.ptr ⟨.loc 4, 0, 0, 0⟩)), (6, I (syN R i.1)), (16, .c (.sl b.up R.length cb)), (17, I R.length), (18, I i.1)], M, [], [.box 25 [.int .i64 cap, .sl a.up D.length ca, .sl b.up R.length cb, .int .i64 rd, .int .i64 pt], .box 25 [.int .i64 0, .sl ⟨.nil, 0, 0, 0⟩ 0 0, .sl ⟨.nil, 0, 0, 0⟩ 0 0, .int .i64 0, .int .i64 0], rowG true 9 k1 (syD D R i.1), rowG true 60 k2 (over (R.map clr) R i.1), .box 25 [.int .i64 cap, .sl ⟨.loc 2, 0, 0, 0⟩ D.length k1, .sl ⟨.loc 3, 0, 0, 0⟩ R.length k2, .int .i64 rd, .int .i64 pt]]⟩) (fun i => R.length - i.1) ⟨0, by omega⟩ (Le_intro [0, 1, 2, 3, 4] (by simp only [WL, WNL, swA_new, swA_ne, nest_sw_ne, mapLL, List.mem_cons, Nat.reduceAdd, Nat.reduceLT, Nat.reduceLeDiff, Nat.reduceEqDiff, okU, List.nodup_cons, List.not_mem_nil, toT, toL, toO, keysO, renl, rent, cll, clt, eq_self, AV.eqv, AC.eqv, eqvl, eqvt, Sl.eqv, rowsLe, mapLL, rowsCl, List.map_append, List.length_map, List.length_append, List.length_set, List.map_replicate, rowG, List.getElem?_cons_zero, List.getElem?_cons_succ, List.getElem?_nil, List.append_nil, List.nil_append, List.cons_append, ghosts, St.gh, Option.some.injEq, implies_true, setT, AV.ren, AC.ren, AV.cl, AC.cl, List.replicate_succ, List.replicate_zero, List.nodup_nil, List.length_nil, List.length_cons, List.getD_cons_zero, List.getD_cons_succ, ↓reduceIte, syD, syN, over_zero]; try simp)) ?_
    rintro ⟨i, hi⟩
    have hw := wS (i := i) (by omega)
    have hnn := syN_le R i
    have hwn := wS (i := syN R i) (by omega)
    have hli := syD_len D R i
    have hlo := over_length (R.map clr) R i (by simp)
    rcases Nat.lt_or_ge i R.length with hlt | hge
    · obtain ⟨own, ty, cnt, cap1, len, get, hM, hf, hic, hkn, hget⟩ := hbt (by omega)
      have hbi := (hok.2.2 i hlt).1
      have hgo : (List.map enc (over (R.map clr) R i)).getD i [] = enc (R.getD i default) := by rw [getD_enc _ _ (by omega), over_get _ _ _ _ (by simp) hlt]
      by_cases hdy : (R.getD i default).2.2 = true
      · have hS : syD D R (i + 1) = (syD D R i).set (R.getD i default).1.toNat (R.getD i default).2.1 := by rw [syD, if_pos hdy]
        have hN : syN R (i + 1) = syN R i + 1 := by rw [syN, if_pos hdy]
        have hv := over_dirty hlt
        simp only [↓WP, ↓grdD, ↓grdT, ↓un_dead, ↓binVC, ↓buildVC, ↓sliceVC, WQ, WN, Int.reduceToNat, renl, cll, rent, clt, ↓reduceIte, Nat.reduceLeDiff, Nat.reduceEqDiff, Nat.reduceLT, reduceCtorEq, List.append_nil, Nat.reduceAdd, Nat.reduceSub, Nat.reduceBEq, forall_const, implies_true, cond_true, cond_false, AV.ren, AC.ren, AV.cl, AC.cl, eq_self, List.all_cons, List.all_nil, AV.eqv, AC.eqv, eqvl, eqvt, Sl.eqv, List.map_append, List.length_map, List.length_append, List.length_replicate, List.length_set, List.map_replicate, nilVC, zr_25, sz_25, fs_25, fl_25_2, sz_23, sd_23, el_23, sz_60, zr_60, fl_60_2, sz_4, fl_25_1, sz_22, fl_60_0, sz_3, fl_60_1, sz_9, el_22, c_impl_CacheOk, c_impl_cloneCache, dlt hlt, hw, hwn, hM, hf, hget i hlt, hgo, hdy, hli, hlo]
        repeat' (first | with_reducible refine And.intro ?_ ?_ | intro _)
        all_goals try omega
        exact ⟨⟨i + 1, hlt⟩, Le_intro [0, 1, 2, 3, 4] (by simp only [WL, WNL, swA_new, swA_ne, nest_sw_ne, mapLL, List.mem_cons, Nat.reduceAdd, Nat.reduceLT, Nat.reduceLeDiff, Nat.reduceEqDiff, okU, List.nodup_cons, List.not_mem_nil, toT, toL, toO, keysO, renl, rent, cll, clt, eq_self, AV.eqv, AC.eqv, eqvl, eqvt, Sl.eqv, rowsLe, mapLL, rowsCl, List.map_append, List.length_map, List.length_append, List.length_set, List.map_replicate, rowG, List.getElem?_cons_zero, List.getElem?_cons_succ, List.getElem?_nil, List.append_nil, List.nil_append, List.cons_append, ghosts, St.gh, Option.some.injEq, implies_true, setT, AV.ren, AC.ren, AV.cl, AC.cl, List.replicate_succ, List.replicate_zero, List.nodup_nil, List.length_nil, List.length_cons, List.getD_cons_zero, List.getD_cons_succ, ↓reduceIte, hS, hN, ← hv, clr, List.map_set]; try simp), by show R.length - (i + 1) < R.length - i; omega⟩
      · have hdy : (R.getD i default).2.2 = false := by simpa using hdy
        have hS : syD D R (i + 1) = syD D R i := by rw [syD, if_neg (by rw [hdy]; simp)]
        have hN : syN R (i + 1) = syN R i := by rw [syN, if_neg (by rw [hdy]; simp)]
        have hv := over_clean hlt hdy
        simp only [↓WP, ↓grdD, ↓grdT, ↓un_dead, ↓binVC, ↓buildVC, ↓sliceVC, WQ, WN, Int.reduceToNat, renl, cll, rent, clt, ↓reduceIte, Nat.reduceLeDiff, Nat.reduceEqDiff, Nat.reduceLT, reduceCtorEq, List.append_nil, Nat.reduceAdd, Nat.reduceSub, Nat.reduceBEq, forall_const, implies_true, cond_true, cond_false, AV.ren, AC.ren, AV.cl, AC.cl, eq_self, List.all_cons, List.all_nil, AV.eqv, AC.eqv, eqvl, eqvt, Sl.eqv, List.map_append, List.length_map, List.length_append, List.length_replicate, List.length_set, List.map_replicate, nilVC, zr_25, sz_25, fs_25, fl_25_2, sz_23, sd_23, el_23, sz_60, zr_60, fl_60_2, sz_4, fl_25_1, sz_22, fl_60_0, sz_3, fl_60_1, sz_9, el_22, c_impl_CacheOk, c_impl_cloneCache, dlt hlt, hw, hwn, hM, hf, hget i hlt, hgo, hdy, hli, hlo]
        repeat' (first | with_reducible refine And.intro ?_ ?_ | intro _)
        all_goals try omega
        exact ⟨⟨i + 1, hlt⟩, Le_intro [0, 1, 2, 3, 4] (by simp only [WL, WNL, swA_new, swA_ne, nest_sw_ne, mapLL, List.mem_cons, Nat.reduceAdd, Nat.reduceLT, Nat.reduceLeDiff, Nat.reduceEqDiff, okU, List.nodup_cons, List.not_mem_nil, toT, toL, toO, keysO, renl, rent, cll, clt, eq_self, AV.eqv, AC.eqv, eqvl, eqvt, Sl.eqv, rowsLe, mapLL, rowsCl, List.map_append, List.length_map, List.length_append, List.length_set, List.map_replicate, rowG, List.getElem?_cons_zero, List.getElem?_cons_succ, List.getElem?_nil, List.append_nil, List.nil_append, List.cons_append, ghosts, St.gh, Option.some.injEq, implies_true, setT, AV.ren, AC.ren, AV.cl, AC.cl, List.replicate_succ, List.replicate_zero, List.nodup_nil, List.length_nil, List.length_cons, List.getD_cons_zero, List.getD_cons_succ, ↓reduceIte, hS, hN, hv]; try simp), by show R.length - (i + 1) < R.length - i; omega⟩
    · obtain rfl : i = R.length := by omega
      have hv : over (R.map clr) R R.length = R.map clr := over_all _ _ (by simp)
      simp only [↓WP, ↓grdD, ↓grdT, ↓un_dead, ↓binVC, ↓buildVC, ↓sliceVC, WQ, WN, Int.reduceToNat, renl, cll, rent, clt, ↓reduceIte, Nat.reduceLeDiff, Nat.reduceEqDiff, Nat.reduceLT, reduceCtorEq, List.append_nil, Nat.reduceAdd, Nat.reduceSub, Nat.reduceBEq, forall_const, implies_true, cond_true, cond_false, AV.ren, AC.ren, AV.cl, AC.cl, eq_self, List.all_cons, List.all_nil, AV.eqv, AC.eqv, eqvl, eqvt, Sl.eqv, List.map_append, List.length_map, List.length_append, List.length_replicate, List.length_set, List.map_replicate, nilVC, zr_25, sz_25, fs_25, fl_25_2, sz_23, sd_23, el_23, sz_60, zr_60, fl_60_2, sz_4, fl_25_1, sz_22, fl_60_0, sz_3, fl_60_1, sz_9, el_22, c_impl_CacheOk, c_impl_cloneCache, dge hge, hw, hlo]
      refine end_ret ?_
      simp only [↓WP, ↓grdD, ↓grdT, ↓un_dead, ↓binVC, ↓buildVC, ↓sliceVC, WQ, WN, Int.reduceToNat, renl, cll, rent, clt, ↓reduceIte, Nat.reduceLeDiff, Nat.reduceEqDiff, Nat.reduceLT, reduceCtorEq, List.append_nil, Nat.reduceAdd, Nat.reduceSub, Nat.reduceBEq, forall_const, implies_true, cond_true, cond_false, AV.ren, AC.ren, AV.cl, AC.cl, eq_self, List.all_cons, List.all_nil, AV.eqv, AC.eqv, eqvl, eqvt, Sl.eqv, List.map_append, List.length_map, List.length_append, List.length_replicate, List.length_set, List.map_replicate, nilVC, zr_25, sz_25, fs_25, fl_25_2, sz_23, sd_23, el_23, sz_60, zr_60, fl_60_2, sz_4, fl_25_1, sz_22, fl_60_0, sz_3, fl_60_1, sz_9, el_22, c_impl_CacheOk, c_impl_cloneCache]
      refine ⟨(k1, k2), [], [2, 3], ?_⟩
      simp only [WL, WNL, swA_new, swA_ne, nest_sw_ne, mapLL, List.mem_cons, Nat.reduceAdd, Nat.reduceLT, Nat.reduceLeDiff, Nat.reduceEqDiff, okU, List.nodup_cons, List.not_mem_nil, toT, toL, toO, keysO, renl, rent, cll, clt, eq_self, AV.eqv, AC.eqv, eqvl, eqvt, Sl.eqv, rowsLe, mapLL, rowsCl, List.map_append, List.length_map, List.length_append, List.length_set, List.map_replicate, rowG, List.getElem?_cons_zero, List.getElem?_cons_succ, List.getElem?_nil, List.append_nil, List.nil_append, List.cons_append, ghosts, St.gh, Option.some.injEq, implies_true, setT, AV.ren, AC.ren, AV.cl, AC.cl, List.replicate_succ, List.replicate_zero, List.nodup_nil, List.length_nil, List.length_cons, List.getD_cons_zero, List.getD_cons_succ, ↓reduceIte, retP, hv, hsl]
      simp [hp1, hp2, hsl]
  · have hO : syncO cap D R rd pt = ((0, [], [], 0, 0), 0, ByteArray.empty, false) := if_neg hok
    rw [hO]
    simp only [↓WP, ↓grdD, ↓grdT, ↓un_dead, ↓binVC, ↓buildVC, ↓sliceVC, WQ, WN, Int.reduceToNat, renl, cll, rent, clt, ↓reduceIte, Nat.reduceLeDiff, Nat.reduceEqDiff, Nat.reduceLT, reduceCtorEq, List.append_nil, Nat.reduceAdd, Nat.reduceSub, Nat.reduceBEq, forall_const, implies_true, cond_true, cond_false, AV.ren, AC.ren, AV.cl, AC.cl, eq_self, List.all_cons, List.all_nil, AV.eqv, AC.eqv, eqvl, eqvt, Sl.eqv, List.map_append, List.length_map, List.length_append, List.length_replicate, List.length_set, List.map_replicate, nilVC, zr_25, sz_25, fs_25, fl_25_2, sz_23, sd_23, el_23, sz_60, zr_60, fl_60_2, sz_4, fl_25_1, sz_22, fl_60_0, sz_3, fl_60_1, sz_9, el_22, c_impl_CacheOk, c_impl_cloneCache, hD, hR, decide_eq_false hok]
    refine ⟨⟨ha, hb⟩, end_ret ?_⟩
    simp only [↓WP, ↓grdD, ↓grdT, ↓un_dead, ↓binVC, ↓buildVC, ↓sliceVC, WQ, WN, Int.reduceToNat, renl, cll, rent, clt, ↓reduceIte, Nat.reduceLeDiff, Nat.reduceEqDiff, Nat.reduceLT, reduceCtorEq, List.append_nil, Nat.reduceAdd, Nat.reduceSub, Nat.reduceBEq, forall_const, implies_true, cond_true, cond_false, AV.ren, AC.ren, AV.cl, AC.cl, eq_self, List.all_cons, List.all_nil, AV.eqv, AC.eqv, eqvl, eqvt, Sl.eqv, List.map_append, List.length_map, List.length_append, List.length_replicate, List.length_set, List.map_replicate, nilVC, zr_25, sz_25, fs_25, fl_25_2, sz_23, sd_23, el_23, sz_60, zr_60, fl_60_2, sz_4, fl_25_1, sz_22, fl_60_0, sz_3, fl_60_1, sz_9, el_22, c_impl_CacheOk, c_impl_cloneCache]
    refine ⟨(0, 0), [(9, 1), (60, 3)], [2, 3], ?_⟩
    simp [WL, WNL, swA_new, swA_ne, nest_sw_ne, mapLL, List.mem_cons, Nat.reduceAdd, Nat.reduceLT, Nat.reduceLeDiff, Nat.reduceEqDiff, okU, List.nodup_cons, List.not_mem_nil, toT, toL, toO, keysO, renl, rent, cll, clt, eq_self, AV.eqv, AC.eqv, eqvl, eqvt, Sl.eqv, rowsLe, mapLL, rowsCl, List.map_append, List.length_map, List.length_append, List.length_set, List.map_replicate, rowG, List.getElem?_cons_zero, List.getElem?_cons_succ, List.getElem?_nil, List.append_nil, List.nil_append, List.cons_append, ghosts, St.gh, Option.some.injEq, implies_true, setT, AV.ren, AC.ren, AV.cl, AC.cl, List.replicate_succ, List.replicate_zero, List.nodup_nil, List.length_nil, List.length_cons, List.getD_cons_zero, List.getD_cons_succ, ↓reduceIte, retP]
def c_spec_CacheSync : Contract := ⟨22, fun args M => match args with
  | [.agg [.int .i64 cap, .sl a n ca, .sl b m cb, .int .i64 rd, .int .i64 pt]] => .eff (RowOk ByteArray a n (M a.r) ∧ n ≤ ca ∧ RowOk TR b m (M b.r) ∧ m ≤ cb) (Nat × Nat) (fun p => (syncO cap (row ByteArray a n (M a.r)) (row TR b m (M b.r)) rd pt).1.2.1.length ≤ p.1 ∧ (syncO cap (row ByteArray a n (M a.r)) (row TR b m (M b.r)) rd pt).1.2.2.1.length ≤ p.2) (fun p => .tup [(true, [.int .i64 (syncO cap (row ByteArray a n (M a.r)) (row TR b m (M b.r)) rd pt).1.1, .sl ⟨.loc 0, 0, 0, 0⟩ (syncO cap (row ByteArray a n (M a.r)) (row TR b m (M b.r)) rd pt).1.2.1.length p.1, .sl ⟨.loc 1, 0, 0, 0⟩ (syncO cap (row ByteArray a n (M a.r)) (row TR b m (M b.r)) rd pt).1.2.2.1.length p.2, .int .i64 (syncO cap (row ByteArray a n (M a.r)) (row TR b m (M b.r)) rd pt).1.2.2.2.1, .int .i64 (syncO cap (row ByteArray a n (M a.r)) (row TR b m (M b.r)) rd pt).1.2.2.2.2]), (false, [.int .i64 (syncO cap (row ByteArray a n (M a.r)) (row TR b m (M b.r)) rd pt).2.1]), (false, [.bool (syncO cap (row ByteArray a n (M a.r)) (row TR b m (M b.r)) rd pt).2.2.2])]) (fun p => [rowG true 9 p.1 (syncO cap (row ByteArray a n (M a.r)) (row TR b m (M b.r)) rd pt).1.2.1, rowG true 60 p.2 (syncO cap (row ByteArray a n (M a.r)) (row TR b m (M b.r)) rd pt).1.2.2.1]) (fun _ => [])
  | _ => .bad⟩
theorem ok_spec_CacheSync : fnP Try.prog c_spec_CacheSync.f = true ∧ ∀ args M, (c_spec_CacheSync.sp args M).OK Try.prog c_spec_CacheSync.f args M := by
  refine ⟨fp_22, fun args M => ?_⟩
  unfold c_spec_CacheSync
  dsimp only
  split
  case h_2 => trivial
  rename_i cap a n ca b m cb rd pt
  rintro ⟨ha, hc, hb, hd⟩
  obtain ⟨hs, D, hD, rfl, hat⟩ := ha.x
  obtain ⟨hs', R, hR, rfl, hbt⟩ := hb.x
  rw [hD, hR]
  refine goIn hf_22 rfl (nt := 51) rfl (rs := [.cell 2 25, .tmp 3, .tmp 4]) rfl (C := [c_spec_CacheOk, c_spec_l30Copy]) ⟨(by first | exact .inl ok_spec_CacheOk | exact ok_spec_CacheOk), (by first | exact .inl ok_spec_l30Copy | exact ok_spec_l30Copy), trivial⟩ (q := fun f => [].contains f) ⟨fun h => absurd h (by decide), fun h => absurd h (by decide), trivial⟩ mixed (O := ots [(9, otl [0, 1, 2, 3, 4, 5, 6, 7, 8, 9, 10, 11, 12, 13, 14, 15] .nil)]) (by kernel_rfl) ?_
  by_cases hok : cacheOk cap D R rd pt
  · have hO : syncO cap D R rd pt = ((cap, syD D R R.length, R.map clr, rd, pt), (syN R R.length : Int), ByteArray.empty, true) := if_pos hok
    have hD20 : D.length = 20 := hok.1.2.1
    have hR6 : R.length ≤ 6 := by have := hok.1.2.2.1; have := hok.1.1; omega
    have hsl := syD_len D R R.length
    rw [hO]
    simp only [↓WP, ↓grdD, ↓grdT, ↓un_dead, ↓binVC, ↓buildVC, ↓sliceVC, WQ, WN, Int.reduceToNat, renl, cll, rent, clt, ↓reduceIte, Nat.reduceLeDiff, Nat.reduceEqDiff, Nat.reduceLT, reduceCtorEq, List.append_nil, Nat.reduceAdd, Nat.reduceSub, Nat.reduceBEq, forall_const, implies_true, cond_true, cond_false, AV.ren, AC.ren, AV.cl, AC.cl, eq_self, List.all_cons, List.all_nil, AV.eqv, AC.eqv, eqvl, eqvt, Sl.eqv, List.map_append, List.length_map, List.length_append, List.length_replicate, List.length_set, List.map_replicate, nilVC, zr_25, sz_25, fs_25, fl_25_2, sz_23, sd_23, el_23, fl_60_2, sz_4, fl_25_1, sz_22, fl_60_0, sz_3, fl_60_1, sz_9, el_22, c_spec_CacheOk, c_spec_l30Copy, hD, hR, decide_eq_true hok]
    refine ⟨⟨ha, hb⟩, ⟨ha, hb⟩, fun p hp => ?_⟩
    obtain ⟨k1, k2⟩ := p
    obtain ⟨hp1, hp2⟩ := hp
    dsimp only at hp1 hp2
    refine loopI (J := {i : Nat // i ≤ R.length}) (fun i => ⟨slots 51 [(2, .c (.ptr ⟨.loc 1, 0, 0, 0⟩)), (5, .c (.ptr ⟨.loc 4, 0, 0, 0⟩)), (6, I (syN R i.1)), (7, I i.1)], M, [], [.box 25 [.int .i64 cap, .sl a.up D.length ca, .sl b.up R.length cb, .int .i64 rd, .int .i64 pt], .box 25 [.int .i64 0, .sl ⟨.nil, 0, 0, 0⟩ 0 0, .sl ⟨.nil, 0, 0, 0⟩ 0 0, .int .i64 0, .int .i64 0], rowG true 9 k1 (syD D R i.1), rowG true 60 k2 (over (R.map clr) R i.1), .box 25 [.int .i64 cap, .sl ⟨.loc 2, 0, 0, 0⟩ D.length k1, .sl ⟨.loc 3, 0, 0, 0⟩ R.length k2, .int .i64 rd, .int .i64 pt]]⟩) (fun i => R.length - i.1) ⟨0, by omega⟩ (Le_intro [0, 1, 2, 3, 4] (by simp only [WL, WNL, swA_new, swA_ne, nest_sw_ne, mapLL, List.mem_cons, Nat.reduceAdd, Nat.reduceLT, Nat.reduceLeDiff, Nat.reduceEqDiff, okU, List.nodup_cons, List.not_mem_nil, toT, toL, toO, keysO, renl, rent, cll, clt, eq_self, AV.eqv, AC.eqv, eqvl, eqvt, Sl.eqv, rowsLe, mapLL, rowsCl, List.map_append, List.length_map, List.length_append, List.length_set, List.map_replicate, rowG, List.getElem?_cons_zero, List.getElem?_cons_succ, List.getElem?_nil, List.append_nil, List.nil_append, List.cons_append, ghosts, St.gh, Option.some.injEq, implies_true, setT, AV.ren, AC.ren, AV.cl, AC.cl, List.replicate_succ, List.replicate_zero, List.nodup_nil, List.length_nil, List.length_cons, List.getD_cons_zero, List.getD_cons_succ, ↓reduceIte, syD, syN, over_zero]; try simp)) ?_
    rintro ⟨i, hi⟩
    have hw := wS (i := i) (by omega)
    have hnn := syN_le R i
    have hwn := wS (i := syN R i) (by omega)
    have hli := syD_len D R i
    have hlo := over_length (R.map clr) R i (by simp)
    rcases Nat.lt_or_ge i R.length with hlt | hge
    · obtain ⟨own, ty, cnt, cap1, len, get, hM, hf, hic, hkn, hget⟩ := hbt (by omega)
      have hbi := (hok.2.2 i hlt).1
      have hgo : (List.map enc (over (R.map clr) R i)).getD i [] = enc (R.getD i default) := by rw [getD_enc _ _ (by omega), over_get _ _ _ _ (by simp) hlt]
      by_cases hdy : (R.getD i default).2.2 = true
      · have hS : syD D R (i + 1) = (syD D R i).set (R.getD i default).1.toNat (R.getD i default).2.1 := by rw [syD, if_pos hdy]
        have hN : syN R (i + 1) = syN R i + 1 := by rw [syN, if_pos hdy]
        have hv := over_dirty hlt
        simp only [↓WP, ↓grdD, ↓grdT, ↓un_dead, ↓binVC, ↓buildVC, ↓sliceVC, WQ, WN, Int.reduceToNat, renl, cll, rent, clt, ↓reduceIte, Nat.reduceLeDiff, Nat.reduceEqDiff, Nat.reduceLT, reduceCtorEq, List.append_nil, Nat.reduceAdd, Nat.reduceSub, Nat.reduceBEq, forall_const, implies_true, cond_true, cond_false, AV.ren, AC.ren, AV.cl, AC.cl, eq_self, List.all_cons, List.all_nil, AV.eqv, AC.eqv, eqvl, eqvt, Sl.eqv, List.map_append, List.length_map, List.length_append, List.length_replicate, List.length_set, List.map_replicate, nilVC, zr_25, sz_25, fs_25, fl_25_2, sz_23, sd_23, el_23, fl_60_2, sz_4, fl_25_1, sz_22, fl_60_0, sz_3, fl_60_1, sz_9, el_22, c_spec_CacheOk, c_spec_l30Copy, dlt hlt, hw, hwn, hM, hf, hget i hlt, hgo, hdy, hli, hlo]
        repeat' (first | with_reducible refine And.intro ?_ ?_ | intro _)
        all_goals try omega
        exact ⟨⟨i + 1, hlt⟩, Le_intro [0, 1, 2, 3, 4] (by simp only [WL, WNL, swA_new, swA_ne, nest_sw_ne, mapLL, List.mem_cons, Nat.reduceAdd, Nat.reduceLT, Nat.reduceLeDiff, Nat.reduceEqDiff, okU, List.nodup_cons, List.not_mem_nil, toT, toL, toO, keysO, renl, rent, cll, clt, eq_self, AV.eqv, AC.eqv, eqvl, eqvt, Sl.eqv, rowsLe, mapLL, rowsCl, List.map_append, List.length_map, List.length_append, List.length_set, List.map_replicate, rowG, List.getElem?_cons_zero, List.getElem?_cons_succ, List.getElem?_nil, List.append_nil, List.nil_append, List.cons_append, ghosts, St.gh, Option.some.injEq, implies_true, setT, AV.ren, AC.ren, AV.cl, AC.cl, List.replicate_succ, List.replicate_zero, List.nodup_nil, List.length_nil, List.length_cons, List.getD_cons_zero, List.getD_cons_succ, ↓reduceIte, hS, hN, ← hv, clr, List.map_set]; try simp), by show R.length - (i + 1) < R.length - i; omega⟩
      · have hdy : (R.getD i default).2.2 = false := by simpa using hdy
        have hS : syD D R (i + 1) = syD D R i := by rw [syD, if_neg (by rw [hdy]; simp)]
        have hN : syN R (i + 1) = syN R i := by rw [syN, if_neg (by rw [hdy]; simp)]
        have hv := over_clean hlt hdy
        simp only [↓WP, ↓grdD, ↓grdT, ↓un_dead, ↓binVC, ↓buildVC, ↓sliceVC, WQ, WN, Int.reduceToNat, renl, cll, rent, clt, ↓reduceIte, Nat.reduceLeDiff, Nat.reduceEqDiff, Nat.reduceLT, reduceCtorEq, List.append_nil, Nat.reduceAdd, Nat.reduceSub, Nat.reduceBEq, forall_const, implies_true, cond_true, cond_false, AV.ren, AC.ren, AV.cl, AC.cl, eq_self, List.all_cons, List.all_nil, AV.eqv, AC.eqv, eqvl, eqvt, Sl.eqv, List.map_append, List.length_map, List.length_append, List.length_replicate, List.length_set, List.map_replicate, nilVC, zr_25, sz_25, fs_25, fl_25_2, sz_23, sd_23, el_23, fl_60_2, sz_4, fl_25_1, sz_22, fl_60_0, sz_3, fl_60_1, sz_9, el_22, c_spec_CacheOk, c_spec_l30Copy, dlt hlt, hw, hwn, hM, hf, hget i hlt, hgo, hdy, hli, hlo]
        repeat' (first | with_reducible refine And.intro ?_ ?_ | intro _)
        all_goals try omega
        exact ⟨⟨i + 1, hlt⟩, Le_intro [0, 1, 2, 3, 4] (by simp only [WL, WNL, swA_new, swA_ne, nest_sw_ne, mapLL, List.mem_cons, Nat.reduceAdd, Nat.reduceLT, Nat.reduceLeDiff, Nat.reduceEqDiff, okU, List.nodup_cons, List.not_mem_nil, toT, toL, toO, keysO, renl, rent, cll, clt, eq_self, AV.eqv, AC.eqv, eqvl, eqvt, Sl.eqv, rowsLe, mapLL, rowsCl, List.map_append, List.length_map, List.length_append, List.length_set, List.map_replicate, rowG, List.getElem?_cons_zero, List.getElem?_cons_succ, List.getElem?_nil, List.append_nil, List.nil_append, List.cons_append, ghosts, St.gh, Option.some.injEq, implies_true, setT, AV.ren, AC.ren, AV.cl, AC.cl, List.replicate_succ, List.replicate_zero, List.nodup_nil, List.length_nil, List.length_cons, List.getD_cons_zero, List.getD_cons_succ, ↓reduceIte, hS, hN, hv]; try simp), by show R.length - (i + 1) < R.length - i; omega⟩
    · obtain rfl : i = R.length := by omega
      have hv : over (R.map clr) R R.length = R.map clr := over_all _ _ (by simp)
      simp only [↓WP, ↓grdD, ↓grdT, ↓un_dead, ↓binVC, ↓buildVC, ↓sliceVC, WQ, WN, Int.reduceToNat, renl, cll, rent, clt, ↓reduceIte, Nat.reduceLeDiff, Nat.reduceEqDiff, Nat.reduceLT, reduceCtorEq, List.append_nil, Nat.reduceAdd, Nat.reduceSub, Nat.reduceBEq, forall_const, implies_true, cond_true, cond_false, AV.ren, AC.ren, AV.cl, AC.cl, eq_self, List.all_cons, List.all_nil, AV.eqv, AC.eqv, eqvl, eqvt, Sl.eqv, List.map_append, List.length_map, List.length_append, List.length_replicate, List.length_set, List.map_replicate, nilVC, zr_25, sz_25, fs_25, fl_25_2, sz_23, sd_23, el_23, fl_60_2, sz_4, fl_25_1, sz_22, fl_60_0, sz_3, fl_60_1, sz_9, el_22, c_spec_CacheOk, c_spec_l30Copy, dge hge, hw, hlo]
      refine end_ret ?_
      simp only [↓WP, ↓grdD, ↓grdT, ↓un_dead, ↓binVC, ↓buildVC, ↓sliceVC, WQ, WN, Int.reduceToNat, renl, cll, rent, clt, ↓reduceIte, Nat.reduceLeDiff, Nat.reduceEqDiff, Nat.reduceLT, reduceCtorEq, List.append_nil, Nat.reduceAdd, Nat.reduceSub, Nat.reduceBEq, forall_const, implies_true, cond_true, cond_false, AV.ren, AC.ren, AV.cl, AC.cl, eq_self, List.all_cons, List.all_nil, AV.eqv, AC.eqv, eqvl, eqvt, Sl.eqv, List.map_append, List.length_map, List.length_append, List.length_replicate, List.length_set, List.map_replicate, nilVC, zr_25, sz_25, fs_25, fl_25_2, sz_23, sd_23, el_23, fl_60_2, sz_4, fl_25_1, sz_22, fl_60_0, sz_3, fl_60_1, sz_9, el_22, c_spec_CacheOk, c_spec_l30Copy]
      refine ⟨(k1, k2), [], [2, 3], ?_⟩
      simp only [WL, WNL, swA_new, swA_ne, nest_sw_ne, mapLL, List.mem_cons, Nat.reduceAdd, Nat.reduceLT, Nat.reduceLeDiff, Nat.reduceEqDiff, okU, List.nodup_cons, List.not_mem_nil, toT, toL, toO, keysO, renl, rent, cll, clt, eq_self, AV.eqv, AC.eqv, eqvl, eqvt, Sl.eqv, rowsLe, mapLL, rowsCl, List.map_append, List.length_map, List.length_append, List.length_set, List.map_replicate, rowG, List.getElem?_cons_zero, List.getElem?_cons_succ, List.getElem?_nil, List.append_nil, List.nil_append, List.cons_append, ghosts, St.gh, Option.some.injEq, implies_true, setT, AV.ren, AC.ren, AV.cl, AC.cl, List.replicate_succ, List.replicate_zero, List.nodup_nil, List.length_nil, List.length_cons, List.getD_cons_zero, List.getD_cons_succ, ↓reduceIte, retP, hv, hsl]
      simp [hp1, hp2, hsl]
  · have hO : syncO cap D R rd pt = ((0, [], [], 0, 0), 0, ByteArray.empty, false) := if_neg hok
    rw [hO]
    simp only [↓WP, ↓grdD, ↓grdT, ↓un_dead, ↓binVC, ↓buildVC, ↓sliceVC, WQ, WN, Int.reduceToNat, renl, cll, rent, clt, ↓reduceIte, Nat.reduceLeDiff, Nat.reduceEqDiff, Nat.reduceLT, reduceCtorEq, List.append_nil, Nat.reduceAdd, Nat.reduceSub, Nat.reduceBEq, forall_const, implies_true, cond_true, cond_false, AV.ren, AC.ren, AV.cl, AC.cl, eq_self, List.all_cons, List.all_nil, AV.eqv, AC.eqv, eqvl, eqvt, Sl.eqv, List.map_append, List.length_map, List.length_append, List.length_replicate, List.length_set, List.map_replicate, nilVC, zr_25, sz_25, fs_25, fl_25_2, sz_23, sd_23, el_23, fl_60_2, sz_4, fl_25_1, sz_22, fl_60_0, sz_3, fl_60_1, sz_9, el_22, c_spec_CacheOk, c_spec_l30Copy, hD, hR, decide_eq_false hok]
    refine ⟨⟨ha, hb⟩, end_ret ?_⟩
    simp only [↓WP, ↓grdD, ↓grdT, ↓un_dead, ↓binVC, ↓buildVC, ↓sliceVC, WQ, WN, Int.reduceToNat, renl, cll, rent, clt, ↓reduceIte, Nat.reduceLeDiff, Nat.reduceEqDiff, Nat.reduceLT, reduceCtorEq, List.append_nil, Nat.reduceAdd, Nat.reduceSub, Nat.reduceBEq, forall_const, implies_true, cond_true, cond_false, AV.ren, AC.ren, AV.cl, AC.cl, eq_self, List.all_cons, List.all_nil, AV.eqv, AC.eqv, eqvl, eqvt, Sl.eqv, List.map_append, List.length_map, List.length_append, List.length_replicate, List.length_set, List.map_replicate, nilVC, zr_25, sz_25, fs_25, fl_25_2, sz_23, sd_23, el_23, fl_60_2, sz_4, fl_25_1, sz_22, fl_60_0, sz_3, fl_60_1, sz_9, el_22, c_spec_CacheOk, c_spec_l30Copy]
    refine ⟨(0, 0), [(9, 1), (60, 3)], [2, 3], ?_⟩
    simp [WL, WNL, swA_new, swA_ne, nest_sw_ne, mapLL, List.mem_cons, Nat.reduceAdd, Nat.reduceLT, Nat.reduceLeDiff, Nat.reduceEqDiff, okU, List.nodup_cons, List.not_mem_nil, toT, toL, toO, keysO, renl, rent, cll, clt, eq_self, AV.eqv, AC.eqv, eqvl, eqvt, Sl.eqv, rowsLe, mapLL, rowsCl, List.map_append, List.length_map, List.length_append, List.length_set, List.map_replicate, rowG, List.getElem?_cons_zero, List.getElem?_cons_succ, List.getElem?_nil, List.append_nil, List.nil_append, List.cons_append, ghosts, St.gh, Option.some.injEq, implies_true, setT, AV.ren, AC.ren, AV.cl, AC.cl, List.replicate_succ, List.replicate_zero, List.nodup_nil, List.length_nil, List.length_cons, List.getD_cons_zero, List.getD_cons_succ, ↓reduceIte, retP]
end Go.Eng.T
