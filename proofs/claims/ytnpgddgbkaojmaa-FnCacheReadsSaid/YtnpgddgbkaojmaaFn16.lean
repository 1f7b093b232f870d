/- cache: CacheGet as they are specified. -/
import Derived.Test.YtnpgddgbkaojmaaFn15
set_option linter.unusedVariables false
set_option linter.unusedSimpArgs false
set_option linter.unusedSectionVars false
namespace Go.Eng.T
open Go.Proofs
open Cel (enc dec)
set_option maxRecDepth 100000
set_option maxHeartbeats 8000000
def c_spec_CacheGet : Contract := ⟨26, fun args M => match args with
  | [.agg [.int .i64 cap, .sl a n ca, .sl b m cb, .int .i64 rd, .int .i64 pt], .c (.int .i64 v)] => .eff (RowOk ByteArray a n (M a.r) ∧ n ≤ ca ∧ RowOk TR b m (M b.r) ∧ m ≤ cb) (Nat × Nat) (fun p => (getO cap (row ByteArray a n (M a.r)) (row TR b m (M b.r)) rd pt v).1.2.1.length ≤ p.1 ∧ (getO cap (row ByteArray a n (M a.r)) (row TR b m (M b.r)) rd pt v).1.2.2.1.length ≤ p.2) (fun p => .tup [(true, [.int .i64 (getO cap (row ByteArray a n (M a.r)) (row TR b m (M b.r)) rd pt v).1.1, .sl ⟨.loc 0, 0, 0, 0⟩ (getO cap (row ByteArray a n (M a.r)) (row TR b m (M b.r)) rd pt v).1.2.1.length p.1, .sl ⟨.loc 1, 0, 0, 0⟩ (getO cap (row ByteArray a n (M a.r)) (row TR b m (M b.r)) rd pt v).1.2.2.1.length p.2, .int .i64 (getO cap (row ByteArray a n (M a.r)) (row TR b m (M b.r)) rd pt v).1.2.2.2.1, .int .i64 (getO cap (row ByteArray a n (M a.r)) (row TR b m (M b.r)) rd pt v).1.2.2.2.2]), (false, [.str (getO cap (row ByteArray a n (M a.r)) (row TR b m (M b.r)) rd pt v).2.2.1]), (false, [.bool (getO cap (row ByteArray a n (M a.r)) (row TR b m (M b.r)) rd pt v).2.2.2])]) (fun p => [rowG true 9 p.1 (getO cap (row ByteArray a n (M a.r)) (row TR b m (M b.r)) rd pt v).1.2.1, rowG true 60 p.2 (getO cap (row ByteArray a n (M a.r)) (row TR b m (M b.r)) rd pt v).1.2.2.1]) (fun _ => [])
  | _ => .bad⟩
theorem ok_spec_CacheGet : fnP Try.prog c_spec_CacheGet.f = true ∧ ∀ args M, (c_spec_CacheGet.sp args M).OK Try.prog c_spec_CacheGet.f args M := by
  refine ⟨fp_26, fun args M => ?_⟩
  unfold c_spec_CacheGet
  dsimp only
  split
  case h_2 => trivial
  rename_i cap a n ca b m cb rd pt v
  rintro ⟨ha, hc, hb, hd⟩
  obtain ⟨hs, D, hD, rfl, hat⟩ := ha.x
  obtain ⟨hs', R, hR, rfl, hbt⟩ := hb.x
  rw [hD, hR]
  refine goIn hf_26 rfl (nt := 45) rfl (rs := [.cell 4 25, .tmp 5, .tmp 6]) rfl (C := [c_spec_CacheOk, c_spec_l30May, c_spec_l30Copy, c_spec_l30Room]) ⟨(by first | exact .inl ok_spec_CacheOk | exact ok_spec_CacheOk), (by first | exact .inl ok_spec_l30May | exact ok_spec_l30May), (by first | exact .inl ok_spec_l30Copy | exact ok_spec_l30Copy), (by first | exact .inl ok_spec_l30Room | exact ok_spec_l30Room), trivial⟩ (q := fun f => [].contains f) ⟨fun h => absurd h (by decide), fun h => absurd h (by decide), fun h => absurd h (by decide), fun h => absurd h (by decide), trivial⟩ mixed (O := ots [(8, otl [0, 1] (.gob 2 (otl [] (.alt 3 (otl [4, 5, 6, 7, 8] .nil) (otl [4] (.alt 3 (otl [5, 6, 7, 8] .nil) (otl [5, 3, 6, 7, 8] .nil))))))), (9, otl [0, 1] (.alt 2 (otl [3, 4, 5] .nil) (otl [3, 2, 4, 5] .nil)))]) (by kernel_rfl) ?_
  by_cases hok : cacheOk cap D R rd pt
  · have hD20 : D.length = 20 := hok.1.2.1
    have hR6 : R.length ≤ 6 := by have := hok.1.2.2.1; have := hok.1.1; omega
    by_cases hmay : mayC rd pt v
    · have hm' : (0 ≤ v ∧ v ≤ 19) ∧ rd < 1000000 ∧ pt < 1000000 := hmay
      have hO : getO cap D R rd pt v = (ask cap D R rd pt v true, 0, (room cap D R pt v).2.2.2.1.2.1, true) := by rw [getO, if_pos hok, if_pos hmay]
      rw [hO]
      have hwrd : IntKind.i64.wrap (rd + 1) = rd + 1 := w64 (by have := hok.1.2.2.2.1; omega) (by omega)
      have hab : ∀ x y : Nat, x ≠ y → RId.loc x ≠ RId.loc y := fun x y h e => h (by cases e; rfl)
      have hn23 : RId.loc 2 ≠ RId.loc 3 := hab 2 3 (by omega)
      by_cases hcase : 0 ≤ atR R v ∨ cap ≤ (R.length : Int)
      · have hrl := room_len cap D R pt v
        obtain ⟨⟨E, Y, pt', r, was⟩, hRm⟩ : ∃ z, z = room cap D R pt v := ⟨_, rfl⟩
        rw [show ask cap D R rd pt v true = (cap, E, Y ++ [r], if was = false then rd + 1 else rd, pt') by rw [ask, ← hRm]; simp]
        rw [← hRm] at hrl ⊢
        dsimp only at hrl ⊢
        have hput : putAt (List.map enc Y) Y.length [[AC.int .i64 r.1, AC.str r.2.1, AC.bool r.2.2]] = List.map enc Y ++ [[AC.int .i64 r.1, AC.str r.2.1, AC.bool r.2.2]] := putAt_end (by rw [List.length_map])
        cases was <;> simp only [↓WP, ↓grdD, ↓grdT, ↓un_dead, ↓binVC, ↓buildVC, ↓sliceVC, WQ, WN, Int.reduceToNat, renl, cll, rent, clt, ↓reduceIte, Nat.reduceLeDiff, Nat.reduceEqDiff, Nat.reduceLT, reduceCtorEq, List.append_nil, Nat.reduceAdd, Nat.reduceSub, Nat.reduceBEq, forall_const, implies_true, cond_true, cond_false, AV.ren, AC.ren, AV.cl, AC.cl, eq_self, List.all_cons, List.all_nil, AV.eqv, AC.eqv, eqvl, eqvt, Sl.eqv, List.map_append, List.length_map, List.length_append, List.length_replicate, List.length_set, List.map_replicate, nilVC, zr_25, sz_25, fs_25, zr_60, sz_60, fl_25_3, sz_3, el_23, fl_25_2, sz_23, fl_60_1, sz_9, c_spec_CacheOk, c_spec_l30May, c_spec_l30Copy, c_spec_l30Room, roomSpec_def, spec_and_ite, hD, hR, decide_eq_true hok, decide_eq_true hm', if_pos hcase, ← hRm, hwrd, hput]
        repeat' (first | with_reducible refine And.intro ?_ ?_ | intro _)
        all_goals try omega
        all_goals try assumption
        all_goals try exact hm'.1.1
        all_goals try exact hn23
        all_goals try exact absurd ‹RId.loc 2 = RId.loc 3› hn23
        all_goals try rfl
        all_goals try exact .inl trivial
        all_goals try exact .inr trivial
        all_goals first
        | (rename_i p hp k0 hk0 _ _ c0 hc0 _ _ c hc _
           refine end_ret ?_
           simp only [↓WP, ↓grdD, ↓grdT, ↓un_dead, ↓binVC, ↓buildVC, ↓sliceVC, WQ, WN, Int.reduceToNat, renl, cll, rent, clt, ↓reduceIte, Nat.reduceLeDiff, Nat.reduceEqDiff, Nat.reduceLT, reduceCtorEq, List.append_nil, Nat.reduceAdd, Nat.reduceSub, Nat.reduceBEq, forall_const, implies_true, cond_true, cond_false, AV.ren, AC.ren, AV.cl, AC.cl, eq_self, List.all_cons, List.all_nil, AV.eqv, AC.eqv, eqvl, eqvt, Sl.eqv, List.map_append, List.length_map, List.length_append, List.length_replicate, List.length_set, List.map_replicate, nilVC, zr_25, sz_25, fs_25, zr_60, sz_60, fl_25_3, sz_3, el_23, fl_25_2, sz_23, fl_60_1, sz_9, c_spec_CacheOk, c_spec_l30May, c_spec_l30Copy, c_spec_l30Room]
           refine ⟨(p.1, c), [], [2, 9], ?_⟩
           simp only [WL, WNL, swA_new, swA_ne, nest_sw_ne, mapLL, List.mem_cons, Nat.reduceAdd, Nat.reduceLT, Nat.reduceLeDiff, Nat.reduceEqDiff, okU, List.nodup_cons, List.not_mem_nil, toT, toL, toO, keysO, renl, rent, cll, clt, eq_self, AV.eqv, AC.eqv, eqvl, eqvt, Sl.eqv, rowsLe, mapLL, rowsCl, List.map_append, List.length_map, List.length_append, List.length_set, List.map_replicate, rowG, List.getElem?_cons_zero, List.getElem?_cons_succ, List.getElem?_nil, List.append_nil, List.nil_append, List.cons_append, ghosts, St.gh, Option.some.injEq, implies_true, setT, AV.ren, AC.ren, AV.cl, AC.cl, List.replicate_succ, List.replicate_zero, List.nodup_nil, List.length_nil, List.length_cons, List.getD_cons_zero, List.getD_cons_succ, ↓reduceIte, retP]
           try simp
           try omega
           done)
        | (rename_i p hp k0 hk0 _ _ c hc0 _ hc
           refine end_ret ?_
           simp only [↓WP, ↓grdD, ↓grdT, ↓un_dead, ↓binVC, ↓buildVC, ↓sliceVC, WQ, WN, Int.reduceToNat, renl, cll, rent, clt, ↓reduceIte, Nat.reduceLeDiff, Nat.reduceEqDiff, Nat.reduceLT, reduceCtorEq, List.append_nil, Nat.reduceAdd, Nat.reduceSub, Nat.reduceBEq, forall_const, implies_true, cond_true, cond_false, AV.ren, AC.ren, AV.cl, AC.cl, eq_self, List.all_cons, List.all_nil, AV.eqv, AC.eqv, eqvl, eqvt, Sl.eqv, List.map_append, List.length_map, List.length_append, List.length_replicate, List.length_set, List.map_replicate, nilVC, zr_25, sz_25, fs_25, zr_60, sz_60, fl_25_3, sz_3, el_23, fl_25_2, sz_23, fl_60_1, sz_9, c_spec_CacheOk, c_spec_l30May, c_spec_l30Copy, c_spec_l30Room]
           refine ⟨(p.1, c), [], [2, 7], ?_⟩
           simp only [WL, WNL, swA_new, swA_ne, nest_sw_ne, mapLL, List.mem_cons, Nat.reduceAdd, Nat.reduceLT, Nat.reduceLeDiff, Nat.reduceEqDiff, okU, List.nodup_cons, List.not_mem_nil, toT, toL, toO, keysO, renl, rent, cll, clt, eq_self, AV.eqv, AC.eqv, eqvl, eqvt, Sl.eqv, rowsLe, mapLL, rowsCl, List.map_append, List.length_map, List.length_append, List.length_set, List.map_replicate, rowG, List.getElem?_cons_zero, List.getElem?_cons_succ, List.getElem?_nil, List.append_nil, List.nil_append, List.cons_append, ghosts, St.gh, Option.some.injEq, implies_true, setT, AV.ren, AC.ren, AV.cl, AC.cl, List.replicate_succ, List.replicate_zero, List.nodup_nil, List.length_nil, List.length_cons, List.getD_cons_zero, List.getD_cons_succ, ↓reduceIte, retP]
           try simp
           try omega
           done)
        | (rename_i p hp k0 hk0 _ _ c hc0 _ hc
           refine end_ret ?_
           simp only [↓WP, ↓grdD, ↓grdT, ↓un_dead, ↓binVC, ↓buildVC, ↓sliceVC, WQ, WN, Int.reduceToNat, renl, cll, rent, clt, ↓reduceIte, Nat.reduceLeDiff, Nat.reduceEqDiff, Nat.reduceLT, reduceCtorEq, List.append_nil, Nat.reduceAdd, Nat.reduceSub, Nat.reduceBEq, forall_const, implies_true, cond_true, cond_false, AV.ren, AC.ren, AV.cl, AC.cl, eq_self, List.all_cons, List.all_nil, AV.eqv, AC.eqv, eqvl, eqvt, Sl.eqv, List.map_append, List.length_map, List.length_append, List.length_replicate, List.length_set, List.map_replicate, nilVC, zr_25, sz_25, fs_25, zr_60, sz_60, fl_25_3, sz_3, el_23, fl_25_2, sz_23, fl_60_1, sz_9, c_spec_CacheOk, c_spec_l30May, c_spec_l30Copy, c_spec_l30Room]
           refine ⟨(p.1, c), [], [2, 8], ?_⟩
           simp only [WL, WNL, swA_new, swA_ne, nest_sw_ne, mapLL, List.mem_cons, Nat.reduceAdd, Nat.reduceLT, Nat.reduceLeDiff, Nat.reduceEqDiff, okU, List.nodup_cons, List.not_mem_nil, toT, toL, toO, keysO, renl, rent, cll, clt, eq_self, AV.eqv, AC.eqv, eqvl, eqvt, Sl.eqv, rowsLe, mapLL, rowsCl, List.map_append, List.length_map, List.length_append, List.length_set, List.map_replicate, rowG, List.getElem?_cons_zero, List.getElem?_cons_succ, List.getElem?_nil, List.append_nil, List.nil_append, List.cons_append, ghosts, St.gh, Option.some.injEq, implies_true, setT, AV.ren, AC.ren, AV.cl, AC.cl, List.replicate_succ, List.replicate_zero, List.nodup_nil, List.length_nil, List.length_cons, List.getD_cons_zero, List.getD_cons_succ, ↓reduceIte, retP]
           try simp
           try omega
           done)
        | (rename_i p hp k0 hk0 _ c hc _
           have e : Y = [] := List.eq_nil_of_length_eq_zero (by assumption)
           refine end_ret ?_
           simp only [↓WP, ↓grdD, ↓grdT, ↓un_dead, ↓binVC, ↓buildVC, ↓sliceVC, WQ, WN, Int.reduceToNat, renl, cll, rent, clt, ↓reduceIte, Nat.reduceLeDiff, Nat.reduceEqDiff, Nat.reduceLT, reduceCtorEq, List.append_nil, Nat.reduceAdd, Nat.reduceSub, Nat.reduceBEq, forall_const, implies_true, cond_true, cond_false, AV.ren, AC.ren, AV.cl, AC.cl, eq_self, List.all_cons, List.all_nil, AV.eqv, AC.eqv, eqvl, eqvt, Sl.eqv, List.map_append, List.length_map, List.length_append, List.length_replicate, List.length_set, List.map_replicate, nilVC, zr_25, sz_25, fs_25, zr_60, sz_60, fl_25_3, sz_3, el_23, fl_25_2, sz_23, fl_60_1, sz_9, c_spec_CacheOk, c_spec_l30May, c_spec_l30Copy, c_spec_l30Room]
           refine ⟨(p.1, c), [], [2, 8], ?_⟩
           simp only [WL, WNL, swA_new, swA_ne, nest_sw_ne, mapLL, List.mem_cons, Nat.reduceAdd, Nat.reduceLT, Nat.reduceLeDiff, Nat.reduceEqDiff, okU, List.nodup_cons, List.not_mem_nil, toT, toL, toO, keysO, renl, rent, cll, clt, eq_self, AV.eqv, AC.eqv, eqvl, eqvt, Sl.eqv, rowsLe, mapLL, rowsCl, List.map_append, List.length_map, List.length_append, List.length_set, List.map_replicate, rowG, List.getElem?_cons_zero, List.getElem?_cons_succ, List.getElem?_nil, List.append_nil, List.nil_append, List.cons_append, ghosts, St.gh, Option.some.injEq, implies_true, setT, AV.ren, AC.ren, AV.cl, AC.cl, List.replicate_succ, List.replicate_zero, List.nodup_nil, List.length_nil, List.length_cons, List.getD_cons_zero, List.getD_cons_succ, ↓reduceIte, retP, e]
           try simp
           try omega
           done)

      · have hRm := room_stay (D := D) (pt := pt) hcase
        rw [show ask cap D R rd pt v true = (cap, D, R ++ [(v, D.getD v.toNat default, false)], rd + 1, pt) by rw [ask, hRm]; simp]
        rw [hRm]
        dsimp only
        have hput : putAt (List.map enc R) R.length [[AC.int .i64 v, AC.str (D.getD v.toNat default), AC.bool false]] = List.map enc R ++ [[AC.int .i64 v, AC.str (D.getD v.toNat default), AC.bool false]] := putAt_end (by rw [List.length_map])
        simp only [↓WP, ↓grdD, ↓grdT, ↓un_dead, ↓binVC, ↓buildVC, ↓sliceVC, WQ, WN, Int.reduceToNat, renl, cll, rent, clt, ↓reduceIte, Nat.reduceLeDiff, Nat.reduceEqDiff, Nat.reduceLT, reduceCtorEq, List.append_nil, Nat.reduceAdd, Nat.reduceSub, Nat.reduceBEq, forall_const, implies_true, cond_true, cond_false, AV.ren, AC.ren, AV.cl, AC.cl, eq_self, List.all_cons, List.all_nil, AV.eqv, AC.eqv, eqvl, eqvt, Sl.eqv, List.map_append, List.length_map, List.length_append, List.length_replicate, List.length_set, List.map_replicate, nilVC, zr_25, sz_25, fs_25, zr_60, sz_60, fl_25_3, sz_3, el_23, fl_25_2, sz_23, fl_60_1, sz_9, c_spec_CacheOk, c_spec_l30May, c_spec_l30Copy, c_spec_l30Room, roomSpec_def, spec_and_ite, hD, hR, decide_eq_true hok, decide_eq_true hm', if_neg hcase, hwrd, hput]
        repeat' (first | with_reducible refine And.intro ?_ ?_ | intro _)
        all_goals try omega
        all_goals try assumption
        all_goals try exact hm'.1.1
        all_goals try exact hn23
        all_goals try exact absurd ‹RId.loc 2 = RId.loc 3› hn23
        all_goals try rfl
        all_goals try exact .inl trivial
        all_goals try exact .inr trivial
        all_goals first
        | (rename_i p hp _ _ c0 hc0 _ _ c hc _
           refine end_ret ?_
           simp only [↓WP, ↓grdD, ↓grdT, ↓un_dead, ↓binVC, ↓buildVC, ↓sliceVC, WQ, WN, Int.reduceToNat, renl, cll, rent, clt, ↓reduceIte, Nat.reduceLeDiff, Nat.reduceEqDiff, Nat.reduceLT, reduceCtorEq, List.append_nil, Nat.reduceAdd, Nat.reduceSub, Nat.reduceBEq, forall_const, implies_true, cond_true, cond_false, AV.ren, AC.ren, AV.cl, AC.cl, eq_self, List.all_cons, List.all_nil, AV.eqv, AC.eqv, eqvl, eqvt, Sl.eqv, List.map_append, List.length_map, List.length_append, List.length_replicate, List.length_set, List.map_replicate, nilVC, zr_25, sz_25, fs_25, zr_60, sz_60, fl_25_3, sz_3, el_23, fl_25_2, sz_23, fl_60_1, sz_9, c_spec_CacheOk, c_spec_l30May, c_spec_l30Copy, c_spec_l30Room]
           refine ⟨(p.1, c), [], [2, 8], ?_⟩
           simp only [WL, WNL, swA_new, swA_ne, nest_sw_ne, mapLL, List.mem_cons, Nat.reduceAdd, Nat.reduceLT, Nat.reduceLeDiff, Nat.reduceEqDiff, okU, List.nodup_cons, List.not_mem_nil, toT, toL, toO, keysO, renl, rent, cll, clt, eq_self, AV.eqv, AC.eqv, eqvl, eqvt, Sl.eqv, rowsLe, mapLL, rowsCl, List.map_append, List.length_map, List.length_append, List.length_set, List.map_replicate, rowG, List.getElem?_cons_zero, List.getElem?_cons_succ, List.getElem?_nil, List.append_nil, List.nil_append, List.cons_append, ghosts, St.gh, Option.some.injEq, implies_true, setT, AV.ren, AC.ren, AV.cl, AC.cl, List.replicate_succ, List.replicate_zero, List.nodup_nil, List.length_nil, List.length_cons, List.getD_cons_zero, List.getD_cons_succ, ↓reduceIte, retP]
           try simp
           try omega
           done)
        | (rename_i p hp _ _ c hc0 _ hc
           refine end_ret ?_
           simp only [↓WP, ↓grdD, ↓grdT, ↓un_dead, ↓binVC, ↓buildVC, ↓sliceVC, WQ, WN, Int.reduceToNat, renl, cll, rent, clt, ↓reduceIte, Nat.reduceLeDiff, Nat.reduceEqDiff, Nat.reduceLT, reduceCtorEq, List.append_nil, Nat.reduceAdd, Nat.reduceSub, Nat.reduceBEq, forall_const, implies_true, cond_true, cond_false, AV.ren, AC.ren, AV.cl, AC.cl, eq_self, List.all_cons, List.all_nil, AV.eqv, AC.eqv, eqvl, eqvt, Sl.eqv, List.map_append, List.length_map, List.length_append, List.length_replicate, List.length_set, List.map_replicate, nilVC, zr_25, sz_25, fs_25, zr_60, sz_60, fl_25_3, sz_3, el_23, fl_25_2, sz_23, fl_60_1, sz_9, c_spec_CacheOk, c_spec_l30May, c_spec_l30Copy, c_spec_l30Room]
           refine ⟨(p.1, c), [], [2, 6], ?_⟩
           simp only [WL, WNL, swA_new, swA_ne, nest_sw_ne, mapLL, List.mem_cons, Nat.reduceAdd, Nat.reduceLT, Nat.reduceLeDiff, Nat.reduceEqDiff, okU, List.nodup_cons, List.not_mem_nil, toT, toL, toO, keysO, renl, rent, cll, clt, eq_self, AV.eqv, AC.eqv, eqvl, eqvt, Sl.eqv, rowsLe, mapLL, rowsCl, List.map_append, List.length_map, List.length_append, List.length_set, List.map_replicate, rowG, List.getElem?_cons_zero, List.getElem?_cons_succ, List.getElem?_nil, List.append_nil, List.nil_append, List.cons_append, ghosts, St.gh, Option.some.injEq, implies_true, setT, AV.ren, AC.ren, AV.cl, AC.cl, List.replicate_succ, List.replicate_zero, List.nodup_nil, List.length_nil, List.length_cons, List.getD_cons_zero, List.getD_cons_succ, ↓reduceIte, retP]
           try simp
           try omega
           done)
        | (rename_i p hp _ _ c hc0 _ hc
           refine end_ret ?_
           simp only [↓WP, ↓grdD, ↓grdT, ↓un_dead, ↓binVC, ↓buildVC, ↓sliceVC, WQ, WN, Int.reduceToNat, renl, cll, rent, clt, ↓reduceIte, Nat.reduceLeDiff, Nat.reduceEqDiff, Nat.reduceLT, reduceCtorEq, List.append_nil, Nat.reduceAdd, Nat.reduceSub, Nat.reduceBEq, forall_const, implies_true, cond_true, cond_false, AV.ren, AC.ren, AV.cl, AC.cl, eq_self, List.all_cons, List.all_nil, AV.eqv, AC.eqv, eqvl, eqvt, Sl.eqv, List.map_append, List.length_map, List.length_append, List.length_replicate, List.length_set, List.map_replicate, nilVC, zr_25, sz_25, fs_25, zr_60, sz_60, fl_25_3, sz_3, el_23, fl_25_2, sz_23, fl_60_1, sz_9, c_spec_CacheOk, c_spec_l30May, c_spec_l30Copy, c_spec_l30Room]
           refine ⟨(p.1, c), [], [2, 7], ?_⟩
           simp only [WL, WNL, swA_new, swA_ne, nest_sw_ne, mapLL, List.mem_cons, Nat.reduceAdd, Nat.reduceLT, Nat.reduceLeDiff, Nat.reduceEqDiff, okU, List.nodup_cons, List.not_mem_nil, toT, toL, toO, keysO, renl, rent, cll, clt, eq_self, AV.eqv, AC.eqv, eqvl, eqvt, Sl.eqv, rowsLe, mapLL, rowsCl, List.map_append, List.length_map, List.length_append, List.length_set, List.map_replicate, rowG, List.getElem?_cons_zero, List.getElem?_cons_succ, List.getElem?_nil, List.append_nil, List.nil_append, List.cons_append, ghosts, St.gh, Option.some.injEq, implies_true, setT, AV.ren, AC.ren, AV.cl, AC.cl, List.replicate_succ, List.replicate_zero, List.nodup_nil, List.length_nil, List.length_cons, List.getD_cons_zero, List.getD_cons_succ, ↓reduceIte, retP]
           try simp
           try omega
           done)
        | (rename_i p hp _ c hc _
           have e : R = [] := List.eq_nil_of_length_eq_zero (by assumption)
           refine end_ret ?_
           simp only [↓WP, ↓grdD, ↓grdT, ↓un_dead, ↓binVC, ↓buildVC, ↓sliceVC, WQ, WN, Int.reduceToNat, renl, cll, rent, clt, ↓reduceIte, Nat.reduceLeDiff, Nat.reduceEqDiff, Nat.reduceLT, reduceCtorEq, List.append_nil, Nat.reduceAdd, Nat.reduceSub, Nat.reduceBEq, forall_const, implies_true, cond_true, cond_false, AV.ren, AC.ren, AV.cl, AC.cl, eq_self, List.all_cons, List.all_nil, AV.eqv, AC.eqv, eqvl, eqvt, Sl.eqv, List.map_append, List.length_map, List.length_append, List.length_replicate, List.length_set, List.map_replicate, nilVC, zr_25, sz_25, fs_25, zr_60, sz_60, fl_25_3, sz_3, el_23, fl_25_2, sz_23, fl_60_1, sz_9, c_spec_CacheOk, c_spec_l30May, c_spec_l30Copy, c_spec_l30Room]
           refine ⟨(p.1, c), [], [2, 7], ?_⟩
           simp only [WL, WNL, swA_new, swA_ne, nest_sw_ne, mapLL, List.mem_cons, Nat.reduceAdd, Nat.reduceLT, Nat.reduceLeDiff, Nat.reduceEqDiff, okU, List.nodup_cons, List.not_mem_nil, toT, toL, toO, keysO, renl, rent, cll, clt, eq_self, AV.eqv, AC.eqv, eqvl, eqvt, Sl.eqv, rowsLe, mapLL, rowsCl, List.map_append, List.length_map, List.length_append, List.length_set, List.map_replicate, rowG, List.getElem?_cons_zero, List.getElem?_cons_succ, List.getElem?_nil, List.append_nil, List.nil_append, List.cons_append, ghosts, St.gh, Option.some.injEq, implies_true, setT, AV.ren, AC.ren, AV.cl, AC.cl, List.replicate_succ, List.replicate_zero, List.nodup_nil, List.length_nil, List.length_cons, List.getD_cons_zero, List.getD_cons_succ, ↓reduceIte, retP, e]
           try simp
           try omega
           done)

    · have hm' : ¬ ((0 ≤ v ∧ v ≤ 19) ∧ rd < 1000000 ∧ pt < 1000000) := hmay
      have hO : getO cap D R rd pt v = ((cap, D, R, rd, pt), 0, ByteArray.empty, false) := by rw [getO, if_pos hok, if_neg hmay]
      rw [hO]
      simp only [↓WP, ↓grdD, ↓grdT, ↓un_dead, ↓binVC, ↓buildVC, ↓sliceVC, WQ, WN, Int.reduceToNat, renl, cll, rent, clt, ↓reduceIte, Nat.reduceLeDiff, Nat.reduceEqDiff, Nat.reduceLT, reduceCtorEq, List.append_nil, Nat.reduceAdd, Nat.reduceSub, Nat.reduceBEq, forall_const, implies_true, cond_true, cond_false, AV.ren, AC.ren, AV.cl, AC.cl, eq_self, List.all_cons, List.all_nil, AV.eqv, AC.eqv, eqvl, eqvt, Sl.eqv, List.map_append, List.length_map, List.length_append, List.length_replicate, List.length_set, List.map_replicate, nilVC, zr_25, sz_25, fs_25, zr_60, sz_60, fl_25_3, sz_3, el_23, fl_25_2, sz_23, fl_60_1, sz_9, c_spec_CacheOk, c_spec_l30May, c_spec_l30Copy, c_spec_l30Room, hD, hR, decide_eq_true hok, decide_eq_false hm']
      repeat' (first | with_reducible refine And.intro ?_ ?_ | intro _)
      all_goals try omega
      all_goals try assumption
      rename_i p hp
      obtain ⟨k1, k2⟩ := p
      refine end_ret ?_
      simp only [↓WP, ↓grdD, ↓grdT, ↓un_dead, ↓binVC, ↓buildVC, ↓sliceVC, WQ, WN, Int.reduceToNat, renl, cll, rent, clt, ↓reduceIte, Nat.reduceLeDiff, Nat.reduceEqDiff, Nat.reduceLT, reduceCtorEq, List.append_nil, Nat.reduceAdd, Nat.reduceSub, Nat.reduceBEq, forall_const, implies_true, cond_true, cond_false, AV.ren, AC.ren, AV.cl, AC.cl, eq_self, List.all_cons, List.all_nil, AV.eqv, AC.eqv, eqvl, eqvt, Sl.eqv, List.map_append, List.length_map, List.length_append, List.length_replicate, List.length_set, List.map_replicate, nilVC, zr_25, sz_25, fs_25, zr_60, sz_60, fl_25_3, sz_3, el_23, fl_25_2, sz_23, fl_60_1, sz_9, c_spec_CacheOk, c_spec_l30May, c_spec_l30Copy, c_spec_l30Room]
      refine ⟨(k1, k2), [], [2, 3], ?_⟩
      simp only [WL, WNL, swA_new, swA_ne, nest_sw_ne, mapLL, List.mem_cons, Nat.reduceAdd, Nat.reduceLT, Nat.reduceLeDiff, Nat.reduceEqDiff, okU, List.nodup_cons, List.not_mem_nil, toT, toL, toO, keysO, renl, rent, cll, clt, eq_self, AV.eqv, AC.eqv, eqvl, eqvt, Sl.eqv, rowsLe, mapLL, rowsCl, List.map_append, List.length_map, List.length_append, List.length_set, List.map_replicate, rowG, List.getElem?_cons_zero, List.getElem?_cons_succ, List.getElem?_nil, List.append_nil, List.nil_append, List.cons_append, ghosts, St.gh, Option.some.injEq, implies_true, setT, AV.ren, AC.ren, AV.cl, AC.cl, List.replicate_succ, List.replicate_zero, List.nodup_nil, List.length_nil, List.length_cons, List.getD_cons_zero, List.getD_cons_succ, ↓reduceIte, retP]
      simp at hp ⊢
      first | exact hp | exact ⟨hp, rfl⟩
  · have hO : getO cap D R rd pt v = ((0, [], [], 0, 0), 0, ByteArray.empty, false) := if_neg hok
    rw [hO]
    simp only [↓WP, ↓grdD, ↓grdT, ↓un_dead, ↓binVC, ↓buildVC, ↓sliceVC, WQ, WN, Int.reduceToNat, renl, cll, rent, clt, ↓reduceIte, Nat.reduceLeDiff, Nat.reduceEqDiff, Nat.reduceLT, reduceCtorEq, List.append_nil, Nat.reduceAdd, Nat.reduceSub, Nat.reduceBEq, forall_const, implies_true, cond_true, cond_false, AV.ren, AC.ren, AV.cl, AC.cl, eq_self, List.all_cons, List.all_nil, AV.eqv, AC.eqv, eqvl, eqvt, Sl.eqv, List.map_append, List.length_map, List.length_append, List.length_replicate, List.length_set, List.map_replicate, nilVC, zr_25, sz_25, fs_25, zr_60, sz_60, fl_25_3, sz_3, el_23, fl_25_2, sz_23, fl_60_1, sz_9, c_spec_CacheOk, c_spec_l30May, c_spec_l30Copy, c_spec_l30Room, hD, hR, decide_eq_false hok]
    refine ⟨⟨ha, hb⟩, end_ret ?_⟩
    simp only [↓WP, ↓grdD, ↓grdT, ↓un_dead, ↓binVC, ↓buildVC, ↓sliceVC, WQ, WN, Int.reduceToNat, renl, cll, rent, clt, ↓reduceIte, Nat.reduceLeDiff, Nat.reduceEqDiff, Nat.reduceLT, reduceCtorEq, List.append_nil, Nat.reduceAdd, Nat.reduceSub, Nat.reduceBEq, forall_const, implies_true, cond_true, cond_false, AV.ren, AC.ren, AV.cl, AC.cl, eq_self, List.all_cons, List.all_nil, AV.eqv, AC.eqv, eqvl, eqvt, Sl.eqv, List.map_append, List.length_map, List.length_append, List.length_replicate, List.length_set, List.map_replicate, nilVC, zr_25, sz_25, fs_25, zr_60, sz_60, fl_25_3, sz_3, el_23, fl_25_2, sz_23, fl_60_1, sz_9, c_spec_CacheOk, c_spec_l30May, c_spec_l30Copy, c_spec_l30Room]
    refine ⟨(0, 0), [(9, 1), (60, 3)], [2, 3], ?_⟩
    simp [WL, WNL, swA_new, swA_ne, nest_sw_ne, mapLL, List.mem_cons, Nat.reduceAdd, Nat.reduceLT, Nat.reduceLeDiff, Nat.reduceEqDiff, okU, List.nodup_cons, List.not_mem_nil, toT, toL, toO, keysO, renl, rent, cll, clt, eq_self, AV.eqv, AC.eqv, eqvl, eqvt, Sl.eqv, rowsLe, mapLL, rowsCl, List.map_append, List.length_map, List.length_append, List.length_set, List.map_replicate, rowG, List.getElem?_cons_zero, List.getElem?_cons_succ, List.getElem?_nil, List.append_nil, List.nil_append, List.cons_append, ghosts, St.gh, Option.some.injEq, implies_true, setT, AV.ren, AC.ren, AV.cl, AC.cl, List.replicate_succ, List.replicate_zero, List.nodup_nil, List.length_nil, List.length_cons, List.getD_cons_zero, List.getD_cons_succ, ↓reduceIte, retP]
    try rfl
end Go.Eng.T
