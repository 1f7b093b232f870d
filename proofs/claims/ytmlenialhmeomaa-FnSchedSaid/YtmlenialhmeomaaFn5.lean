/- sched: SchedNext of the program. -/
import Derived.Test.YtmlenialhmeomaaFn4
set_option linter.unusedVariables false
set_option linter.unusedSimpArgs false
set_option linter.unusedSectionVars false
namespace Go.Eng.T
open Go.Proofs
open Cel (enc dec)
set_option maxRecDepth 100000
set_option maxHeartbeats 4000000

theorem bestOf_le (X : List T3) (i : Nat) (h : 0 < X.length) (hi : i ≤ X.length) : bestOf X i < X.length := by
  rcases Nat.eq_zero_or_pos i with rfl | h0
  · exact h
  · have := bestOf_lt X i h0; omega
def c_impl_SchedNext : Contract := ⟨17, fun args M => match args with
  | [.agg [.sl a n c, .int .i64 t]] => .eff (RowOk T3 a n (M a.r) ∧ n ≤ c) Nat (fun k => (nextOf (row T3 a n (M a.r)) t).1.length ≤ k) (fun k => .tup [(true, [.sl ⟨.loc 0, 0, 0, 0⟩ (nextOf (row T3 a n (M a.r)) t).1.length k, .int .i64 (nextOf (row T3 a n (M a.r)) t).2.1]), (false, [.int .i64 (nextOf (row T3 a n (M a.r)) t).2.2])]) (fun k => [rowG true 53 k (nextOf (row T3 a n (M a.r)) t).1]) (fun _ => [])
  | _ => .bad⟩
theorem ok_impl_SchedNext : fnP Try.prog c_impl_SchedNext.f = true ∧ ∀ args M, (c_impl_SchedNext.sp args M).OK Try.prog c_impl_SchedNext.f args M := by
  refine ⟨fp_17, fun args M => ?_⟩
  unfold c_impl_SchedNext
  dsimp only
  split
  case h_2 => trivial
  rename_i a n c t
  rintro ⟨hrow, hc⟩
  obtain ⟨hs, X, hX, rfl, hat⟩ := hrow.x
  rw [hX]
  refine goIn hf_17 rfl (nt := 90) rfl (rs := [.cell 2 29, .tmp 3]) rfl (C := [c_impl_SchedOk, c_impl_cloneSched]) ⟨(by first | exact .inl ok_impl_SchedOk | exact ok_impl_SchedOk), (by first | exact .inl ok_impl_cloneSched | exact ok_impl_cloneSched), trivial⟩ (q := fun f => [].contains f) ⟨fun h => absurd h (by decide), fun h => absurd h (by decide), trivial⟩ mixed (O := ots [(10, otl [0, 1, 2, 3, 4, 5, 6, 7, 8, 9, 10, 11, 12, 13, 14, 15, 16, 17, 18] .nil), (16, otl [0, 1, 2, 3, 4, 5, 6, 7, 8, 9, 10, 11, 12, 13] .nil), (20, otl [0, 1, 3] (.alt 2 (otl [] (.alt 4 (otl [5] (.alt 6 (otl [7, 8] .nil) (otl [7, 6, 8] .nil))) (otl [7, 4, 5, 6, 8] .nil))) (otl [7, 2, 4, 5, 6, 8] .nil)))]) (by kernel_rfl) ?_
  by_cases hok : schedOk X t
  · by_cases h2 : X.length = 0 ∨ 1000000 ≤ t
    · have hn : nextOf X t = (X, t, 0) := by rw [nextOf, if_pos hok, if_pos h2]
      have ht0 := hok.2.1
      have hcond : (decide ((X.length : Int) = 0) || decide (t = 1000000)) = true := by simp only [Bool.or_eq_true, decide_eq_true_eq]; omega
      rw [hn]
      simp only [↓WP, ↓grdD, ↓grdT, ↓un_dead, ↓binVC, ↓buildVC, ↓sliceVC, WQ, WN, Int.reduceToNat, renl, cll, rent, clt, ↓reduceIte, Nat.reduceLeDiff, Nat.reduceEqDiff, Nat.reduceLT, reduceCtorEq, List.append_nil, Nat.reduceAdd, Nat.reduceSub, Nat.reduceBEq, forall_const, implies_true, cond_true, cond_false, AV.ren, AC.ren, AV.cl, AC.cl, eq_self, List.all_cons, List.all_nil, AV.eqv, AC.eqv, eqvl, eqvt, Sl.eqv, List.map_append, List.length_map, List.length_append, List.length_replicate, List.length_set, List.map_replicate, nilVC, zr_29, sz_29, fs_29, fl_29_0, sz_27, sd_27, fl_29_1, sz_3, el_27, sz_53, zr_53, fl_53_1, fl_53_2, fl_53_0, c_impl_SchedOk, c_impl_cloneSched, hX, decide_eq_true hok, hcond]
      refine ⟨hrow, ⟨hrow, hc⟩, fun k hk => end_ret ?_⟩
      simp only [↓WP, ↓grdD, ↓grdT, ↓un_dead, ↓binVC, ↓buildVC, ↓sliceVC, WQ, WN, Int.reduceToNat, renl, cll, rent, clt, ↓reduceIte, Nat.reduceLeDiff, Nat.reduceEqDiff, Nat.reduceLT, reduceCtorEq, List.append_nil, Nat.reduceAdd, Nat.reduceSub, Nat.reduceBEq, forall_const, implies_true, cond_true, cond_false, AV.ren, AC.ren, AV.cl, AC.cl, eq_self, List.all_cons, List.all_nil, AV.eqv, AC.eqv, eqvl, eqvt, Sl.eqv, List.map_append, List.length_map, List.length_append, List.length_replicate, List.length_set, List.map_replicate, nilVC, zr_29, sz_29, fs_29, fl_29_0, sz_27, sd_27, fl_29_1, sz_3, el_27, sz_53, zr_53, fl_53_1, fl_53_2, fl_53_0, c_impl_SchedOk, c_impl_cloneSched]
      refine ⟨k, [], [2], ?_⟩
      simp only [WL, WNL, swA_new, swA_ne, nest_sw_ne, mapLL, List.mem_cons, Nat.reduceAdd, Nat.reduceLT, Nat.reduceLeDiff, Nat.reduceEqDiff, okU, List.nodup_cons, List.not_mem_nil, toT, toL, toO, keysO, renl, rent, cll, clt, eq_self, AV.eqv, AC.eqv, eqvl, eqvt, Sl.eqv, rowsLe, mapLL, rowsCl, List.map_append, List.length_map, List.length_append, List.length_set, List.map_replicate, rowG, List.getElem?_cons_zero, List.getElem?_cons_succ, List.getElem?_nil, List.append_nil, List.nil_append, List.cons_append, ghosts, St.gh, Option.some.injEq, implies_true, setT, AV.ren, AC.ren, AV.cl, AC.cl, List.replicate_succ, List.replicate_zero, List.nodup_nil, List.length_nil, List.length_cons, List.getD_cons_zero, List.getD_cons_succ, ↓reduceIte, retP]
      simp [hk]
    · have hn : nextOf X t = (nextL X (bestOf X X.length), t + 1, (X.getD (bestOf X X.length) default).1) := by rw [nextOf, if_pos hok, if_neg h2]
      have hcond : (decide ((X.length : Int) = 0) || decide (t = 1000000)) = false := by simp only [Bool.or_eq_false_iff, decide_eq_false_iff_not]; omega
      have hX0 : 0 < X.length := by omega
      have hX8 : X.length ≤ 8 := hok.1
      have hpr : ∀ i, i < X.length → IntKind.i64.wrap ((X.getD i default).2.1 - (X.getD i default).2.2) = prio (X.getD i default) := fun i hi => tOk.prio hok hi
      obtain ⟨b, hb⟩ : ∃ b, b = bestOf X X.length := ⟨_, rfl⟩
      have ht0 := hok.2.1
      obtain ⟨own, ty, cnt, cap, len, get, hM, hf, hic, hkn, hget⟩ := hat (by omega)
      rw [hn, ← hb]
      simp only [↓WP, ↓grdD, ↓grdT, ↓un_dead, ↓binVC, ↓buildVC, ↓sliceVC, WQ, WN, Int.reduceToNat, renl, cll, rent, clt, ↓reduceIte, Nat.reduceLeDiff, Nat.reduceEqDiff, Nat.reduceLT, reduceCtorEq, List.append_nil, Nat.reduceAdd, Nat.reduceSub, Nat.reduceBEq, forall_const, implies_true, cond_true, cond_false, AV.ren, AC.ren, AV.cl, AC.cl, eq_self, List.all_cons, List.all_nil, AV.eqv, AC.eqv, eqvl, eqvt, Sl.eqv, List.map_append, List.length_map, List.length_append, List.length_replicate, List.length_set, List.map_replicate, nilVC, zr_29, sz_29, fs_29, fl_29_0, sz_27, sd_27, fl_29_1, sz_3, el_27, sz_53, zr_53, fl_53_1, fl_53_2, fl_53_0, c_impl_SchedOk, c_impl_cloneSched, hX, decide_eq_true hok, hcond]
      refine ⟨hrow, ⟨hrow, hc⟩, fun k hk => ?_⟩
      refine loopI (J := {i : Nat // i ≤ X.length}) (fun i => ⟨slots 90 [(1, .c (.ptr ⟨.loc 0, 0, 0, 0⟩)), (2, .c (.ptr ⟨.loc 1, 0, 0, 0⟩)), (4, .c (.ptr ⟨.loc 3, 0, 0, 0⟩)), (5, I (bestOf X i.1)), (26, .c (.sl a.up X.length c)), (27, I X.length), (28, I i.1)], M, [], [.box 29 [.sl a.up X.length c, .int .i64 t], .box 29 [.sl ⟨.nil, 0, 0, 0⟩ 0 0, .int .i64 0], rowG true 53 k X, .box 29 [.sl ⟨.loc 2, 0, 0, 0⟩ X.length k, .int .i64 t]]⟩) (fun i => X.length - i.1) ⟨0, by omega⟩ (Le_intro [0, 1, 2, 3] (by simp only [WL, WNL, swA_new, swA_ne, nest_sw_ne, mapLL, List.mem_cons, Nat.reduceAdd, Nat.reduceLT, Nat.reduceLeDiff, Nat.reduceEqDiff, okU, List.nodup_cons, List.not_mem_nil, toT, toL, toO, keysO, renl, rent, cll, clt, eq_self, AV.eqv, AC.eqv, eqvl, eqvt, Sl.eqv, rowsLe, mapLL, rowsCl, List.map_append, List.length_map, List.length_append, List.length_set, List.map_replicate, rowG, List.getElem?_cons_zero, List.getElem?_cons_succ, List.getElem?_nil, List.append_nil, List.nil_append, List.cons_append, ghosts, St.gh, Option.some.injEq, implies_true, setT, AV.ren, AC.ren, AV.cl, AC.cl, List.replicate_succ, List.replicate_zero, List.nodup_nil, List.length_nil, List.length_cons, List.getD_cons_zero, List.getD_cons_succ, ↓reduceIte, bestOf]; try simp)) ?_
      rintro ⟨i, hi⟩
      have hw := wS (i := i) (by omega)
      have hbl := bestOf_le X i hX0 hi
      rcases Nat.lt_or_ge i X.length with hlt | hge
      · simp only [↓WP, ↓grdD, ↓grdT, ↓un_dead, ↓binVC, ↓buildVC, ↓sliceVC, WQ, WN, Int.reduceToNat, renl, cll, rent, clt, ↓reduceIte, Nat.reduceLeDiff, Nat.reduceEqDiff, Nat.reduceLT, reduceCtorEq, List.append_nil, Nat.reduceAdd, Nat.reduceSub, Nat.reduceBEq, forall_const, implies_true, cond_true, cond_false, AV.ren, AC.ren, AV.cl, AC.cl, eq_self, List.all_cons, List.all_nil, AV.eqv, AC.eqv, eqvl, eqvt, Sl.eqv, List.map_append, List.length_map, List.length_append, List.length_replicate, List.length_set, List.map_replicate, nilVC, zr_29, sz_29, fs_29, fl_29_0, sz_27, sd_27, fl_29_1, sz_3, el_27, sz_53, zr_53, fl_53_1, fl_53_2, fl_53_0, c_impl_SchedOk, c_impl_cloneSched, dlt hlt, hw, hM, hf, hget i hlt, hget (bestOf X i) hbl, hpr i hlt, hpr (bestOf X i) hbl]
        simp only [WB, eq_self]
        repeat refine ⟨by omega, ?_⟩
        refine ⟨fun h => ⟨⟨i + 1, hlt⟩, Le_intro [0, 1, 2, 3] ?_, by show X.length - (i + 1) < X.length - i; omega⟩, fun h => ⟨⟨i + 1, hlt⟩, Le_intro [0, 1, 2, 3] ?_, by show X.length - (i + 1) < X.length - i; omega⟩⟩
        · have hb : bestOf X (i + 1) = i := by rw [bestOf, if_pos h]
          simp only [WL, WNL, swA_new, swA_ne, nest_sw_ne, mapLL, List.mem_cons, Nat.reduceAdd, Nat.reduceLT, Nat.reduceLeDiff, Nat.reduceEqDiff, okU, List.nodup_cons, List.not_mem_nil, toT, toL, toO, keysO, renl, rent, cll, clt, eq_self, AV.eqv, AC.eqv, eqvl, eqvt, Sl.eqv, rowsLe, mapLL, rowsCl, List.map_append, List.length_map, List.length_append, List.length_set, List.map_replicate, rowG, List.getElem?_cons_zero, List.getElem?_cons_succ, List.getElem?_nil, List.append_nil, List.nil_append, List.cons_append, ghosts, St.gh, Option.some.injEq, implies_true, setT, AV.ren, AC.ren, AV.cl, AC.cl, List.replicate_succ, List.replicate_zero, List.nodup_nil, List.length_nil, List.length_cons, List.getD_cons_zero, List.getD_cons_succ, ↓reduceIte, hb]
          try simp
        · have hb : bestOf X (i + 1) = bestOf X i := by rw [bestOf, if_neg h]
          simp only [WL, WNL, swA_new, swA_ne, nest_sw_ne, mapLL, List.mem_cons, Nat.reduceAdd, Nat.reduceLT, Nat.reduceLeDiff, Nat.reduceEqDiff, okU, List.nodup_cons, List.not_mem_nil, toT, toL, toO, keysO, renl, rent, cll, clt, eq_self, AV.eqv, AC.eqv, eqvl, eqvt, Sl.eqv, rowsLe, mapLL, rowsCl, List.map_append, List.length_map, List.length_append, List.length_set, List.map_replicate, rowG, List.getElem?_cons_zero, List.getElem?_cons_succ, List.getElem?_nil, List.append_nil, List.nil_append, List.cons_append, ghosts, St.gh, Option.some.injEq, implies_true, setT, AV.ren, AC.ren, AV.cl, AC.cl, List.replicate_succ, List.replicate_zero, List.nodup_nil, List.length_nil, List.length_cons, List.getD_cons_zero, List.getD_cons_succ, ↓reduceIte, hb]
          try simp
      · obtain rfl : i = X.length := by omega
        rw [← hb] at hbl
        simp only [↓WP, ↓grdD, ↓grdT, ↓un_dead, ↓binVC, ↓buildVC, ↓sliceVC, WQ, WN, Int.reduceToNat, renl, cll, rent, clt, ↓reduceIte, Nat.reduceLeDiff, Nat.reduceEqDiff, Nat.reduceLT, reduceCtorEq, List.append_nil, Nat.reduceAdd, Nat.reduceSub, Nat.reduceBEq, forall_const, implies_true, cond_true, cond_false, AV.ren, AC.ren, AV.cl, AC.cl, eq_self, List.all_cons, List.all_nil, AV.eqv, AC.eqv, eqvl, eqvt, Sl.eqv, List.map_append, List.length_map, List.length_append, List.length_replicate, List.length_set, List.map_replicate, nilVC, zr_29, sz_29, fs_29, fl_29_0, sz_27, sd_27, fl_29_1, sz_3, el_27, sz_53, zr_53, fl_53_1, fl_53_2, fl_53_0, c_impl_SchedOk, c_impl_cloneSched, dge hge, hw, ← hb]
        refine loopI (J := {i : Nat // i ≤ X.length}) (fun i => ⟨slots 90 [(1, .c (.ptr ⟨.loc 0, 0, 0, 0⟩)), (2, .c (.ptr ⟨.loc 1, 0, 0, 0⟩)), (4, .c (.ptr ⟨.loc 3, 0, 0, 0⟩)), (5, I b), (56, I X.length), (57, I i.1)], M, [], [.box 29 [.sl a.up X.length c, .int .i64 t], .box 29 [.sl ⟨.nil, 0, 0, 0⟩ 0 0, .int .i64 0], rowG true 53 k (over (X.map aged) X i.1), .box 29 [.sl ⟨.loc 2, 0, 0, 0⟩ X.length k, .int .i64 t]]⟩) (fun i => X.length - i.1) ⟨0, by omega⟩ (Le_intro [0, 1, 2, 3] (by simp only [WL, WNL, swA_new, swA_ne, nest_sw_ne, mapLL, List.mem_cons, Nat.reduceAdd, Nat.reduceLT, Nat.reduceLeDiff, Nat.reduceEqDiff, okU, List.nodup_cons, List.not_mem_nil, toT, toL, toO, keysO, renl, rent, cll, clt, eq_self, AV.eqv, AC.eqv, eqvl, eqvt, Sl.eqv, rowsLe, mapLL, rowsCl, List.map_append, List.length_map, List.length_append, List.length_set, List.map_replicate, rowG, List.getElem?_cons_zero, List.getElem?_cons_succ, List.getElem?_nil, List.append_nil, List.nil_append, List.cons_append, ghosts, St.gh, Option.some.injEq, implies_true, setT, AV.ren, AC.ren, AV.cl, AC.cl, List.replicate_succ, List.replicate_zero, List.nodup_nil, List.length_nil, List.length_cons, List.getD_cons_zero, List.getD_cons_succ, ↓reduceIte, over_zero]; try simp)) ?_
        rintro ⟨i, hi⟩
        have hw := wS (i := i) (by omega)
        have hal : (X.map aged).length = X.length := by simp
        have hol : (over (X.map aged) X i).length = X.length := over_length _ _ _ hal
        rcases Nat.lt_or_ge i X.length with hlt | hge
        · have hgd : (List.map enc (over (X.map aged) X i)).getD i [] = enc (X.getD i default) := by rw [getD_enc _ _ (by omega), over_get _ _ _ _ hal hlt]
          have hst := over_set (X.map aged) X i default hal hlt
          have hag : (X.map aged).getD i default = aged (X.getD i default) := getD_map hlt
          have htk := hok.2.2 i hlt
          unfold tOk at htk
          have hwa : IntKind.i64.wrap ((X.getD i default).2.2 + 1) = (X.getD i default).2.2 + 1 := w64 (by omega) (by omega)
          rw [hag] at hst
          simp only [↓WP, ↓grdD, ↓grdT, ↓un_dead, ↓binVC, ↓buildVC, ↓sliceVC, WQ, WN, Int.reduceToNat, renl, cll, rent, clt, ↓reduceIte, Nat.reduceLeDiff, Nat.reduceEqDiff, Nat.reduceLT, reduceCtorEq, List.append_nil, Nat.reduceAdd, Nat.reduceSub, Nat.reduceBEq, forall_const, implies_true, cond_true, cond_false, AV.ren, AC.ren, AV.cl, AC.cl, eq_self, List.all_cons, List.all_nil, AV.eqv, AC.eqv, eqvl, eqvt, Sl.eqv, List.map_append, List.length_map, List.length_append, List.length_replicate, List.length_set, List.map_replicate, nilVC, zr_29, sz_29, fs_29, fl_29_0, sz_27, sd_27, fl_29_1, sz_3, el_27, sz_53, zr_53, fl_53_1, fl_53_2, fl_53_0, c_impl_SchedOk, c_impl_cloneSched, dlt hlt, hw, hgd, hol, hwa]
          repeat' (first | with_reducible refine And.intro ?_ ?_ | intro _)
          all_goals try omega
          all_goals
            refine ⟨⟨i + 1, hlt⟩, Le_intro [0, 1, 2, 3] ?_, by show X.length - (i + 1) < X.length - i; omega⟩
            simp only [WL, WNL, swA_new, swA_ne, nest_sw_ne, mapLL, List.mem_cons, Nat.reduceAdd, Nat.reduceLT, Nat.reduceLeDiff, Nat.reduceEqDiff, okU, List.nodup_cons, List.not_mem_nil, toT, toL, toO, keysO, renl, rent, cll, clt, eq_self, AV.eqv, AC.eqv, eqvl, eqvt, Sl.eqv, rowsLe, mapLL, rowsCl, List.map_append, List.length_map, List.length_append, List.length_set, List.map_replicate, rowG, List.getElem?_cons_zero, List.getElem?_cons_succ, List.getElem?_nil, List.append_nil, List.nil_append, List.cons_append, ghosts, St.gh, Option.some.injEq, implies_true, setT, AV.ren, AC.ren, AV.cl, AC.cl, List.replicate_succ, List.replicate_zero, List.nodup_nil, List.length_nil, List.length_cons, List.getD_cons_zero, List.getD_cons_succ, ↓reduceIte, ← hst, List.map_set, aged_eq]
            try simp
        · obtain rfl : i = X.length := by omega
          have hal2 := over_all (X.map aged) X hal
          have hgb : (List.map enc (X.map aged)).getD b [] = enc (aged (X.getD b default)) := by rw [getD_enc _ _ (by omega), getD_map hbl]
          have hset : ∀ x, ((List.map enc (X.map aged)).set b x).getD b [] = x := fun x => getD_set_self (by simp; omega)
          simp only [↓WP, ↓grdD, ↓grdT, ↓un_dead, ↓binVC, ↓buildVC, ↓sliceVC, WQ, WN, Int.reduceToNat, renl, cll, rent, clt, ↓reduceIte, Nat.reduceLeDiff, Nat.reduceEqDiff, Nat.reduceLT, reduceCtorEq, List.append_nil, Nat.reduceAdd, Nat.reduceSub, Nat.reduceBEq, forall_const, implies_true, cond_true, cond_false, AV.ren, AC.ren, AV.cl, AC.cl, eq_self, List.all_cons, List.all_nil, AV.eqv, AC.eqv, eqvl, eqvt, Sl.eqv, List.map_append, List.length_map, List.length_append, List.length_replicate, List.length_set, List.map_replicate, nilVC, zr_29, sz_29, fs_29, fl_29_0, sz_27, sd_27, fl_29_1, sz_3, el_27, sz_53, zr_53, fl_53_1, fl_53_2, fl_53_0, c_impl_SchedOk, c_impl_cloneSched, dge hge, hw, hal2, hgb, hset, hal, w64 (n := t + 1) (by omega) (by omega), aged_1, aged_2, hM, hf, hget b hbl]
          repeat' (first | with_reducible refine And.intro ?_ ?_ | intro _)
          all_goals try omega
          all_goals
            refine end_ret ?_
            simp only [↓WP, ↓grdD, ↓grdT, ↓un_dead, ↓binVC, ↓buildVC, ↓sliceVC, WQ, WN, Int.reduceToNat, renl, cll, rent, clt, ↓reduceIte, Nat.reduceLeDiff, Nat.reduceEqDiff, Nat.reduceLT, reduceCtorEq, List.append_nil, Nat.reduceAdd, Nat.reduceSub, Nat.reduceBEq, forall_const, implies_true, cond_true, cond_false, AV.ren, AC.ren, AV.cl, AC.cl, eq_self, List.all_cons, List.all_nil, AV.eqv, AC.eqv, eqvl, eqvt, Sl.eqv, List.map_append, List.length_map, List.length_append, List.length_replicate, List.length_set, List.map_replicate, nilVC, zr_29, sz_29, fs_29, fl_29_0, sz_27, sd_27, fl_29_1, sz_3, el_27, sz_53, zr_53, fl_53_1, fl_53_2, fl_53_0, c_impl_SchedOk, c_impl_cloneSched]
            refine ⟨k, [], [2], ?_⟩
            simp only [WL, WNL, swA_new, swA_ne, nest_sw_ne, mapLL, List.mem_cons, Nat.reduceAdd, Nat.reduceLT, Nat.reduceLeDiff, Nat.reduceEqDiff, okU, List.nodup_cons, List.not_mem_nil, toT, toL, toO, keysO, renl, rent, cll, clt, eq_self, AV.eqv, AC.eqv, eqvl, eqvt, Sl.eqv, rowsLe, mapLL, rowsCl, List.map_append, List.length_map, List.length_append, List.length_set, List.map_replicate, rowG, List.getElem?_cons_zero, List.getElem?_cons_succ, List.getElem?_nil, List.append_nil, List.nil_append, List.cons_append, ghosts, St.gh, Option.some.injEq, implies_true, setT, AV.ren, AC.ren, AV.cl, AC.cl, List.replicate_succ, List.replicate_zero, List.nodup_nil, List.length_nil, List.length_cons, List.getD_cons_zero, List.getD_cons_succ, ↓reduceIte, retP, nextL, List.map_set, w64 (n := t + 1) (by omega) (by omega)]
            simp [hk]
  · have hn : nextOf X t = ([], 0, 0) := by rw [nextOf, if_neg hok]
    rw [hn]
    simp only [↓WP, ↓grdD, ↓grdT, ↓un_dead, ↓binVC, ↓buildVC, ↓sliceVC, WQ, WN, Int.reduceToNat, renl, cll, rent, clt, ↓reduceIte, Nat.reduceLeDiff, Nat.reduceEqDiff, Nat.reduceLT, reduceCtorEq, List.append_nil, Nat.reduceAdd, Nat.reduceSub, Nat.reduceBEq, forall_const, implies_true, cond_true, cond_false, AV.ren, AC.ren, AV.cl, AC.cl, eq_self, List.all_cons, List.all_nil, AV.eqv, AC.eqv, eqvl, eqvt, Sl.eqv, List.map_append, List.length_map, List.length_append, List.length_replicate, List.length_set, List.map_replicate, nilVC, zr_29, sz_29, fs_29, fl_29_0, sz_27, sd_27, fl_29_1, sz_3, el_27, sz_53, zr_53, fl_53_1, fl_53_2, fl_53_0, c_impl_SchedOk, c_impl_cloneSched, hX, decide_eq_false hok]
    refine ⟨hrow, end_ret ?_⟩
    simp only [↓WP, ↓grdD, ↓grdT, ↓un_dead, ↓binVC, ↓buildVC, ↓sliceVC, WQ, WN, Int.reduceToNat, renl, cll, rent, clt, ↓reduceIte, Nat.reduceLeDiff, Nat.reduceEqDiff, Nat.reduceLT, reduceCtorEq, List.append_nil, Nat.reduceAdd, Nat.reduceSub, Nat.reduceBEq, forall_const, implies_true, cond_true, cond_false, AV.ren, AC.ren, AV.cl, AC.cl, eq_self, List.all_cons, List.all_nil, AV.eqv, AC.eqv, eqvl, eqvt, Sl.eqv, List.map_append, List.length_map, List.length_append, List.length_replicate, List.length_set, List.map_replicate, nilVC, zr_29, sz_29, fs_29, fl_29_0, sz_27, sd_27, fl_29_1, sz_3, el_27, sz_53, zr_53, fl_53_1, fl_53_2, fl_53_0, c_impl_SchedOk, c_impl_cloneSched]
    refine ⟨0, [(53, 3)], [2], ?_⟩
    simp [WL, WNL, swA_new, swA_ne, nest_sw_ne, mapLL, List.mem_cons, Nat.reduceAdd, Nat.reduceLT, Nat.reduceLeDiff, Nat.reduceEqDiff, okU, List.nodup_cons, List.not_mem_nil, toT, toL, toO, keysO, renl, rent, cll, clt, eq_self, AV.eqv, AC.eqv, eqvl, eqvt, Sl.eqv, rowsLe, mapLL, rowsCl, List.map_append, List.length_map, List.length_append, List.length_set, List.map_replicate, rowG, List.getElem?_cons_zero, List.getElem?_cons_succ, List.getElem?_nil, List.append_nil, List.nil_append, List.cons_append, ghosts, St.gh, Option.some.injEq, implies_true, setT, AV.ren, AC.ren, AV.cl, AC.cl, List.replicate_succ, List.replicate_zero, List.nodup_nil, List.length_nil, List.length_cons, List.getD_cons_zero, List.getD_cons_succ, ↓reduceIte, retP]
end Go.Eng.T
