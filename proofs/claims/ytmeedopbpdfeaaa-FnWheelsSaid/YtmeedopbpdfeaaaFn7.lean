/- wheel: WheelDrop as it is specified; the law. -/
import Derived.Test.YtmeedopbpdfeaaaFn6
set_option linter.unusedVariables false
set_option linter.unusedSimpArgs false
set_option linter.unusedSectionVars false
namespace Go.Eng.T
open Go.Proofs
open Cel (enc dec)
set_option maxRecDepth 100000
set_option maxHeartbeats 4000000
def c_spec_WheelDrop : Contract := ⟨17, fun args M => match args with
  | [.agg [.int .i64 u, .int .i64 v, .sl a n c], .c (.int .i64 d)] => .eff (RowOk T3 a n (M a.r) ∧ n ≤ c) Nat (fun k => (dropW u v (row T3 a n (M a.r)) d).2.2.1.length ≤ k) (fun k => .tup [(true, [.int .i64 (dropW u v (row T3 a n (M a.r)) d).1, .int .i64 (dropW u v (row T3 a n (M a.r)) d).2.1, .sl ⟨.loc 0, 0, 0, 0⟩ (dropW u v (row T3 a n (M a.r)) d).2.2.1.length k]), (false, [.bool (dropW u v (row T3 a n (M a.r)) d).2.2.2])]) (fun k => [rowG true 51 k (dropW u v (row T3 a n (M a.r)) d).2.2.1]) (fun _ => [])
  | _ => .bad⟩
theorem ok_spec_WheelDrop : fnP Try.prog c_spec_WheelDrop.f = true ∧ ∀ args M, (c_spec_WheelDrop.sp args M).OK Try.prog c_spec_WheelDrop.f args M := by
  refine ⟨fp_17, fun args M => ?_⟩
  unfold c_spec_WheelDrop
  dsimp only
  split
  case h_2 => trivial
  rename_i u v a n c d
  rintro ⟨hrow, hc⟩
  obtain ⟨hs, X, hX, rfl, hat⟩ := hrow.x
  rw [hX]
  refine goIn hf_17 rfl (nt := 49) rfl (rs := [.cell 4 29, .tmp 5]) rfl (C := [c_spec_WheelOk, c_spec_l36Copy]) ⟨(by first | exact .inl ok_spec_WheelOk | exact ok_spec_WheelOk), (by first | exact .inl ok_spec_l36Copy | exact ok_spec_l36Copy), trivial⟩ (q := fun _ => false) okQ_none mixed (O := fun _ => .nil) (by kernel_rfl) ?_
  by_cases hok : wheelOk u v X
  · have hfl := fl_all (X := X) (d := d) (fun i hi => (hok.2.2.2 i hi).2.2.2.2)
    have hX12 : X.length ≤ 12 := hok.2.2.1
    have hn : dropW u v X d = (u, v, fl X d X.length, decide (0 ≤ idx (fun x : T3 => decide (x.1 = d)) X)) := by
      rw [dropW, if_pos hok, hfl]
      split
      · rename_i h; rw [decide_eq_true h]
      · rename_i h; rw [decide_eq_false h]
    rw [hn]
    simp only [↓WP, ↓grdD, ↓grdT, ↓un_dead, ↓binVC, ↓buildVC, ↓sliceVC, WQ, WN, Int.reduceToNat, renl, cll, rent, clt, ↓reduceIte, Nat.reduceLeDiff, Nat.reduceEqDiff, Nat.reduceLT, reduceCtorEq, List.append_nil, Nat.reduceAdd, Nat.reduceSub, Nat.reduceBEq, forall_const, implies_true, cond_true, cond_false, AV.ren, AC.ren, AV.cl, AC.cl, eq_self, List.all_cons, List.all_nil, AV.eqv, AC.eqv, eqvl, eqvt, Sl.eqv, List.map_append, List.length_map, List.length_append, List.length_replicate, List.length_set, List.map_replicate, nilVC, zr_29, sz_29, fs_29, el_27, zr_51, fl_29_2, sz_27, sd_27, fl_51_0, sz_3, sz_51, c_spec_WheelOk, c_spec_l36Copy, hX, decide_eq_true hok]
    refine ⟨hrow, hrow, fun k hk => ⟨by omega, ?_⟩⟩
    refine loopI (J := {p : Nat × Nat // p.1 ≤ X.length ∧ (fl X d p.1).length ≤ p.2}) (fun p => ⟨slots 49 [(1, I d), (4, .c (.ptr ⟨.loc 1, 0, 0, 0⟩)), (6, .c (.ptr ⟨.loc 3, 0, 0, 0⟩)), (7, .c (.sl ⟨.loc 4, 0, 0, 0⟩ (fl X d p.1.1).length p.1.2)), (8, I p.1.1)], M, [], [.box 29 [.int .i64 u, .int .i64 v, .sl a.up X.length c], .box 29 [.int .i64 0, .int .i64 0, .sl ⟨.nil, 0, 0, 0⟩ 0 0], rowG true 51 k X, .box 29 [.int .i64 u, .int .i64 v, .sl ⟨.loc 2, 0, 0, 0⟩ X.length k], rowG true 51 p.1.2 (fl X d p.1.1)]⟩) (fun p => X.length - p.1.1) ⟨(0, 0), by omega, by rw [fl_zero]; exact Nat.le_refl _⟩ (Le.trans (Le_gh _ [(51, 3)]) (Le_intro [0, 1, 2, 3, 4] (by simp only [WL, WNL, swA_new, swA_ne, nest_sw_ne, mapLL, List.mem_cons, Nat.reduceAdd, Nat.reduceLT, Nat.reduceLeDiff, Nat.reduceEqDiff, okU, List.nodup_cons, List.not_mem_nil, toT, toL, toO, keysO, renl, rent, cll, clt, eq_self, AV.eqv, AC.eqv, eqvl, eqvt, Sl.eqv, rowsLe, mapLL, rowsCl, List.map_append, List.length_map, List.length_append, List.length_set, List.map_replicate, rowG, List.getElem?_cons_zero, List.getElem?_cons_succ, List.getElem?_nil, List.append_nil, List.nil_append, List.cons_append, ghosts, St.gh, Option.some.injEq, implies_true, setT, AV.ren, AC.ren, AV.cl, AC.cl, List.replicate_succ, List.replicate_zero, List.nodup_nil, List.length_nil, List.length_cons, List.getD_cons_zero, List.getD_cons_succ, ↓reduceIte, fl_zero]; try simp))) ?_
    rintro ⟨⟨i, k2⟩, hi, hk2⟩
    dsimp only at hi hk2
    have hw := wS (i := i) (by omega)
    have hfi := fl_len X d i
    rcases Nat.lt_or_ge i X.length with hlt | hge
    · have hgd : (List.map enc X).getD i [] = enc (X.getD i default) := getD_enc _ _ hlt
      by_cases hd : (X.getD i default).1 = d
      · simp only [↓WP, ↓grdD, ↓grdT, ↓un_dead, ↓binVC, ↓buildVC, ↓sliceVC, WQ, WN, Int.reduceToNat, renl, cll, rent, clt, ↓reduceIte, Nat.reduceLeDiff, Nat.reduceEqDiff, Nat.reduceLT, reduceCtorEq, List.append_nil, Nat.reduceAdd, Nat.reduceSub, Nat.reduceBEq, forall_const, implies_true, cond_true, cond_false, AV.ren, AC.ren, AV.cl, AC.cl, eq_self, List.all_cons, List.all_nil, AV.eqv, AC.eqv, eqvl, eqvt, Sl.eqv, List.map_append, List.length_map, List.length_append, List.length_replicate, List.length_set, List.map_replicate, nilVC, zr_29, sz_29, fs_29, el_27, zr_51, fl_29_2, sz_27, sd_27, fl_51_0, sz_3, sz_51, c_spec_WheelOk, c_spec_l36Copy, dlt hlt, hw, hgd, hd, decide_true]
        repeat' (first | with_reducible refine And.intro ?_ ?_ | intro _)
        all_goals try omega
        exact ⟨⟨(i + 1, k2), hlt, by rw [fl_hit hlt hd]; exact hk2⟩, Le_intro [0, 1, 2, 3, 4] (by simp only [WL, WNL, swA_new, swA_ne, nest_sw_ne, mapLL, List.mem_cons, Nat.reduceAdd, Nat.reduceLT, Nat.reduceLeDiff, Nat.reduceEqDiff, okU, List.nodup_cons, List.not_mem_nil, toT, toL, toO, keysO, renl, rent, cll, clt, eq_self, AV.eqv, AC.eqv, eqvl, eqvt, Sl.eqv, rowsLe, mapLL, rowsCl, List.map_append, List.length_map, List.length_append, List.length_set, List.map_replicate, rowG, List.getElem?_cons_zero, List.getElem?_cons_succ, List.getElem?_nil, List.append_nil, List.nil_append, List.cons_append, ghosts, St.gh, Option.some.injEq, implies_true, setT, AV.ren, AC.ren, AV.cl, AC.cl, List.replicate_succ, List.replicate_zero, List.nodup_nil, List.length_nil, List.length_cons, List.getD_cons_zero, List.getD_cons_succ, ↓reduceIte, fl_hit hlt hd]; try simp), by show X.length - (i + 1) < X.length - i; omega⟩
      · simp only [↓WP, ↓grdD, ↓grdT, ↓un_dead, ↓binVC, ↓buildVC, ↓sliceVC, WQ, WN, Int.reduceToNat, renl, cll, rent, clt, ↓reduceIte, Nat.reduceLeDiff, Nat.reduceEqDiff, Nat.reduceLT, reduceCtorEq, List.append_nil, Nat.reduceAdd, Nat.reduceSub, Nat.reduceBEq, forall_const, implies_true, cond_true, cond_false, AV.ren, AC.ren, AV.cl, AC.cl, eq_self, List.all_cons, List.all_nil, AV.eqv, AC.eqv, eqvl, eqvt, Sl.eqv, List.map_append, List.length_map, List.length_append, List.length_replicate, List.length_set, List.map_replicate, nilVC, zr_29, sz_29, fs_29, el_27, zr_51, fl_29_2, sz_27, sd_27, fl_51_0, sz_3, sz_51, c_spec_WheelOk, c_spec_l36Copy, dlt hlt, hw, hgd, decide_eq_false hd]
        repeat' (first | with_reducible refine And.intro ?_ ?_ | intro _)
        all_goals try omega
        all_goals try rfl
        all_goals try exact .inr trivial
        · exact ⟨⟨(i + 1, k2), hlt, by rw [fl_miss hlt hd, List.length_append]; simpa⟩, Le_intro [0, 1, 2, 3, 4] (by simp only [WL, WNL, swA_new, swA_ne, nest_sw_ne, mapLL, List.mem_cons, Nat.reduceAdd, Nat.reduceLT, Nat.reduceLeDiff, Nat.reduceEqDiff, okU, List.nodup_cons, List.not_mem_nil, toT, toL, toO, keysO, renl, rent, cll, clt, eq_self, AV.eqv, AC.eqv, eqvl, eqvt, Sl.eqv, rowsLe, mapLL, rowsCl, List.map_append, List.length_map, List.length_append, List.length_set, List.map_replicate, rowG, List.getElem?_cons_zero, List.getElem?_cons_succ, List.getElem?_nil, List.append_nil, List.nil_append, List.cons_append, ghosts, St.gh, Option.some.injEq, implies_true, setT, AV.ren, AC.ren, AV.cl, AC.cl, List.replicate_succ, List.replicate_zero, List.nodup_nil, List.length_nil, List.length_cons, List.getD_cons_zero, List.getD_cons_succ, ↓reduceIte, fl_miss hlt hd]; try simp), by show X.length - (i + 1) < X.length - i; omega⟩
        · rename_i k3 hk3 _
          exact ⟨⟨(i + 1, k3), hlt, by rw [fl_miss hlt hd, List.length_append]; simpa⟩, Le_intro [0, 1, 2, 3, 6] (by simp only [WL, WNL, swA_new, swA_ne, nest_sw_ne, mapLL, List.mem_cons, Nat.reduceAdd, Nat.reduceLT, Nat.reduceLeDiff, Nat.reduceEqDiff, okU, List.nodup_cons, List.not_mem_nil, toT, toL, toO, keysO, renl, rent, cll, clt, eq_self, AV.eqv, AC.eqv, eqvl, eqvt, Sl.eqv, rowsLe, mapLL, rowsCl, List.map_append, List.length_map, List.length_append, List.length_set, List.map_replicate, rowG, List.getElem?_cons_zero, List.getElem?_cons_succ, List.getElem?_nil, List.append_nil, List.nil_append, List.cons_append, ghosts, St.gh, Option.some.injEq, implies_true, setT, AV.ren, AC.ren, AV.cl, AC.cl, List.replicate_succ, List.replicate_zero, List.nodup_nil, List.length_nil, List.length_cons, List.getD_cons_zero, List.getD_cons_succ, ↓reduceIte, fl_miss hlt hd]; try simp), by show X.length - (i + 1) < X.length - i; omega⟩
    · obtain rfl : i = X.length := by omega
      have hjr := idx_range (fun x : T3 => decide (x.1 = d)) X
      by_cases h2 : 0 ≤ idx (fun x : T3 => decide (x.1 = d)) X
      · have hlen : (fl X d X.length).length = X.length - 1 := by rw [hfl, if_pos h2]; simp; omega
        have hde : decide (((fl X d X.length).length : Int) = X.length) = false := by simp only [decide_eq_false_iff_not]; omega
        simp only [↓WP, ↓grdD, ↓grdT, ↓un_dead, ↓binVC, ↓buildVC, ↓sliceVC, WQ, WN, Int.reduceToNat, renl, cll, rent, clt, ↓reduceIte, Nat.reduceLeDiff, Nat.reduceEqDiff, Nat.reduceLT, reduceCtorEq, List.append_nil, Nat.reduceAdd, Nat.reduceSub, Nat.reduceBEq, forall_const, implies_true, cond_true, cond_false, AV.ren, AC.ren, AV.cl, AC.cl, eq_self, List.all_cons, List.all_nil, AV.eqv, AC.eqv, eqvl, eqvt, Sl.eqv, List.map_append, List.length_map, List.length_append, List.length_replicate, List.length_set, List.map_replicate, nilVC, zr_29, sz_29, fs_29, el_27, zr_51, fl_29_2, sz_27, sd_27, fl_51_0, sz_3, sz_51, c_spec_WheelOk, c_spec_l36Copy, dge hge, hw, hde, decide_eq_true h2]
        refine end_ret ?_
        simp only [↓WP, ↓grdD, ↓grdT, ↓un_dead, ↓binVC, ↓buildVC, ↓sliceVC, WQ, WN, Int.reduceToNat, renl, cll, rent, clt, ↓reduceIte, Nat.reduceLeDiff, Nat.reduceEqDiff, Nat.reduceLT, reduceCtorEq, List.append_nil, Nat.reduceAdd, Nat.reduceSub, Nat.reduceBEq, forall_const, implies_true, cond_true, cond_false, AV.ren, AC.ren, AV.cl, AC.cl, eq_self, List.all_cons, List.all_nil, AV.eqv, AC.eqv, eqvl, eqvt, Sl.eqv, List.map_append, List.length_map, List.length_append, List.length_replicate, List.length_set, List.map_replicate, nilVC, zr_29, sz_29, fs_29, el_27, zr_51, fl_29_2, sz_27, sd_27, fl_51_0, sz_3, sz_51, c_spec_WheelOk, c_spec_l36Copy]
        refine ⟨k2, [], [4], ?_⟩
        simp only [WL, WNL, swA_new, swA_ne, nest_sw_ne, mapLL, List.mem_cons, Nat.reduceAdd, Nat.reduceLT, Nat.reduceLeDiff, Nat.reduceEqDiff, okU, List.nodup_cons, List.not_mem_nil, toT, toL, toO, keysO, renl, rent, cll, clt, eq_self, AV.eqv, AC.eqv, eqvl, eqvt, Sl.eqv, rowsLe, mapLL, rowsCl, List.map_append, List.length_map, List.length_append, List.length_set, List.map_replicate, rowG, List.getElem?_cons_zero, List.getElem?_cons_succ, List.getElem?_nil, List.append_nil, List.nil_append, List.cons_append, ghosts, St.gh, Option.some.injEq, implies_true, setT, AV.ren, AC.ren, AV.cl, AC.cl, List.replicate_succ, List.replicate_zero, List.nodup_nil, List.length_nil, List.length_cons, List.getD_cons_zero, List.getD_cons_succ, ↓reduceIte, retP]
        simp [hk2, h2]
      · have hflX : fl X d X.length = X := by rw [hfl, if_neg h2]
        simp only [↓WP, ↓grdD, ↓grdT, ↓un_dead, ↓binVC, ↓buildVC, ↓sliceVC, WQ, WN, Int.reduceToNat, renl, cll, rent, clt, ↓reduceIte, Nat.reduceLeDiff, Nat.reduceEqDiff, Nat.reduceLT, reduceCtorEq, List.append_nil, Nat.reduceAdd, Nat.reduceSub, Nat.reduceBEq, forall_const, implies_true, cond_true, cond_false, AV.ren, AC.ren, AV.cl, AC.cl, eq_self, List.all_cons, List.all_nil, AV.eqv, AC.eqv, eqvl, eqvt, Sl.eqv, List.map_append, List.length_map, List.length_append, List.length_replicate, List.length_set, List.map_replicate, nilVC, zr_29, sz_29, fs_29, el_27, zr_51, fl_29_2, sz_27, sd_27, fl_51_0, sz_3, sz_51, c_spec_WheelOk, c_spec_l36Copy, dge hge, hw, hflX, decide_true, decide_eq_false h2]
        refine end_ret ?_
        simp only [↓WP, ↓grdD, ↓grdT, ↓un_dead, ↓binVC, ↓buildVC, ↓sliceVC, WQ, WN, Int.reduceToNat, renl, cll, rent, clt, ↓reduceIte, Nat.reduceLeDiff, Nat.reduceEqDiff, Nat.reduceLT, reduceCtorEq, List.append_nil, Nat.reduceAdd, Nat.reduceSub, Nat.reduceBEq, forall_const, implies_true, cond_true, cond_false, AV.ren, AC.ren, AV.cl, AC.cl, eq_self, List.all_cons, List.all_nil, AV.eqv, AC.eqv, eqvl, eqvt, Sl.eqv, List.map_append, List.length_map, List.length_append, List.length_replicate, List.length_set, List.map_replicate, nilVC, zr_29, sz_29, fs_29, el_27, zr_51, fl_29_2, sz_27, sd_27, fl_51_0, sz_3, sz_51, c_spec_WheelOk, c_spec_l36Copy]
        refine ⟨k, [], [2], ?_⟩
        simp only [WL, WNL, swA_new, swA_ne, nest_sw_ne, mapLL, List.mem_cons, Nat.reduceAdd, Nat.reduceLT, Nat.reduceLeDiff, Nat.reduceEqDiff, okU, List.nodup_cons, List.not_mem_nil, toT, toL, toO, keysO, renl, rent, cll, clt, eq_self, AV.eqv, AC.eqv, eqvl, eqvt, Sl.eqv, rowsLe, mapLL, rowsCl, List.map_append, List.length_map, List.length_append, List.length_set, List.map_replicate, rowG, List.getElem?_cons_zero, List.getElem?_cons_succ, List.getElem?_nil, List.append_nil, List.nil_append, List.cons_append, ghosts, St.gh, Option.some.injEq, implies_true, setT, AV.ren, AC.ren, AV.cl, AC.cl, List.replicate_succ, List.replicate_zero, List.nodup_nil, List.length_nil, List.length_cons, List.getD_cons_zero, List.getD_cons_succ, ↓reduceIte, retP, hflX]
        simp [hk, h2]
  · have hn : dropW u v X d = (0, 0, [], false) := by rw [dropW, if_neg hok]
    rw [hn]
    simp only [↓WP, ↓grdD, ↓grdT, ↓un_dead, ↓binVC, ↓buildVC, ↓sliceVC, WQ, WN, Int.reduceToNat, renl, cll, rent, clt, ↓reduceIte, Nat.reduceLeDiff, Nat.reduceEqDiff, Nat.reduceLT, reduceCtorEq, List.append_nil, Nat.reduceAdd, Nat.reduceSub, Nat.reduceBEq, forall_const, implies_true, cond_true, cond_false, AV.ren, AC.ren, AV.cl, AC.cl, eq_self, List.all_cons, List.all_nil, AV.eqv, AC.eqv, eqvl, eqvt, Sl.eqv, List.map_append, List.length_map, List.length_append, List.length_replicate, List.length_set, List.map_replicate, nilVC, zr_29, sz_29, fs_29, el_27, zr_51, fl_29_2, sz_27, sd_27, fl_51_0, sz_3, sz_51, c_spec_WheelOk, c_spec_l36Copy, hX, decide_eq_false hok]
    refine ⟨hrow, end_ret ?_⟩
    simp only [↓WP, ↓grdD, ↓grdT, ↓un_dead, ↓binVC, ↓buildVC, ↓sliceVC, WQ, WN, Int.reduceToNat, renl, cll, rent, clt, ↓reduceIte, Nat.reduceLeDiff, Nat.reduceEqDiff, Nat.reduceLT, reduceCtorEq, List.append_nil, Nat.reduceAdd, Nat.reduceSub, Nat.reduceBEq, forall_const, implies_true, cond_true, cond_false, AV.ren, AC.ren, AV.cl, AC.cl, eq_self, List.all_cons, List.all_nil, AV.eqv, AC.eqv, eqvl, eqvt, Sl.eqv, List.map_append, List.length_map, List.length_append, List.length_replicate, List.length_set, List.map_replicate, nilVC, zr_29, sz_29, fs_29, el_27, zr_51, fl_29_2, sz_27, sd_27, fl_51_0, sz_3, sz_51, c_spec_WheelOk, c_spec_l36Copy]
    refine ⟨0, [(51, 3)], [2], ?_⟩
    simp [WL, WNL, swA_new, swA_ne, nest_sw_ne, mapLL, List.mem_cons, Nat.reduceAdd, Nat.reduceLT, Nat.reduceLeDiff, Nat.reduceEqDiff, okU, List.nodup_cons, List.not_mem_nil, toT, toL, toO, keysO, renl, rent, cll, clt, eq_self, AV.eqv, AC.eqv, eqvl, eqvt, Sl.eqv, rowsLe, mapLL, rowsCl, List.map_append, List.length_map, List.length_append, List.length_set, List.map_replicate, rowG, List.getElem?_cons_zero, List.getElem?_cons_succ, List.getElem?_nil, List.append_nil, List.nil_append, List.cons_append, ghosts, St.gh, Option.some.injEq, implies_true, setT, AV.ren, AC.ren, AV.cl, AC.cl, List.replicate_succ, List.replicate_zero, List.nodup_nil, List.length_nil, List.length_cons, List.getD_cons_zero, List.getD_cons_succ, ↓reduceIte, retP]
def c_laws_FnExactWheelDrop : Contract := ⟨5, fun args M => match args with
  | [.agg [.int .i64 _, .int .i64 _, .sl a n c], .c (.int .i64 _)] => .pure ((n ≤ 9223372036854775807 ∧ n ≤ c) ∧ (n ≤ 4294967296 → RowOk T3 a n (M a.r))) (Eng.B true)
  | _ => .bad⟩
theorem ok_laws_FnExactWheelDrop : fnP Try.prog c_laws_FnExactWheelDrop.f = true ∧ ∀ args M, (c_laws_FnExactWheelDrop.sp args M).OK Try.prog c_laws_FnExactWheelDrop.f args M := by
  refine ⟨fp_5, fun args M => ?_⟩
  unfold c_laws_FnExactWheelDrop
  dsimp only
  split
  case h_2 => trivial
  rename_i u v a n c d
  rintro ⟨⟨hn, hc⟩, hrow⟩
  refine goIn hf_5 rfl (nt := 101) rfl (rs := [.tmp 4]) rfl (C := [c_laws_szWheel, c_laws_toWheel, c_spec_WheelDrop, c_impl_WheelDrop, c_laws_eqWheel, c_laws_markWheel, c_laws_heldWheel]) ⟨(by first | exact .inl ok_laws_szWheel | exact ok_laws_szWheel), (by first | exact .inl ok_laws_toWheel | exact ok_laws_toWheel), (by first | exact .inl ok_spec_WheelDrop | exact ok_spec_WheelDrop), (by first | exact .inl ok_impl_WheelDrop | exact ok_impl_WheelDrop), (by first | exact .inl ok_laws_eqWheel | exact ok_laws_eqWheel), (by first | exact .inl ok_laws_markWheel | exact ok_laws_markWheel), (by first | exact .inl ok_laws_heldWheel | exact ok_laws_heldWheel), trivial⟩ (q := fun f => [12, 14].contains f) ⟨fun h => absurd h (by decide), fun _ => q_laws_toWheel, fun h => absurd h (by decide), fun h => absurd h (by decide), fun _ => q_laws_eqWheel, fun h => absurd h (by decide), fun h => absurd h (by decide), trivial⟩ mixed (O := ots [(10, otl [0, 1, 2, 3, 4] .nil)]) (by kernel_rfl) ?_
  rcases Nat.lt_or_ge 1048576 n with hb | hb
  · simp only [↓WP, ↓grdD, ↓grdT, ↓un_dead, ↓binVC, ↓buildVC, ↓sliceVC, WQ, WN, Int.reduceToNat, renl, cll, rent, clt, ↓reduceIte, Nat.reduceLeDiff, Nat.reduceEqDiff, Nat.reduceLT, reduceCtorEq, List.append_nil, Nat.reduceAdd, Nat.reduceSub, Nat.reduceBEq, forall_const, implies_true, cond_true, cond_false, AV.ren, AC.ren, AV.cl, AC.cl, eq_self, List.all_cons, List.all_nil, AV.eqv, AC.eqv, eqvl, eqvt, Sl.eqv, List.map_append, List.length_map, List.length_append, List.length_replicate, List.length_set, List.map_replicate, nilVC, sz_24, zr_29, sz_29, bt_4, c_laws_szWheel, c_laws_toWheel, c_spec_WheelDrop, c_impl_WheelDrop, c_laws_eqWheel, c_laws_markWheel, c_laws_heldWheel, if_pos (show (1048576 : Int) < n by omega)]
    simp
    omega
  · have hrow := hrow (by omega)
    obtain ⟨hs, X, hX, rfl, hat⟩ := hrow.x
    have hb2 : X.length ≤ 4294967296 := by omega
    obtain ⟨R, hR⟩ : ∃ R, R = dropW u v X d := ⟨_, rfl⟩
    have hbb : ∀ b : Bool, (b != b) = false := by decide
    simp only [↓WP, ↓grdD, ↓grdT, ↓un_dead, ↓binVC, ↓buildVC, ↓sliceVC, WQ, WN, Int.reduceToNat, renl, cll, rent, clt, ↓reduceIte, Nat.reduceLeDiff, Nat.reduceEqDiff, Nat.reduceLT, reduceCtorEq, List.append_nil, Nat.reduceAdd, Nat.reduceSub, Nat.reduceBEq, forall_const, implies_true, cond_true, cond_false, AV.ren, AC.ren, AV.cl, AC.cl, eq_self, List.all_cons, List.all_nil, AV.eqv, AC.eqv, eqvl, eqvt, Sl.eqv, List.map_append, List.length_map, List.length_append, List.length_replicate, List.length_set, List.map_replicate, nilVC, sz_24, zr_29, sz_29, bt_4, c_laws_szWheel, c_laws_toWheel, c_spec_WheelDrop, c_impl_WheelDrop, c_laws_eqWheel, c_laws_markWheel, c_laws_heldWheel, if_neg (show ¬ (1048576 : Int) < X.length by omega), hrow, hX, ← hR, hbb]
    have hl : R.2.2.1.length ≤ X.length := by rw [hR]; exact dropW_len u v X d
    simp
    repeat' (first | with_reducible refine And.intro ?_ ?_ | intro _)
    all_goals omega
end Go.Eng.T
