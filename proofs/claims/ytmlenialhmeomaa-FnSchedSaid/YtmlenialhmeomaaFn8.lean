/- sched: SchedDrop. -/
import Derived.Test.YtmlenialhmeomaaFn7
set_option linter.unusedVariables false
set_option linter.unusedSimpArgs false
set_option linter.unusedSectionVars false
namespace Go.Eng.T
open Go.Proofs
open Cel (enc dec)
set_option maxRecDepth 100000
set_option maxHeartbeats 4000000
def c_spec_SchedDrop : Contract := ⟨20, fun args M => match args with
  | [.agg [.sl a n c, .int .i64 t], .c (.int .i64 v)] => .eff (RowOk T3 a n (M a.r) ∧ n ≤ c) Nat (fun k => (dropOf (row T3 a n (M a.r)) t v).1.length ≤ k) (fun k => .tup [(true, [.sl ⟨.loc 0, 0, 0, 0⟩ (dropOf (row T3 a n (M a.r)) t v).1.length k, .int .i64 (dropOf (row T3 a n (M a.r)) t v).2.1]), (false, [.bool (dropOf (row T3 a n (M a.r)) t v).2.2])]) (fun k => [rowG true 53 k (dropOf (row T3 a n (M a.r)) t v).1]) (fun _ => [])
  | _ => .bad⟩
theorem ok_spec_SchedDrop : fnP Try.prog c_spec_SchedDrop.f = true ∧ ∀ args M, (c_spec_SchedDrop.sp args M).OK Try.prog c_spec_SchedDrop.f args M := by
  refine ⟨fp_20, fun args M => ?_⟩
  unfold c_spec_SchedDrop
  dsimp only
  split
  case h_2 => trivial
  rename_i a n c t v
  rintro ⟨hrow, hc⟩
  obtain ⟨hs, X, hX, rfl, hat⟩ := hrow.x
  rw [hX]
  refine goIn hf_20 rfl (nt := 36) rfl (rs := [.cell 4 29, .tmp 5]) rfl (C := [c_spec_SchedOk, c_spec_l33Copy, c_spec_l33At]) ⟨(by first | exact .inl ok_spec_SchedOk | exact ok_spec_SchedOk), (by first | exact .inl ok_spec_l33Copy | exact ok_spec_l33Copy), (by first | exact .inl ok_spec_l33At | exact ok_spec_l33At), trivial⟩ (q := fun _ => false) okQ_none mixed (O := fun _ => .nil) (by kernel_rfl) ?_
  by_cases hok : schedOk X t
  · obtain ⟨j, hj⟩ : ∃ j, j = idx (fun x : T3 => decide (x.1 = v)) X := ⟨_, rfl⟩
    have hjr := idx_range (fun x : T3 => decide (x.1 = v)) X
    have hX8 := hok.1
    rw [← hj] at hjr
    by_cases h2 : 0 ≤ j
    · obtain ⟨m, rfl⟩ : ∃ m : Nat, j = m := ⟨j.toNat, by omega⟩
      have hn : dropOf X t v = (X.take m ++ X.drop (m + 1), t, true) := by rw [dropOf, if_pos hok, ← hj, if_pos h2, Int.toNat_natCast]
      have hlt : decide ((m : Int) < 0) = false := by simp
      have htn : ((m : Int) + 1).toNat = m + 1 := by omega
      have hml : m + (X.length - (m + 1)) = X.length - 1 := by omega
      have hl2 : (X.take m).length + (X.drop (m + 1)).length = X.length - 1 := by simp; omega
      have hw1 : win (fun k => (List.map enc X).getD k []) m = List.map enc (X.take m) := by
        have := win_drop (B := List.map enc X) (j := 0) (n := m) (by simp; omega)
        simpa [List.map_take] using this
      have hw2 : win (fun k => (List.map enc X).getD (m + 1 + k) []) (X.length - (m + 1)) = List.map enc (X.drop (m + 1)) := by
        rw [win_drop (by simp; omega), List.take_of_length_le (by simp), List.map_drop]
      rw [hn]
      have hpt : putAt (List.map enc (X.take m)) m (List.map enc (X.drop (m + 1))) = List.map enc (X.take m) ++ List.map enc (X.drop (m + 1)) := putAt_end (by simp; omega)
      rcases Nat.eq_zero_or_pos m with h0 | h0 <;> rcases Nat.eq_zero_or_pos (X.length - (m + 1)) with hr | hr
      · have hdr : X.drop (m + 1) = [] := List.drop_eq_nil_of_le (by omega)
        have htk : X.take m = [] := by rw [h0]; rfl
        have hl2 : X.length - 1 = 0 := by omega
        simp only [↓WP, ↓grdD, ↓grdT, ↓un_dead, ↓binVC, ↓buildVC, ↓sliceVC, WQ, WN, Int.reduceToNat, renl, cll, rent, clt, ↓reduceIte, Nat.reduceLeDiff, Nat.reduceEqDiff, Nat.reduceLT, reduceCtorEq, List.append_nil, Nat.reduceAdd, Nat.reduceSub, Nat.reduceBEq, forall_const, implies_true, cond_true, cond_false, AV.ren, AC.ren, AV.cl, AC.cl, eq_self, List.all_cons, List.all_nil, AV.eqv, AC.eqv, eqvl, eqvt, Sl.eqv, List.map_append, List.length_map, List.length_append, List.length_replicate, List.length_set, List.map_replicate, nilVC, zr_29, sz_29, fs_29, el_27, zr_53, fl_29_0, sz_27, c_spec_SchedOk, c_spec_l33Copy, c_spec_l33At, hX, decide_eq_true hok, ← hj, hlt, htn, w64 (n := (m : Int) + 1) (by omega) (by omega), Nat.sub_zero, hw1, hw2, hml, hpt, hr, hdr, htk]
        repeat' (first | with_reducible refine And.intro ?_ ?_ | intro _)
        all_goals try omega
        all_goals try rfl
        all_goals try assumption
        all_goals try exact .inl trivial
        refine end_ret ?_
        simp only [↓WP, ↓grdD, ↓grdT, ↓un_dead, ↓binVC, ↓buildVC, ↓sliceVC, WQ, WN, Int.reduceToNat, renl, cll, rent, clt, ↓reduceIte, Nat.reduceLeDiff, Nat.reduceEqDiff, Nat.reduceLT, reduceCtorEq, List.append_nil, Nat.reduceAdd, Nat.reduceSub, Nat.reduceBEq, forall_const, implies_true, cond_true, cond_false, AV.ren, AC.ren, AV.cl, AC.cl, eq_self, List.all_cons, List.all_nil, AV.eqv, AC.eqv, eqvl, eqvt, Sl.eqv, List.map_append, List.length_map, List.length_append, List.length_replicate, List.length_set, List.map_replicate, nilVC, zr_29, sz_29, fs_29, el_27, zr_53, fl_29_0, sz_27, c_spec_SchedOk, c_spec_l33Copy, c_spec_l33At, hl2]
        refine ⟨0, [(53, 3)], [4], ?_⟩
        simp only [WL, WNL, swA_new, swA_ne, nest_sw_ne, mapLL, List.mem_cons, Nat.reduceAdd, Nat.reduceLT, Nat.reduceLeDiff, Nat.reduceEqDiff, okU, List.nodup_cons, List.not_mem_nil, toT, toL, toO, keysO, renl, rent, cll, clt, eq_self, AV.eqv, AC.eqv, eqvl, eqvt, Sl.eqv, rowsLe, mapLL, rowsCl, List.map_append, List.length_map, List.length_append, List.length_set, List.map_replicate, rowG, List.getElem?_cons_zero, List.getElem?_cons_succ, List.getElem?_nil, List.append_nil, List.nil_append, List.cons_append, ghosts, St.gh, Option.some.injEq, implies_true, setT, AV.ren, AC.ren, AV.cl, AC.cl, List.replicate_succ, List.replicate_zero, List.nodup_nil, List.length_nil, List.length_cons, List.getD_cons_zero, List.getD_cons_succ, ↓reduceIte, retP, hl2]
        exact .inl trivial
      · have htk : X.take m = [] := by rw [h0]; rfl
        have hm0 : X.length - (m + 1) = X.length - 1 := by omega
        have hl2 : (X.drop (m + 1)).length = X.length - 1 := by simp; omega
        simp only [↓WP, ↓grdD, ↓grdT, ↓un_dead, ↓binVC, ↓buildVC, ↓sliceVC, WQ, WN, Int.reduceToNat, renl, cll, rent, clt, ↓reduceIte, Nat.reduceLeDiff, Nat.reduceEqDiff, Nat.reduceLT, reduceCtorEq, List.append_nil, Nat.reduceAdd, Nat.reduceSub, Nat.reduceBEq, forall_const, implies_true, cond_true, cond_false, AV.ren, AC.ren, AV.cl, AC.cl, eq_self, List.all_cons, List.all_nil, AV.eqv, AC.eqv, eqvl, eqvt, Sl.eqv, List.map_append, List.length_map, List.length_append, List.length_replicate, List.length_set, List.map_replicate, nilVC, zr_29, sz_29, fs_29, el_27, zr_53, fl_29_0, sz_27, c_spec_SchedOk, c_spec_l33Copy, c_spec_l33At, hX, decide_eq_true hok, ← hj, hlt, htn, w64 (n := (m : Int) + 1) (by omega) (by omega), Nat.sub_zero, hw1, hw2, hml, hpt, htk]
        repeat' (first | with_reducible refine And.intro ?_ ?_ | intro _)
        all_goals try omega
        all_goals try rfl
        all_goals try assumption
        all_goals try exact .inl trivial
        rename_i k hk _
        refine end_ret ?_
        simp only [↓WP, ↓grdD, ↓grdT, ↓un_dead, ↓binVC, ↓buildVC, ↓sliceVC, WQ, WN, Int.reduceToNat, renl, cll, rent, clt, ↓reduceIte, Nat.reduceLeDiff, Nat.reduceEqDiff, Nat.reduceLT, reduceCtorEq, List.append_nil, Nat.reduceAdd, Nat.reduceSub, Nat.reduceBEq, forall_const, implies_true, cond_true, cond_false, AV.ren, AC.ren, AV.cl, AC.cl, eq_self, List.all_cons, List.all_nil, AV.eqv, AC.eqv, eqvl, eqvt, Sl.eqv, List.map_append, List.length_map, List.length_append, List.length_replicate, List.length_set, List.map_replicate, nilVC, zr_29, sz_29, fs_29, el_27, zr_53, fl_29_0, sz_27, c_spec_SchedOk, c_spec_l33Copy, c_spec_l33At, hl2]
        refine ⟨k, [], [4], ?_⟩
        simp only [WL, WNL, swA_new, swA_ne, nest_sw_ne, mapLL, List.mem_cons, Nat.reduceAdd, Nat.reduceLT, Nat.reduceLeDiff, Nat.reduceEqDiff, okU, List.nodup_cons, List.not_mem_nil, toT, toL, toO, keysO, renl, rent, cll, clt, eq_self, AV.eqv, AC.eqv, eqvl, eqvt, Sl.eqv, rowsLe, mapLL, rowsCl, List.map_append, List.length_map, List.length_append, List.length_set, List.map_replicate, rowG, List.getElem?_cons_zero, List.getElem?_cons_succ, List.getElem?_nil, List.append_nil, List.nil_append, List.cons_append, ghosts, St.gh, Option.some.injEq, implies_true, setT, AV.ren, AC.ren, AV.cl, AC.cl, List.replicate_succ, List.replicate_zero, List.nodup_nil, List.length_nil, List.length_cons, List.getD_cons_zero, List.getD_cons_succ, ↓reduceIte, retP, hl2, hm0]
        omega
      · have hdr : X.drop (m + 1) = [] := List.drop_eq_nil_of_le (by omega)
        have hm0 : X.length - 1 = m := by omega
        have hl2 : (X.take m).length = m := by simp; omega
        simp only [↓WP, ↓grdD, ↓grdT, ↓un_dead, ↓binVC, ↓buildVC, ↓sliceVC, WQ, WN, Int.reduceToNat, renl, cll, rent, clt, ↓reduceIte, Nat.reduceLeDiff, Nat.reduceEqDiff, Nat.reduceLT, reduceCtorEq, List.append_nil, Nat.reduceAdd, Nat.reduceSub, Nat.reduceBEq, forall_const, implies_true, cond_true, cond_false, AV.ren, AC.ren, AV.cl, AC.cl, eq_self, List.all_cons, List.all_nil, AV.eqv, AC.eqv, eqvl, eqvt, Sl.eqv, List.map_append, List.length_map, List.length_append, List.length_replicate, List.length_set, List.map_replicate, nilVC, zr_29, sz_29, fs_29, el_27, zr_53, fl_29_0, sz_27, c_spec_SchedOk, c_spec_l33Copy, c_spec_l33At, hX, decide_eq_true hok, ← hj, hlt, htn, w64 (n := (m : Int) + 1) (by omega) (by omega), Nat.sub_zero, hw1, hw2, hml, hpt, hr, hdr]
        repeat' (first | with_reducible refine And.intro ?_ ?_ | intro _)
        all_goals try omega
        all_goals try rfl
        all_goals try assumption
        all_goals try exact .inl trivial
        rename_i k hk _
        refine end_ret ?_
        simp only [↓WP, ↓grdD, ↓grdT, ↓un_dead, ↓binVC, ↓buildVC, ↓sliceVC, WQ, WN, Int.reduceToNat, renl, cll, rent, clt, ↓reduceIte, Nat.reduceLeDiff, Nat.reduceEqDiff, Nat.reduceLT, reduceCtorEq, List.append_nil, Nat.reduceAdd, Nat.reduceSub, Nat.reduceBEq, forall_const, implies_true, cond_true, cond_false, AV.ren, AC.ren, AV.cl, AC.cl, eq_self, List.all_cons, List.all_nil, AV.eqv, AC.eqv, eqvl, eqvt, Sl.eqv, List.map_append, List.length_map, List.length_append, List.length_replicate, List.length_set, List.map_replicate, nilVC, zr_29, sz_29, fs_29, el_27, zr_53, fl_29_0, sz_27, c_spec_SchedOk, c_spec_l33Copy, c_spec_l33At, hl2]
        refine ⟨k, [], [4], ?_⟩
        simp only [WL, WNL, swA_new, swA_ne, nest_sw_ne, mapLL, List.mem_cons, Nat.reduceAdd, Nat.reduceLT, Nat.reduceLeDiff, Nat.reduceEqDiff, okU, List.nodup_cons, List.not_mem_nil, toT, toL, toO, keysO, renl, rent, cll, clt, eq_self, AV.eqv, AC.eqv, eqvl, eqvt, Sl.eqv, rowsLe, mapLL, rowsCl, List.map_append, List.length_map, List.length_append, List.length_set, List.map_replicate, rowG, List.getElem?_cons_zero, List.getElem?_cons_succ, List.getElem?_nil, List.append_nil, List.nil_append, List.cons_append, ghosts, St.gh, Option.some.injEq, implies_true, setT, AV.ren, AC.ren, AV.cl, AC.cl, List.replicate_succ, List.replicate_zero, List.nodup_nil, List.length_nil, List.length_cons, List.getD_cons_zero, List.getD_cons_succ, ↓reduceIte, retP, hl2, hm0]
        omega
      · have hlm : (X.take m).length = m := by simp; omega
        have hld : (X.drop (m + 1)).length = X.length - (m + 1) := by simp
        have hw3 : win (fun k => (List.map enc (X.take m)).getD k []) m = List.map enc (X.take m) := win_whole (by simp; omega)
        simp only [↓WP, ↓grdD, ↓grdT, ↓un_dead, ↓binVC, ↓buildVC, ↓sliceVC, WQ, WN, Int.reduceToNat, renl, cll, rent, clt, ↓reduceIte, Nat.reduceLeDiff, Nat.reduceEqDiff, Nat.reduceLT, reduceCtorEq, List.append_nil, Nat.reduceAdd, Nat.reduceSub, Nat.reduceBEq, forall_const, implies_true, cond_true, cond_false, AV.ren, AC.ren, AV.cl, AC.cl, eq_self, List.all_cons, List.all_nil, AV.eqv, AC.eqv, eqvl, eqvt, Sl.eqv, List.map_append, List.length_map, List.length_append, List.length_replicate, List.length_set, List.map_replicate, nilVC, zr_29, sz_29, fs_29, el_27, zr_53, fl_29_0, sz_27, c_spec_SchedOk, c_spec_l33Copy, c_spec_l33At, hX, decide_eq_true hok, ← hj, hlt, htn, w64 (n := (m : Int) + 1) (by omega) (by omega), Nat.sub_zero, hw1, hw2, hml, hpt, hlm, hld, hw3]
        repeat' (first | with_reducible refine And.intro ?_ ?_ | intro _)
        all_goals try omega
        all_goals try rfl
        all_goals try assumption
        all_goals try exact .inl trivial
        all_goals try exact .inr trivial
        · rename_i k _ _ _ hk
          refine end_ret ?_
          simp only [↓WP, ↓grdD, ↓grdT, ↓un_dead, ↓binVC, ↓buildVC, ↓sliceVC, WQ, WN, Int.reduceToNat, renl, cll, rent, clt, ↓reduceIte, Nat.reduceLeDiff, Nat.reduceEqDiff, Nat.reduceLT, reduceCtorEq, List.append_nil, Nat.reduceAdd, Nat.reduceSub, Nat.reduceBEq, forall_const, implies_true, cond_true, cond_false, AV.ren, AC.ren, AV.cl, AC.cl, eq_self, List.all_cons, List.all_nil, AV.eqv, AC.eqv, eqvl, eqvt, Sl.eqv, List.map_append, List.length_map, List.length_append, List.length_replicate, List.length_set, List.map_replicate, nilVC, zr_29, sz_29, fs_29, el_27, zr_53, fl_29_0, sz_27, c_spec_SchedOk, c_spec_l33Copy, c_spec_l33At, hlm, hld, hml]
          refine ⟨k, [], [4], ?_⟩
          simp only [WL, WNL, swA_new, swA_ne, nest_sw_ne, mapLL, List.mem_cons, Nat.reduceAdd, Nat.reduceLT, Nat.reduceLeDiff, Nat.reduceEqDiff, okU, List.nodup_cons, List.not_mem_nil, toT, toL, toO, keysO, renl, rent, cll, clt, eq_self, AV.eqv, AC.eqv, eqvl, eqvt, Sl.eqv, rowsLe, mapLL, rowsCl, List.map_append, List.length_map, List.length_append, List.length_set, List.map_replicate, rowG, List.getElem?_cons_zero, List.getElem?_cons_succ, List.getElem?_nil, List.append_nil, List.nil_append, List.cons_append, ghosts, St.gh, Option.some.injEq, implies_true, setT, AV.ren, AC.ren, AV.cl, AC.cl, List.replicate_succ, List.replicate_zero, List.nodup_nil, List.length_nil, List.length_cons, List.getD_cons_zero, List.getD_cons_succ, ↓reduceIte, retP, hlm, hld, hml]
          try omega
        · rename_i k hk _
          refine end_ret ?_
          simp only [↓WP, ↓grdD, ↓grdT, ↓un_dead, ↓binVC, ↓buildVC, ↓sliceVC, WQ, WN, Int.reduceToNat, renl, cll, rent, clt, ↓reduceIte, Nat.reduceLeDiff, Nat.reduceEqDiff, Nat.reduceLT, reduceCtorEq, List.append_nil, Nat.reduceAdd, Nat.reduceSub, Nat.reduceBEq, forall_const, implies_true, cond_true, cond_false, AV.ren, AC.ren, AV.cl, AC.cl, eq_self, List.all_cons, List.all_nil, AV.eqv, AC.eqv, eqvl, eqvt, Sl.eqv, List.map_append, List.length_map, List.length_append, List.length_replicate, List.length_set, List.map_replicate, nilVC, zr_29, sz_29, fs_29, el_27, zr_53, fl_29_0, sz_27, c_spec_SchedOk, c_spec_l33Copy, c_spec_l33At, hlm, hld, hml]
          refine ⟨k, [], [5], ?_⟩
          simp only [WL, WNL, swA_new, swA_ne, nest_sw_ne, mapLL, List.mem_cons, Nat.reduceAdd, Nat.reduceLT, Nat.reduceLeDiff, Nat.reduceEqDiff, okU, List.nodup_cons, List.not_mem_nil, toT, toL, toO, keysO, renl, rent, cll, clt, eq_self, AV.eqv, AC.eqv, eqvl, eqvt, Sl.eqv, rowsLe, mapLL, rowsCl, List.map_append, List.length_map, List.length_append, List.length_set, List.map_replicate, rowG, List.getElem?_cons_zero, List.getElem?_cons_succ, List.getElem?_nil, List.append_nil, List.nil_append, List.cons_append, ghosts, St.gh, Option.some.injEq, implies_true, setT, AV.ren, AC.ren, AV.cl, AC.cl, List.replicate_succ, List.replicate_zero, List.nodup_nil, List.length_nil, List.length_cons, List.getD_cons_zero, List.getD_cons_succ, ↓reduceIte, retP, hlm, hld, hml]
          try omega
    · have hn : dropOf X t v = (X, t, false) := by rw [dropOf, if_pos hok, ← hj, if_neg h2]
      have hlt : decide (j < 0) = true := by simp; omega
      rw [hn]
      simp only [↓WP, ↓grdD, ↓grdT, ↓un_dead, ↓binVC, ↓buildVC, ↓sliceVC, WQ, WN, Int.reduceToNat, renl, cll, rent, clt, ↓reduceIte, Nat.reduceLeDiff, Nat.reduceEqDiff, Nat.reduceLT, reduceCtorEq, List.append_nil, Nat.reduceAdd, Nat.reduceSub, Nat.reduceBEq, forall_const, implies_true, cond_true, cond_false, AV.ren, AC.ren, AV.cl, AC.cl, eq_self, List.all_cons, List.all_nil, AV.eqv, AC.eqv, eqvl, eqvt, Sl.eqv, List.map_append, List.length_map, List.length_append, List.length_replicate, List.length_set, List.map_replicate, nilVC, zr_29, sz_29, fs_29, el_27, zr_53, fl_29_0, sz_27, c_spec_SchedOk, c_spec_l33Copy, c_spec_l33At, hX, decide_eq_true hok, ← hj, hlt]
      refine ⟨hrow, hrow, fun k hk => ⟨hrow, end_ret ?_⟩⟩
      simp only [↓WP, ↓grdD, ↓grdT, ↓un_dead, ↓binVC, ↓buildVC, ↓sliceVC, WQ, WN, Int.reduceToNat, renl, cll, rent, clt, ↓reduceIte, Nat.reduceLeDiff, Nat.reduceEqDiff, Nat.reduceLT, reduceCtorEq, List.append_nil, Nat.reduceAdd, Nat.reduceSub, Nat.reduceBEq, forall_const, implies_true, cond_true, cond_false, AV.ren, AC.ren, AV.cl, AC.cl, eq_self, List.all_cons, List.all_nil, AV.eqv, AC.eqv, eqvl, eqvt, Sl.eqv, List.map_append, List.length_map, List.length_append, List.length_replicate, List.length_set, List.map_replicate, nilVC, zr_29, sz_29, fs_29, el_27, zr_53, fl_29_0, sz_27, c_spec_SchedOk, c_spec_l33Copy, c_spec_l33At]
      refine ⟨k, [], [2], ?_⟩
      simp only [WL, WNL, swA_new, swA_ne, nest_sw_ne, mapLL, List.mem_cons, Nat.reduceAdd, Nat.reduceLT, Nat.reduceLeDiff, Nat.reduceEqDiff, okU, List.nodup_cons, List.not_mem_nil, toT, toL, toO, keysO, renl, rent, cll, clt, eq_self, AV.eqv, AC.eqv, eqvl, eqvt, Sl.eqv, rowsLe, mapLL, rowsCl, List.map_append, List.length_map, List.length_append, List.length_set, List.map_replicate, rowG, List.getElem?_cons_zero, List.getElem?_cons_succ, List.getElem?_nil, List.append_nil, List.nil_append, List.cons_append, ghosts, St.gh, Option.some.injEq, implies_true, setT, AV.ren, AC.ren, AV.cl, AC.cl, List.replicate_succ, List.replicate_zero, List.nodup_nil, List.length_nil, List.length_cons, List.getD_cons_zero, List.getD_cons_succ, ↓reduceIte, retP]
      simp [hk]
  · have hn : dropOf X t v = ([], 0, false) := by rw [dropOf, if_neg hok]
    rw [hn]
    simp only [↓WP, ↓grdD, ↓grdT, ↓un_dead, ↓binVC, ↓buildVC, ↓sliceVC, WQ, WN, Int.reduceToNat, renl, cll, rent, clt, ↓reduceIte, Nat.reduceLeDiff, Nat.reduceEqDiff, Nat.reduceLT, reduceCtorEq, List.append_nil, Nat.reduceAdd, Nat.reduceSub, Nat.reduceBEq, forall_const, implies_true, cond_true, cond_false, AV.ren, AC.ren, AV.cl, AC.cl, eq_self, List.all_cons, List.all_nil, AV.eqv, AC.eqv, eqvl, eqvt, Sl.eqv, List.map_append, List.length_map, List.length_append, List.length_replicate, List.length_set, List.map_replicate, nilVC, zr_29, sz_29, fs_29, el_27, zr_53, fl_29_0, sz_27, c_spec_SchedOk, c_spec_l33Copy, c_spec_l33At, hX, decide_eq_false hok]
    refine ⟨hrow, end_ret ?_⟩
    simp only [↓WP, ↓grdD, ↓grdT, ↓un_dead, ↓binVC, ↓buildVC, ↓sliceVC, WQ, WN, Int.reduceToNat, renl, cll, rent, clt, ↓reduceIte, Nat.reduceLeDiff, Nat.reduceEqDiff, Nat.reduceLT, reduceCtorEq, List.append_nil, Nat.reduceAdd, Nat.reduceSub, Nat.reduceBEq, forall_const, implies_true, cond_true, cond_false, AV.ren, AC.ren, AV.cl, AC.cl, eq_self, List.all_cons, List.all_nil, AV.eqv, AC.eqv, eqvl, eqvt, Sl.eqv, List.map_append, List.length_map, List.length_append, List.length_replicate, List.length_set, List.map_replicate, nilVC, zr_29, sz_29, fs_29, el_27, zr_53, fl_29_0, sz_27, c_spec_SchedOk, c_spec_l33Copy, c_spec_l33At]
    refine ⟨0, [(53, 3)], [2], ?_⟩
    simp [WL, WNL, swA_new, swA_ne, nest_sw_ne, mapLL, List.mem_cons, Nat.reduceAdd, Nat.reduceLT, Nat.reduceLeDiff, Nat.reduceEqDiff, okU, List.nodup_cons, List.not_mem_nil, toT, toL, toO, keysO, renl, rent, cll, clt, eq_self, AV.eqv, AC.eqv, eqvl, eqvt, Sl.eqv, rowsLe, mapLL, rowsCl, List.map_append, List.length_map, List.length_append, List.length_set, List.map_replicate, rowG, List.getElem?_cons_zero, List.getElem?_cons_succ, List.getElem?_nil, List.append_nil, List.nil_append, List.cons_append, ghosts, St.gh, Option.some.injEq, implies_true, setT, AV.ren, AC.ren, AV.cl, AC.cl, List.replicate_succ, List.replicate_zero, List.nodup_nil, List.length_nil, List.length_cons, List.getD_cons_zero, List.getD_cons_succ, ↓reduceIte, retP]

def c_laws_FnExactSchedDrop : Contract := ⟨6, fun args M => match args with
  | [.agg [.sl a n c, .int .i64 _], .c (.int .i64 _)] => .pure ((n ≤ 9223372036854775807 ∧ n ≤ c) ∧ (n ≤ 4294967296 → RowOk T3 a n (M a.r))) (Eng.B true)
  | _ => .bad⟩
theorem ok_laws_FnExactSchedDrop : fnP Try.prog c_laws_FnExactSchedDrop.f = true ∧ ∀ args M, (c_laws_FnExactSchedDrop.sp args M).OK Try.prog c_laws_FnExactSchedDrop.f args M := by
  refine ⟨fp_6, fun args M => ?_⟩
  unfold c_laws_FnExactSchedDrop
  dsimp only
  split
  case h_2 => trivial
  rename_i a n c t v
  rintro ⟨⟨hn, hc⟩, hrow⟩
  refine goIn hf_6 rfl (nt := 101) rfl (rs := [.tmp 4]) rfl (C := [c_laws_szSched, c_laws_toSched, c_spec_SchedDrop, c_impl_SchedDrop, c_laws_eqSched, c_laws_markSched, c_laws_heldSched]) ⟨(by first | exact .inl ok_laws_szSched | exact ok_laws_szSched), (by first | exact .inl ok_laws_toSched | exact ok_laws_toSched), (by first | exact .inl ok_spec_SchedDrop | exact ok_spec_SchedDrop), (by first | exact .inl ok_impl_SchedDrop | exact ok_impl_SchedDrop), (by first | exact .inl ok_laws_eqSched | exact ok_laws_eqSched), (by first | exact .inl ok_laws_markSched | exact ok_laws_markSched), (by first | exact .inl ok_laws_heldSched | exact ok_laws_heldSched), trivial⟩ (q := fun f => [11, 13].contains f) ⟨fun h => absurd h (by decide), fun _ => q_laws_toSched, fun h => absurd h (by decide), fun h => absurd h (by decide), fun _ => q_laws_eqSched, fun h => absurd h (by decide), fun h => absurd h (by decide), trivial⟩ mixed (O := ots [(10, otl [0, 1, 2, 3, 4] .nil)]) (by kernel_rfl) ?_
  rcases Nat.lt_or_ge 1048576 n with hb | hb
  · simp only [↓WP, ↓grdD, ↓grdT, ↓un_dead, ↓binVC, ↓buildVC, ↓sliceVC, WQ, WN, Int.reduceToNat, renl, cll, rent, clt, ↓reduceIte, Nat.reduceLeDiff, Nat.reduceEqDiff, Nat.reduceLT, reduceCtorEq, List.append_nil, Nat.reduceAdd, Nat.reduceSub, Nat.reduceBEq, forall_const, implies_true, cond_true, cond_false, AV.ren, AC.ren, AV.cl, AC.cl, eq_self, List.all_cons, List.all_nil, AV.eqv, AC.eqv, eqvl, eqvt, Sl.eqv, List.map_append, List.length_map, List.length_append, List.length_replicate, List.length_set, List.map_replicate, nilVC, sz_24, zr_29, sz_29, bt_4, c_laws_szSched, c_laws_toSched, c_spec_SchedDrop, c_impl_SchedDrop, c_laws_eqSched, c_laws_markSched, c_laws_heldSched, if_pos (show (1048576 : Int) < n by omega)]
    simp
    omega
  · have hrow := hrow (by omega)
    obtain ⟨hs, X, hX, rfl, hat⟩ := hrow.x
    have hb2 : X.length ≤ 4294967296 := by omega
    obtain ⟨R, hR⟩ : ∃ R, R = dropOf X t v := ⟨_, rfl⟩
    have hbb : ∀ b : Bool, (b != b) = false := by decide
    simp only [↓WP, ↓grdD, ↓grdT, ↓un_dead, ↓binVC, ↓buildVC, ↓sliceVC, WQ, WN, Int.reduceToNat, renl, cll, rent, clt, ↓reduceIte, Nat.reduceLeDiff, Nat.reduceEqDiff, Nat.reduceLT, reduceCtorEq, List.append_nil, Nat.reduceAdd, Nat.reduceSub, Nat.reduceBEq, forall_const, implies_true, cond_true, cond_false, AV.ren, AC.ren, AV.cl, AC.cl, eq_self, List.all_cons, List.all_nil, AV.eqv, AC.eqv, eqvl, eqvt, Sl.eqv, List.map_append, List.length_map, List.length_append, List.length_replicate, List.length_set, List.map_replicate, nilVC, sz_24, zr_29, sz_29, bt_4, c_laws_szSched, c_laws_toSched, c_spec_SchedDrop, c_impl_SchedDrop, c_laws_eqSched, c_laws_markSched, c_laws_heldSched, if_neg (show ¬ (1048576 : Int) < X.length by omega), hrow, hX, ← hR, hbb]
    have hl : R.1.length ≤ X.length := by rw [hR]; exact dropOf_len X t v
    simp
    repeat' (first | with_reducible refine And.intro ?_ ?_ | intro _)
    all_goals omega
end Go.Eng.T
