/- wheel: WheelDrop. -/
import Derived.Test.YtmeedopbpdfeaaaFn4
set_option linter.unusedVariables false
set_option linter.unusedSimpArgs false
set_option linter.unusedSectionVars false
namespace Go.Eng.T
open Go.Proofs
open Cel (enc dec)
set_option maxRecDepth 100000
set_option maxHeartbeats 4000000
def dropW (u v : Int) (X : List T3) (d : Int) : Int × Int × List T3 × Bool :=
  if wheelOk u v X then (if 0 ≤ idx (fun x : T3 => decide (x.1 = d)) X then (u, v, X.take (idx (fun x : T3 => decide (x.1 = d)) X).toNat ++ X.drop ((idx (fun x : T3 => decide (x.1 = d)) X).toNat + 1), true) else (u, v, X, false)) else (0, 0, [], false)
theorem dropW_len (u v : Int) (X : List T3) (d : Int) : (dropW u v X d).2.2.1.length ≤ X.length := by
  unfold dropW
  split
  · split
    · simp; omega
    · exact Nat.le_refl _
  · exact Nat.zero_le _
def c_impl_WheelDrop : Contract := ⟨18, fun args M => match args with
  | [.agg [.int .i64 u, .int .i64 v, .sl a n c], .c (.int .i64 d)] => .eff (RowOk T3 a n (M a.r) ∧ n ≤ c) Nat (fun k => (dropW u v (row T3 a n (M a.r)) d).2.2.1.length ≤ k) (fun k => .tup [(true, [.int .i64 (dropW u v (row T3 a n (M a.r)) d).1, .int .i64 (dropW u v (row T3 a n (M a.r)) d).2.1, .sl ⟨.loc 0, 0, 0, 0⟩ (dropW u v (row T3 a n (M a.r)) d).2.2.1.length k]), (false, [.bool (dropW u v (row T3 a n (M a.r)) d).2.2.2])]) (fun k => [rowG true 51 k (dropW u v (row T3 a n (M a.r)) d).2.2.1]) (fun _ => [])
  | _ => .bad⟩
theorem ok_impl_WheelDrop : fnP Try.prog c_impl_WheelDrop.f = true ∧ ∀ args M, (c_impl_WheelDrop.sp args M).OK Try.prog c_impl_WheelDrop.f args M := by
  refine ⟨fp_18, fun args M => ?_⟩
  unfold c_impl_WheelDrop
  dsimp only
  split
  case h_2 => trivial
  rename_i u v a n c d
  rintro ⟨hrow, hc⟩
  obtain ⟨hs, X, hX, rfl, hat⟩ := hrow.x
  rw [hX]
  refine goIn hf_18 rfl (nt := 28) rfl (rs := [.cell 4 29, .tmp 5]) rfl (C := [c_impl_WheelOk, c_impl_cloneWheel, c_impl_timerAt, c_slices_Delete_Timer]) ⟨(by first | exact .inl ok_impl_WheelOk | exact ok_impl_WheelOk), (by first | exact .inl ok_impl_cloneWheel | exact ok_impl_cloneWheel), (by first | exact .inl ok_impl_timerAt | exact ok_impl_timerAt), (by first | exact .inl ok_slices_Delete_Timer | exact ok_slices_Delete_Timer), trivial⟩ (q := fun _ => false) okQ_none mixed (O := fun _ => .nil) (by kernel_rfl) ?_
  by_cases hok : wheelOk u v X
  · obtain ⟨j, hj⟩ : ∃ j, j = idx (fun x : T3 => decide (x.1 = d)) X := ⟨_, rfl⟩
    have hjr := idx_range (fun x : T3 => decide (x.1 = d)) X
    rw [← hj] at hjr
    by_cases h2 : 0 ≤ j
    · obtain ⟨m, rfl⟩ : ∃ m : Nat, j = m := ⟨j.toNat, by omega⟩
      have hn : dropW u v X d = (u, v, X.take m ++ X.drop (m + 1), true) := by rw [dropW, if_pos hok, ← hj, if_pos h2, Int.toNat_natCast]
      have hlt : decide ((m : Int) < 0) = false := by simp
      rw [hn]
      simp only [↓WP, ↓grdD, ↓grdT, ↓un_dead, ↓binVC, ↓buildVC, ↓sliceVC, WQ, WN, Int.reduceToNat, renl, cll, rent, clt, ↓reduceIte, Nat.reduceLeDiff, Nat.reduceEqDiff, Nat.reduceLT, reduceCtorEq, List.append_nil, Nat.reduceAdd, Nat.reduceSub, Nat.reduceBEq, forall_const, implies_true, cond_true, cond_false, AV.ren, AC.ren, AV.cl, AC.cl, eq_self, List.all_cons, List.all_nil, AV.eqv, AC.eqv, eqvl, eqvt, Sl.eqv, List.map_append, List.length_map, List.length_append, List.length_replicate, List.length_set, List.map_replicate, nilVC, zr_29, sz_29, fs_29, fl_29_2, sz_27, c_impl_WheelOk, c_impl_cloneWheel, c_impl_timerAt, c_slices_Delete_Timer, hX, decide_eq_true hok, ← hj, hlt, w64 (n := (m : Int) + 1) (by omega) (by omega)]
      refine ⟨hrow, ⟨hrow, hc⟩, fun k hk => ⟨hrow, ⟨hs, by omega, by omega, hk⟩, end_ret ?_⟩⟩
      have hl2 : (X.take m).length + (X.drop (m + 1)).length = X.length - 1 := by simp; omega
      simp only [↓WP, ↓grdD, ↓grdT, ↓un_dead, ↓binVC, ↓buildVC, ↓sliceVC, WQ, WN, Int.reduceToNat, renl, cll, rent, clt, ↓reduceIte, Nat.reduceLeDiff, Nat.reduceEqDiff, Nat.reduceLT, reduceCtorEq, List.append_nil, Nat.reduceAdd, Nat.reduceSub, Nat.reduceBEq, forall_const, implies_true, cond_true, cond_false, AV.ren, AC.ren, AV.cl, AC.cl, eq_self, List.all_cons, List.all_nil, AV.eqv, AC.eqv, eqvl, eqvt, Sl.eqv, List.map_append, List.length_map, List.length_append, List.length_replicate, List.length_set, List.map_replicate, nilVC, zr_29, sz_29, fs_29, fl_29_2, sz_27, c_impl_WheelOk, c_impl_cloneWheel, c_impl_timerAt, c_slices_Delete_Timer, hl2]
      refine ⟨k, [], [2], ?_⟩
      simp only [WL, WNL, swA_new, swA_ne, nest_sw_ne, mapLL, List.mem_cons, Nat.reduceAdd, Nat.reduceLT, Nat.reduceLeDiff, Nat.reduceEqDiff, okU, List.nodup_cons, List.not_mem_nil, toT, toL, toO, keysO, renl, rent, cll, clt, eq_self, AV.eqv, AC.eqv, eqvl, eqvt, Sl.eqv, rowsLe, mapLL, rowsCl, List.map_append, List.length_map, List.length_append, List.length_set, List.map_replicate, rowG, List.getElem?_cons_zero, List.getElem?_cons_succ, List.getElem?_nil, List.append_nil, List.nil_append, List.cons_append, ghosts, St.gh, Option.some.injEq, implies_true, setT, AV.ren, AC.ren, AV.cl, AC.cl, List.replicate_succ, List.replicate_zero, List.nodup_nil, List.length_nil, List.length_cons, List.getD_cons_zero, List.getD_cons_succ, ↓reduceIte, retP, hl2]
      have : X.length - 1 ≤ k := by omega
      simp [this]
    · have hn : dropW u v X d = (u, v, X, false) := by rw [dropW, if_pos hok, ← hj, if_neg h2]
      have hlt : decide (j < 0) = true := by simp; omega
      rw [hn]
      simp only [↓WP, ↓grdD, ↓grdT, ↓un_dead, ↓binVC, ↓buildVC, ↓sliceVC, WQ, WN, Int.reduceToNat, renl, cll, rent, clt, ↓reduceIte, Nat.reduceLeDiff, Nat.reduceEqDiff, Nat.reduceLT, reduceCtorEq, List.append_nil, Nat.reduceAdd, Nat.reduceSub, Nat.reduceBEq, forall_const, implies_true, cond_true, cond_false, AV.ren, AC.ren, AV.cl, AC.cl, eq_self, List.all_cons, List.all_nil, AV.eqv, AC.eqv, eqvl, eqvt, Sl.eqv, List.map_append, List.length_map, List.length_append, List.length_replicate, List.length_set, List.map_replicate, nilVC, zr_29, sz_29, fs_29, fl_29_2, sz_27, c_impl_WheelOk, c_impl_cloneWheel, c_impl_timerAt, c_slices_Delete_Timer, hX, decide_eq_true hok, ← hj, hlt]
      refine ⟨hrow, ⟨hrow, hc⟩, fun k hk => ⟨hrow, end_ret ?_⟩⟩
      simp only [↓WP, ↓grdD, ↓grdT, ↓un_dead, ↓binVC, ↓buildVC, ↓sliceVC, WQ, WN, Int.reduceToNat, renl, cll, rent, clt, ↓reduceIte, Nat.reduceLeDiff, Nat.reduceEqDiff, Nat.reduceLT, reduceCtorEq, List.append_nil, Nat.reduceAdd, Nat.reduceSub, Nat.reduceBEq, forall_const, implies_true, cond_true, cond_false, AV.ren, AC.ren, AV.cl, AC.cl, eq_self, List.all_cons, List.all_nil, AV.eqv, AC.eqv, eqvl, eqvt, Sl.eqv, List.map_append, List.length_map, List.length_append, List.length_replicate, List.length_set, List.map_replicate, nilVC, zr_29, sz_29, fs_29, fl_29_2, sz_27, c_impl_WheelOk, c_impl_cloneWheel, c_impl_timerAt, c_slices_Delete_Timer]
      refine ⟨k, [], [2], ?_⟩
      simp only [WL, WNL, swA_new, swA_ne, nest_sw_ne, mapLL, List.mem_cons, Nat.reduceAdd, Nat.reduceLT, Nat.reduceLeDiff, Nat.reduceEqDiff, okU, List.nodup_cons, List.not_mem_nil, toT, toL, toO, keysO, renl, rent, cll, clt, eq_self, AV.eqv, AC.eqv, eqvl, eqvt, Sl.eqv, rowsLe, mapLL, rowsCl, List.map_append, List.length_map, List.length_append, List.length_set, List.map_replicate, rowG, List.getElem?_cons_zero, List.getElem?_cons_succ, List.getElem?_nil, List.append_nil, List.nil_append, List.cons_append, ghosts, St.gh, Option.some.injEq, implies_true, setT, AV.ren, AC.ren, AV.cl, AC.cl, List.replicate_succ, List.replicate_zero, List.nodup_nil, List.length_nil, List.length_cons, List.getD_cons_zero, List.getD_cons_succ, ↓reduceIte, retP]
      simp [hk]
  · have hn : dropW u v X d = (0, 0, [], false) := by rw [dropW, if_neg hok]
    rw [hn]
    simp only [↓WP, ↓grdD, ↓grdT, ↓un_dead, ↓binVC, ↓buildVC, ↓sliceVC, WQ, WN, Int.reduceToNat, renl, cll, rent, clt, ↓reduceIte, Nat.reduceLeDiff, Nat.reduceEqDiff, Nat.reduceLT, reduceCtorEq, List.append_nil, Nat.reduceAdd, Nat.reduceSub, Nat.reduceBEq, forall_const, implies_true, cond_true, cond_false, AV.ren, AC.ren, AV.cl, AC.cl, eq_self, List.all_cons, List.all_nil, AV.eqv, AC.eqv, eqvl, eqvt, Sl.eqv, List.map_append, List.length_map, List.length_append, List.length_replicate, List.length_set, List.map_replicate, nilVC, zr_29, sz_29, fs_29, fl_29_2, sz_27, c_impl_WheelOk, c_impl_cloneWheel, c_impl_timerAt, c_slices_Delete_Timer, hX, decide_eq_false hok]
    refine ⟨hrow, end_ret ?_⟩
    simp only [↓WP, ↓grdD, ↓grdT, ↓un_dead, ↓binVC, ↓buildVC, ↓sliceVC, WQ, WN, Int.reduceToNat, renl, cll, rent, clt, ↓reduceIte, Nat.reduceLeDiff, Nat.reduceEqDiff, Nat.reduceLT, reduceCtorEq, List.append_nil, Nat.reduceAdd, Nat.reduceSub, Nat.reduceBEq, forall_const, implies_true, cond_true, cond_false, AV.ren, AC.ren, AV.cl, AC.cl, eq_self, List.all_cons, List.all_nil, AV.eqv, AC.eqv, eqvl, eqvt, Sl.eqv, List.map_append, List.length_map, List.length_append, List.length_replicate, List.length_set, List.map_replicate, nilVC, zr_29, sz_29, fs_29, fl_29_2, sz_27, c_impl_WheelOk, c_impl_cloneWheel, c_impl_timerAt, c_slices_Delete_Timer]
    refine ⟨0, [(51, 3)], [2], ?_⟩
    simp [WL, WNL, swA_new, swA_ne, nest_sw_ne, mapLL, List.mem_cons, Nat.reduceAdd, Nat.reduceLT, Nat.reduceLeDiff, Nat.reduceEqDiff, okU, List.nodup_cons, List.not_mem_nil, toT, toL, toO, keysO, renl, rent, cll, clt, eq_self, AV.eqv, AC.eqv, eqvl, eqvt, Sl.eqv, rowsLe, mapLL, rowsCl, List.map_append, List.length_map, List.length_append, List.length_set, List.map_replicate, rowG, List.getElem?_cons_zero, List.getElem?_cons_succ, List.getElem?_nil, List.append_nil, List.nil_append, List.cons_append, ghosts, St.gh, Option.some.injEq, implies_true, setT, AV.ren, AC.ren, AV.cl, AC.cl, List.replicate_succ, List.replicate_zero, List.nodup_nil, List.length_nil, List.length_cons, List.getD_cons_zero, List.getD_cons_succ, ↓reduceIte, retP]
end Go.Eng.T
