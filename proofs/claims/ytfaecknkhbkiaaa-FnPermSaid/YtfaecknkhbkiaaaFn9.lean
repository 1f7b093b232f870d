/- perm: what is drawn. -/
import Derived.Test.YtfaecknkhbkiaaaFn8
set_option linter.unusedVariables false
set_option linter.unusedSimpArgs false
set_option linter.unusedSectionVars false
namespace Go.Eng.T
open Go.Proofs
open Cel (enc dec)
set_option maxRecDepth 100000
set_option maxHeartbeats 4000000
def c_spec_DrawMay : Contract := ⟨28, fun args M => match args with
  | [.c (.sl a n c)] => .eff (RowOk UInt8 a n (M a.r)) (Int × List Int × Nat × Int × Int × Int) (fun q => q.2.1.length ≤ 5 ∧ q.2.1.length ≤ q.2.2.1) (fun q => .tup [(true, [.int .i64 q.1, .sl ⟨.loc 0, 0, 0, 0⟩ q.2.1.length q.2.2.1]), (true, [.int .i64 q.2.2.2.1, .int .i64 q.2.2.2.2.1, .int .i64 q.2.2.2.2.2])]) (fun q => [rowG true 3 q.2.2.1 q.2.1]) (fun _ => [])
  | _ => .bad⟩
theorem ok_spec_DrawMay : SpecOK Try.prog c_spec_DrawMay := by
  refine ⟨fp_28, fun args M => ?_⟩
  unfold c_spec_DrawMay
  dsimp only
  split
  case h_2 => trivial
  rename_i a n ca
  intro ha
  refine goIn hf_28 rfl (nt := 13) rfl (rs := [.cell 2 35, .cell 3 27]) rfl (C := [c_spec_l1New, c_spec_l31Cred, c_spec_l31Mode]) ⟨ok_spec_l1New, ok_spec_l31Cred, ok_spec_l31Mode, trivial⟩ (q := fun f => [].contains f) ⟨fun h => absurd h (by decide), fun h => absurd h (by decide), fun h => absurd h (by decide), trivial⟩ mixed (O := ots [(3, otl [1] (.alt 0 (otl [2, 3, 4] .nil) (otl [2, 0, 3, 4] .nil)))]) (by kernel_rfl) ?_
  simp only [↓WP, ↓grdD, ↓grdT, ↓binVC, ↓buildVC, ↓sliceVC, WQ, WN, Int.reduceToNat, renl, cll, rent, clt, ↓reduceIte, Nat.reduceLeDiff, Nat.reduceEqDiff, Nat.reduceLT, reduceCtorEq, List.append_nil, Nat.reduceAdd, Nat.reduceSub, Nat.reduceBEq, forall_const, implies_true, cond_true, cond_false, AV.ren, AC.ren, AV.cl, AC.cl, eq_self, List.all_cons, List.all_nil, AV.eqv, AC.eqv, eqvl, eqvt, Sl.eqv, List.map_append, List.length_map, List.length_append, List.length_replicate, List.length_set, List.map_replicate, nilVC, zr_35, zr_27, sz_35, sz_27, c_spec_l1New, c_spec_l31Cred, c_spec_l31Mode, ha]
  repeat' (first | with_reducible refine And.intro ?_ ?_ | intro _)
  all_goals try omega
  all_goals try (refine .inr ?_; intro cs hcs; simp only [List.mem_cons, List.not_mem_nil, or_false] at hcs; rcases hcs with rfl | rfl | rfl | rfl | rfl | rfl <;> rfl)
  all_goals try (refine .inr ?_; intro cs hcs; simp only [List.mem_cons, List.not_mem_nil, or_false] at hcs; rcases hcs with rfl | rfl | rfl | rfl <;> rfl)
  all_goals
    rename_i pc hpc pm hpm
    obtain ⟨u, X, cp, p1, k1⟩ := pc
    obtain ⟨⟨x1, x2⟩, _⟩ := hpc
    dsimp only at x1 x2
    refine end_ret ?_
    simp only [↓WP, ↓grdD, ↓grdT, ↓binVC, ↓buildVC, ↓sliceVC, WQ, WN, Int.reduceToNat, renl, cll, rent, clt, ↓reduceIte, Nat.reduceLeDiff, Nat.reduceEqDiff, Nat.reduceLT, reduceCtorEq, List.append_nil, Nat.reduceAdd, Nat.reduceSub, Nat.reduceBEq, forall_const, implies_true, cond_true, cond_false, AV.ren, AC.ren, AV.cl, AC.cl, eq_self, List.all_cons, List.all_nil, AV.eqv, AC.eqv, eqvl, eqvt, Sl.eqv, List.map_append, List.length_map, List.length_append, List.length_replicate, List.length_set, List.map_replicate, nilVC, zr_35, zr_27, sz_35, sz_27, c_spec_l1New, c_spec_l31Cred, c_spec_l31Mode]
    refine ⟨(u, X, cp, pm.1, pm.2.1, pm.2.2.1), [], [3], ?_⟩
    simp only [WL, WNL, swA_new, swA_ne, nest_sw_ne, mapLL, List.mem_cons, Nat.reduceAdd, Nat.reduceLT, Nat.reduceLeDiff, Nat.reduceEqDiff, okU, List.nodup_cons, List.not_mem_nil, toT, toL, toO, keysO, renl, rent, cll, clt, eq_self, AV.eqv, AC.eqv, eqvl, eqvt, Sl.eqv, rowsLe, mapLL, rowsCl, List.map_append, List.length_map, List.length_append, List.length_set, List.map_replicate, rowG, List.getElem?_cons_zero, List.getElem?_cons_succ, List.getElem?_nil, List.append_nil, List.nil_append, List.cons_append, ghosts, St.gh, Option.some.injEq, implies_true, setT, AV.ren, AC.ren, AV.cl, AC.cl, List.replicate_succ, List.replicate_zero, List.nodup_nil, List.length_nil, List.length_cons, List.getD_cons_zero, List.getD_cons_succ, ↓reduceIte, retP]
    simp [x1, x2]
def c_spec_DrawChmod : Contract := ⟨29, fun args M => match args with
  | [.c (.sl a n c)] => .eff (RowOk UInt8 a n (M a.r)) (Int × List Int × Nat × Int × Int × Int × Int) (fun q => q.2.1.length ≤ 5 ∧ q.2.1.length ≤ q.2.2.1) (fun q => .tup [(true, [.int .i64 q.1, .sl ⟨.loc 0, 0, 0, 0⟩ q.2.1.length q.2.2.1]), (true, [.int .i64 q.2.2.2.1, .int .i64 q.2.2.2.2.1, .int .i64 q.2.2.2.2.2.1]), (false, [.int .i64 q.2.2.2.2.2.2])]) (fun q => [rowG true 3 q.2.2.1 q.2.1]) (fun _ => [])
  | _ => .bad⟩
theorem ok_spec_DrawChmod : SpecOK Try.prog c_spec_DrawChmod := by
  refine ⟨fp_29, fun args M => ?_⟩
  unfold c_spec_DrawChmod
  dsimp only
  split
  case h_2 => trivial
  rename_i a n ca
  intro ha
  refine goIn hf_29 rfl (nt := 19) rfl (rs := [.cell 2 35, .cell 3 27, .tmp 4]) rfl (C := [c_spec_l1New, c_spec_l31Cred, c_spec_l31Mode, c_spec_l1PickInt]) ⟨ok_spec_l1New, ok_spec_l31Cred, ok_spec_l31Mode, ok_spec_l1PickInt, trivial⟩ (q := fun f => [].contains f) ⟨fun h => absurd h (by decide), fun h => absurd h (by decide), fun h => absurd h (by decide), fun h => absurd h (by decide), trivial⟩ mixed (O := ots [(4, otl [2] (.alt 0 (otl [] (.alt 1 (otl [3, 4, 5, 6, 7] .nil) (otl [3] (.alt 1 (otl [4, 5, 6, 7] .nil) (otl [4] (.alt 1 (otl [5, 6, 7] .nil) (otl [5, 1, 6, 7] .nil))))))) (otl [] (.alt 1 (otl [] (.alt 0 (otl [3, 4, 5, 6, 7] .nil) (otl [3] (.alt 0 (otl [4, 5, 6, 7] .nil) (otl [4, 0, 5, 6, 7] .nil))))) (otl [3] (.alt 0 (otl [] (.alt 1 (otl [4, 5, 6, 7] .nil) (otl [4] (.alt 1 (otl [5, 6, 7] .nil) (otl [5, 1, 6, 7] .nil))))) (otl [] (.alt 1 (otl [] (.alt 0 (otl [4, 5, 6, 7] .nil) (otl [4, 0, 5, 6, 7] .nil))) (otl [4, 0] (.alt 1 (otl [5, 6, 7] .nil) (otl [5, 1, 6, 7] .nil)))))))))))]) (by kernel_rfl) ?_
  simp only [↓WP, ↓grdD, ↓grdT, ↓binVC, ↓buildVC, ↓sliceVC, WQ, WN, Int.reduceToNat, renl, cll, rent, clt, ↓reduceIte, Nat.reduceLeDiff, Nat.reduceEqDiff, Nat.reduceLT, reduceCtorEq, List.append_nil, Nat.reduceAdd, Nat.reduceSub, Nat.reduceBEq, forall_const, implies_true, cond_true, cond_false, AV.ren, AC.ren, AV.cl, AC.cl, eq_self, List.all_cons, List.all_nil, AV.eqv, AC.eqv, eqvl, eqvt, Sl.eqv, List.map_append, List.length_map, List.length_append, List.length_replicate, List.length_set, List.map_replicate, nilVC, zr_35, zr_27, sz_35, sz_27, el_30, zr_3, c_spec_l1New, c_spec_l31Cred, c_spec_l31Mode, c_spec_l1PickInt, ha]
  repeat' (first | with_reducible refine And.intro ?_ ?_ | intro _)
  all_goals try omega
  all_goals try (refine .inr ?_; intro cs hcs; simp only [List.mem_cons, List.not_mem_nil, or_false] at hcs; rcases hcs with rfl | rfl | rfl | rfl | rfl | rfl <;> rfl)
  all_goals try (refine .inr ?_; intro cs hcs; simp only [List.mem_cons, List.not_mem_nil, or_false] at hcs; rcases hcs with rfl | rfl | rfl | rfl <;> rfl)
  all_goals
    rename_i pc hpc pm hpm e0 he0
    obtain ⟨u, X, cp, p1, k1⟩ := pc
    obtain ⟨⟨x1, x2⟩, _⟩ := hpc
    dsimp only at x1 x2
    refine end_ret ?_
    simp only [↓WP, ↓grdD, ↓grdT, ↓binVC, ↓buildVC, ↓sliceVC, WQ, WN, Int.reduceToNat, renl, cll, rent, clt, ↓reduceIte, Nat.reduceLeDiff, Nat.reduceEqDiff, Nat.reduceLT, reduceCtorEq, List.append_nil, Nat.reduceAdd, Nat.reduceSub, Nat.reduceBEq, forall_const, implies_true, cond_true, cond_false, AV.ren, AC.ren, AV.cl, AC.cl, eq_self, List.all_cons, List.all_nil, AV.eqv, AC.eqv, eqvl, eqvt, Sl.eqv, List.map_append, List.length_map, List.length_append, List.length_replicate, List.length_set, List.map_replicate, nilVC, zr_35, zr_27, sz_35, sz_27, el_30, zr_3, c_spec_l1New, c_spec_l31Cred, c_spec_l31Mode, c_spec_l1PickInt]
    refine ⟨(u, X, cp, pm.1, pm.2.1, pm.2.2.1, e0.1), [], [3], ?_⟩
    simp only [WL, WNL, swA_new, swA_ne, nest_sw_ne, mapLL, List.mem_cons, Nat.reduceAdd, Nat.reduceLT, Nat.reduceLeDiff, Nat.reduceEqDiff, okU, List.nodup_cons, List.not_mem_nil, toT, toL, toO, keysO, renl, rent, cll, clt, eq_self, AV.eqv, AC.eqv, eqvl, eqvt, Sl.eqv, rowsLe, mapLL, rowsCl, List.map_append, List.length_map, List.length_append, List.length_set, List.map_replicate, rowG, List.getElem?_cons_zero, List.getElem?_cons_succ, List.getElem?_nil, List.append_nil, List.nil_append, List.cons_append, ghosts, St.gh, Option.some.injEq, implies_true, setT, AV.ren, AC.ren, AV.cl, AC.cl, List.replicate_succ, List.replicate_zero, List.nodup_nil, List.length_nil, List.length_cons, List.getD_cons_zero, List.getD_cons_succ, ↓reduceIte, retP]
    simp [x1, x2]
def c_spec_DrawChown : Contract := ⟨30, fun args M => match args with
  | [.c (.sl a n c)] => .eff (RowOk UInt8 a n (M a.r)) (Int × List Int × Nat × Int × Int × Int × Int × Int) (fun q => q.2.1.length ≤ 5 ∧ q.2.1.length ≤ q.2.2.1) (fun q => .tup [(true, [.int .i64 q.1, .sl ⟨.loc 0, 0, 0, 0⟩ q.2.1.length q.2.2.1]), (true, [.int .i64 q.2.2.2.1, .int .i64 q.2.2.2.2.1, .int .i64 q.2.2.2.2.2.1]), (false, [.int .i64 q.2.2.2.2.2.2.1]), (false, [.int .i64 q.2.2.2.2.2.2.2])]) (fun q => [rowG true 3 q.2.2.1 q.2.1]) (fun _ => [])
  | _ => .bad⟩
theorem ok_spec_DrawChown : SpecOK Try.prog c_spec_DrawChown := by
  refine ⟨fp_30, fun args M => ?_⟩
  unfold c_spec_DrawChown
  dsimp only
  split
  case h_2 => trivial
  rename_i a n ca
  intro ha
  refine goIn hf_30 rfl (nt := 29) rfl (rs := [.cell 2 35, .cell 3 27, .tmp 4, .tmp 5]) rfl (C := [c_spec_l1New, c_spec_l31Cred, c_spec_l31Mode, c_spec_l1PickInt]) ⟨ok_spec_l1New, ok_spec_l31Cred, ok_spec_l31Mode, ok_spec_l1PickInt, trivial⟩ (q := fun f => [].contains f) ⟨fun h => absurd h (by decide), fun h => absurd h (by decide), fun h => absurd h (by decide), fun h => absurd h (by decide), trivial⟩ mixed (O := ots [(5, otl [2, 3] (.alt 0 (otl [] (.alt 1 (otl [4, 5, 6, 7, 8, 9] .nil) (otl [4] (.alt 1 (otl [5, 6, 7, 8, 9] .nil) (otl [5] (.alt 1 (otl [6, 7, 8, 9] .nil) (otl [6, 1, 7, 8, 9] .nil))))))) (otl [] (.alt 1 (otl [] (.alt 0 (otl [4, 5, 6, 7, 8, 9] .nil) (otl [4] (.alt 0 (otl [5, 6, 7, 8, 9] .nil) (otl [5, 0, 6, 7, 8, 9] .nil))))) (otl [4] (.alt 0 (otl [] (.alt 1 (otl [5, 6, 7, 8, 9] .nil) (otl [5] (.alt 1 (otl [6, 7, 8, 9] .nil) (otl [6, 1, 7, 8, 9] .nil))))) (otl [] (.alt 1 (otl [] (.alt 0 (otl [5, 6, 7, 8, 9] .nil) (otl [5, 0, 6, 7, 8, 9] .nil))) (otl [5, 0] (.alt 1 (otl [6, 7, 8, 9] .nil) (otl [6, 1, 7, 8, 9] .nil)))))))))))]) (by kernel_rfl) ?_
  simp only [↓WP, ↓grdD, ↓grdT, ↓binVC, ↓buildVC, ↓sliceVC, WQ, WN, Int.reduceToNat, renl, cll, rent, clt, ↓reduceIte, Nat.reduceLeDiff, Nat.reduceEqDiff, Nat.reduceLT, reduceCtorEq, List.append_nil, Nat.reduceAdd, Nat.reduceSub, Nat.reduceBEq, forall_const, implies_true, cond_true, cond_false, AV.ren, AC.ren, AV.cl, AC.cl, eq_self, List.all_cons, List.all_nil, AV.eqv, AC.eqv, eqvl, eqvt, Sl.eqv, List.map_append, List.length_map, List.length_append, List.length_replicate, List.length_set, List.map_replicate, nilVC, zr_35, zr_27, sz_35, sz_27, fl_27_0, sz_3, el_30, zr_3, c_spec_l1New, c_spec_l31Cred, c_spec_l31Mode, c_spec_l1PickInt, ha]
  repeat' (first | with_reducible refine And.intro ?_ ?_ | intro _)
  all_goals try omega
  all_goals try (refine .inr ?_; intro cs hcs; simp only [List.mem_cons, List.not_mem_nil, or_false] at hcs; rcases hcs with rfl | rfl | rfl | rfl | rfl | rfl <;> rfl)
  all_goals try (refine .inr ?_; intro cs hcs; simp only [List.mem_cons, List.not_mem_nil, or_false] at hcs; rcases hcs with rfl | rfl | rfl | rfl <;> rfl)
  all_goals
    rename_i pc hpc pm hpm e0 he0 e1 he1
    obtain ⟨u, X, cp, p1, k1⟩ := pc
    obtain ⟨⟨x1, x2⟩, _⟩ := hpc
    dsimp only at x1 x2
    refine end_ret ?_
    simp only [↓WP, ↓grdD, ↓grdT, ↓binVC, ↓buildVC, ↓sliceVC, WQ, WN, Int.reduceToNat, renl, cll, rent, clt, ↓reduceIte, Nat.reduceLeDiff, Nat.reduceEqDiff, Nat.reduceLT, reduceCtorEq, List.append_nil, Nat.reduceAdd, Nat.reduceSub, Nat.reduceBEq, forall_const, implies_true, cond_true, cond_false, AV.ren, AC.ren, AV.cl, AC.cl, eq_self, List.all_cons, List.all_nil, AV.eqv, AC.eqv, eqvl, eqvt, Sl.eqv, List.map_append, List.length_map, List.length_append, List.length_replicate, List.length_set, List.map_replicate, nilVC, zr_35, zr_27, sz_35, sz_27, fl_27_0, sz_3, el_30, zr_3, c_spec_l1New, c_spec_l31Cred, c_spec_l31Mode, c_spec_l1PickInt]
    refine ⟨(u, X, cp, pm.1, pm.2.1, pm.2.2.1, e0.1, e1.1), [], [3], ?_⟩
    simp only [WL, WNL, swA_new, swA_ne, nest_sw_ne, mapLL, List.mem_cons, Nat.reduceAdd, Nat.reduceLT, Nat.reduceLeDiff, Nat.reduceEqDiff, okU, List.nodup_cons, List.not_mem_nil, toT, toL, toO, keysO, renl, rent, cll, clt, eq_self, AV.eqv, AC.eqv, eqvl, eqvt, Sl.eqv, rowsLe, mapLL, rowsCl, List.map_append, List.length_map, List.length_append, List.length_set, List.map_replicate, rowG, List.getElem?_cons_zero, List.getElem?_cons_succ, List.getElem?_nil, List.append_nil, List.nil_append, List.cons_append, ghosts, St.gh, Option.some.injEq, implies_true, setT, AV.ren, AC.ren, AV.cl, AC.cl, List.replicate_succ, List.replicate_zero, List.nodup_nil, List.length_nil, List.length_cons, List.getD_cons_zero, List.getD_cons_succ, ↓reduceIte, retP]
    simp [x1, x2]
end Go.Eng.T
