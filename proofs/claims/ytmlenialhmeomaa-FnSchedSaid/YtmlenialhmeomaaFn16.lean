/- sched: what is drawn. -/
import Derived.Test.YtmlenialhmeomaaFn15
set_option linter.unusedVariables false
set_option linter.unusedSimpArgs false
set_option linter.unusedSectionVars false
namespace Go.Eng.T
open Go.Proofs
open Cel (enc dec)
set_option maxRecDepth 100000
set_option maxHeartbeats 4000000
def c_spec_DrawSchedDrop : Contract := ⟨26, fun args M => match args with
  | [.c (.sl a n c)] => .eff (RowOk UInt8 a n (M a.r)) (OwnT × Int) (fun q => q.1.1.length ≤ q.1.2.2 ∧ q.1.1.length ≤ 9) (fun q => .tup [(true, [.sl ⟨.loc 0, 0, 0, 0⟩ q.1.1.length q.1.2.2, .int .i64 q.1.2.1]), (false, [.int .i64 q.2])]) (fun q => [rowG true 53 q.1.2.2 q.1.1]) (fun _ => [])
  | _ => .bad⟩
theorem ok_spec_DrawSchedDrop : fnP Try.prog c_spec_DrawSchedDrop.f = true ∧ ∀ args M, (c_spec_DrawSchedDrop.sp args M).OK Try.prog c_spec_DrawSchedDrop.f args M := by
  refine ⟨fp_26, fun args M => ?_⟩
  unfold c_spec_DrawSchedDrop
  dsimp only
  split
  case h_2 => trivial
  rename_i a n ca
  intro ha
  have hn := ha.1
  refine goIn hf_26 rfl (nt := 15) rfl (rs := [.cell 2 29, .tmp 3]) rfl (C := [c_spec_l1New, c_spec_l1Below, c_spec_l1Size, c_spec_l33Some]) ⟨(by first | exact .inl ok_spec_l1New | exact ok_spec_l1New), (by first | exact .inl ok_spec_l1Below | exact ok_spec_l1Below), (by first | exact .inl ok_spec_l1Size | exact ok_spec_l1Size), (by first | exact .inl ok_spec_l33Some | exact ok_spec_l33Some), trivial⟩ (q := fun _ => false) okQ_none mixed (O := fun _ => .nil) (by kernel_rfl) ?_
  simp only [↓WP, ↓grdD, ↓grdT, ↓un_dead, ↓binVC, ↓buildVC, ↓sliceVC, WQ, WN, Int.reduceToNat, renl, cll, rent, clt, ↓reduceIte, Nat.reduceLeDiff, Nat.reduceEqDiff, Nat.reduceLT, reduceCtorEq, List.append_nil, Nat.reduceAdd, Nat.reduceSub, Nat.reduceBEq, forall_const, implies_true, cond_true, cond_false, AV.ren, AC.ren, AV.cl, AC.cl, eq_self, List.all_cons, List.all_nil, AV.eqv, AC.eqv, eqvl, eqvt, Sl.eqv, List.map_append, List.length_map, List.length_append, List.length_replicate, List.length_set, List.map_replicate, nilVC, zr_29, sz_29, c_spec_l1New, c_spec_l1Below, c_spec_l1Size, c_spec_l33Some, ha]
  repeat' (first | with_reducible refine And.intro ?_ ?_ | intro _)
  all_goals try omega
  all_goals try exact .inr trivial
  all_goals try (refine .inr ?_; intro cs hcs; simp only [List.mem_cons, List.not_mem_nil, or_false] at hcs; rcases hcs with rfl | rfl | rfl <;> rfl)
  all_goals
    rename_i x1 hx1 x2 hx2 q hq
    obtain ⟨⟨X, t, k⟩, p9, z9⟩ := q
    obtain ⟨⟨hq1, hq2⟩, _⟩ := hq
    dsimp only at hq1 hq2
    refine end_ret ?_
    simp only [↓WP, ↓grdD, ↓grdT, ↓un_dead, ↓binVC, ↓buildVC, ↓sliceVC, WQ, WN, Int.reduceToNat, renl, cll, rent, clt, ↓reduceIte, Nat.reduceLeDiff, Nat.reduceEqDiff, Nat.reduceLT, reduceCtorEq, List.append_nil, Nat.reduceAdd, Nat.reduceSub, Nat.reduceBEq, forall_const, implies_true, cond_true, cond_false, AV.ren, AC.ren, AV.cl, AC.cl, eq_self, List.all_cons, List.all_nil, AV.eqv, AC.eqv, eqvl, eqvt, Sl.eqv, List.map_append, List.length_map, List.length_append, List.length_replicate, List.length_set, List.map_replicate, nilVC, zr_29, sz_29, c_spec_l1New, c_spec_l1Below, c_spec_l1Size, c_spec_l33Some]
    refine ⟨((X, t, k), x1.1), [], [2], ?_⟩
    simp only [WL, WNL, swA_new, swA_ne, nest_sw_ne, mapLL, List.mem_cons, Nat.reduceAdd, Nat.reduceLT, Nat.reduceLeDiff, Nat.reduceEqDiff, okU, List.nodup_cons, List.not_mem_nil, toT, toL, toO, keysO, renl, rent, cll, clt, eq_self, AV.eqv, AC.eqv, eqvl, eqvt, Sl.eqv, rowsLe, mapLL, rowsCl, List.map_append, List.length_map, List.length_append, List.length_set, List.map_replicate, rowG, List.getElem?_cons_zero, List.getElem?_cons_succ, List.getElem?_nil, List.append_nil, List.nil_append, List.cons_append, ghosts, St.gh, Option.some.injEq, implies_true, setT, AV.ren, AC.ren, AV.cl, AC.cl, List.replicate_succ, List.replicate_zero, List.nodup_nil, List.length_nil, List.length_cons, List.getD_cons_zero, List.getD_cons_succ, ↓reduceIte, retP]
    simp [hq1, hq2]
def c_spec_DrawSchedAdd : Contract := ⟨27, fun args M => match args with
  | [.c (.sl a n c)] => .eff (RowOk UInt8 a n (M a.r)) (OwnT × Int × Int) (fun q => q.1.1.length ≤ q.1.2.2 ∧ q.1.1.length ≤ 9) (fun q => .tup [(true, [.sl ⟨.loc 0, 0, 0, 0⟩ q.1.1.length q.1.2.2, .int .i64 q.1.2.1]), (false, [.int .i64 q.2.1]), (false, [.int .i64 q.2.2])]) (fun q => [rowG true 53 q.1.2.2 q.1.1]) (fun _ => [])
  | _ => .bad⟩
theorem ok_spec_DrawSchedAdd : fnP Try.prog c_spec_DrawSchedAdd.f = true ∧ ∀ args M, (c_spec_DrawSchedAdd.sp args M).OK Try.prog c_spec_DrawSchedAdd.f args M := by
  refine ⟨fp_27, fun args M => ?_⟩
  unfold c_spec_DrawSchedAdd
  dsimp only
  split
  case h_2 => trivial
  rename_i a n ca
  intro ha
  have hn := ha.1
  refine goIn hf_27 rfl (nt := 22) rfl (rs := [.cell 2 29, .tmp 3, .tmp 4]) rfl (C := [c_spec_l1New, c_spec_l1PickInt, c_spec_l1Below, c_spec_l1Size, c_spec_l33Some]) ⟨(by first | exact .inl ok_spec_l1New | exact ok_spec_l1New), (by first | exact .inl ok_spec_l1PickInt | exact ok_spec_l1PickInt), (by first | exact .inl ok_spec_l1Below | exact ok_spec_l1Below), (by first | exact .inl ok_spec_l1Size | exact ok_spec_l1Size), (by first | exact .inl ok_spec_l33Some | exact ok_spec_l33Some), trivial⟩ (q := fun _ => false) okQ_none mixed (O := fun _ => .nil) (by kernel_rfl) ?_
  simp only [↓WP, ↓grdD, ↓grdT, ↓un_dead, ↓binVC, ↓buildVC, ↓sliceVC, WQ, WN, Int.reduceToNat, renl, cll, rent, clt, ↓reduceIte, Nat.reduceLeDiff, Nat.reduceEqDiff, Nat.reduceLT, reduceCtorEq, List.append_nil, Nat.reduceAdd, Nat.reduceSub, Nat.reduceBEq, forall_const, implies_true, cond_true, cond_false, AV.ren, AC.ren, AV.cl, AC.cl, eq_self, List.all_cons, List.all_nil, AV.eqv, AC.eqv, eqvl, eqvt, Sl.eqv, List.map_append, List.length_map, List.length_append, List.length_replicate, List.length_set, List.map_replicate, nilVC, zr_29, el_45, zr_3, sz_29, c_spec_l1New, c_spec_l1PickInt, c_spec_l1Below, c_spec_l1Size, c_spec_l33Some, ha]
  repeat' (first | with_reducible refine And.intro ?_ ?_ | intro _)
  all_goals try omega
  all_goals try exact .inr trivial
  all_goals try (refine .inr ?_; intro cs hcs; simp only [List.mem_cons, List.not_mem_nil, or_false] at hcs; rcases hcs with rfl | rfl | rfl | rfl | rfl | rfl | rfl | rfl <;> rfl)
  all_goals
    rename_i x1 hx1 x2 hx2 x3 hx3 q hq
    obtain ⟨⟨X, t, k⟩, p9, z9⟩ := q
    obtain ⟨⟨hq1, hq2⟩, _⟩ := hq
    dsimp only at hq1 hq2
    refine end_ret ?_
    simp only [↓WP, ↓grdD, ↓grdT, ↓un_dead, ↓binVC, ↓buildVC, ↓sliceVC, WQ, WN, Int.reduceToNat, renl, cll, rent, clt, ↓reduceIte, Nat.reduceLeDiff, Nat.reduceEqDiff, Nat.reduceLT, reduceCtorEq, List.append_nil, Nat.reduceAdd, Nat.reduceSub, Nat.reduceBEq, forall_const, implies_true, cond_true, cond_false, AV.ren, AC.ren, AV.cl, AC.cl, eq_self, List.all_cons, List.all_nil, AV.eqv, AC.eqv, eqvl, eqvt, Sl.eqv, List.map_append, List.length_map, List.length_append, List.length_replicate, List.length_set, List.map_replicate, nilVC, zr_29, el_45, zr_3, sz_29, c_spec_l1New, c_spec_l1PickInt, c_spec_l1Below, c_spec_l1Size, c_spec_l33Some]
    refine ⟨((X, t, k), x1.1, IntKind.i64.wrap (x2.1 - 1)), [], [3], ?_⟩
    simp only [WL, WNL, swA_new, swA_ne, nest_sw_ne, mapLL, List.mem_cons, Nat.reduceAdd, Nat.reduceLT, Nat.reduceLeDiff, Nat.reduceEqDiff, okU, List.nodup_cons, List.not_mem_nil, toT, toL, toO, keysO, renl, rent, cll, clt, eq_self, AV.eqv, AC.eqv, eqvl, eqvt, Sl.eqv, rowsLe, mapLL, rowsCl, List.map_append, List.length_map, List.length_append, List.length_set, List.map_replicate, rowG, List.getElem?_cons_zero, List.getElem?_cons_succ, List.getElem?_nil, List.append_nil, List.nil_append, List.cons_append, ghosts, St.gh, Option.some.injEq, implies_true, setT, AV.ren, AC.ren, AV.cl, AC.cl, List.replicate_succ, List.replicate_zero, List.nodup_nil, List.length_nil, List.length_cons, List.getD_cons_zero, List.getD_cons_succ, ↓reduceIte, retP]
    simp [hq1, hq2]
end Go.Eng.T
