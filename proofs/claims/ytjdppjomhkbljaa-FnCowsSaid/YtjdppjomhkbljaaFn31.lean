/- cow: DrawCowWrite, DrawCowGrow. -/
import Derived.Test.YtjdppjomhkbljaaFn30
set_option linter.unusedVariables false
set_option linter.unusedSimpArgs false
set_option linter.unusedSectionVars false
namespace Go.Eng.T
open Go.Proofs
open Cel (enc dec)
set_option maxRecDepth 100000
set_option maxHeartbeats 8000000
def someC (v : CowV) (p : CowF) : Prop := (v.1.length = 12 ∧ v.2.1.length = 12 ∧ v.2.2.length = 4) ∧ CowC v.1 v.2.1 v.2.2 p
def c_spec_DrawCowWrite : Contract := ⟨36, fun args M => match args with
  | [.c (.sl a n c)] => .eff (RowOk UInt8 a n (M a.r)) (CowV × CowF × Int × Int × Int) (fun q => someC q.1 q.2.1) (fun q => .tup [(true, cowA q.1 q.2.1), (false, [.int .i64 q.2.2.1]), (false, [.int .i64 q.2.2.2.1]), (false, [.int .i64 q.2.2.2.2])]) (fun q => cowG q.1 q.2.1) (fun _ => [])
  | _ => .bad⟩
theorem ok_spec_DrawCowWrite : fnP Try.prog c_spec_DrawCowWrite.f = true ∧ ∀ args M, (c_spec_DrawCowWrite.sp args M).OK Try.prog c_spec_DrawCowWrite.f args M := by
  refine ⟨fp_36, fun args M => ?_⟩
  unfold c_spec_DrawCowWrite
  dsimp only
  split
  case h_2 => trivial
  rename_i a n ca
  intro ha
  have hns := ha.small
  refine goIn hf_36 rfl (nt := 27) rfl (rs := [.cell 2 25, .tmp 3, .tmp 4, .tmp 5]) rfl (C := [c_spec_l1New, c_spec_l1Below, c_spec_l1PickInt, c_spec_l1Size, c_spec_l29Some]) ⟨(by first | exact .inl ok_spec_l1New | exact ok_spec_l1New), (by first | exact .inl ok_spec_l1Below | exact ok_spec_l1Below), (by first | exact .inl ok_spec_l1PickInt | exact ok_spec_l1PickInt), (by first | exact .inl ok_spec_l1Size | exact ok_spec_l1Size), (by first | exact .inl ok_spec_l29Some | exact ok_spec_l29Some), trivial⟩ (q := fun _ => false) okQ_none mixed (O := fun _ => .nil) (by kernel_rfl) ?_
  simp only [↓WP, ↓grdD, ↓grdT, ↓un_dead, ↓binVC, ↓buildVC, ↓sliceVC, WQ, WN, Int.reduceToNat, renl, cll, rent, clt, ↓reduceIte, Nat.reduceLeDiff, Nat.reduceEqDiff, Nat.reduceLT, reduceCtorEq, List.append_nil, Nat.reduceAdd, Nat.reduceSub, Nat.reduceBEq, forall_const, implies_true, cond_true, cond_false, AV.ren, AC.ren, AV.cl, AC.cl, eq_self, List.all_cons, List.all_nil, AV.eqv, AC.eqv, eqvl, eqvt, Sl.eqv, List.map_append, List.length_map, List.length_append, List.length_replicate, List.length_set, List.map_replicate, nilVC, zr_25, el_23, zr_3, sz_25, c_spec_l1New, c_spec_l1Below, c_spec_l1PickInt, c_spec_l1Size, c_spec_l29Some, ha]
  repeat' (first | with_reducible refine And.intro ?_ ?_ | intro _)
  all_goals try omega
  all_goals try exact .inr trivial
  all_goals try (refine .inr ?_; intro cs hcs; simp only [List.mem_cons, List.not_mem_nil, or_false] at hcs; rcases hcs with rfl | rfl | rfl | rfl <;> rfl)
  all_goals
    rename_i s hs ad had w hw z hz q hq
    have hq1 : someC q.1 q.2.1 := hq.1
    refine end_ret ?_
    simp only [↓WP, ↓grdD, ↓grdT, ↓un_dead, ↓binVC, ↓buildVC, ↓sliceVC, WQ, WN, Int.reduceToNat, renl, cll, rent, clt, ↓reduceIte, Nat.reduceLeDiff, Nat.reduceEqDiff, Nat.reduceLT, reduceCtorEq, List.append_nil, Nat.reduceAdd, Nat.reduceSub, Nat.reduceBEq, forall_const, implies_true, cond_true, cond_false, AV.ren, AC.ren, AV.cl, AC.cl, eq_self, List.all_cons, List.all_nil, AV.eqv, AC.eqv, eqvl, eqvt, Sl.eqv, List.map_append, List.length_map, List.length_append, List.length_replicate, List.length_set, List.map_replicate, nilVC, zr_25, el_23, zr_3, sz_25, c_spec_l1New, c_spec_l1Below, c_spec_l1PickInt, c_spec_l1Size, c_spec_l29Some]
    refine ⟨(q.1, q.2.1, s.1, IntKind.i64.wrap (ad.1 - 1), w.1), [], [3, 4, 5, 6, 7], ?_⟩
    simp only [WL, WNL, swA_new, swA_ne, nest_sw_ne, mapLL, List.mem_cons, Nat.reduceAdd, Nat.reduceLT, Nat.reduceLeDiff, Nat.reduceEqDiff, okU, List.nodup_cons, List.not_mem_nil, toT, toL, toO, keysO, renl, rent, cll, clt, eq_self, AV.eqv, AC.eqv, eqvl, eqvt, Sl.eqv, rowsLe, mapLL, rowsCl, List.map_append, List.length_map, List.length_append, List.length_set, List.map_replicate, rowG, List.getElem?_cons_zero, List.getElem?_cons_succ, List.getElem?_nil, List.append_nil, List.nil_append, List.cons_append, ghosts, St.gh, Option.some.injEq, implies_true, setT, AV.ren, AC.ren, AV.cl, AC.cl, List.replicate_succ, List.replicate_zero, List.nodup_nil, List.length_nil, List.length_cons, List.getD_cons_zero, List.getD_cons_succ, ↓reduceIte, retP]
    simp [hq1, rowsLe_self]
def c_spec_DrawCowGrow : Contract := ⟨37, fun args M => match args with
  | [.c (.sl a n c)] => .eff (RowOk UInt8 a n (M a.r)) (CowV × CowF × Int) (fun q => someC q.1 q.2.1) (fun q => .tup [(true, cowA q.1 q.2.1), (false, [.int .i64 q.2.2])]) (fun q => cowG q.1 q.2.1) (fun _ => [])
  | _ => .bad⟩
theorem ok_spec_DrawCowGrow : fnP Try.prog c_spec_DrawCowGrow.f = true ∧ ∀ args M, (c_spec_DrawCowGrow.sp args M).OK Try.prog c_spec_DrawCowGrow.f args M := by
  refine ⟨fp_37, fun args M => ?_⟩
  unfold c_spec_DrawCowGrow
  dsimp only
  split
  case h_2 => trivial
  rename_i a n ca
  intro ha
  have hns := ha.small
  refine goIn hf_37 rfl (nt := 16) rfl (rs := [.cell 2 25, .tmp 3]) rfl (C := [c_spec_l1New, c_spec_l1Below, c_spec_l1Size, c_spec_l29Some]) ⟨(by first | exact .inl ok_spec_l1New | exact ok_spec_l1New), (by first | exact .inl ok_spec_l1Below | exact ok_spec_l1Below), (by first | exact .inl ok_spec_l1Size | exact ok_spec_l1Size), (by first | exact .inl ok_spec_l29Some | exact ok_spec_l29Some), trivial⟩ (q := fun _ => false) okQ_none mixed (O := fun _ => .nil) (by kernel_rfl) ?_
  simp only [↓WP, ↓grdD, ↓grdT, ↓un_dead, ↓binVC, ↓buildVC, ↓sliceVC, WQ, WN, Int.reduceToNat, renl, cll, rent, clt, ↓reduceIte, Nat.reduceLeDiff, Nat.reduceEqDiff, Nat.reduceLT, reduceCtorEq, List.append_nil, Nat.reduceAdd, Nat.reduceSub, Nat.reduceBEq, forall_const, implies_true, cond_true, cond_false, AV.ren, AC.ren, AV.cl, AC.cl, eq_self, List.all_cons, List.all_nil, AV.eqv, AC.eqv, eqvl, eqvt, Sl.eqv, List.map_append, List.length_map, List.length_append, List.length_replicate, List.length_set, List.map_replicate, nilVC, zr_25, sz_25, c_spec_l1New, c_spec_l1Below, c_spec_l1Size, c_spec_l29Some, ha]
  repeat' (first | with_reducible refine And.intro ?_ ?_ | intro _)
  all_goals try omega
  all_goals try exact .inr trivial
  all_goals try (refine .inr ?_; intro cs hcs; simp only [List.mem_cons, List.not_mem_nil, or_false] at hcs; rcases hcs with rfl | rfl | rfl | rfl <;> rfl)
  all_goals
    rename_i s hs z hz q hq
    have hq1 : someC q.1 q.2.1 := hq.1
    refine end_ret ?_
    simp only [↓WP, ↓grdD, ↓grdT, ↓un_dead, ↓binVC, ↓buildVC, ↓sliceVC, WQ, WN, Int.reduceToNat, renl, cll, rent, clt, ↓reduceIte, Nat.reduceLeDiff, Nat.reduceEqDiff, Nat.reduceLT, reduceCtorEq, List.append_nil, Nat.reduceAdd, Nat.reduceSub, Nat.reduceBEq, forall_const, implies_true, cond_true, cond_false, AV.ren, AC.ren, AV.cl, AC.cl, eq_self, List.all_cons, List.all_nil, AV.eqv, AC.eqv, eqvl, eqvt, Sl.eqv, List.map_append, List.length_map, List.length_append, List.length_replicate, List.length_set, List.map_replicate, nilVC, zr_25, sz_25, c_spec_l1New, c_spec_l1Below, c_spec_l1Size, c_spec_l29Some]
    refine ⟨(q.1, q.2.1, IntKind.i64.wrap (s.1 - 1)), [], [2, 3, 4, 5, 6], ?_⟩
    simp only [WL, WNL, swA_new, swA_ne, nest_sw_ne, mapLL, List.mem_cons, Nat.reduceAdd, Nat.reduceLT, Nat.reduceLeDiff, Nat.reduceEqDiff, okU, List.nodup_cons, List.not_mem_nil, toT, toL, toO, keysO, renl, rent, cll, clt, eq_self, AV.eqv, AC.eqv, eqvl, eqvt, Sl.eqv, rowsLe, mapLL, rowsCl, List.map_append, List.length_map, List.length_append, List.length_set, List.map_replicate, rowG, List.getElem?_cons_zero, List.getElem?_cons_succ, List.getElem?_nil, List.append_nil, List.nil_append, List.cons_append, ghosts, St.gh, Option.some.injEq, implies_true, setT, AV.ren, AC.ren, AV.cl, AC.cl, List.replicate_succ, List.replicate_zero, List.nodup_nil, List.length_nil, List.length_cons, List.getD_cons_zero, List.getD_cons_succ, ↓reduceIte, retP]
    simp [hq1, rowsLe_self]
end Go.Eng.T
