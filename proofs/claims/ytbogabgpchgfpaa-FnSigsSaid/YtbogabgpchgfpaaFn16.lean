/- sig: what is drawn. -/
import Derived.Test.YtbogabgpchgfpaaFn15
set_option linter.unusedVariables false
set_option linter.unusedSimpArgs false
set_option linter.unusedSectionVars false
namespace Go.Eng.T
open Go.Proofs
open Cel (enc dec)
set_option maxRecDepth 100000
set_option maxHeartbeats 4000000
def drC (s : OwnS) : Prop := (s.1.1.length ≤ s.2.1 ∧ s.1.2.1.length ≤ s.2.2.1 ∧ s.1.2.2.1.length ≤ s.2.2.2.1 ∧ s.1.2.2.2.1.length ≤ s.2.2.2.2) ∧ (s.1.1.length ≤ 17 ∧ s.1.2.1.length ≤ 17 ∧ s.1.2.2.1.length ≤ 17 ∧ s.1.2.2.2.1.length ≤ 17)
def drL (s : OwnS) : List AC := [.sl ⟨.loc 0, 0, 0, 0⟩ s.1.1.length s.2.1, .sl ⟨.loc 1, 0, 0, 0⟩ s.1.2.1.length s.2.2.1, .sl ⟨.loc 2, 0, 0, 0⟩ s.1.2.2.1.length s.2.2.2.1, .sl ⟨.loc 3, 0, 0, 0⟩ s.1.2.2.2.1.length s.2.2.2.2, .int .i64 s.1.2.2.2.2]
def c_spec_DrawSigNext : Contract := ⟨34, fun args M => match args with
  | [.c (.sl a n c)] => .eff (RowOk UInt8 a n (M a.r)) OwnS (fun s => drC s) (fun s => .agg (drL s)) (fun s => actN (some s)) (fun _ => [])
  | _ => .bad⟩
theorem ok_spec_DrawSigNext : fnP Try.prog c_spec_DrawSigNext.f = true ∧ ∀ args M, (c_spec_DrawSigNext.sp args M).OK Try.prog c_spec_DrawSigNext.f args M := by
  refine ⟨fp_34, fun args M => ?_⟩
  unfold c_spec_DrawSigNext
  dsimp only
  split
  case h_2 => trivial
  rename_i a n ca
  intro ha
  have hn := ha.1
  refine goIn hf_34 rfl (nt := 10) rfl (rs := [.cell 2 25]) rfl (C := [c_spec_l1New, c_spec_l1Size, c_spec_l32Some]) ⟨(by first | exact .inl ok_spec_l1New | exact ok_spec_l1New), (by first | exact .inl ok_spec_l1Size | exact ok_spec_l1Size), (by first | exact .inl ok_spec_l32Some | exact ok_spec_l32Some), trivial⟩ (q := fun _ => false) okQ_none mixed (O := fun _ => .nil) (by kernel_rfl) ?_
  simp only [↓WP, ↓grdD, ↓grdT, ↓un_dead, ↓binVC, ↓buildVC, ↓sliceVC, WQ, WN, Int.reduceToNat, renl, cll, rent, clt, ↓reduceIte, Nat.reduceLeDiff, Nat.reduceEqDiff, Nat.reduceLT, reduceCtorEq, List.append_nil, Nat.reduceAdd, Nat.reduceSub, Nat.reduceBEq, forall_const, implies_true, cond_true, cond_false, AV.ren, AC.ren, AV.cl, AC.cl, eq_self, List.all_cons, List.all_nil, AV.eqv, AC.eqv, eqvl, eqvt, Sl.eqv, List.map_append, List.length_map, List.length_append, List.length_replicate, List.length_set, List.map_replicate, nilVC, zr_25, sz_25, c_spec_l1New, c_spec_l1Size, c_spec_l32Some, ha, actV, actN]
  repeat' (first | with_reducible refine And.intro ?_ ?_ | intro _)
  all_goals try omega
  all_goals try exact .inr trivial
  all_goals try (refine .inr ?_; intro cs hcs; simp only [List.mem_cons, List.not_mem_nil, or_false] at hcs; rcases hcs with rfl | rfl | rfl | rfl | rfl <;> rfl)
  all_goals try (refine .inr ?_; intro cs hcs; simp only [List.mem_cons, List.not_mem_nil, or_false] at hcs; rcases hcs with rfl | rfl | rfl <;> rfl)
  all_goals
    rename_i q hq
    obtain ⟨⟨⟨P, K, D, Q, u⟩, k1, k2, k3, k4⟩, p9, z9⟩ := q
    obtain ⟨hq1, hq2, _⟩ := hq
    dsimp only at hq1 hq2
    refine end_ret ?_
    simp only [↓WP, ↓grdD, ↓grdT, ↓un_dead, ↓binVC, ↓buildVC, ↓sliceVC, WQ, WN, Int.reduceToNat, renl, cll, rent, clt, ↓reduceIte, Nat.reduceLeDiff, Nat.reduceEqDiff, Nat.reduceLT, reduceCtorEq, List.append_nil, Nat.reduceAdd, Nat.reduceSub, Nat.reduceBEq, forall_const, implies_true, cond_true, cond_false, AV.ren, AC.ren, AV.cl, AC.cl, eq_self, List.all_cons, List.all_nil, AV.eqv, AC.eqv, eqvl, eqvt, Sl.eqv, List.map_append, List.length_map, List.length_append, List.length_replicate, List.length_set, List.map_replicate, nilVC, zr_25, sz_25, c_spec_l1New, c_spec_l1Size, c_spec_l32Some]
    refine ⟨((P, K, D, Q, u), k1, k2, k3, k4), [], [2, 3, 4, 5], ?_⟩
    simp only [WL, WNL, swA_new, swA_ne, nest_sw_ne, mapLL, List.mem_cons, Nat.reduceAdd, Nat.reduceLT, Nat.reduceLeDiff, Nat.reduceEqDiff, okU, List.nodup_cons, List.not_mem_nil, toT, toL, toO, keysO, renl, rent, cll, clt, eq_self, AV.eqv, AC.eqv, eqvl, eqvt, Sl.eqv, rowsLe, mapLL, rowsCl, List.map_append, List.length_map, List.length_append, List.length_set, List.map_replicate, rowG, List.getElem?_cons_zero, List.getElem?_cons_succ, List.getElem?_nil, List.append_nil, List.nil_append, List.cons_append, ghosts, St.gh, Option.some.injEq, implies_true, setT, AV.ren, AC.ren, AV.cl, AC.cl, List.replicate_succ, List.replicate_zero, List.nodup_nil, List.length_nil, List.length_cons, List.getD_cons_zero, List.getD_cons_succ, ↓reduceIte, retP, drC, drL, actN]
    simp [hq1, hq2]
def c_spec_DrawSigSet : Contract := ⟨35, fun args M => match args with
  | [.c (.sl a n c)] => .eff (RowOk UInt8 a n (M a.r)) (OwnS × Int × Int) (fun s => drC s.1) (fun s => .tup [(true, drL s.1), (false, [.int .i64 s.2.1]), (false, [.int .i64 s.2.2])]) (fun s => actN (some s.1)) (fun _ => [])
  | _ => .bad⟩
theorem ok_spec_DrawSigSet : fnP Try.prog c_spec_DrawSigSet.f = true ∧ ∀ args M, (c_spec_DrawSigSet.sp args M).OK Try.prog c_spec_DrawSigSet.f args M := by
  refine ⟨fp_35, fun args M => ?_⟩
  unfold c_spec_DrawSigSet
  dsimp only
  split
  case h_2 => trivial
  rename_i a n ca
  intro ha
  have hn := ha.1
  refine goIn hf_35 rfl (nt := 21) rfl (rs := [.cell 2 25, .tmp 3, .tmp 4]) rfl (C := [c_spec_l1New, c_spec_l1Below, c_spec_l1Size, c_spec_l32Some]) ⟨(by first | exact .inl ok_spec_l1New | exact ok_spec_l1New), (by first | exact .inl ok_spec_l1Below | exact ok_spec_l1Below), (by first | exact .inl ok_spec_l1Size | exact ok_spec_l1Size), (by first | exact .inl ok_spec_l32Some | exact ok_spec_l32Some), trivial⟩ (q := fun _ => false) okQ_none mixed (O := fun _ => .nil) (by kernel_rfl) ?_
  simp only [↓WP, ↓grdD, ↓grdT, ↓un_dead, ↓binVC, ↓buildVC, ↓sliceVC, WQ, WN, Int.reduceToNat, renl, cll, rent, clt, ↓reduceIte, Nat.reduceLeDiff, Nat.reduceEqDiff, Nat.reduceLT, reduceCtorEq, List.append_nil, Nat.reduceAdd, Nat.reduceSub, Nat.reduceBEq, forall_const, implies_true, cond_true, cond_false, AV.ren, AC.ren, AV.cl, AC.cl, eq_self, List.all_cons, List.all_nil, AV.eqv, AC.eqv, eqvl, eqvt, Sl.eqv, List.map_append, List.length_map, List.length_append, List.length_replicate, List.length_set, List.map_replicate, nilVC, zr_25, sz_25, c_spec_l1New, c_spec_l1Below, c_spec_l1Size, c_spec_l32Some, ha, actV, actN]
  repeat' (first | with_reducible refine And.intro ?_ ?_ | intro _)
  all_goals try omega
  all_goals try exact .inr trivial
  all_goals try (refine .inr ?_; intro cs hcs; simp only [List.mem_cons, List.not_mem_nil, or_false] at hcs; rcases hcs with rfl | rfl | rfl | rfl | rfl <;> rfl)
  all_goals try (refine .inr ?_; intro cs hcs; simp only [List.mem_cons, List.not_mem_nil, or_false] at hcs; rcases hcs with rfl | rfl | rfl <;> rfl)
  all_goals
    rename_i x1 hx1 x2 hx2 x3 hx3 q hq
    obtain ⟨⟨⟨P, K, D, Q, u⟩, k1, k2, k3, k4⟩, p9, z9⟩ := q
    obtain ⟨hq1, hq2, _⟩ := hq
    dsimp only at hq1 hq2
    refine end_ret ?_
    simp only [↓WP, ↓grdD, ↓grdT, ↓un_dead, ↓binVC, ↓buildVC, ↓sliceVC, WQ, WN, Int.reduceToNat, renl, cll, rent, clt, ↓reduceIte, Nat.reduceLeDiff, Nat.reduceEqDiff, Nat.reduceLT, reduceCtorEq, List.append_nil, Nat.reduceAdd, Nat.reduceSub, Nat.reduceBEq, forall_const, implies_true, cond_true, cond_false, AV.ren, AC.ren, AV.cl, AC.cl, eq_self, List.all_cons, List.all_nil, AV.eqv, AC.eqv, eqvl, eqvt, Sl.eqv, List.map_append, List.length_map, List.length_append, List.length_replicate, List.length_set, List.map_replicate, nilVC, zr_25, sz_25, c_spec_l1New, c_spec_l1Below, c_spec_l1Size, c_spec_l32Some]
    refine ⟨(((P, K, D, Q, u), k1, k2, k3, k4), x1.1, IntKind.i64.wrap (x2.1 - 1)), [], [2, 3, 4, 5], ?_⟩
    simp only [WL, WNL, swA_new, swA_ne, nest_sw_ne, mapLL, List.mem_cons, Nat.reduceAdd, Nat.reduceLT, Nat.reduceLeDiff, Nat.reduceEqDiff, okU, List.nodup_cons, List.not_mem_nil, toT, toL, toO, keysO, renl, rent, cll, clt, eq_self, AV.eqv, AC.eqv, eqvl, eqvt, Sl.eqv, rowsLe, mapLL, rowsCl, List.map_append, List.length_map, List.length_append, List.length_set, List.map_replicate, rowG, List.getElem?_cons_zero, List.getElem?_cons_succ, List.getElem?_nil, List.append_nil, List.nil_append, List.cons_append, ghosts, St.gh, Option.some.injEq, implies_true, setT, AV.ren, AC.ren, AV.cl, AC.cl, List.replicate_succ, List.replicate_zero, List.nodup_nil, List.length_nil, List.length_cons, List.getD_cons_zero, List.getD_cons_succ, ↓reduceIte, retP, drC, drL, actN]
    simp [hq1, hq2]
def c_spec_DrawSigMask : Contract := ⟨36, fun args M => match args with
  | [.c (.sl a n c)] => .eff (RowOk UInt8 a n (M a.r)) (OwnS × Int × Bool) (fun s => drC s.1) (fun s => .tup [(true, drL s.1), (false, [.int .i64 s.2.1]), (false, [.bool s.2.2])]) (fun s => actN (some s.1)) (fun _ => [])
  | _ => .bad⟩
theorem ok_spec_DrawSigMask : fnP Try.prog c_spec_DrawSigMask.f = true ∧ ∀ args M, (c_spec_DrawSigMask.sp args M).OK Try.prog c_spec_DrawSigMask.f args M := by
  refine ⟨fp_36, fun args M => ?_⟩
  unfold c_spec_DrawSigMask
  dsimp only
  split
  case h_2 => trivial
  rename_i a n ca
  intro ha
  have hn := ha.1
  refine goIn hf_36 rfl (nt := 20) rfl (rs := [.cell 2 25, .tmp 3, .tmp 4]) rfl (C := [c_spec_l1New, c_spec_l1Below, c_spec_l1Once, c_spec_l1Size, c_spec_l32Some]) ⟨(by first | exact .inl ok_spec_l1New | exact ok_spec_l1New), (by first | exact .inl ok_spec_l1Below | exact ok_spec_l1Below), (by first | exact .inl ok_spec_l1Once | exact ok_spec_l1Once), (by first | exact .inl ok_spec_l1Size | exact ok_spec_l1Size), (by first | exact .inl ok_spec_l32Some | exact ok_spec_l32Some), trivial⟩ (q := fun _ => false) okQ_none mixed (O := fun _ => .nil) (by kernel_rfl) ?_
  simp only [↓WP, ↓grdD, ↓grdT, ↓un_dead, ↓binVC, ↓buildVC, ↓sliceVC, WQ, WN, Int.reduceToNat, renl, cll, rent, clt, ↓reduceIte, Nat.reduceLeDiff, Nat.reduceEqDiff, Nat.reduceLT, reduceCtorEq, List.append_nil, Nat.reduceAdd, Nat.reduceSub, Nat.reduceBEq, forall_const, implies_true, cond_true, cond_false, AV.ren, AC.ren, AV.cl, AC.cl, eq_self, List.all_cons, List.all_nil, AV.eqv, AC.eqv, eqvl, eqvt, Sl.eqv, List.map_append, List.length_map, List.length_append, List.length_replicate, List.length_set, List.map_replicate, nilVC, zr_25, sz_25, c_spec_l1New, c_spec_l1Below, c_spec_l1Once, c_spec_l1Size, c_spec_l32Some, ha, actV, actN]
  repeat' (first | with_reducible refine And.intro ?_ ?_ | intro _)
  all_goals try omega
  all_goals try exact .inr trivial
  all_goals try (refine .inr ?_; intro cs hcs; simp only [List.mem_cons, List.not_mem_nil, or_false] at hcs; rcases hcs with rfl | rfl | rfl | rfl | rfl <;> rfl)
  all_goals try (refine .inr ?_; intro cs hcs; simp only [List.mem_cons, List.not_mem_nil, or_false] at hcs; rcases hcs with rfl | rfl | rfl <;> rfl)
  all_goals
    rename_i x1 hx1 x2 hx2 x3 hx3 q hq
    obtain ⟨⟨⟨P, K, D, Q, u⟩, k1, k2, k3, k4⟩, p9, z9⟩ := q
    obtain ⟨hq1, hq2, _⟩ := hq
    dsimp only at hq1 hq2
    refine end_ret ?_
    simp only [↓WP, ↓grdD, ↓grdT, ↓un_dead, ↓binVC, ↓buildVC, ↓sliceVC, WQ, WN, Int.reduceToNat, renl, cll, rent, clt, ↓reduceIte, Nat.reduceLeDiff, Nat.reduceEqDiff, Nat.reduceLT, reduceCtorEq, List.append_nil, Nat.reduceAdd, Nat.reduceSub, Nat.reduceBEq, forall_const, implies_true, cond_true, cond_false, AV.ren, AC.ren, AV.cl, AC.cl, eq_self, List.all_cons, List.all_nil, AV.eqv, AC.eqv, eqvl, eqvt, Sl.eqv, List.map_append, List.length_map, List.length_append, List.length_replicate, List.length_set, List.map_replicate, nilVC, zr_25, sz_25, c_spec_l1New, c_spec_l1Below, c_spec_l1Once, c_spec_l1Size, c_spec_l32Some]
    refine ⟨(((P, K, D, Q, u), k1, k2, k3, k4), x1.1, x2.1), [], [2, 3, 4, 5], ?_⟩
    simp only [WL, WNL, swA_new, swA_ne, nest_sw_ne, mapLL, List.mem_cons, Nat.reduceAdd, Nat.reduceLT, Nat.reduceLeDiff, Nat.reduceEqDiff, okU, List.nodup_cons, List.not_mem_nil, toT, toL, toO, keysO, renl, rent, cll, clt, eq_self, AV.eqv, AC.eqv, eqvl, eqvt, Sl.eqv, rowsLe, mapLL, rowsCl, List.map_append, List.length_map, List.length_append, List.length_set, List.map_replicate, rowG, List.getElem?_cons_zero, List.getElem?_cons_succ, List.getElem?_nil, List.append_nil, List.nil_append, List.cons_append, ghosts, St.gh, Option.some.injEq, implies_true, setT, AV.ren, AC.ren, AV.cl, AC.cl, List.replicate_succ, List.replicate_zero, List.nodup_nil, List.length_nil, List.length_cons, List.getD_cons_zero, List.getD_cons_succ, ↓reduceIte, retP, drC, drL, actN]
    simp [hq1, hq2]
end Go.Eng.T
