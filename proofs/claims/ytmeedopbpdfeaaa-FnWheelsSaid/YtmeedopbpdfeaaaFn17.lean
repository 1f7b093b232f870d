/- wheel: what is drawn; sameWheel. -/
import Derived.Test.YtmeedopbpdfeaaaFn16
set_option linter.unusedVariables false
set_option linter.unusedSimpArgs false
set_option linter.unusedSectionVars false
namespace Go.Eng.T
open Go.Proofs
open Cel (enc dec)
set_option maxRecDepth 100000
set_option maxHeartbeats 8000000
def c_spec_DrawWheelAdd : Contract := ⟨29, fun args M => match args with
  | [.c (.sl a n c)] => .eff (RowOk UInt8 a n (M a.r)) (OwnW × Int × Int) (fun q => q.1.2.2.1.length ≤ q.1.2.2.2 ∧ q.1.2.2.1.length ≤ 13) (fun q => .tup [(true, [.int .i64 q.1.1, .int .i64 q.1.2.1, .sl ⟨.loc 0, 0, 0, 0⟩ q.1.2.2.1.length q.1.2.2.2]), (false, [.int .i64 q.2.1]), (false, [.int .i64 q.2.2])]) (fun q => [rowG true 51 q.1.2.2.2 q.1.2.2.1]) (fun _ => [])
  | _ => .bad⟩
theorem ok_spec_DrawWheelAdd : fnP Try.prog c_spec_DrawWheelAdd.f = true ∧ ∀ args M, (c_spec_DrawWheelAdd.sp args M).OK Try.prog c_spec_DrawWheelAdd.f args M := by
  refine ⟨fp_29, fun args M => ?_⟩
  unfold c_spec_DrawWheelAdd
  dsimp only
  split
  case h_2 => trivial
  rename_i a n ca
  intro ha
  have hn := ha.1
  refine goIn hf_29 rfl (nt := 22) rfl (rs := [.cell 2 29, .tmp 3, .tmp 4]) rfl (C := [c_spec_l1New, c_spec_l1PickInt, c_spec_l1Size, c_spec_l36Some]) ⟨(by first | exact .inl ok_spec_l1New | exact ok_spec_l1New), (by first | exact .inl ok_spec_l1PickInt | exact ok_spec_l1PickInt), (by first | exact .inl ok_spec_l1Size | exact ok_spec_l1Size), (by first | exact .inl ok_spec_l36Some | exact ok_spec_l36Some), trivial⟩ (q := fun _ => false) okQ_none mixed (O := fun _ => .nil) (by kernel_rfl) ?_
  simp only [↓WP, ↓grdD, ↓grdT, ↓un_dead, ↓binVC, ↓buildVC, ↓sliceVC, WQ, WN, Int.reduceToNat, renl, cll, rent, clt, ↓reduceIte, Nat.reduceLeDiff, Nat.reduceEqDiff, Nat.reduceLT, reduceCtorEq, List.append_nil, Nat.reduceAdd, Nat.reduceSub, Nat.reduceBEq, forall_const, implies_true, cond_true, cond_false, AV.ren, AC.ren, AV.cl, AC.cl, eq_self, List.all_cons, List.all_nil, AV.eqv, AC.eqv, eqvl, eqvt, Sl.eqv, List.map_append, List.length_map, List.length_append, List.length_replicate, List.length_set, List.map_replicate, nilVC, zr_29, el_40, zr_3, sz_29, c_spec_l1New, c_spec_l1PickInt, c_spec_l1Size, c_spec_l36Some, ha]
  repeat' (first | with_reducible refine And.intro ?_ ?_ | intro _)
  all_goals try omega
  all_goals try exact .inr trivial
  all_goals try (refine .inr ?_; intro cs hcs; simp only [List.mem_cons, List.not_mem_nil, or_false] at hcs; rcases hcs with rfl | rfl | rfl | rfl | rfl <;> rfl)
  all_goals
    rename_i x0 hx0 x1 hx1 sz hsz q hq
    obtain ⟨⟨u, v, X, k⟩, p9, z9⟩ := q
    obtain ⟨⟨hq1, hq2⟩, _⟩ := hq
    dsimp only at hq1 hq2
    refine end_ret ?_
    simp only [↓WP, ↓grdD, ↓grdT, ↓un_dead, ↓binVC, ↓buildVC, ↓sliceVC, WQ, WN, Int.reduceToNat, renl, cll, rent, clt, ↓reduceIte, Nat.reduceLeDiff, Nat.reduceEqDiff, Nat.reduceLT, reduceCtorEq, List.append_nil, Nat.reduceAdd, Nat.reduceSub, Nat.reduceBEq, forall_const, implies_true, cond_true, cond_false, AV.ren, AC.ren, AV.cl, AC.cl, eq_self, List.all_cons, List.all_nil, AV.eqv, AC.eqv, eqvl, eqvt, Sl.eqv, List.map_append, List.length_map, List.length_append, List.length_replicate, List.length_set, List.map_replicate, nilVC, zr_29, el_40, zr_3, sz_29, c_spec_l1New, c_spec_l1PickInt, c_spec_l1Size, c_spec_l36Some]
    refine ⟨((u, v, X, k), x0.1, x1.1), [], [4], ?_⟩
    simp only [WL, WNL, swA_new, swA_ne, nest_sw_ne, mapLL, List.mem_cons, Nat.reduceAdd, Nat.reduceLT, Nat.reduceLeDiff, Nat.reduceEqDiff, okU, List.nodup_cons, List.not_mem_nil, toT, toL, toO, keysO, renl, rent, cll, clt, eq_self, AV.eqv, AC.eqv, eqvl, eqvt, Sl.eqv, rowsLe, mapLL, rowsCl, List.map_append, List.length_map, List.length_append, List.length_set, List.map_replicate, rowG, List.getElem?_cons_zero, List.getElem?_cons_succ, List.getElem?_nil, List.append_nil, List.nil_append, List.cons_append, ghosts, St.gh, Option.some.injEq, implies_true, setT, AV.ren, AC.ren, AV.cl, AC.cl, List.replicate_succ, List.replicate_zero, List.nodup_nil, List.length_nil, List.length_cons, List.getD_cons_zero, List.getD_cons_succ, ↓reduceIte, retP]
    simp [hq1, hq2]
def c_spec_DrawWheelDrop : Contract := ⟨30, fun args M => match args with
  | [.c (.sl a n c)] => .eff (RowOk UInt8 a n (M a.r)) (OwnW × Int) (fun q => q.1.2.2.1.length ≤ q.1.2.2.2 ∧ q.1.2.2.1.length ≤ 13) (fun q => .tup [(true, [.int .i64 q.1.1, .int .i64 q.1.2.1, .sl ⟨.loc 0, 0, 0, 0⟩ q.1.2.2.1.length q.1.2.2.2]), (false, [.int .i64 q.2])]) (fun q => [rowG true 51 q.1.2.2.2 q.1.2.2.1]) (fun _ => [])
  | _ => .bad⟩
theorem ok_spec_DrawWheelDrop : fnP Try.prog c_spec_DrawWheelDrop.f = true ∧ ∀ args M, (c_spec_DrawWheelDrop.sp args M).OK Try.prog c_spec_DrawWheelDrop.f args M := by
  refine ⟨fp_30, fun args M => ?_⟩
  unfold c_spec_DrawWheelDrop
  dsimp only
  split
  case h_2 => trivial
  rename_i a n ca
  intro ha
  have hn := ha.1
  refine goIn hf_30 rfl (nt := 15) rfl (rs := [.cell 2 29, .tmp 3]) rfl (C := [c_spec_l1New, c_spec_l1Below, c_spec_l1Size, c_spec_l36Some]) ⟨(by first | exact .inl ok_spec_l1New | exact ok_spec_l1New), (by first | exact .inl ok_spec_l1Below | exact ok_spec_l1Below), (by first | exact .inl ok_spec_l1Size | exact ok_spec_l1Size), (by first | exact .inl ok_spec_l36Some | exact ok_spec_l36Some), trivial⟩ (q := fun _ => false) okQ_none mixed (O := fun _ => .nil) (by kernel_rfl) ?_
  simp only [↓WP, ↓grdD, ↓grdT, ↓un_dead, ↓binVC, ↓buildVC, ↓sliceVC, WQ, WN, Int.reduceToNat, renl, cll, rent, clt, ↓reduceIte, Nat.reduceLeDiff, Nat.reduceEqDiff, Nat.reduceLT, reduceCtorEq, List.append_nil, Nat.reduceAdd, Nat.reduceSub, Nat.reduceBEq, forall_const, implies_true, cond_true, cond_false, AV.ren, AC.ren, AV.cl, AC.cl, eq_self, List.all_cons, List.all_nil, AV.eqv, AC.eqv, eqvl, eqvt, Sl.eqv, List.map_append, List.length_map, List.length_append, List.length_replicate, List.length_set, List.map_replicate, nilVC, zr_29, sz_29, c_spec_l1New, c_spec_l1Below, c_spec_l1Size, c_spec_l36Some, ha]
  repeat' (first | with_reducible refine And.intro ?_ ?_ | intro _)
  all_goals try omega
  all_goals try exact .inr trivial
  all_goals
    rename_i x0 hx0 sz hsz q hq
    obtain ⟨⟨u, v, X, k⟩, p9, z9⟩ := q
    obtain ⟨⟨hq1, hq2⟩, _⟩ := hq
    dsimp only at hq1 hq2
    refine end_ret ?_
    simp only [↓WP, ↓grdD, ↓grdT, ↓un_dead, ↓binVC, ↓buildVC, ↓sliceVC, WQ, WN, Int.reduceToNat, renl, cll, rent, clt, ↓reduceIte, Nat.reduceLeDiff, Nat.reduceEqDiff, Nat.reduceLT, reduceCtorEq, List.append_nil, Nat.reduceAdd, Nat.reduceSub, Nat.reduceBEq, forall_const, implies_true, cond_true, cond_false, AV.ren, AC.ren, AV.cl, AC.cl, eq_self, List.all_cons, List.all_nil, AV.eqv, AC.eqv, eqvl, eqvt, Sl.eqv, List.map_append, List.length_map, List.length_append, List.length_replicate, List.length_set, List.map_replicate, nilVC, zr_29, sz_29, c_spec_l1New, c_spec_l1Below, c_spec_l1Size, c_spec_l36Some]
    refine ⟨((u, v, X, k), x0.1), [], [2], ?_⟩
    simp only [WL, WNL, swA_new, swA_ne, nest_sw_ne, mapLL, List.mem_cons, Nat.reduceAdd, Nat.reduceLT, Nat.reduceLeDiff, Nat.reduceEqDiff, okU, List.nodup_cons, List.not_mem_nil, toT, toL, toO, keysO, renl, rent, cll, clt, eq_self, AV.eqv, AC.eqv, eqvl, eqvt, Sl.eqv, rowsLe, mapLL, rowsCl, List.map_append, List.length_map, List.length_append, List.length_set, List.map_replicate, rowG, List.getElem?_cons_zero, List.getElem?_cons_succ, List.getElem?_nil, List.append_nil, List.nil_append, List.cons_append, ghosts, St.gh, Option.some.injEq, implies_true, setT, AV.ren, AC.ren, AV.cl, AC.cl, List.replicate_succ, List.replicate_zero, List.nodup_nil, List.length_nil, List.length_cons, List.getD_cons_zero, List.getD_cons_succ, ↓reduceIte, retP]
    simp [hq1, hq2]
def c_spec_DrawWheelGo : Contract := ⟨32, fun args M => match args with
  | [.c (.sl a n c)] => .eff (RowOk UInt8 a n (M a.r)) (OwnW × Int) (fun q => q.1.2.2.1.length ≤ q.1.2.2.2 ∧ q.1.2.2.1.length ≤ 13) (fun q => .tup [(true, [.int .i64 q.1.1, .int .i64 q.1.2.1, .sl ⟨.loc 0, 0, 0, 0⟩ q.1.2.2.1.length q.1.2.2.2]), (false, [.int .i64 q.2])]) (fun q => [rowG true 51 q.1.2.2.2 q.1.2.2.1]) (fun _ => [])
  | _ => .bad⟩
theorem ok_spec_DrawWheelGo : fnP Try.prog c_spec_DrawWheelGo.f = true ∧ ∀ args M, (c_spec_DrawWheelGo.sp args M).OK Try.prog c_spec_DrawWheelGo.f args M := by
  refine ⟨fp_32, fun args M => ?_⟩
  unfold c_spec_DrawWheelGo
  dsimp only
  split
  case h_2 => trivial
  rename_i a n ca
  intro ha
  have hn := ha.1
  refine goIn hf_32 rfl (nt := 16) rfl (rs := [.cell 2 29, .tmp 3]) rfl (C := [c_spec_l1New, c_spec_l1PickInt, c_spec_l1Size, c_spec_l36Some]) ⟨(by first | exact .inl ok_spec_l1New | exact ok_spec_l1New), (by first | exact .inl ok_spec_l1PickInt | exact ok_spec_l1PickInt), (by first | exact .inl ok_spec_l1Size | exact ok_spec_l1Size), (by first | exact .inl ok_spec_l36Some | exact ok_spec_l36Some), trivial⟩ (q := fun _ => false) okQ_none mixed (O := fun _ => .nil) (by kernel_rfl) ?_
  simp only [↓WP, ↓grdD, ↓grdT, ↓un_dead, ↓binVC, ↓buildVC, ↓sliceVC, WQ, WN, Int.reduceToNat, renl, cll, rent, clt, ↓reduceIte, Nat.reduceLeDiff, Nat.reduceEqDiff, Nat.reduceLT, reduceCtorEq, List.append_nil, Nat.reduceAdd, Nat.reduceSub, Nat.reduceBEq, forall_const, implies_true, cond_true, cond_false, AV.ren, AC.ren, AV.cl, AC.cl, eq_self, List.all_cons, List.all_nil, AV.eqv, AC.eqv, eqvl, eqvt, Sl.eqv, List.map_append, List.length_map, List.length_append, List.length_replicate, List.length_set, List.map_replicate, nilVC, zr_29, el_40, zr_3, sz_29, c_spec_l1New, c_spec_l1PickInt, c_spec_l1Size, c_spec_l36Some, ha]
  repeat' (first | with_reducible refine And.intro ?_ ?_ | intro _)
  all_goals try omega
  all_goals try exact .inr trivial
  all_goals try (refine .inr ?_; intro cs hcs; simp only [List.mem_cons, List.not_mem_nil, or_false] at hcs; rcases hcs with rfl | rfl | rfl | rfl | rfl | rfl | rfl <;> rfl)
  all_goals
    rename_i x0 hx0 sz hsz q hq
    obtain ⟨⟨u, v, X, k⟩, p9, z9⟩ := q
    obtain ⟨⟨hq1, hq2⟩, _⟩ := hq
    dsimp only at hq1 hq2
    refine end_ret ?_
    simp only [↓WP, ↓grdD, ↓grdT, ↓un_dead, ↓binVC, ↓buildVC, ↓sliceVC, WQ, WN, Int.reduceToNat, renl, cll, rent, clt, ↓reduceIte, Nat.reduceLeDiff, Nat.reduceEqDiff, Nat.reduceLT, reduceCtorEq, List.append_nil, Nat.reduceAdd, Nat.reduceSub, Nat.reduceBEq, forall_const, implies_true, cond_true, cond_false, AV.ren, AC.ren, AV.cl, AC.cl, eq_self, List.all_cons, List.all_nil, AV.eqv, AC.eqv, eqvl, eqvt, Sl.eqv, List.map_append, List.length_map, List.length_append, List.length_replicate, List.length_set, List.map_replicate, nilVC, zr_29, el_40, zr_3, sz_29, c_spec_l1New, c_spec_l1PickInt, c_spec_l1Size, c_spec_l36Some]
    refine ⟨((u, v, X, k), x0.1), [], [3], ?_⟩
    simp only [WL, WNL, swA_new, swA_ne, nest_sw_ne, mapLL, List.mem_cons, Nat.reduceAdd, Nat.reduceLT, Nat.reduceLeDiff, Nat.reduceEqDiff, okU, List.nodup_cons, List.not_mem_nil, toT, toL, toO, keysO, renl, rent, cll, clt, eq_self, AV.eqv, AC.eqv, eqvl, eqvt, Sl.eqv, rowsLe, mapLL, rowsCl, List.map_append, List.length_map, List.length_append, List.length_set, List.map_replicate, rowG, List.getElem?_cons_zero, List.getElem?_cons_succ, List.getElem?_nil, List.append_nil, List.nil_append, List.cons_append, ghosts, St.gh, Option.some.injEq, implies_true, setT, AV.ren, AC.ren, AV.cl, AC.cl, List.replicate_succ, List.replicate_zero, List.nodup_nil, List.length_nil, List.length_cons, List.getD_cons_zero, List.getD_cons_succ, ↓reduceIte, retP]
    simp [hq1, hq2]
def c_laws_sameWheel : Contract := ⟨31, fun args M => match args with
  | [.agg [.int .i64 u, .int .i64 v, .sl a n ca], .agg [.int .i64 u', .int .i64 v', .sl b m cb]] => .pure (RowOk T3 a n (M a.r) ∧ RowOk T3 b m (M b.r)) (Eng.B (decide (u = u' ∧ v = v' ∧ row T3 a n (M a.r) = row T3 b m (M b.r))))
  | _ => .bad⟩
theorem ok_laws_sameWheel : fnP Try.prog c_laws_sameWheel.f = true ∧ ∀ args M, (c_laws_sameWheel.sp args M).OK Try.prog c_laws_sameWheel.f args M := by
  refine ⟨fp_31, fun args M => ?_⟩
  unfold c_laws_sameWheel
  dsimp only
  split
  case h_2 => trivial
  rename_i u v a n ca u' v' b m cb
  rintro ⟨ha, hb⟩
  obtain ⟨hs, X, hX, rfl, hat⟩ := ha.x
  obtain ⟨hs', Y, hY, rfl, hbt⟩ := hb.x
  rw [hX, hY]
  refine goIn hf_31 rfl (nt := 45) rfl (rs := [.tmp 4]) rfl (C := []) trivial (q := fun f => [].contains f) trivial mixed (O := ots [(6, otl [0, 1, 2, 3, 4, 5, 6, 7, 8, 9, 10] .nil)]) (by kernel_rfl) ?_
  by_cases hd : u = u' ∧ v = v' ∧ X.length = Y.length
  · obtain ⟨rfl, rfl, hl⟩ := hd
    have d1 : decide (u = u) = true := by simp
    have d2 : decide (v = v) = true := by simp
    have d3 : decide ((X.length : Int) = (Y.length : Int)) = true := decide_eq_true (by omega)
    simp only [↓WP, ↓grdD, ↓grdT, ↓un_dead, ↓binVC, ↓buildVC, ↓sliceVC, WQ, WN, Int.reduceToNat, renl, cll, rent, clt, ↓reduceIte, Nat.reduceLeDiff, Nat.reduceEqDiff, Nat.reduceLT, reduceCtorEq, List.append_nil, Nat.reduceAdd, Nat.reduceSub, Nat.reduceBEq, forall_const, implies_true, cond_true, cond_false, AV.ren, AC.ren, AV.cl, AC.cl, eq_self, List.all_cons, List.all_nil, AV.eqv, AC.eqv, eqvl, eqvt, Sl.eqv, List.map_append, List.length_map, List.length_append, List.length_replicate, List.length_set, List.map_replicate, nilVC, fl_29_0, sz_3, fl_29_1, fl_29_2, sz_27, sd_27, el_27, sz_51, ag_51, d1, d2, d3, decide_true]
    refine loopI (J := {i : Nat // i ≤ X.length ∧ X.take i = Y.take i}) (fun i => ⟨slots 45 [(2, .c (.ptr ⟨.loc 0, 0, 0, 0⟩)), (3, .c (.ptr ⟨.loc 1, 0, 0, 0⟩)), (5, I i.1)], M, [], [.box 29 [.int .i64 u, .int .i64 v, .sl a.up X.length ca], .box 29 [.int .i64 u, .int .i64 v, .sl b.up Y.length cb]]⟩) (fun i => X.length - i.1) ⟨0, by omega, rfl⟩ (Le_intro [0, 1] (by simp only [WL, WNL, swA_new, swA_ne, nest_sw_ne, mapLL, List.mem_cons, Nat.reduceAdd, Nat.reduceLT, Nat.reduceLeDiff, Nat.reduceEqDiff, okU, List.nodup_cons, List.not_mem_nil, toT, toL, toO, keysO, renl, rent, cll, clt, eq_self, AV.eqv, AC.eqv, eqvl, eqvt, Sl.eqv, rowsLe, mapLL, rowsCl, List.map_append, List.length_map, List.length_append, List.length_set, List.map_replicate, rowG, List.getElem?_cons_zero, List.getElem?_cons_succ, List.getElem?_nil, List.append_nil, List.nil_append, List.cons_append, ghosts, St.gh, Option.some.injEq, implies_true, setT, AV.ren, AC.ren, AV.cl, AC.cl, List.replicate_succ, List.replicate_zero, List.nodup_nil, List.length_nil, List.length_cons, List.getD_cons_zero, List.getD_cons_succ, ↓reduceIte]; try simp)) ?_
    rintro ⟨i, hi, he⟩
    have hw := wS (i := i) (by omega)
    rcases Nat.lt_or_ge i X.length with hlt | hge
    · obtain ⟨own, ty, cnt, cap, len, get, hM, hf, hic, hkn, hget⟩ := hat (by omega)
      obtain ⟨own', ty', cnt', cap', len', get', hM', hf', hic', hkn', hget'⟩ := hbt (by omega)
      have hc : (decide ((X.getD i default).1 = (Y.getD i default).1) && (decide ((X.getD i default).2.1 = (Y.getD i default).2.1) && decide ((X.getD i default).2.2 = (Y.getD i default).2.2))) = decide (X.getD i default = Y.getD i default) := by
        rw [Bool.eq_iff_iff]
        simp only [Bool.and_eq_true, decide_eq_true_eq, Prod.ext_iff]
      simp only [↓WP, ↓grdD, ↓grdT, ↓un_dead, ↓binVC, ↓buildVC, ↓sliceVC, WQ, WN, Int.reduceToNat, renl, cll, rent, clt, ↓reduceIte, Nat.reduceLeDiff, Nat.reduceEqDiff, Nat.reduceLT, reduceCtorEq, List.append_nil, Nat.reduceAdd, Nat.reduceSub, Nat.reduceBEq, forall_const, implies_true, cond_true, cond_false, AV.ren, AC.ren, AV.cl, AC.cl, eq_self, List.all_cons, List.all_nil, AV.eqv, AC.eqv, eqvl, eqvt, Sl.eqv, List.map_append, List.length_map, List.length_append, List.length_replicate, List.length_set, List.map_replicate, nilVC, fl_29_0, sz_3, fl_29_1, fl_29_2, sz_27, sd_27, el_27, sz_51, ag_51, dlt hlt, hw, hM, hf, hget i hlt, hM', hf', hget' i (by omega), hc]
      refine ⟨by omega, by omega, by omega, by omega, fun h1 => ?_, fun h1 => ?_⟩
      · rw [Bool.not_eq_true', decide_eq_false_iff_not] at h1
        have := ne_of_getD (X := X) (Y := Y) (i := i) h1
        simp [this]
      · rw [Bool.not_eq_false', decide_eq_true_eq] at h1
        exact ⟨⟨i + 1, hlt, eq_step he hlt (by omega) h1⟩, Le_intro [0, 1] (by simp only [WL, WNL, swA_new, swA_ne, nest_sw_ne, mapLL, List.mem_cons, Nat.reduceAdd, Nat.reduceLT, Nat.reduceLeDiff, Nat.reduceEqDiff, okU, List.nodup_cons, List.not_mem_nil, toT, toL, toO, keysO, renl, rent, cll, clt, eq_self, AV.eqv, AC.eqv, eqvl, eqvt, Sl.eqv, rowsLe, mapLL, rowsCl, List.map_append, List.length_map, List.length_append, List.length_set, List.map_replicate, rowG, List.getElem?_cons_zero, List.getElem?_cons_succ, List.getElem?_nil, List.append_nil, List.nil_append, List.cons_append, ghosts, St.gh, Option.some.injEq, implies_true, setT, AV.ren, AC.ren, AV.cl, AC.cl, List.replicate_succ, List.replicate_zero, List.nodup_nil, List.length_nil, List.length_cons, List.getD_cons_zero, List.getD_cons_succ, ↓reduceIte]; try simp), by show X.length - (i + 1) < X.length - i; omega⟩
    · obtain rfl : i = X.length := by omega
      simp only [↓WP, ↓grdD, ↓grdT, ↓un_dead, ↓binVC, ↓buildVC, ↓sliceVC, WQ, WN, Int.reduceToNat, renl, cll, rent, clt, ↓reduceIte, Nat.reduceLeDiff, Nat.reduceEqDiff, Nat.reduceLT, reduceCtorEq, List.append_nil, Nat.reduceAdd, Nat.reduceSub, Nat.reduceBEq, forall_const, implies_true, cond_true, cond_false, AV.ren, AC.ren, AV.cl, AC.cl, eq_self, List.all_cons, List.all_nil, AV.eqv, AC.eqv, eqvl, eqvt, Sl.eqv, List.map_append, List.length_map, List.length_append, List.length_replicate, List.length_set, List.map_replicate, nilVC, fl_29_0, sz_3, fl_29_1, fl_29_2, sz_27, sd_27, el_27, sz_51, ag_51, dge hge, hw]
      simp [eq_of_take hl he]
  · have key : decide (u = u') = false ∨ (decide (u = u') = true ∧ decide (v = v') = false) ∨ (decide (u = u') = true ∧ decide (v = v') = true ∧ decide ((X.length : Int) = (Y.length : Int)) = false) := by
      simp only [decide_eq_true_eq, decide_eq_false_iff_not]
      omega
    have hne : ¬ (u = u' ∧ v = v' ∧ X = Y) := by
      rintro ⟨h1, h2, rfl⟩
      exact hd ⟨h1, h2, rfl⟩
    rw [decide_eq_false hne]
    rcases key with d1 | ⟨d1, d2⟩ | ⟨d1, d2, d3⟩
    · simp only [↓WP, ↓grdD, ↓grdT, ↓un_dead, ↓binVC, ↓buildVC, ↓sliceVC, WQ, WN, Int.reduceToNat, renl, cll, rent, clt, ↓reduceIte, Nat.reduceLeDiff, Nat.reduceEqDiff, Nat.reduceLT, reduceCtorEq, List.append_nil, Nat.reduceAdd, Nat.reduceSub, Nat.reduceBEq, forall_const, implies_true, cond_true, cond_false, AV.ren, AC.ren, AV.cl, AC.cl, eq_self, List.all_cons, List.all_nil, AV.eqv, AC.eqv, eqvl, eqvt, Sl.eqv, List.map_append, List.length_map, List.length_append, List.length_replicate, List.length_set, List.map_replicate, nilVC, fl_29_0, sz_3, fl_29_1, fl_29_2, sz_27, sd_27, el_27, sz_51, ag_51, d1]
    · simp only [↓WP, ↓grdD, ↓grdT, ↓un_dead, ↓binVC, ↓buildVC, ↓sliceVC, WQ, WN, Int.reduceToNat, renl, cll, rent, clt, ↓reduceIte, Nat.reduceLeDiff, Nat.reduceEqDiff, Nat.reduceLT, reduceCtorEq, List.append_nil, Nat.reduceAdd, Nat.reduceSub, Nat.reduceBEq, forall_const, implies_true, cond_true, cond_false, AV.ren, AC.ren, AV.cl, AC.cl, eq_self, List.all_cons, List.all_nil, AV.eqv, AC.eqv, eqvl, eqvt, Sl.eqv, List.map_append, List.length_map, List.length_append, List.length_replicate, List.length_set, List.map_replicate, nilVC, fl_29_0, sz_3, fl_29_1, fl_29_2, sz_27, sd_27, el_27, sz_51, ag_51, d1, d2]
    · simp only [↓WP, ↓grdD, ↓grdT, ↓un_dead, ↓binVC, ↓buildVC, ↓sliceVC, WQ, WN, Int.reduceToNat, renl, cll, rent, clt, ↓reduceIte, Nat.reduceLeDiff, Nat.reduceEqDiff, Nat.reduceLT, reduceCtorEq, List.append_nil, Nat.reduceAdd, Nat.reduceSub, Nat.reduceBEq, forall_const, implies_true, cond_true, cond_false, AV.ren, AC.ren, AV.cl, AC.cl, eq_self, List.all_cons, List.all_nil, AV.eqv, AC.eqv, eqvl, eqvt, Sl.eqv, List.map_append, List.length_map, List.length_append, List.length_replicate, List.length_set, List.map_replicate, nilVC, fl_29_0, sz_3, fl_29_1, fl_29_2, sz_27, sd_27, el_27, sz_51, ag_51, d1, d2, d3]
theorem q_laws_sameWheel : Quiet c_laws_sameWheel := by
  intro args M
  unfold c_laws_sameWheel
  dsimp only
  split <;> first | trivial | (intro _; rfl)
end Go.Eng.T
