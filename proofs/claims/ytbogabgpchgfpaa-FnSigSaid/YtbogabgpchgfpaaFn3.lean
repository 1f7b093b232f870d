/- sig: the small ones. -/
import Derived.Test.YtbogabgpchgfpaaFn2
set_option linter.unusedVariables false
set_option linter.unusedSimpArgs false
set_option linter.unusedSectionVars false
namespace Go.Eng.T
open Go.Proofs
open Cel (enc dec)
set_option maxRecDepth 100000
set_option maxHeartbeats 4000000
def c_slices_Index_int : Contract := ⟨65, fun args M => match args with
  | [.c (.sl a n _), .c (.int .i64 v)] => .pure (RowOk Int a n (M a.r)) (I (idx (fun x => decide (x = v)) (row Int a n (M a.r))))
  | _ => .bad⟩
theorem ok_slices_Index_int : fnP Try.prog c_slices_Index_int.f = true ∧ ∀ args M, (c_slices_Index_int.sp args M).OK Try.prog c_slices_Index_int.f args M := by
  refine ⟨fp_65, fun args M => ?_⟩
  unfold c_slices_Index_int
  dsimp only
  split
  case h_2 => trivial
  rename_i a n ca v
  intro ha
  obtain ⟨hs, X, hX, rfl, hat⟩ := ha.x
  rw [hX]
  refine goIn hf_65 rfl (nt := 19) rfl (rs := [.tmp 4]) rfl (C := []) trivial (q := fun _ => false) okQ_none mixed (O := fun _ => .nil) (by kernel_rfl) ?_
  simp only [↓WP, ↓grdD, ↓grdT, ↓un_dead, ↓binVC, ↓buildVC, ↓sliceVC, WQ, WN, Int.reduceToNat, renl, cll, rent, clt, ↓reduceIte, Nat.reduceLeDiff, Nat.reduceEqDiff, Nat.reduceLT, reduceCtorEq, List.append_nil, Nat.reduceAdd, Nat.reduceSub, Nat.reduceBEq, forall_const, implies_true, cond_true, cond_false, AV.ren, AC.ren, AV.cl, AC.cl, eq_self, List.all_cons, List.all_nil, AV.eqv, AC.eqv, eqvl, eqvt, Sl.eqv, List.map_append, List.length_map, List.length_append, List.length_replicate, List.length_set, List.map_replicate, nilVC, sd_23, el_23, sz_3]
  refine loopI (J := {i : Nat // i ≤ X.length ∧ clear (fun x => decide (x = v)) X i}) (fun i => ⟨slots 19 [(0, .c (.sl a.up X.length ca)), (1, I v), (7, I X.length), (8, I i.1)], M, [], []⟩) (fun i => X.length - i.1) ⟨0, by omega, clear_zero _ _⟩ (Le_intro [] (by simp [WL, WNL, swA_new, swA_ne, nest_sw_ne, mapLL, List.mem_cons, Nat.reduceAdd, Nat.reduceLT, Nat.reduceLeDiff, Nat.reduceEqDiff, okU, List.nodup_cons, List.not_mem_nil, toT, toL, toO, keysO, renl, rent, cll, clt, eq_self, AV.eqv, AC.eqv, eqvl, eqvt, Sl.eqv, rowsLe, mapLL, rowsCl, List.map_append, List.length_map, List.length_append, List.length_set, List.map_replicate, rowG, List.getElem?_cons_zero, List.getElem?_cons_succ, List.getElem?_nil, List.append_nil, List.nil_append, List.cons_append, ghosts, St.gh, Option.some.injEq, implies_true, setT, AV.ren, AC.ren, AV.cl, AC.cl, List.replicate_succ, List.replicate_zero, List.nodup_nil, List.length_nil, List.length_cons, List.getD_cons_zero, List.getD_cons_succ, ↓reduceIte])) ?_
  rintro ⟨i, hi, he⟩
  have hw := wS (i := i) (by omega)
  rcases Nat.lt_or_ge i X.length with hlt | hge
  · obtain ⟨own, ty, cnt, cap, len, get, hM, hf, hic, hkn, hget⟩ := hat (by omega)
    simp only [↓WP, ↓grdD, ↓grdT, ↓un_dead, ↓binVC, ↓buildVC, ↓sliceVC, WQ, WN, Int.reduceToNat, renl, cll, rent, clt, ↓reduceIte, Nat.reduceLeDiff, Nat.reduceEqDiff, Nat.reduceLT, reduceCtorEq, List.append_nil, Nat.reduceAdd, Nat.reduceSub, Nat.reduceBEq, forall_const, implies_true, cond_true, cond_false, AV.ren, AC.ren, AV.cl, AC.cl, eq_self, List.all_cons, List.all_nil, AV.eqv, AC.eqv, eqvl, eqvt, Sl.eqv, List.map_append, List.length_map, List.length_append, List.length_replicate, List.length_set, List.map_replicate, nilVC, sd_23, el_23, sz_3, dlt hlt, hw, hM, hf, hget i hlt]
    repeat refine ⟨by omega, ?_⟩
    refine ⟨fun h1 => ?_, fun h1 => ?_⟩
    · have h1 : X.getD i default = v := (of_decide_eq_true h1).symm
      have := idx_hit he hlt (decide_eq_true h1)
      simp [this]
    · have h1 : ¬ X.getD i default = v := fun e => of_decide_eq_false h1 e.symm
      exact ⟨⟨i + 1, hlt, clear_succ he (decide_eq_false h1)⟩, Le_intro [] (by simp [WL, WNL, swA_new, swA_ne, nest_sw_ne, mapLL, List.mem_cons, Nat.reduceAdd, Nat.reduceLT, Nat.reduceLeDiff, Nat.reduceEqDiff, okU, List.nodup_cons, List.not_mem_nil, toT, toL, toO, keysO, renl, rent, cll, clt, eq_self, AV.eqv, AC.eqv, eqvl, eqvt, Sl.eqv, rowsLe, mapLL, rowsCl, List.map_append, List.length_map, List.length_append, List.length_set, List.map_replicate, rowG, List.getElem?_cons_zero, List.getElem?_cons_succ, List.getElem?_nil, List.append_nil, List.nil_append, List.cons_append, ghosts, St.gh, Option.some.injEq, implies_true, setT, AV.ren, AC.ren, AV.cl, AC.cl, List.replicate_succ, List.replicate_zero, List.nodup_nil, List.length_nil, List.length_cons, List.getD_cons_zero, List.getD_cons_succ, ↓reduceIte]), by show X.length - (i + 1) < X.length - i; omega⟩
  · obtain rfl : i = X.length := by omega
    simp only [↓WP, ↓grdD, ↓grdT, ↓un_dead, ↓binVC, ↓buildVC, ↓sliceVC, WQ, WN, Int.reduceToNat, renl, cll, rent, clt, ↓reduceIte, Nat.reduceLeDiff, Nat.reduceEqDiff, Nat.reduceLT, reduceCtorEq, List.append_nil, Nat.reduceAdd, Nat.reduceSub, Nat.reduceBEq, forall_const, implies_true, cond_true, cond_false, AV.ren, AC.ren, AV.cl, AC.cl, eq_self, List.all_cons, List.all_nil, AV.eqv, AC.eqv, eqvl, eqvt, Sl.eqv, List.map_append, List.length_map, List.length_append, List.length_replicate, List.length_set, List.map_replicate, nilVC, sd_23, el_23, sz_3, dge hge, hw]
    have := idx_miss he
    simp [this]
theorem q_slices_Index_int : Quiet c_slices_Index_int := by
  intro args M
  unfold c_slices_Index_int
  dsimp only
  split <;> first | trivial | (intro _; rfl)
def c_slices_Contains_int : Contract := ⟨55, fun args M => match args with
  | [.c (.sl a n _), .c (.int .i64 v)] => .pure (RowOk Int a n (M a.r)) (Eng.B ((row Int a n (M a.r)).any fun x => decide (x = v)))
  | _ => .bad⟩
theorem ok_slices_Contains_int : fnP Try.prog c_slices_Contains_int.f = true ∧ ∀ args M, (c_slices_Contains_int.sp args M).OK Try.prog c_slices_Contains_int.f args M := by
  refine ⟨fp_55, fun args M => ?_⟩
  unfold c_slices_Contains_int
  dsimp only
  split
  case h_2 => trivial
  rename_i a n ca v
  intro ha
  refine goIn hf_55 rfl (nt := 9) rfl (rs := [.tmp 4]) rfl (C := [c_slices_Index_int]) ⟨(by first | exact .inl ok_slices_Index_int | exact ok_slices_Index_int), trivial⟩ (q := fun _ => false) okQ_none mixed (O := fun _ => .nil) (by kernel_rfl) ?_
  simp only [↓WP, ↓grdD, ↓grdT, ↓un_dead, ↓binVC, ↓buildVC, ↓sliceVC, WQ, WN, Int.reduceToNat, renl, cll, rent, clt, ↓reduceIte, Nat.reduceLeDiff, Nat.reduceEqDiff, Nat.reduceLT, reduceCtorEq, List.append_nil, Nat.reduceAdd, Nat.reduceSub, Nat.reduceBEq, forall_const, implies_true, cond_true, cond_false, AV.ren, AC.ren, AV.cl, AC.cl, eq_self, List.all_cons, List.all_nil, AV.eqv, AC.eqv, eqvl, eqvt, Sl.eqv, List.map_append, List.length_map, List.length_append, List.length_replicate, List.length_set, List.map_replicate, nilVC, c_slices_Index_int, ← idx_any]
  exact ha
theorem q_slices_Contains_int : Quiet c_slices_Contains_int := by
  intro args M
  unfold c_slices_Contains_int
  dsimp only
  split <;> first | trivial | (intro _; rfl)
def c_spec_l31Has : Contract := ⟨48, fun args M => match args with
  | [.c (.sl a n _), .c (.int .i64 v)] => .pure (RowOk Int a n (M a.r)) (Eng.B ((row Int a n (M a.r)).any fun x => decide (x = v)))
  | _ => .bad⟩
theorem ok_spec_l31Has : fnP Try.prog c_spec_l31Has.f = true ∧ ∀ args M, (c_spec_l31Has.sp args M).OK Try.prog c_spec_l31Has.f args M := by
  refine ⟨fp_48, fun args M => ?_⟩
  unfold c_spec_l31Has
  dsimp only
  split
  case h_2 => trivial
  rename_i a n ca v
  intro ha
  obtain ⟨hs, X, hX, rfl, hat⟩ := ha.x
  rw [hX]
  refine goIn hf_48 rfl (nt := 18) rfl (rs := [.tmp 4]) rfl (C := []) trivial (q := fun _ => false) okQ_none mixed (O := fun _ => .nil) (by kernel_rfl) ?_
  simp only [↓WP, ↓grdD, ↓grdT, ↓un_dead, ↓binVC, ↓buildVC, ↓sliceVC, WQ, WN, Int.reduceToNat, renl, cll, rent, clt, ↓reduceIte, Nat.reduceLeDiff, Nat.reduceEqDiff, Nat.reduceLT, reduceCtorEq, List.append_nil, Nat.reduceAdd, Nat.reduceSub, Nat.reduceBEq, forall_const, implies_true, cond_true, cond_false, AV.ren, AC.ren, AV.cl, AC.cl, eq_self, List.all_cons, List.all_nil, AV.eqv, AC.eqv, eqvl, eqvt, Sl.eqv, List.map_append, List.length_map, List.length_append, List.length_replicate, List.length_set, List.map_replicate, nilVC, sd_23, el_23, sz_3]
  refine loopI (J := {i : Nat // i ≤ X.length ∧ clear (fun x => decide (x = v)) X i}) (fun i => ⟨slots 18 [(0, .c (.sl a.up X.length ca)), (1, I v), (5, I i.1)], M, [], []⟩) (fun i => X.length - i.1) ⟨0, by omega, clear_zero _ _⟩ (Le_intro [] (by simp [WL, WNL, swA_new, swA_ne, nest_sw_ne, mapLL, List.mem_cons, Nat.reduceAdd, Nat.reduceLT, Nat.reduceLeDiff, Nat.reduceEqDiff, okU, List.nodup_cons, List.not_mem_nil, toT, toL, toO, keysO, renl, rent, cll, clt, eq_self, AV.eqv, AC.eqv, eqvl, eqvt, Sl.eqv, rowsLe, mapLL, rowsCl, List.map_append, List.length_map, List.length_append, List.length_set, List.map_replicate, rowG, List.getElem?_cons_zero, List.getElem?_cons_succ, List.getElem?_nil, List.append_nil, List.nil_append, List.cons_append, ghosts, St.gh, Option.some.injEq, implies_true, setT, AV.ren, AC.ren, AV.cl, AC.cl, List.replicate_succ, List.replicate_zero, List.nodup_nil, List.length_nil, List.length_cons, List.getD_cons_zero, List.getD_cons_succ, ↓reduceIte])) ?_
  rintro ⟨i, hi, he⟩
  have hw := wS (i := i) (by omega)
  rcases Nat.lt_or_ge i X.length with hlt | hge
  · obtain ⟨own, ty, cnt, cap, len, get, hM, hf, hic, hkn, hget⟩ := hat (by omega)
    simp only [↓WP, ↓grdD, ↓grdT, ↓un_dead, ↓binVC, ↓buildVC, ↓sliceVC, WQ, WN, Int.reduceToNat, renl, cll, rent, clt, ↓reduceIte, Nat.reduceLeDiff, Nat.reduceEqDiff, Nat.reduceLT, reduceCtorEq, List.append_nil, Nat.reduceAdd, Nat.reduceSub, Nat.reduceBEq, forall_const, implies_true, cond_true, cond_false, AV.ren, AC.ren, AV.cl, AC.cl, eq_self, List.all_cons, List.all_nil, AV.eqv, AC.eqv, eqvl, eqvt, Sl.eqv, List.map_append, List.length_map, List.length_append, List.length_replicate, List.length_set, List.map_replicate, nilVC, sd_23, el_23, sz_3, dlt hlt, hw, hM, hf, hget i hlt]
    repeat refine ⟨by omega, ?_⟩
    refine ⟨fun h1 => ?_, fun h1 => ?_⟩
    · have h1 : X.getD i default = v := (of_decide_eq_true h1)
      have := hit_any (p := fun x => decide (x = v)) hlt (decide_eq_true h1)
      simp [this]
    · have h1 : ¬ X.getD i default = v := fun e => of_decide_eq_false h1 e
      exact ⟨⟨i + 1, hlt, clear_succ he (decide_eq_false h1)⟩, Le_intro [] (by simp [WL, WNL, swA_new, swA_ne, nest_sw_ne, mapLL, List.mem_cons, Nat.reduceAdd, Nat.reduceLT, Nat.reduceLeDiff, Nat.reduceEqDiff, okU, List.nodup_cons, List.not_mem_nil, toT, toL, toO, keysO, renl, rent, cll, clt, eq_self, AV.eqv, AC.eqv, eqvl, eqvt, Sl.eqv, rowsLe, mapLL, rowsCl, List.map_append, List.length_map, List.length_append, List.length_set, List.map_replicate, rowG, List.getElem?_cons_zero, List.getElem?_cons_succ, List.getElem?_nil, List.append_nil, List.nil_append, List.cons_append, ghosts, St.gh, Option.some.injEq, implies_true, setT, AV.ren, AC.ren, AV.cl, AC.cl, List.replicate_succ, List.replicate_zero, List.nodup_nil, List.length_nil, List.length_cons, List.getD_cons_zero, List.getD_cons_succ, ↓reduceIte]), by show X.length - (i + 1) < X.length - i; omega⟩
  · obtain rfl : i = X.length := by omega
    simp only [↓WP, ↓grdD, ↓grdT, ↓un_dead, ↓binVC, ↓buildVC, ↓sliceVC, WQ, WN, Int.reduceToNat, renl, cll, rent, clt, ↓reduceIte, Nat.reduceLeDiff, Nat.reduceEqDiff, Nat.reduceLT, reduceCtorEq, List.append_nil, Nat.reduceAdd, Nat.reduceSub, Nat.reduceBEq, forall_const, implies_true, cond_true, cond_false, AV.ren, AC.ren, AV.cl, AC.cl, eq_self, List.all_cons, List.all_nil, AV.eqv, AC.eqv, eqvl, eqvt, Sl.eqv, List.map_append, List.length_map, List.length_append, List.length_replicate, List.length_set, List.map_replicate, nilVC, sd_23, el_23, sz_3, dge hge, hw]
    have := clear_any he
    simp [this]
theorem q_spec_l31Has : Quiet c_spec_l31Has := by
  intro args M
  unfold c_spec_l31Has
  dsimp only
  split <;> first | trivial | (intro _; rfl)
def c_slices_Index_bool : Contract := ⟨66, fun args M => match args with
  | [.c (.sl a n _), .c (.bool v)] => .pure (RowOk Bool a n (M a.r)) (I (idx (fun x : Bool => decide (x = v)) (row Bool a n (M a.r))))
  | _ => .bad⟩
theorem ok_slices_Index_bool : fnP Try.prog c_slices_Index_bool.f = true ∧ ∀ args M, (c_slices_Index_bool.sp args M).OK Try.prog c_slices_Index_bool.f args M := by
  refine ⟨fp_66, fun args M => ?_⟩
  unfold c_slices_Index_bool
  dsimp only
  split
  case h_2 => trivial
  rename_i a n ca v
  intro ha
  obtain ⟨hs, X, hX, rfl, hat⟩ := ha.x
  rw [hX]
  refine goIn hf_66 rfl (nt := 19) rfl (rs := [.tmp 4]) rfl (C := []) trivial (q := fun _ => false) okQ_none mixed (O := fun _ => .nil) (by kernel_rfl) ?_
  simp only [↓WP, ↓grdD, ↓grdT, ↓un_dead, ↓binVC, ↓buildVC, ↓sliceVC, WQ, WN, Int.reduceToNat, renl, cll, rent, clt, ↓reduceIte, Nat.reduceLeDiff, Nat.reduceEqDiff, Nat.reduceLT, reduceCtorEq, List.append_nil, Nat.reduceAdd, Nat.reduceSub, Nat.reduceBEq, forall_const, implies_true, cond_true, cond_false, AV.ren, AC.ren, AV.cl, AC.cl, eq_self, List.all_cons, List.all_nil, AV.eqv, AC.eqv, eqvl, eqvt, Sl.eqv, List.map_append, List.length_map, List.length_append, List.length_replicate, List.length_set, List.map_replicate, nilVC, sd_22, el_22, sz_4, bt_4]
  refine loopI (J := {i : Nat // i ≤ X.length ∧ clear (fun x : Bool => decide (x = v)) X i}) (fun i => ⟨slots 19 [(0, .c (.sl a.up X.length ca)), (1, Eng.B v), (7, I X.length), (8, I i.1)], M, [], []⟩) (fun i => X.length - i.1) ⟨0, by omega, clear_zero _ _⟩ (Le_intro [] (by simp [WL, WNL, swA_new, swA_ne, nest_sw_ne, mapLL, List.mem_cons, Nat.reduceAdd, Nat.reduceLT, Nat.reduceLeDiff, Nat.reduceEqDiff, okU, List.nodup_cons, List.not_mem_nil, toT, toL, toO, keysO, renl, rent, cll, clt, eq_self, AV.eqv, AC.eqv, eqvl, eqvt, Sl.eqv, rowsLe, mapLL, rowsCl, List.map_append, List.length_map, List.length_append, List.length_set, List.map_replicate, rowG, List.getElem?_cons_zero, List.getElem?_cons_succ, List.getElem?_nil, List.append_nil, List.nil_append, List.cons_append, ghosts, St.gh, Option.some.injEq, implies_true, setT, AV.ren, AC.ren, AV.cl, AC.cl, List.replicate_succ, List.replicate_zero, List.nodup_nil, List.length_nil, List.length_cons, List.getD_cons_zero, List.getD_cons_succ, ↓reduceIte])) ?_
  rintro ⟨i, hi, he⟩
  have hw := wS (i := i) (by omega)
  rcases Nat.lt_or_ge i X.length with hlt | hge
  · obtain ⟨own, ty, cnt, cap, len, get, hM, hf, hic, hkn, hget⟩ := hat (by omega)
    simp only [↓WP, ↓grdD, ↓grdT, ↓un_dead, ↓binVC, ↓buildVC, ↓sliceVC, WQ, WN, Int.reduceToNat, renl, cll, rent, clt, ↓reduceIte, Nat.reduceLeDiff, Nat.reduceEqDiff, Nat.reduceLT, reduceCtorEq, List.append_nil, Nat.reduceAdd, Nat.reduceSub, Nat.reduceBEq, forall_const, implies_true, cond_true, cond_false, AV.ren, AC.ren, AV.cl, AC.cl, eq_self, List.all_cons, List.all_nil, AV.eqv, AC.eqv, eqvl, eqvt, Sl.eqv, List.map_append, List.length_map, List.length_append, List.length_replicate, List.length_set, List.map_replicate, nilVC, sd_22, el_22, sz_4, bt_4, dlt hlt, hw, hM, hf, hget i hlt]
    repeat refine ⟨by omega, ?_⟩
    refine ⟨fun h1 => ?_, fun h1 => ?_⟩
    · have h1 : X.getD i default = v := (of_decide_eq_true h1).symm
      have := idx_hit he hlt (decide_eq_true h1)
      simp [this]
    · have h1 : ¬ X.getD i default = v := fun e => of_decide_eq_false h1 e.symm
      exact ⟨⟨i + 1, hlt, clear_succ he (decide_eq_false h1)⟩, Le_intro [] (by simp [WL, WNL, swA_new, swA_ne, nest_sw_ne, mapLL, List.mem_cons, Nat.reduceAdd, Nat.reduceLT, Nat.reduceLeDiff, Nat.reduceEqDiff, okU, List.nodup_cons, List.not_mem_nil, toT, toL, toO, keysO, renl, rent, cll, clt, eq_self, AV.eqv, AC.eqv, eqvl, eqvt, Sl.eqv, rowsLe, mapLL, rowsCl, List.map_append, List.length_map, List.length_append, List.length_set, List.map_replicate, rowG, List.getElem?_cons_zero, List.getElem?_cons_succ, List.getElem?_nil, List.append_nil, List.nil_append, List.cons_append, ghosts, St.gh, Option.some.injEq, implies_true, setT, AV.ren, AC.ren, AV.cl, AC.cl, List.replicate_succ, List.replicate_zero, List.nodup_nil, List.length_nil, List.length_cons, List.getD_cons_zero, List.getD_cons_succ, ↓reduceIte]), by show X.length - (i + 1) < X.length - i; omega⟩
  · obtain rfl : i = X.length := by omega
    simp only [↓WP, ↓grdD, ↓grdT, ↓un_dead, ↓binVC, ↓buildVC, ↓sliceVC, WQ, WN, Int.reduceToNat, renl, cll, rent, clt, ↓reduceIte, Nat.reduceLeDiff, Nat.reduceEqDiff, Nat.reduceLT, reduceCtorEq, List.append_nil, Nat.reduceAdd, Nat.reduceSub, Nat.reduceBEq, forall_const, implies_true, cond_true, cond_false, AV.ren, AC.ren, AV.cl, AC.cl, eq_self, List.all_cons, List.all_nil, AV.eqv, AC.eqv, eqvl, eqvt, Sl.eqv, List.map_append, List.length_map, List.length_append, List.length_replicate, List.length_set, List.map_replicate, nilVC, sd_22, el_22, sz_4, bt_4, dge hge, hw]
    have := idx_miss he
    simp [this]
theorem q_slices_Index_bool : Quiet c_slices_Index_bool := by
  intro args M
  unfold c_slices_Index_bool
  dsimp only
  split <;> first | trivial | (intro _; rfl)
def c_slices_Contains_bool : Contract := ⟨56, fun args M => match args with
  | [.c (.sl a n _), .c (.bool v)] => .pure (RowOk Bool a n (M a.r)) (Eng.B ((row Bool a n (M a.r)).any fun x : Bool => decide (x = v)))
  | _ => .bad⟩
theorem ok_slices_Contains_bool : fnP Try.prog c_slices_Contains_bool.f = true ∧ ∀ args M, (c_slices_Contains_bool.sp args M).OK Try.prog c_slices_Contains_bool.f args M := by
  refine ⟨fp_56, fun args M => ?_⟩
  unfold c_slices_Contains_bool
  dsimp only
  split
  case h_2 => trivial
  rename_i a n ca v
  intro ha
  refine goIn hf_56 rfl (nt := 9) rfl (rs := [.tmp 4]) rfl (C := [c_slices_Index_bool]) ⟨(by first | exact .inl ok_slices_Index_bool | exact ok_slices_Index_bool), trivial⟩ (q := fun _ => false) okQ_none mixed (O := fun _ => .nil) (by kernel_rfl) ?_
  simp only [↓WP, ↓grdD, ↓grdT, ↓un_dead, ↓binVC, ↓buildVC, ↓sliceVC, WQ, WN, Int.reduceToNat, renl, cll, rent, clt, ↓reduceIte, Nat.reduceLeDiff, Nat.reduceEqDiff, Nat.reduceLT, reduceCtorEq, List.append_nil, Nat.reduceAdd, Nat.reduceSub, Nat.reduceBEq, forall_const, implies_true, cond_true, cond_false, AV.ren, AC.ren, AV.cl, AC.cl, eq_self, List.all_cons, List.all_nil, AV.eqv, AC.eqv, eqvl, eqvt, Sl.eqv, List.map_append, List.length_map, List.length_append, List.length_replicate, List.length_set, List.map_replicate, nilVC, c_slices_Index_bool, ← idx_any]
  exact ha
theorem q_slices_Contains_bool : Quiet c_slices_Contains_bool := by
  intro args M
  unfold c_slices_Contains_bool
  dsimp only
  split <;> first | trivial | (intro _; rfl)
def c_impl_SigOk_1 : Contract := ⟨53, fun args M => match args with
  | [.c (.int .i64 p)] => .pure True (Eng.B (decide (¬ (0 ≤ p ∧ p ≤ 2))))
  | _ => .bad⟩
theorem ok_impl_SigOk_1 : fnP Try.prog c_impl_SigOk_1.f = true ∧ ∀ args M, (c_impl_SigOk_1.sp args M).OK Try.prog c_impl_SigOk_1.f args M := by
  refine ⟨fp_53, fun args M => ?_⟩
  unfold c_impl_SigOk_1
  dsimp only
  split
  case h_2 => trivial
  rename_i p
  intro _
  refine goIn hf_53 rfl (nt := 6) rfl (rs := [.tmp 2]) rfl (C := [c_impl_in]) ⟨(by first | exact .inl ok_impl_in | exact ok_impl_in), trivial⟩ (q := fun _ => false) okQ_none mixed (O := fun _ => .nil) (by kernel_rfl) ?_
  simp only [↓WP, ↓grdD, ↓grdT, ↓un_dead, ↓binVC, ↓buildVC, ↓sliceVC, WQ, WN, Int.reduceToNat, renl, cll, rent, clt, ↓reduceIte, Nat.reduceLeDiff, Nat.reduceEqDiff, Nat.reduceLT, reduceCtorEq, List.append_nil, Nat.reduceAdd, Nat.reduceSub, Nat.reduceBEq, forall_const, implies_true, cond_true, cond_false, AV.ren, AC.ren, AV.cl, AC.cl, eq_self, List.all_cons, List.all_nil, AV.eqv, AC.eqv, eqvl, eqvt, Sl.eqv, List.map_append, List.length_map, List.length_append, List.length_replicate, List.length_set, List.map_replicate, nilVC, c_impl_in]
  simp only [WB, eq_self]
def c_slices_IndexFunc_int : Contract := ⟨64, fun args M => match args with
  | [.c (.sl a n _), .c (.clo f [])] => .pure (f = 53 ∧ RowOk Int a n (M a.r)) (I (idx (fun p => decide (¬ (0 ≤ p ∧ p ≤ 2))) (row Int a n (M a.r))))
  | _ => .bad⟩
theorem ok_slices_IndexFunc_int : fnP Try.prog c_slices_IndexFunc_int.f = true ∧ ∀ args M, (c_slices_IndexFunc_int.sp args M).OK Try.prog c_slices_IndexFunc_int.f args M := by
  refine ⟨fp_64, fun args M => ?_⟩
  unfold c_slices_IndexFunc_int
  dsimp only
  split
  case h_2 => trivial
  rename_i a n ca f
  rintro ⟨rfl, ha⟩
  obtain ⟨hs, X, hX, rfl, hat⟩ := ha.x
  rw [hX]
  refine goIn hf_64 rfl (nt := 19) rfl (rs := [.tmp 4]) rfl (C := [c_impl_SigOk_1]) ⟨(by first | exact .inl ok_impl_SigOk_1 | exact ok_impl_SigOk_1), trivial⟩ (q := fun _ => false) okQ_none mixed (O := fun _ => .nil) (by kernel_rfl) ?_
  simp only [↓WP, ↓grdD, ↓grdT, ↓un_dead, ↓binVC, ↓buildVC, ↓sliceVC, WQ, WN, Int.reduceToNat, renl, cll, rent, clt, ↓reduceIte, Nat.reduceLeDiff, Nat.reduceEqDiff, Nat.reduceLT, reduceCtorEq, List.append_nil, Nat.reduceAdd, Nat.reduceSub, Nat.reduceBEq, forall_const, implies_true, cond_true, cond_false, AV.ren, AC.ren, AV.cl, AC.cl, eq_self, List.all_cons, List.all_nil, AV.eqv, AC.eqv, eqvl, eqvt, Sl.eqv, List.map_append, List.length_map, List.length_append, List.length_replicate, List.length_set, List.map_replicate, nilVC, sd_23, el_23, sz_3, c_impl_SigOk_1]
  refine loopI (J := {i : Nat // i ≤ X.length ∧ clear (fun p : Int => decide (¬ (0 ≤ p ∧ p ≤ 2))) X i}) (fun i => ⟨slots 19 [(0, .c (.sl a.up X.length ca)), (1, .c (.clo 53 [])), (7, I X.length), (8, I i.1)], M, [], []⟩) (fun i => X.length - i.1) ⟨0, by omega, clear_zero _ _⟩ (Le_intro [] (by simp [WL, WNL, swA_new, swA_ne, nest_sw_ne, mapLL, List.mem_cons, Nat.reduceAdd, Nat.reduceLT, Nat.reduceLeDiff, Nat.reduceEqDiff, okU, List.nodup_cons, List.not_mem_nil, toT, toL, toO, keysO, renl, rent, cll, clt, eq_self, AV.eqv, AC.eqv, eqvl, eqvt, Sl.eqv, rowsLe, mapLL, rowsCl, List.map_append, List.length_map, List.length_append, List.length_set, List.map_replicate, rowG, List.getElem?_cons_zero, List.getElem?_cons_succ, List.getElem?_nil, List.append_nil, List.nil_append, List.cons_append, ghosts, St.gh, Option.some.injEq, implies_true, setT, AV.ren, AC.ren, AV.cl, AC.cl, List.replicate_succ, List.replicate_zero, List.nodup_nil, List.length_nil, List.length_cons, List.getD_cons_zero, List.getD_cons_succ, ↓reduceIte])) ?_
  rintro ⟨i, hi, he⟩
  have hw := wS (i := i) (by omega)
  rcases Nat.lt_or_ge i X.length with hlt | hge
  · obtain ⟨own, ty, cnt, cap, len, get, hM, hf, hic, hkn, hget⟩ := hat (by omega)
    simp only [↓WP, ↓grdD, ↓grdT, ↓un_dead, ↓binVC, ↓buildVC, ↓sliceVC, WQ, WN, Int.reduceToNat, renl, cll, rent, clt, ↓reduceIte, Nat.reduceLeDiff, Nat.reduceEqDiff, Nat.reduceLT, reduceCtorEq, List.append_nil, Nat.reduceAdd, Nat.reduceSub, Nat.reduceBEq, forall_const, implies_true, cond_true, cond_false, AV.ren, AC.ren, AV.cl, AC.cl, eq_self, List.all_cons, List.all_nil, AV.eqv, AC.eqv, eqvl, eqvt, Sl.eqv, List.map_append, List.length_map, List.length_append, List.length_replicate, List.length_set, List.map_replicate, nilVC, sd_23, el_23, sz_3, c_impl_SigOk_1, dlt hlt, hw, hM, hf, hget i hlt]
    repeat refine ⟨by omega, ?_⟩
    refine ⟨fun h1 => ?_, fun h1 => ?_⟩
    · have := idx_hit (p := fun p : Int => decide (¬ (0 ≤ p ∧ p ≤ 2))) he hlt h1
      rw [this]
    · exact ⟨⟨i + 1, hlt, clear_succ he h1⟩, Le_intro [] (by simp [WL, WNL, swA_new, swA_ne, nest_sw_ne, mapLL, List.mem_cons, Nat.reduceAdd, Nat.reduceLT, Nat.reduceLeDiff, Nat.reduceEqDiff, okU, List.nodup_cons, List.not_mem_nil, toT, toL, toO, keysO, renl, rent, cll, clt, eq_self, AV.eqv, AC.eqv, eqvl, eqvt, Sl.eqv, rowsLe, mapLL, rowsCl, List.map_append, List.length_map, List.length_append, List.length_set, List.map_replicate, rowG, List.getElem?_cons_zero, List.getElem?_cons_succ, List.getElem?_nil, List.append_nil, List.nil_append, List.cons_append, ghosts, St.gh, Option.some.injEq, implies_true, setT, AV.ren, AC.ren, AV.cl, AC.cl, List.replicate_succ, List.replicate_zero, List.nodup_nil, List.length_nil, List.length_cons, List.getD_cons_zero, List.getD_cons_succ, ↓reduceIte]), by show X.length - (i + 1) < X.length - i; omega⟩
  · obtain rfl : i = X.length := by omega
    simp only [↓WP, ↓grdD, ↓grdT, ↓un_dead, ↓binVC, ↓buildVC, ↓sliceVC, WQ, WN, Int.reduceToNat, renl, cll, rent, clt, ↓reduceIte, Nat.reduceLeDiff, Nat.reduceEqDiff, Nat.reduceLT, reduceCtorEq, List.append_nil, Nat.reduceAdd, Nat.reduceSub, Nat.reduceBEq, forall_const, implies_true, cond_true, cond_false, AV.ren, AC.ren, AV.cl, AC.cl, eq_self, List.all_cons, List.all_nil, AV.eqv, AC.eqv, eqvl, eqvt, Sl.eqv, List.map_append, List.length_map, List.length_append, List.length_replicate, List.length_set, List.map_replicate, nilVC, sd_23, el_23, sz_3, c_impl_SigOk_1, dge hge, hw]
    have := idx_miss he
    rw [this]
def c_slices_ContainsFunc_int : Contract := ⟨52, fun args M => match args with
  | [.c (.sl a n _), .c (.clo f [])] => .pure (f = 53 ∧ RowOk Int a n (M a.r)) (Eng.B ((row Int a n (M a.r)).any fun p => decide (¬ (0 ≤ p ∧ p ≤ 2))))
  | _ => .bad⟩
theorem ok_slices_ContainsFunc_int : fnP Try.prog c_slices_ContainsFunc_int.f = true ∧ ∀ args M, (c_slices_ContainsFunc_int.sp args M).OK Try.prog c_slices_ContainsFunc_int.f args M := by
  refine ⟨fp_52, fun args M => ?_⟩
  unfold c_slices_ContainsFunc_int
  dsimp only
  split
  case h_2 => trivial
  rename_i a n ca f
  rintro ⟨rfl, ha⟩
  refine goIn hf_52 rfl (nt := 9) rfl (rs := [.tmp 4]) rfl (C := [c_slices_IndexFunc_int]) ⟨(by first | exact .inl ok_slices_IndexFunc_int | exact ok_slices_IndexFunc_int), trivial⟩ (q := fun _ => false) okQ_none mixed (O := fun _ => .nil) (by kernel_rfl) ?_
  simp only [↓WP, ↓grdD, ↓grdT, ↓un_dead, ↓binVC, ↓buildVC, ↓sliceVC, WQ, WN, Int.reduceToNat, renl, cll, rent, clt, ↓reduceIte, Nat.reduceLeDiff, Nat.reduceEqDiff, Nat.reduceLT, reduceCtorEq, List.append_nil, Nat.reduceAdd, Nat.reduceSub, Nat.reduceBEq, forall_const, implies_true, cond_true, cond_false, AV.ren, AC.ren, AV.cl, AC.cl, eq_self, List.all_cons, List.all_nil, AV.eqv, AC.eqv, eqvl, eqvt, Sl.eqv, List.map_append, List.length_map, List.length_append, List.length_replicate, List.length_set, List.map_replicate, nilVC, c_slices_IndexFunc_int, ← idx_any]
  exact ha
def c_impl_isSig : Contract := ⟨51, fun args M => match args with
  | [.c (.int .i64 n)] => .pure True (Eng.B (decide (1 ≤ n ∧ n ≤ 16)))
  | _ => .bad⟩
theorem ok_impl_isSig : fnP Try.prog c_impl_isSig.f = true ∧ ∀ args M, (c_impl_isSig.sp args M).OK Try.prog c_impl_isSig.f args M := by
  refine ⟨fp_51, fun args M => ?_⟩
  unfold c_impl_isSig
  dsimp only
  split
  case h_2 => trivial
  rename_i n
  intro _
  refine goIn hf_51 rfl (nt := 5) rfl (rs := [.tmp 2]) rfl (C := [c_impl_in]) ⟨(by first | exact .inl ok_impl_in | exact ok_impl_in), trivial⟩ (q := fun _ => false) okQ_none mixed (O := fun _ => .nil) (by kernel_rfl) ?_
  simp only [↓WP, ↓grdD, ↓grdT, ↓un_dead, ↓binVC, ↓buildVC, ↓sliceVC, WQ, WN, Int.reduceToNat, renl, cll, rent, clt, ↓reduceIte, Nat.reduceLeDiff, Nat.reduceEqDiff, Nat.reduceLT, reduceCtorEq, List.append_nil, Nat.reduceAdd, Nat.reduceSub, Nat.reduceBEq, forall_const, implies_true, cond_true, cond_false, AV.ren, AC.ren, AV.cl, AC.cl, eq_self, List.all_cons, List.all_nil, AV.eqv, AC.eqv, eqvl, eqvt, Sl.eqv, List.map_append, List.length_map, List.length_append, List.length_replicate, List.length_set, List.map_replicate, nilVC, c_impl_in]
theorem q_impl_isSig : Quiet c_impl_isSig := by
  intro args M
  unfold c_impl_isSig
  dsimp only
  split <;> first | trivial | (intro _; rfl)
def c_spec_l32Num : Contract := ⟨46, fun args M => match args with
  | [.c (.int .i64 n)] => .pure True (Eng.B (decide (1 ≤ n ∧ n ≤ 16)))
  | _ => .bad⟩
theorem ok_spec_l32Num : fnP Try.prog c_spec_l32Num.f = true ∧ ∀ args M, (c_spec_l32Num.sp args M).OK Try.prog c_spec_l32Num.f args M := by
  refine ⟨fp_46, fun args M => ?_⟩
  unfold c_spec_l32Num
  dsimp only
  split
  case h_2 => trivial
  rename_i n
  intro _
  refine goIn hf_46 rfl (nt := 9) rfl (rs := [.tmp 2]) rfl (C := []) trivial (q := fun _ => false) okQ_none mixed (O := fun _ => .nil) (by kernel_rfl) ?_
  simp only [↓WP, ↓grdD, ↓grdT, ↓un_dead, ↓binVC, ↓buildVC, ↓sliceVC, WQ, WN, Int.reduceToNat, renl, cll, rent, clt, ↓reduceIte, Nat.reduceLeDiff, Nat.reduceEqDiff, Nat.reduceLT, reduceCtorEq, List.append_nil, Nat.reduceAdd, Nat.reduceSub, Nat.reduceBEq, forall_const, implies_true, cond_true, cond_false, AV.ren, AC.ren, AV.cl, AC.cl, eq_self, List.all_cons, List.all_nil, AV.eqv, AC.eqv, eqvl, eqvt, Sl.eqv, List.map_append, List.length_map, List.length_append, List.length_replicate, List.length_set, List.map_replicate, nilVC, ]
  by_cases h : 1 ≤ n <;> simp [h]
theorem q_spec_l32Num : Quiet c_spec_l32Num := by
  intro args M
  unfold c_spec_l32Num
  dsimp only
  split <;> first | trivial | (intro _; rfl)
def c_laws_toSig : Contract := ⟨19, fun args M => match args with
  | [.agg [.sl a1 n1 _, .sl a2 n2 _, .sl a3 n3 _, .sl a4 n4 _, .int .i64 u]] => .eff (RowOk Bool a1 n1 (M a1.r) ∧ RowOk Bool a2 n2 (M a2.r) ∧ RowOk Int a3 n3 (M a3.r) ∧ RowOk Int a4 n4 (M a4.r)) Unit (fun _ => True) (fun _ => .agg [.sl ⟨.loc 0, 0, 0, 0⟩ n1 n1, .sl ⟨.loc 1, 0, 0, 0⟩ n2 n2, .sl ⟨.loc 2, 0, 0, 0⟩ n3 n3, .sl ⟨.loc 3, 0, 0, 0⟩ n4 n4, .int .i64 u]) (fun _ => [rowG true 4 n1 (row Bool a1 n1 (M a1.r)), rowG true 4 n2 (row Bool a2 n2 (M a2.r)), rowG true 3 n3 (row Int a3 n3 (M a3.r)), rowG true 3 n4 (row Int a4 n4 (M a4.r))]) (fun _ => [])
  | _ => .bad⟩
theorem ok_laws_toSig : fnP Try.prog c_laws_toSig.f = true ∧ ∀ args M, (c_laws_toSig.sp args M).OK Try.prog c_laws_toSig.f args M := by
  refine ⟨fp_19, fun args M => ?_⟩
  unfold c_laws_toSig
  dsimp only
  split
  case h_2 => trivial
  rename_i a1 n1 _ a2 n2 _ a3 n3 _ a4 n4 _ u
  rintro ⟨h1, h2, h3, h4⟩
  refine goIn hf_19 rfl (nt := 24) rfl (rs := [.cell 2 25]) rfl (C := [c_laws_toBoolS, c_laws_toIntS]) ⟨(by first | exact .inl ok_laws_toBoolS | exact ok_laws_toBoolS), (by first | exact .inl ok_laws_toIntS | exact ok_laws_toIntS), trivial⟩ (q := fun _ => false) okQ_none mixed (O := fun _ => .nil) (by kernel_rfl) ?_
  simp only [↓WP, ↓grdD, ↓grdT, ↓un_dead, ↓binVC, ↓buildVC, ↓sliceVC, WQ, WN, Int.reduceToNat, renl, cll, rent, clt, ↓reduceIte, Nat.reduceLeDiff, Nat.reduceEqDiff, Nat.reduceLT, reduceCtorEq, List.append_nil, Nat.reduceAdd, Nat.reduceSub, Nat.reduceBEq, forall_const, implies_true, cond_true, cond_false, AV.ren, AC.ren, AV.cl, AC.cl, eq_self, List.all_cons, List.all_nil, AV.eqv, AC.eqv, eqvl, eqvt, Sl.eqv, List.map_append, List.length_map, List.length_append, List.length_replicate, List.length_set, List.map_replicate, nilVC, zr_25, fl_30_0, sz_22, fl_25_0, fl_30_1, fl_25_1, fl_30_2, sz_23, fl_25_2, fl_30_3, fl_25_3, fl_30_4, sz_3, fl_25_4, sz_25, c_laws_toBoolS, c_laws_toIntS]
  refine ⟨h1, h2, h3, h4, end_ret ?_⟩
  simp only [↓WP, ↓grdD, ↓grdT, ↓un_dead, ↓binVC, ↓buildVC, ↓sliceVC, WQ, WN, Int.reduceToNat, renl, cll, rent, clt, ↓reduceIte, Nat.reduceLeDiff, Nat.reduceEqDiff, Nat.reduceLT, reduceCtorEq, List.append_nil, Nat.reduceAdd, Nat.reduceSub, Nat.reduceBEq, forall_const, implies_true, cond_true, cond_false, AV.ren, AC.ren, AV.cl, AC.cl, eq_self, List.all_cons, List.all_nil, AV.eqv, AC.eqv, eqvl, eqvt, Sl.eqv, List.map_append, List.length_map, List.length_append, List.length_replicate, List.length_set, List.map_replicate, nilVC, zr_25, fl_30_0, sz_22, fl_25_0, fl_30_1, fl_25_1, fl_30_2, sz_23, fl_25_2, fl_30_3, fl_25_3, fl_30_4, sz_3, fl_25_4, sz_25, c_laws_toBoolS, c_laws_toIntS]
  refine ⟨(), [], [3, 4, 5, 6], ?_⟩
  simp only [WL, WNL, swA_new, swA_ne, nest_sw_ne, mapLL, List.mem_cons, Nat.reduceAdd, Nat.reduceLT, Nat.reduceLeDiff, Nat.reduceEqDiff, okU, List.nodup_cons, List.not_mem_nil, toT, toL, toO, keysO, renl, rent, cll, clt, eq_self, AV.eqv, AC.eqv, eqvl, eqvt, Sl.eqv, rowsLe, mapLL, rowsCl, List.map_append, List.length_map, List.length_append, List.length_set, List.map_replicate, rowG, List.getElem?_cons_zero, List.getElem?_cons_succ, List.getElem?_nil, List.append_nil, List.nil_append, List.cons_append, ghosts, St.gh, Option.some.injEq, implies_true, setT, AV.ren, AC.ren, AV.cl, AC.cl, List.replicate_succ, List.replicate_zero, List.nodup_nil, List.length_nil, List.length_cons, List.getD_cons_zero, List.getD_cons_succ, ↓reduceIte, retP]
theorem q_laws_toSig : Quiet c_laws_toSig := by
  intro args M
  unfold c_laws_toSig
  dsimp only
  split <;> first | trivial | (intro _; rfl)
def szK (n : Nat) (l : Int) : Int := if l < n then -1 else l - n
def c_laws_szSig : Contract := ⟨17, fun args M => match args with
  | [.agg [.sl _ n1 _, .sl _ n2 _, .sl _ n3 _, .sl _ n4 _, .int .i64 _], .c (.int .i64 left)] => .pure (0 ≤ left ∧ left ≤ 1048576 ∧ n1 ≤ 9223372036854775807 ∧ n2 ≤ 9223372036854775807 ∧ n3 ≤ 9223372036854775807 ∧ n4 ≤ 9223372036854775807) (I (if left < (n1 : Int) + n2 + n3 + n4 then -1 else left - n1 - n2 - n3 - n4))
  | _ => .bad⟩
theorem ok_laws_szSig : fnP Try.prog c_laws_szSig.f = true ∧ ∀ args M, (c_laws_szSig.sp args M).OK Try.prog c_laws_szSig.f args M := by
  refine ⟨fp_17, fun args M => ?_⟩
  unfold c_laws_szSig
  dsimp only
  split
  case h_2 => trivial
  rename_i _ n1 _ _ n2 _ _ n3 _ _ n4 _ u left
  rintro ⟨h1, h2, g1, g2, g3, g4⟩
  refine goIn hf_17 rfl (nt := 30) rfl (rs := [.tmp 4]) rfl (C := [c_laws_szBoolS, c_laws_szIntS]) ⟨(by first | exact .inl ok_laws_szBoolS | exact ok_laws_szBoolS), (by first | exact .inl ok_laws_szIntS | exact ok_laws_szIntS), trivial⟩ (q := fun _ => false) okQ_none mixed (O := fun _ => .nil) (by kernel_rfl) ?_
  by_cases k1 : left < n1
  · simp only [↓WP, ↓grdD, ↓grdT, ↓un_dead, ↓binVC, ↓buildVC, ↓sliceVC, WQ, WN, Int.reduceToNat, renl, cll, rent, clt, ↓reduceIte, Nat.reduceLeDiff, Nat.reduceEqDiff, Nat.reduceLT, reduceCtorEq, List.append_nil, Nat.reduceAdd, Nat.reduceSub, Nat.reduceBEq, forall_const, implies_true, cond_true, cond_false, AV.ren, AC.ren, AV.cl, AC.cl, eq_self, List.all_cons, List.all_nil, AV.eqv, AC.eqv, eqvl, eqvt, Sl.eqv, List.map_append, List.length_map, List.length_append, List.length_replicate, List.length_set, List.map_replicate, nilVC, fl_30_0, sz_22, fl_30_1, fl_30_2, sz_23, fl_30_3, c_laws_szBoolS, c_laws_szIntS, if_pos k1]
    rw [if_pos (by omega)]
    simp
    omega
  by_cases k2 : left - n1 < n2
  · simp only [↓WP, ↓grdD, ↓grdT, ↓un_dead, ↓binVC, ↓buildVC, ↓sliceVC, WQ, WN, Int.reduceToNat, renl, cll, rent, clt, ↓reduceIte, Nat.reduceLeDiff, Nat.reduceEqDiff, Nat.reduceLT, reduceCtorEq, List.append_nil, Nat.reduceAdd, Nat.reduceSub, Nat.reduceBEq, forall_const, implies_true, cond_true, cond_false, AV.ren, AC.ren, AV.cl, AC.cl, eq_self, List.all_cons, List.all_nil, AV.eqv, AC.eqv, eqvl, eqvt, Sl.eqv, List.map_append, List.length_map, List.length_append, List.length_replicate, List.length_set, List.map_replicate, nilVC, fl_30_0, sz_22, fl_30_1, fl_30_2, sz_23, fl_30_3, c_laws_szBoolS, c_laws_szIntS, if_neg k1, if_pos k2]
    rw [if_pos (by omega)]
    simp
    omega
  by_cases k3 : left - n1 - n2 < n3
  · simp only [↓WP, ↓grdD, ↓grdT, ↓un_dead, ↓binVC, ↓buildVC, ↓sliceVC, WQ, WN, Int.reduceToNat, renl, cll, rent, clt, ↓reduceIte, Nat.reduceLeDiff, Nat.reduceEqDiff, Nat.reduceLT, reduceCtorEq, List.append_nil, Nat.reduceAdd, Nat.reduceSub, Nat.reduceBEq, forall_const, implies_true, cond_true, cond_false, AV.ren, AC.ren, AV.cl, AC.cl, eq_self, List.all_cons, List.all_nil, AV.eqv, AC.eqv, eqvl, eqvt, Sl.eqv, List.map_append, List.length_map, List.length_append, List.length_replicate, List.length_set, List.map_replicate, nilVC, fl_30_0, sz_22, fl_30_1, fl_30_2, sz_23, fl_30_3, c_laws_szBoolS, c_laws_szIntS, if_neg k1, if_neg k2, if_pos k3]
    rw [if_pos (by omega)]
    simp
    omega
  by_cases k4 : left - n1 - n2 - n3 < n4
  · simp only [↓WP, ↓grdD, ↓grdT, ↓un_dead, ↓binVC, ↓buildVC, ↓sliceVC, WQ, WN, Int.reduceToNat, renl, cll, rent, clt, ↓reduceIte, Nat.reduceLeDiff, Nat.reduceEqDiff, Nat.reduceLT, reduceCtorEq, List.append_nil, Nat.reduceAdd, Nat.reduceSub, Nat.reduceBEq, forall_const, implies_true, cond_true, cond_false, AV.ren, AC.ren, AV.cl, AC.cl, eq_self, List.all_cons, List.all_nil, AV.eqv, AC.eqv, eqvl, eqvt, Sl.eqv, List.map_append, List.length_map, List.length_append, List.length_replicate, List.length_set, List.map_replicate, nilVC, fl_30_0, sz_22, fl_30_1, fl_30_2, sz_23, fl_30_3, c_laws_szBoolS, c_laws_szIntS, if_neg k1, if_neg k2, if_neg k3, if_pos k4]
    rw [if_pos (by omega)]
    simp
    omega
  · simp only [↓WP, ↓grdD, ↓grdT, ↓un_dead, ↓binVC, ↓buildVC, ↓sliceVC, WQ, WN, Int.reduceToNat, renl, cll, rent, clt, ↓reduceIte, Nat.reduceLeDiff, Nat.reduceEqDiff, Nat.reduceLT, reduceCtorEq, List.append_nil, Nat.reduceAdd, Nat.reduceSub, Nat.reduceBEq, forall_const, implies_true, cond_true, cond_false, AV.ren, AC.ren, AV.cl, AC.cl, eq_self, List.all_cons, List.all_nil, AV.eqv, AC.eqv, eqvl, eqvt, Sl.eqv, List.map_append, List.length_map, List.length_append, List.length_replicate, List.length_set, List.map_replicate, nilVC, fl_30_0, sz_22, fl_30_1, fl_30_2, sz_23, fl_30_3, c_laws_szBoolS, c_laws_szIntS, if_neg k1, if_neg k2, if_neg k3, if_neg k4]
    rw [if_neg (by omega)]
    simp
    omega
end Go.Eng.T
