/- sched: Clone, mark, held; SchedBound. -/
import Derived.Test.YtmlenialhmeomaaFn2
set_option linter.unusedVariables false
set_option linter.unusedSimpArgs false
set_option linter.unusedSectionVars false
namespace Go.Eng.T
open Go.Proofs
open Cel (enc dec)
set_option maxRecDepth 100000
set_option maxHeartbeats 4000000
def c_slices_Clone_STask : Contract := ⟨50, fun args M => match args with
  | [.c (.sl a n c)] => .eff (RowOk T3 a n (M a.r) ∧ n ≤ c) Nat (fun k => n ≤ k) (fun k => .c (.sl ⟨.loc 0, 0, 0, 0⟩ n k)) (fun k => [rowG true 53 k (row T3 a n (M a.r))]) (fun _ => [])
  | _ => .bad⟩
theorem ok_slices_Clone_STask : fnP Try.prog c_slices_Clone_STask.f = true ∧ ∀ args M, (c_slices_Clone_STask.sp args M).OK Try.prog c_slices_Clone_STask.f args M := by
  refine ⟨fp_50, fun args M => ?_⟩
  unfold c_slices_Clone_STask
  dsimp only
  split
  case h_2 => trivial
  rename_i a n c
  rintro ⟨hrow, hc⟩
  obtain ⟨hs, X, hX, rfl, hat⟩ := hrow.x
  rw [hX]
  refine goIn hf_50 rfl (nt := 8) rfl (rs := [.tmp 2]) rfl (C := []) trivial (q := fun _ => false) okQ_none mixed (O := fun _ => .nil) (by kernel_rfl) ?_
  rcases Nat.eq_zero_or_pos X.length with h0 | h0
  · obtain rfl : X = [] := List.eq_nil_of_length_eq_zero h0
    simp only [↓WP, ↓grdD, ↓grdT, ↓un_dead, ↓binVC, ↓buildVC, ↓sliceVC, WQ, WN, Int.reduceToNat, renl, cll, rent, clt, ↓reduceIte, Nat.reduceLeDiff, Nat.reduceEqDiff, Nat.reduceLT, reduceCtorEq, List.append_nil, Nat.reduceAdd, Nat.reduceSub, Nat.reduceBEq, forall_const, implies_true, cond_true, cond_false, AV.ren, AC.ren, AV.cl, AC.cl, eq_self, List.all_cons, List.all_nil, AV.eqv, AC.eqv, eqvl, eqvt, Sl.eqv, List.map_append, List.length_map, List.length_append, List.length_replicate, List.length_set, List.map_replicate, nilVC, slt_27, el_27, zr_53]
    repeat' (first | with_reducible refine And.intro ?_ ?_ | intro _)
    all_goals try omega
    all_goals try rfl
    all_goals
      refine end_ret ?_
      simp only [↓WP, ↓grdD, ↓grdT, ↓un_dead, ↓binVC, ↓buildVC, ↓sliceVC, WQ, WN, Int.reduceToNat, renl, cll, rent, clt, ↓reduceIte, Nat.reduceLeDiff, Nat.reduceEqDiff, Nat.reduceLT, reduceCtorEq, List.append_nil, Nat.reduceAdd, Nat.reduceSub, Nat.reduceBEq, forall_const, implies_true, cond_true, cond_false, AV.ren, AC.ren, AV.cl, AC.cl, eq_self, List.all_cons, List.all_nil, AV.eqv, AC.eqv, eqvl, eqvt, Sl.eqv, List.map_append, List.length_map, List.length_append, List.length_replicate, List.length_set, List.map_replicate, nilVC, slt_27, el_27, zr_53]
      refine ⟨0, [(53, 3)], [0], ?_⟩
      simp [WL, WNL, swA_new, swA_ne, nest_sw_ne, mapLL, List.mem_cons, Nat.reduceAdd, Nat.reduceLT, Nat.reduceLeDiff, Nat.reduceEqDiff, okU, List.nodup_cons, List.not_mem_nil, toT, toL, toO, keysO, renl, rent, cll, clt, eq_self, AV.eqv, AC.eqv, eqvl, eqvt, Sl.eqv, rowsLe, mapLL, rowsCl, List.map_append, List.length_map, List.length_append, List.length_set, List.map_replicate, rowG, List.getElem?_cons_zero, List.getElem?_cons_succ, List.getElem?_nil, List.append_nil, List.nil_append, List.cons_append, ghosts, St.gh, Option.some.injEq, implies_true, setT, AV.ren, AC.ren, AV.cl, AC.cl, List.replicate_succ, List.replicate_zero, List.nodup_nil, List.length_nil, List.length_cons, List.getD_cons_zero, List.getD_cons_succ, ↓reduceIte, retP]
  · obtain ⟨own, ty, cnt, cap, len, get, hM, hf, hic, hkn, hget⟩ := hat h0
    have hwin : win (fun k => List.map AC.up (get a.i (a.k + k))) X.length = X.map enc := win_enc (g := fun k => get a.i (a.k + k)) hget
    simp only [↓WP, ↓grdD, ↓grdT, ↓un_dead, ↓binVC, ↓buildVC, ↓sliceVC, WQ, WN, Int.reduceToNat, renl, cll, rent, clt, ↓reduceIte, Nat.reduceLeDiff, Nat.reduceEqDiff, Nat.reduceLT, reduceCtorEq, List.append_nil, Nat.reduceAdd, Nat.reduceSub, Nat.reduceBEq, forall_const, implies_true, cond_true, cond_false, AV.ren, AC.ren, AV.cl, AC.cl, eq_self, List.all_cons, List.all_nil, AV.eqv, AC.eqv, eqvl, eqvt, Sl.eqv, List.map_append, List.length_map, List.length_append, List.length_replicate, List.length_set, List.map_replicate, nilVC, slt_27, el_27, zr_53, hM, hf, hwin]
    refine fun b hb => ⟨fun e => absurd (hb e) (by omega), fun _ => ?_⟩
    repeat' (first | with_reducible refine And.intro ?_ ?_ | intro _)
    all_goals try omega
    all_goals try rfl
    all_goals try exact .inl trivial
    all_goals
      rename_i k hk _
      refine end_ret ?_
      simp only [↓WP, ↓grdD, ↓grdT, ↓un_dead, ↓binVC, ↓buildVC, ↓sliceVC, WQ, WN, Int.reduceToNat, renl, cll, rent, clt, ↓reduceIte, Nat.reduceLeDiff, Nat.reduceEqDiff, Nat.reduceLT, reduceCtorEq, List.append_nil, Nat.reduceAdd, Nat.reduceSub, Nat.reduceBEq, forall_const, implies_true, cond_true, cond_false, AV.ren, AC.ren, AV.cl, AC.cl, eq_self, List.all_cons, List.all_nil, AV.eqv, AC.eqv, eqvl, eqvt, Sl.eqv, List.map_append, List.length_map, List.length_append, List.length_replicate, List.length_set, List.map_replicate, nilVC, slt_27, el_27, zr_53]
      refine ⟨k, [], [0], ?_⟩
      simp only [WL, WNL, swA_new, swA_ne, nest_sw_ne, mapLL, List.mem_cons, Nat.reduceAdd, Nat.reduceLT, Nat.reduceLeDiff, Nat.reduceEqDiff, okU, List.nodup_cons, List.not_mem_nil, toT, toL, toO, keysO, renl, rent, cll, clt, eq_self, AV.eqv, AC.eqv, eqvl, eqvt, Sl.eqv, rowsLe, mapLL, rowsCl, List.map_append, List.length_map, List.length_append, List.length_set, List.map_replicate, rowG, List.getElem?_cons_zero, List.getElem?_cons_succ, List.getElem?_nil, List.append_nil, List.nil_append, List.cons_append, ghosts, St.gh, Option.some.injEq, implies_true, setT, AV.ren, AC.ren, AV.cl, AC.cl, List.replicate_succ, List.replicate_zero, List.nodup_nil, List.length_nil, List.length_cons, List.getD_cons_zero, List.getD_cons_succ, ↓reduceIte, retP]
      simp [hk]
theorem q_slices_Clone_STask : Quiet c_slices_Clone_STask := by
  intro args M
  unfold c_slices_Clone_STask
  dsimp only
  split <;> first | trivial | (intro _; rfl)
def c_laws_markSTaskS : Contract := ⟨37, fun args M => match args with
  | [.c (.sl a n _), .c (.int .i64 k)] => specR T3 a n (M a.r) fun ty c _ => .eff (0 ≤ k ∧ k ≤ 4611686018427387904) Unit (fun _ => True) (fun _ => I (k + 3 * n)) (fun _ => []) (fun _ => [(a.r, rowG true ty c (mark3 k n))])
  | _ => .bad⟩
theorem ok_laws_markSTaskS : fnP Try.prog c_laws_markSTaskS.f = true ∧ ∀ args M, (c_laws_markSTaskS.sp args M).OK Try.prog c_laws_markSTaskS.f args M := by
  refine ⟨fp_37, fun args M => ?_⟩
  unfold c_laws_markSTaskS
  dsimp only
  split
  case h_2 => trivial
  rename_i a n ca k
  refine specR_cases fun ty c X hM hX hlen hs hi0 hk0 hf0 => ?_
  rintro ⟨h1, h2⟩
  subst hlen
  refine goIn hf_37 rfl (nt := 34) rfl (rs := [.tmp 4]) rfl (C := []) trivial (q := fun _ => false) okQ_none mixed (O := fun _ => .nil) (by kernel_rfl) ?_
  simp only [↓WP, ↓grdD, ↓grdT, ↓un_dead, ↓binVC, ↓buildVC, ↓sliceVC, WQ, WN, Int.reduceToNat, renl, cll, rent, clt, ↓reduceIte, Nat.reduceLeDiff, Nat.reduceEqDiff, Nat.reduceLT, reduceCtorEq, List.append_nil, Nat.reduceAdd, Nat.reduceSub, Nat.reduceBEq, forall_const, implies_true, cond_true, cond_false, AV.ren, AC.ren, AV.cl, AC.cl, eq_self, List.all_cons, List.all_nil, AV.eqv, AC.eqv, eqvl, eqvt, Sl.eqv, List.map_append, List.length_map, List.length_append, List.length_replicate, List.length_set, List.map_replicate, nilVC, sd_27, el_27, fl_53_0, sz_3, fl_53_1, fl_53_2]
  refine loopI (J := {i : Nat // i ≤ X.length}) (fun i => ⟨slots 34 [(0, .c (.sl a.up X.length ca)), (1, I (k + 3 * (i.1 : Int))), (5, I i.1)], M, [(a.r, rowG true ty c (over (mark3 k X.length) X i.1))], []⟩) (fun i => X.length - i.1) ⟨0, by omega⟩ (Le_intro [] (by simp only [WL, WNL, swA_new, swA_ne, nest_sw_ne, mapLL, List.mem_cons, Nat.reduceAdd, Nat.reduceLT, Nat.reduceLeDiff, Nat.reduceEqDiff, okU, List.nodup_cons, List.not_mem_nil, toT, toL, toO, keysO, renl, rent, cll, clt, eq_self, AV.eqv, AC.eqv, eqvl, eqvt, Sl.eqv, rowsLe, mapLL, rowsCl, List.map_append, List.length_map, List.length_append, List.length_set, List.map_replicate, rowG, List.getElem?_cons_zero, List.getElem?_cons_succ, List.getElem?_nil, List.append_nil, List.nil_append, List.cons_append, ghosts, St.gh, Option.some.injEq, implies_true, setT, AV.ren, AC.ren, AV.cl, AC.cl, List.replicate_succ, List.replicate_zero, List.nodup_nil, List.length_nil, List.length_cons, List.getD_cons_zero, List.getD_cons_succ, ↓reduceIte, hM, over_zero]; simp)) ?_
  rintro ⟨i, hi⟩
  have hw := wS (i := i) (by omega)
  have hol : (over (mark3 k X.length) X i).length = X.length := over_length _ _ _ (mark3_length _ _)
  rcases Nat.lt_or_ge i X.length with hlt | hge
  · have w1 : IntKind.i64.wrap (k + 3 * (i : Int) + 1) = k + 3 * (i : Int) + 1 := w64 (by omega) (by omega)
    have w2 : IntKind.i64.wrap (k + 3 * (i : Int) + 1 + 1) = k + 3 * (i : Int) + 2 := by rw [w64 (by omega) (by omega)]; omega
    have w3 : IntKind.i64.wrap (k + 3 * (i : Int) + 2 + 1) = k + 3 * ((i + 1 : Nat) : Int) := by rw [w64 (by omega) (by omega)]; omega
    have hgd : (List.map enc (over (mark3 k X.length) X i)).getD i [] = enc (X.getD i default) := by rw [getD_enc _ _ (by omega), over_get _ _ _ _ (mark3_length _ _) hlt]
    have hset : ∀ x, ((List.map enc (over (mark3 k X.length) X i)).set i x).getD i [] = x := fun x => getD_set_self (by simp [hol, hlt])
    simp only [↓WP, ↓grdD, ↓grdT, ↓un_dead, ↓binVC, ↓buildVC, ↓sliceVC, WQ, WN, Int.reduceToNat, renl, cll, rent, clt, ↓reduceIte, Nat.reduceLeDiff, Nat.reduceEqDiff, Nat.reduceLT, reduceCtorEq, List.append_nil, Nat.reduceAdd, Nat.reduceSub, Nat.reduceBEq, forall_const, implies_true, cond_true, cond_false, AV.ren, AC.ren, AV.cl, AC.cl, eq_self, List.all_cons, List.all_nil, AV.eqv, AC.eqv, eqvl, eqvt, Sl.eqv, List.map_append, List.length_map, List.length_append, List.length_replicate, List.length_set, List.map_replicate, nilVC, sd_27, el_27, fl_53_0, sz_3, fl_53_1, fl_53_2, dlt hlt, hw, hM, hol, hi0, hk0, hf0, hgd, hset, List.set_set, w1, w2, w3]
    repeat refine ⟨by omega, ?_⟩
    refine ⟨⟨i + 1, hlt⟩, Le_intro [] ?_, by show X.length - (i + 1) < X.length - i; omega⟩
    have hst := over_set (mark3 k X.length) X i default (mark3_length _ _) hlt
    rw [mark3_get k hlt] at hst
    simp only [WL, WNL, swA_new, swA_ne, nest_sw_ne, mapLL, List.mem_cons, Nat.reduceAdd, Nat.reduceLT, Nat.reduceLeDiff, Nat.reduceEqDiff, okU, List.nodup_cons, List.not_mem_nil, toT, toL, toO, keysO, renl, rent, cll, clt, eq_self, AV.eqv, AC.eqv, eqvl, eqvt, Sl.eqv, rowsLe, mapLL, rowsCl, List.map_append, List.length_map, List.length_append, List.length_set, List.map_replicate, rowG, List.getElem?_cons_zero, List.getElem?_cons_succ, List.getElem?_nil, List.append_nil, List.nil_append, List.cons_append, ghosts, St.gh, Option.some.injEq, implies_true, setT, AV.ren, AC.ren, AV.cl, AC.cl, List.replicate_succ, List.replicate_zero, List.nodup_nil, List.length_nil, List.length_cons, List.getD_cons_zero, List.getD_cons_succ, ↓reduceIte, ← hst, List.map_set]
    try simp
  · obtain rfl : i = X.length := by omega
    simp only [↓WP, ↓grdD, ↓grdT, ↓un_dead, ↓binVC, ↓buildVC, ↓sliceVC, WQ, WN, Int.reduceToNat, renl, cll, rent, clt, ↓reduceIte, Nat.reduceLeDiff, Nat.reduceEqDiff, Nat.reduceLT, reduceCtorEq, List.append_nil, Nat.reduceAdd, Nat.reduceSub, Nat.reduceBEq, forall_const, implies_true, cond_true, cond_false, AV.ren, AC.ren, AV.cl, AC.cl, eq_self, List.all_cons, List.all_nil, AV.eqv, AC.eqv, eqvl, eqvt, Sl.eqv, List.map_append, List.length_map, List.length_append, List.length_replicate, List.length_set, List.map_replicate, nilVC, sd_27, el_27, fl_53_0, sz_3, fl_53_1, fl_53_2, dge hge, hw]
    refine end_ret ?_
    simp only [↓WP, ↓grdD, ↓grdT, ↓un_dead, ↓binVC, ↓buildVC, ↓sliceVC, WQ, WN, Int.reduceToNat, renl, cll, rent, clt, ↓reduceIte, Nat.reduceLeDiff, Nat.reduceEqDiff, Nat.reduceLT, reduceCtorEq, List.append_nil, Nat.reduceAdd, Nat.reduceSub, Nat.reduceBEq, forall_const, implies_true, cond_true, cond_false, AV.ren, AC.ren, AV.cl, AC.cl, eq_self, List.all_cons, List.all_nil, AV.eqv, AC.eqv, eqvl, eqvt, Sl.eqv, List.map_append, List.length_map, List.length_append, List.length_replicate, List.length_set, List.map_replicate, nilVC, sd_27, el_27, fl_53_0, sz_3, fl_53_1, fl_53_2]
    refine ⟨(), [], [], ?_⟩
    simp only [WL, WNL, swA_new, swA_ne, nest_sw_ne, mapLL, List.mem_cons, Nat.reduceAdd, Nat.reduceLT, Nat.reduceLeDiff, Nat.reduceEqDiff, okU, List.nodup_cons, List.not_mem_nil, toT, toL, toO, keysO, renl, rent, cll, clt, eq_self, AV.eqv, AC.eqv, eqvl, eqvt, Sl.eqv, rowsLe, mapLL, rowsCl, List.map_append, List.length_map, List.length_append, List.length_set, List.map_replicate, rowG, List.getElem?_cons_zero, List.getElem?_cons_succ, List.getElem?_nil, List.append_nil, List.nil_append, List.cons_append, ghosts, St.gh, Option.some.injEq, implies_true, setT, AV.ren, AC.ren, AV.cl, AC.cl, List.replicate_succ, List.replicate_zero, List.nodup_nil, List.length_nil, List.length_cons, List.getD_cons_zero, List.getD_cons_succ, ↓reduceIte, retP, hM, over_all (mark3 k X.length) X (mark3_length _ _)]
    simp [okU, hM]
def c_laws_heldSTaskS : Contract := ⟨38, fun args M => match args with
  | [.c (.sl a n _), .c (.int .i64 k)] => .pure (RowOk T3 a n (M a.r) ∧ 0 ≤ k ∧ k ≤ 4611686018427387904) (I (if row T3 a n (M a.r) = mark3 k n then k + 3 * n else -1))
  | _ => .bad⟩
theorem ok_laws_heldSTaskS : fnP Try.prog c_laws_heldSTaskS.f = true ∧ ∀ args M, (c_laws_heldSTaskS.sp args M).OK Try.prog c_laws_heldSTaskS.f args M := by
  refine ⟨fp_38, fun args M => ?_⟩
  unfold c_laws_heldSTaskS
  dsimp only
  split
  case h_2 => trivial
  rename_i a n ca k
  rintro ⟨hrow, h1, h2⟩
  obtain ⟨hs, X, hX, rfl, hat⟩ := hrow.x
  rw [hX]
  refine goIn hf_38 rfl (nt := 40) rfl (rs := [.tmp 4]) rfl (C := []) trivial (q := fun _ => false) okQ_none mixed (O := fun _ => .nil) (by kernel_rfl) ?_
  simp only [↓WP, ↓grdD, ↓grdT, ↓un_dead, ↓binVC, ↓buildVC, ↓sliceVC, WQ, WN, Int.reduceToNat, renl, cll, rent, clt, ↓reduceIte, Nat.reduceLeDiff, Nat.reduceEqDiff, Nat.reduceLT, reduceCtorEq, List.append_nil, Nat.reduceAdd, Nat.reduceSub, Nat.reduceBEq, forall_const, implies_true, cond_true, cond_false, AV.ren, AC.ren, AV.cl, AC.cl, eq_self, List.all_cons, List.all_nil, AV.eqv, AC.eqv, eqvl, eqvt, Sl.eqv, List.map_append, List.length_map, List.length_append, List.length_replicate, List.length_set, List.map_replicate, nilVC, sd_27, el_27, fl_53_0, sz_3, fl_53_1, fl_53_2]
  refine loopI (J := {i : Nat // i ≤ X.length ∧ X.take i = (mark3 k X.length).take i}) (fun i => ⟨slots 40 [(0, .c (.sl a.up X.length ca)), (1, I (k + 3 * (i.1 : Int))), (5, I i.1)], M, [], []⟩) (fun i => X.length - i.1) ⟨0, by omega, rfl⟩ (Le_intro [] (by simp [WL, WNL, swA_new, swA_ne, nest_sw_ne, mapLL, List.mem_cons, Nat.reduceAdd, Nat.reduceLT, Nat.reduceLeDiff, Nat.reduceEqDiff, okU, List.nodup_cons, List.not_mem_nil, toT, toL, toO, keysO, renl, rent, cll, clt, eq_self, AV.eqv, AC.eqv, eqvl, eqvt, Sl.eqv, rowsLe, mapLL, rowsCl, List.map_append, List.length_map, List.length_append, List.length_set, List.map_replicate, rowG, List.getElem?_cons_zero, List.getElem?_cons_succ, List.getElem?_nil, List.append_nil, List.nil_append, List.cons_append, ghosts, St.gh, Option.some.injEq, implies_true, setT, AV.ren, AC.ren, AV.cl, AC.cl, List.replicate_succ, List.replicate_zero, List.nodup_nil, List.length_nil, List.length_cons, List.getD_cons_zero, List.getD_cons_succ, ↓reduceIte])) ?_
  rintro ⟨i, hi, he⟩
  have hw := wS (i := i) (by omega)
  rcases Nat.lt_or_ge i X.length with hlt | hge
  · obtain ⟨own, ty, cnt, cap, len, get, hM, hf, hic, hkn, hget⟩ := hat (by omega)
    have w1 : IntKind.i64.wrap (k + 3 * (i : Int) + 1) = k + 3 * (i : Int) + 1 := w64 (by omega) (by omega)
    have w2 : IntKind.i64.wrap (k + 3 * (i : Int) + 1 + 1) = k + 3 * (i : Int) + 2 := by rw [w64 (by omega) (by omega)]; omega
    have w3 : IntKind.i64.wrap (k + 3 * (i : Int) + 2 + 1) = k + 3 * ((i + 1 : Nat) : Int) := by rw [w64 (by omega) (by omega)]; omega
    have hm := mark3_get k hlt
    have hne : X.getD i default ≠ (k + 3 * (i : Int), k + 3 * (i : Int) + 1, k + 3 * (i : Int) + 2) → ¬ X = mark3 k X.length := fun h e => by
      rw [← hm, ← e] at h; exact h rfl
    simp only [↓WP, ↓grdD, ↓grdT, ↓un_dead, ↓binVC, ↓buildVC, ↓sliceVC, WQ, WN, Int.reduceToNat, renl, cll, rent, clt, ↓reduceIte, Nat.reduceLeDiff, Nat.reduceEqDiff, Nat.reduceLT, reduceCtorEq, List.append_nil, Nat.reduceAdd, Nat.reduceSub, Nat.reduceBEq, forall_const, implies_true, cond_true, cond_false, AV.ren, AC.ren, AV.cl, AC.cl, eq_self, List.all_cons, List.all_nil, AV.eqv, AC.eqv, eqvl, eqvt, Sl.eqv, List.map_append, List.length_map, List.length_append, List.length_replicate, List.length_set, List.map_replicate, nilVC, sd_27, el_27, fl_53_0, sz_3, fl_53_1, fl_53_2, dlt hlt, hw, hM, hf, hget i hlt, w1, w2, w3]
    simp only [WB, eq_self]
    repeat refine ⟨by omega, ?_⟩
    refine ⟨fun h => ?_, fun h => ?_⟩
    · rw [if_neg (hne fun e => h (by rw [e]))]
    repeat refine ⟨by omega, ?_⟩
    refine ⟨fun h' => ?_, fun h' => ?_⟩
    · rw [if_neg (hne fun e => h' (by rw [e]))]
    repeat refine ⟨by omega, ?_⟩
    refine ⟨fun h'' => ?_, fun h'' => ?_⟩
    · rw [if_neg (hne fun e => h'' (by rw [e]))]
    exact ⟨⟨i + 1, hlt, eq_step he hlt (by rw [mark3_length]; exact hlt) (by rw [hm]; exact Prod.ext_iff.2 ⟨by simpa using h, Prod.ext_iff.2 ⟨by simpa using h', by simpa using h''⟩⟩)⟩, Le_intro [] (by simp [WL, WNL, swA_new, swA_ne, nest_sw_ne, mapLL, List.mem_cons, Nat.reduceAdd, Nat.reduceLT, Nat.reduceLeDiff, Nat.reduceEqDiff, okU, List.nodup_cons, List.not_mem_nil, toT, toL, toO, keysO, renl, rent, cll, clt, eq_self, AV.eqv, AC.eqv, eqvl, eqvt, Sl.eqv, rowsLe, mapLL, rowsCl, List.map_append, List.length_map, List.length_append, List.length_set, List.map_replicate, rowG, List.getElem?_cons_zero, List.getElem?_cons_succ, List.getElem?_nil, List.append_nil, List.nil_append, List.cons_append, ghosts, St.gh, Option.some.injEq, implies_true, setT, AV.ren, AC.ren, AV.cl, AC.cl, List.replicate_succ, List.replicate_zero, List.nodup_nil, List.length_nil, List.length_cons, List.getD_cons_zero, List.getD_cons_succ, ↓reduceIte]), by show X.length - (i + 1) < X.length - i; omega⟩
  · obtain rfl : i = X.length := by omega
    simp only [↓WP, ↓grdD, ↓grdT, ↓un_dead, ↓binVC, ↓buildVC, ↓sliceVC, WQ, WN, Int.reduceToNat, renl, cll, rent, clt, ↓reduceIte, Nat.reduceLeDiff, Nat.reduceEqDiff, Nat.reduceLT, reduceCtorEq, List.append_nil, Nat.reduceAdd, Nat.reduceSub, Nat.reduceBEq, forall_const, implies_true, cond_true, cond_false, AV.ren, AC.ren, AV.cl, AC.cl, eq_self, List.all_cons, List.all_nil, AV.eqv, AC.eqv, eqvl, eqvt, Sl.eqv, List.map_append, List.length_map, List.length_append, List.length_replicate, List.length_set, List.map_replicate, nilVC, sd_27, el_27, fl_53_0, sz_3, fl_53_1, fl_53_2, dge hge, hw]
    rw [if_pos (eq_of_take (by rw [mark3_length]) he)]
theorem q_laws_heldSTaskS : Quiet c_laws_heldSTaskS := by
  intro args M
  unfold c_laws_heldSTaskS
  dsimp only
  split <;> first | trivial | (intro _; rfl)

def c_laws_markSched : Contract := ⟨18, fun args M => match args with
  | [.agg [.sl a n _, .int .i64 _], .c (.int .i64 k)] => specR T3 a n (M a.r) fun ty c _ => .eff (0 ≤ k ∧ k ≤ 4611686018427387904) Unit (fun _ => True) (fun _ => I (k + 3 * n)) (fun _ => []) (fun _ => [(a.r, rowG true ty c (mark3 k n))])
  | _ => .bad⟩
theorem ok_laws_markSched : fnP Try.prog c_laws_markSched.f = true ∧ ∀ args M, (c_laws_markSched.sp args M).OK Try.prog c_laws_markSched.f args M := by
  refine ⟨fp_18, fun args M => ?_⟩
  unfold c_laws_markSched
  dsimp only
  split
  case h_2 => trivial
  rename_i a n ca t k
  refine specR_cases fun ty c X hM hX hlen hs hi0 hk0 hf0 => ?_
  rintro ⟨h1, h2⟩
  subst hlen
  refine goIn hf_18 rfl (nt := 10) rfl (rs := [.tmp 4]) rfl (C := [c_laws_markSTaskS]) ⟨(by first | exact .inl ok_laws_markSTaskS | exact ok_laws_markSTaskS), trivial⟩ (q := fun _ => false) okQ_none mixed (O := fun _ => .nil) (by kernel_rfl) ?_
  simp only [↓WP, ↓grdD, ↓grdT, ↓un_dead, ↓binVC, ↓buildVC, ↓sliceVC, WQ, WN, Int.reduceToNat, renl, cll, rent, clt, ↓reduceIte, Nat.reduceLeDiff, Nat.reduceEqDiff, Nat.reduceLT, reduceCtorEq, List.append_nil, Nat.reduceAdd, Nat.reduceSub, Nat.reduceBEq, forall_const, implies_true, cond_true, cond_false, AV.ren, AC.ren, AV.cl, AC.cl, eq_self, List.all_cons, List.all_nil, AV.eqv, AC.eqv, eqvl, eqvt, Sl.eqv, List.map_append, List.length_map, List.length_append, List.length_replicate, List.length_set, List.map_replicate, nilVC, fl_29_0, sz_27, c_laws_markSTaskS, hM, hi0, hk0, hf0]
  refine ⟨⟨hs, h1, h2⟩, end_ret ?_⟩
  simp only [↓WP, ↓grdD, ↓grdT, ↓un_dead, ↓binVC, ↓buildVC, ↓sliceVC, WQ, WN, Int.reduceToNat, renl, cll, rent, clt, ↓reduceIte, Nat.reduceLeDiff, Nat.reduceEqDiff, Nat.reduceLT, reduceCtorEq, List.append_nil, Nat.reduceAdd, Nat.reduceSub, Nat.reduceBEq, forall_const, implies_true, cond_true, cond_false, AV.ren, AC.ren, AV.cl, AC.cl, eq_self, List.all_cons, List.all_nil, AV.eqv, AC.eqv, eqvl, eqvt, Sl.eqv, List.map_append, List.length_map, List.length_append, List.length_replicate, List.length_set, List.map_replicate, nilVC, fl_29_0, sz_27, c_laws_markSTaskS]
  refine ⟨(), [], [], ?_⟩
  simp only [WL, WNL, swA_new, swA_ne, nest_sw_ne, mapLL, List.mem_cons, Nat.reduceAdd, Nat.reduceLT, Nat.reduceLeDiff, Nat.reduceEqDiff, okU, List.nodup_cons, List.not_mem_nil, toT, toL, toO, keysO, renl, rent, cll, clt, eq_self, AV.eqv, AC.eqv, eqvl, eqvt, Sl.eqv, rowsLe, mapLL, rowsCl, List.map_append, List.length_map, List.length_append, List.length_set, List.map_replicate, rowG, List.getElem?_cons_zero, List.getElem?_cons_succ, List.getElem?_nil, List.append_nil, List.nil_append, List.cons_append, ghosts, St.gh, Option.some.injEq, implies_true, setT, AV.ren, AC.ren, AV.cl, AC.cl, List.replicate_succ, List.replicate_zero, List.nodup_nil, List.length_nil, List.length_cons, List.getD_cons_zero, List.getD_cons_succ, ↓reduceIte, retP]
  simp [okU, hM]

def c_laws_heldSched : Contract := ⟨19, fun args M => match args with
  | [.agg [.sl a n _, .int .i64 _], .c (.int .i64 k)] => .pure (RowOk T3 a n (M a.r) ∧ 0 ≤ k ∧ k ≤ 4611686018427387904) (I (if row T3 a n (M a.r) = mark3 k n then k + 3 * n else -1))
  | _ => .bad⟩
theorem ok_laws_heldSched : fnP Try.prog c_laws_heldSched.f = true ∧ ∀ args M, (c_laws_heldSched.sp args M).OK Try.prog c_laws_heldSched.f args M := by
  refine ⟨fp_19, fun args M => ?_⟩
  unfold c_laws_heldSched
  dsimp only
  split
  case h_2 => trivial
  rename_i a n ca t k
  rintro ⟨hrow, h1, h2⟩
  refine goIn hf_19 rfl (nt := 12) rfl (rs := [.tmp 4]) rfl (C := [c_laws_heldSTaskS]) ⟨(by first | exact .inl ok_laws_heldSTaskS | exact ok_laws_heldSTaskS), trivial⟩ (q := fun _ => false) okQ_none mixed (O := fun _ => .nil) (by kernel_rfl) ?_
  simp only [↓WP, ↓grdD, ↓grdT, ↓un_dead, ↓binVC, ↓buildVC, ↓sliceVC, WQ, WN, Int.reduceToNat, renl, cll, rent, clt, ↓reduceIte, Nat.reduceLeDiff, Nat.reduceEqDiff, Nat.reduceLT, reduceCtorEq, List.append_nil, Nat.reduceAdd, Nat.reduceSub, Nat.reduceBEq, forall_const, implies_true, cond_true, cond_false, AV.ren, AC.ren, AV.cl, AC.cl, eq_self, List.all_cons, List.all_nil, AV.eqv, AC.eqv, eqvl, eqvt, Sl.eqv, List.map_append, List.length_map, List.length_append, List.length_replicate, List.length_set, List.map_replicate, nilVC, fl_29_0, sz_27, c_laws_heldSTaskS]
  simp only [WB, eq_self]
  refine ⟨⟨hrow, h1, h2⟩, fun h => ?_⟩
  split at h
  · omega
  · rename_i hne
    simp only [if_neg hne]
theorem q_laws_heldSched : Quiet c_laws_heldSched := by
  intro args M
  unfold c_laws_heldSched
  dsimp only
  split <;> first | trivial | (intro _; rfl)

def boundOf (X : List T3) (t : Int) : Int := if schedOk X t ∧ X.length ≠ 0 then 10 + 2 * (X.length : Int) else 0
def c_spec_SchedBound : Contract := ⟨14, fun args M => match args with
  | [.agg [.sl a n _, .int .i64 t]] => .pure (RowOk T3 a n (M a.r)) (I (boundOf (row T3 a n (M a.r)) t))
  | _ => .bad⟩
theorem ok_spec_SchedBound : fnP Try.prog c_spec_SchedBound.f = true ∧ ∀ args M, (c_spec_SchedBound.sp args M).OK Try.prog c_spec_SchedBound.f args M := by
  refine ⟨fp_14, fun args M => ?_⟩
  unfold c_spec_SchedBound
  dsimp only
  split
  case h_2 => trivial
  rename_i a n c t
  intro hrow
  obtain ⟨hs, X, hX, rfl, hat⟩ := hrow.x
  rw [hX]
  refine goIn hf_14 rfl (nt := 17) rfl (rs := [.tmp 2]) rfl (C := [c_spec_SchedOk]) ⟨(by first | exact .inl ok_spec_SchedOk | exact ok_spec_SchedOk), trivial⟩ (q := fun _ => false) okQ_none mixed (O := fun _ => .nil) (by kernel_rfl) ?_
  simp only [↓WP, ↓grdD, ↓grdT, ↓un_dead, ↓binVC, ↓buildVC, ↓sliceVC, WQ, WN, Int.reduceToNat, renl, cll, rent, clt, ↓reduceIte, Nat.reduceLeDiff, Nat.reduceEqDiff, Nat.reduceLT, reduceCtorEq, List.append_nil, Nat.reduceAdd, Nat.reduceSub, Nat.reduceBEq, forall_const, implies_true, cond_true, cond_false, AV.ren, AC.ren, AV.cl, AC.cl, eq_self, List.all_cons, List.all_nil, AV.eqv, AC.eqv, eqvl, eqvt, Sl.eqv, List.map_append, List.length_map, List.length_append, List.length_replicate, List.length_set, List.map_replicate, nilVC, sz_29, fl_29_0, sz_27, sd_27, c_spec_SchedOk, hX]
  simp only [WB, eq_self]
  unfold boundOf
  refine ⟨hrow, fun h => ?_, fun h => ?_⟩
  · rw [if_neg (fun e => h.elim (fun h => h e.1) fun h => e.2 (by omega))]
  · have := h.1.1
    rw [if_pos ⟨h.1, by omega⟩, w64 (n := 2 * (X.length : Int)) (by omega) (by omega), w64 (by omega) (by omega)]
theorem q_spec_SchedBound : Quiet c_spec_SchedBound := by
  intro args M
  unfold c_spec_SchedBound
  dsimp only
  split <;> first | trivial | (intro _; rfl)
def c_impl_SchedBound : Contract := ⟨15, fun args M => match args with
  | [.agg [.sl a n _, .int .i64 t]] => .pure (RowOk T3 a n (M a.r)) (I (boundOf (row T3 a n (M a.r)) t))
  | _ => .bad⟩
theorem ok_impl_SchedBound : fnP Try.prog c_impl_SchedBound.f = true ∧ ∀ args M, (c_impl_SchedBound.sp args M).OK Try.prog c_impl_SchedBound.f args M := by
  refine ⟨fp_15, fun args M => ?_⟩
  unfold c_impl_SchedBound
  dsimp only
  split
  case h_2 => trivial
  rename_i a n c t
  intro hrow
  obtain ⟨hs, X, hX, rfl, hat⟩ := hrow.x
  rw [hX]
  refine goIn hf_15 rfl (nt := 17) rfl (rs := [.tmp 2]) rfl (C := [c_impl_SchedOk]) ⟨(by first | exact .inl ok_impl_SchedOk | exact ok_impl_SchedOk), trivial⟩ (q := fun _ => false) okQ_none mixed (O := fun _ => .nil) (by kernel_rfl) ?_
  simp only [↓WP, ↓grdD, ↓grdT, ↓un_dead, ↓binVC, ↓buildVC, ↓sliceVC, WQ, WN, Int.reduceToNat, renl, cll, rent, clt, ↓reduceIte, Nat.reduceLeDiff, Nat.reduceEqDiff, Nat.reduceLT, reduceCtorEq, List.append_nil, Nat.reduceAdd, Nat.reduceSub, Nat.reduceBEq, forall_const, implies_true, cond_true, cond_false, AV.ren, AC.ren, AV.cl, AC.cl, eq_self, List.all_cons, List.all_nil, AV.eqv, AC.eqv, eqvl, eqvt, Sl.eqv, List.map_append, List.length_map, List.length_append, List.length_replicate, List.length_set, List.map_replicate, nilVC, sz_29, fl_29_0, sz_27, sd_27, c_impl_SchedOk, hX]
  simp only [WB, eq_self]
  unfold boundOf
  refine ⟨hrow, fun h => ?_, fun h => ?_⟩
  · rw [if_neg (fun e => h.elim (fun h => h e.1) fun h => e.2 (by omega))]
  · have := h.1.1
    rw [if_pos ⟨h.1, by omega⟩, w64 (n := 2 * (X.length : Int)) (by omega) (by omega), w64 (by omega) (by omega)]
theorem q_impl_SchedBound : Quiet c_impl_SchedBound := by
  intro args M
  unfold c_impl_SchedBound
  dsimp only
  split <;> first | trivial | (intro _; rfl)
def c_laws_FnExactSchedBound : Contract := ⟨4, fun args M => match args with
  | [.agg [.sl a n _, .int .i64 _]] => .pure (n ≤ 9223372036854775807 ∧ (n ≤ 4294967296 → RowOk T3 a n (M a.r))) (Eng.B true)
  | _ => .bad⟩
theorem ok_laws_FnExactSchedBound : fnP Try.prog c_laws_FnExactSchedBound.f = true ∧ ∀ args M, (c_laws_FnExactSchedBound.sp args M).OK Try.prog c_laws_FnExactSchedBound.f args M := by
  refine ⟨fp_4, fun args M => ?_⟩
  unfold c_laws_FnExactSchedBound
  dsimp only
  split
  case h_2 => trivial
  rename_i a n c t
  rintro ⟨hn, hrow⟩
  refine goIn hf_4 rfl (nt := 27) rfl (rs := [.tmp 2]) rfl (C := [c_laws_szSched, c_laws_toSched, c_spec_SchedBound, c_impl_SchedBound, c_laws_eqSched]) ⟨(by first | exact .inl ok_laws_szSched | exact ok_laws_szSched), (by first | exact .inl ok_laws_toSched | exact ok_laws_toSched), (by first | exact .inl ok_spec_SchedBound | exact ok_spec_SchedBound), (by first | exact .inl ok_impl_SchedBound | exact ok_impl_SchedBound), (by first | exact .inl ok_laws_eqSched | exact ok_laws_eqSched), trivial⟩ (q := fun f => [11, 13].contains f) ⟨fun h => absurd h (by decide), fun _ => q_laws_toSched, fun h => absurd h (by decide), fun h => absurd h (by decide), fun _ => q_laws_eqSched, trivial⟩ mixed (O := ots [(10, otl [0, 1, 2, 3, 4] .nil)]) (by kernel_rfl) ?_
  rcases Nat.lt_or_ge 1048576 n with hb | hb
  · simp only [↓WP, ↓grdD, ↓grdT, ↓un_dead, ↓binVC, ↓buildVC, ↓sliceVC, WQ, WN, Int.reduceToNat, renl, cll, rent, clt, ↓reduceIte, Nat.reduceLeDiff, Nat.reduceEqDiff, Nat.reduceLT, reduceCtorEq, List.append_nil, Nat.reduceAdd, Nat.reduceSub, Nat.reduceBEq, forall_const, implies_true, cond_true, cond_false, AV.ren, AC.ren, AV.cl, AC.cl, eq_self, List.all_cons, List.all_nil, AV.eqv, AC.eqv, eqvl, eqvt, Sl.eqv, List.map_append, List.length_map, List.length_append, List.length_replicate, List.length_set, List.map_replicate, nilVC, sz_24, zr_29, sz_29, c_laws_szSched, c_laws_toSched, c_spec_SchedBound, c_impl_SchedBound, c_laws_eqSched, if_pos (show (1048576 : Int) < n by omega)]
    simp
    omega
  · have hrow := hrow (by omega)
    have hb2 : n ≤ 4294967296 := by omega
    simp only [↓WP, ↓grdD, ↓grdT, ↓un_dead, ↓binVC, ↓buildVC, ↓sliceVC, WQ, WN, Int.reduceToNat, renl, cll, rent, clt, ↓reduceIte, Nat.reduceLeDiff, Nat.reduceEqDiff, Nat.reduceLT, reduceCtorEq, List.append_nil, Nat.reduceAdd, Nat.reduceSub, Nat.reduceBEq, forall_const, implies_true, cond_true, cond_false, AV.ren, AC.ren, AV.cl, AC.cl, eq_self, List.all_cons, List.all_nil, AV.eqv, AC.eqv, eqvl, eqvt, Sl.eqv, List.map_append, List.length_map, List.length_append, List.length_replicate, List.length_set, List.map_replicate, nilVC, sz_24, zr_29, sz_29, c_laws_szSched, c_laws_toSched, c_spec_SchedBound, c_impl_SchedBound, c_laws_eqSched, if_neg (show ¬ (1048576 : Int) < n by omega), hrow]
    simp [hb2]
    omega

/-! ### copies -/
def c_impl_cloneSched : Contract := ⟨36, fun args M => match args with
  | [.agg [.sl a n c, .int .i64 t]] => .eff (RowOk T3 a n (M a.r) ∧ n ≤ c) Nat (fun k => n ≤ k) (fun k => .agg [.sl ⟨.loc 0, 0, 0, 0⟩ n k, .int .i64 t]) (fun k => [rowG true 53 k (row T3 a n (M a.r))]) (fun _ => [])
  | _ => .bad⟩
theorem ok_impl_cloneSched : fnP Try.prog c_impl_cloneSched.f = true ∧ ∀ args M, (c_impl_cloneSched.sp args M).OK Try.prog c_impl_cloneSched.f args M := by
  refine ⟨fp_36, fun args M => ?_⟩
  unfold c_impl_cloneSched
  dsimp only
  split
  case h_2 => trivial
  rename_i a n c t
  rintro ⟨hrow, hc⟩
  refine goIn hf_36 rfl (nt := 9) rfl (rs := [.cell 2 29]) rfl (C := [c_slices_Clone_STask]) ⟨(by first | exact .inl ok_slices_Clone_STask | exact ok_slices_Clone_STask), trivial⟩ (q := fun f => [50].contains f) ⟨fun _ => q_slices_Clone_STask, trivial⟩ mixed (O := ots [(1, otl [0, 1, 3, 4, 2, 5, 6] .nil)]) (by kernel_rfl) ?_
  simp only [↓WP, ↓grdD, ↓grdT, ↓un_dead, ↓binVC, ↓buildVC, ↓sliceVC, WQ, WN, Int.reduceToNat, renl, cll, rent, clt, ↓reduceIte, Nat.reduceLeDiff, Nat.reduceEqDiff, Nat.reduceLT, reduceCtorEq, List.append_nil, Nat.reduceAdd, Nat.reduceSub, Nat.reduceBEq, forall_const, implies_true, cond_true, cond_false, AV.ren, AC.ren, AV.cl, AC.cl, eq_self, List.all_cons, List.all_nil, AV.eqv, AC.eqv, eqvl, eqvt, Sl.eqv, List.map_append, List.length_map, List.length_append, List.length_replicate, List.length_set, List.map_replicate, nilVC, zr_29, fl_29_0, sz_27, fl_29_1, sz_3, fs_29, sz_29, c_slices_Clone_STask]
  refine ⟨⟨hrow, hc⟩, fun k hk => end_ret ?_⟩
  simp only [↓WP, ↓grdD, ↓grdT, ↓un_dead, ↓binVC, ↓buildVC, ↓sliceVC, WQ, WN, Int.reduceToNat, renl, cll, rent, clt, ↓reduceIte, Nat.reduceLeDiff, Nat.reduceEqDiff, Nat.reduceLT, reduceCtorEq, List.append_nil, Nat.reduceAdd, Nat.reduceSub, Nat.reduceBEq, forall_const, implies_true, cond_true, cond_false, AV.ren, AC.ren, AV.cl, AC.cl, eq_self, List.all_cons, List.all_nil, AV.eqv, AC.eqv, eqvl, eqvt, Sl.eqv, List.map_append, List.length_map, List.length_append, List.length_replicate, List.length_set, List.map_replicate, nilVC, zr_29, fl_29_0, sz_27, fl_29_1, sz_3, fs_29, sz_29, c_slices_Clone_STask]
  refine ⟨k, [], [2], ?_⟩
  simp only [WL, WNL, swA_new, swA_ne, nest_sw_ne, mapLL, List.mem_cons, Nat.reduceAdd, Nat.reduceLT, Nat.reduceLeDiff, Nat.reduceEqDiff, okU, List.nodup_cons, List.not_mem_nil, toT, toL, toO, keysO, renl, rent, cll, clt, eq_self, AV.eqv, AC.eqv, eqvl, eqvt, Sl.eqv, rowsLe, mapLL, rowsCl, List.map_append, List.length_map, List.length_append, List.length_set, List.map_replicate, rowG, List.getElem?_cons_zero, List.getElem?_cons_succ, List.getElem?_nil, List.append_nil, List.nil_append, List.cons_append, ghosts, St.gh, Option.some.injEq, implies_true, setT, AV.ren, AC.ren, AV.cl, AC.cl, List.replicate_succ, List.replicate_zero, List.nodup_nil, List.length_nil, List.length_cons, List.getD_cons_zero, List.getD_cons_succ, ↓reduceIte, retP]
  simp [hk]
theorem q_impl_cloneSched : Quiet c_impl_cloneSched := by
  intro args M
  unfold c_impl_cloneSched
  dsimp only
  split <;> first | trivial | (intro _; rfl)
def c_spec_l33Copy : Contract := ⟨35, fun args M => match args with
  | [.agg [.sl a n c, .int .i64 t]] => .eff (RowOk T3 a n (M a.r)) Nat (fun k => n ≤ k) (fun k => .agg [.sl ⟨.loc 0, 0, 0, 0⟩ n k, .int .i64 t]) (fun k => [rowG true 53 k (row T3 a n (M a.r))]) (fun _ => [])
  | _ => .bad⟩
theorem ok_spec_l33Copy : fnP Try.prog c_spec_l33Copy.f = true ∧ ∀ args M, (c_spec_l33Copy.sp args M).OK Try.prog c_spec_l33Copy.f args M := by
  refine ⟨fp_35, fun args M => ?_⟩
  unfold c_spec_l33Copy
  dsimp only
  split
  case h_2 => trivial
  rename_i a n c t
  intro hrow
  obtain ⟨hs, X, hX, rfl, hat⟩ := hrow.x
  rw [hX]
  refine goIn hf_35 rfl (nt := 10) rfl (rs := [.cell 2 29]) rfl (C := []) trivial (q := fun f => [].contains f) trivial mixed (O := ots [(1, otl [0, 1, 2, 4] (.gob 5 (otl [3, 6, 7] .nil)))]) (by kernel_rfl) ?_
  rcases Nat.eq_zero_or_pos X.length with h0 | h0
  · obtain rfl : X = [] := List.eq_nil_of_length_eq_zero h0
    simp only [↓WP, ↓grdD, ↓grdT, ↓un_dead, ↓binVC, ↓buildVC, ↓sliceVC, WQ, WN, Int.reduceToNat, renl, cll, rent, clt, ↓reduceIte, Nat.reduceLeDiff, Nat.reduceEqDiff, Nat.reduceLT, reduceCtorEq, List.append_nil, Nat.reduceAdd, Nat.reduceSub, Nat.reduceBEq, forall_const, implies_true, cond_true, cond_false, AV.ren, AC.ren, AV.cl, AC.cl, eq_self, List.all_cons, List.all_nil, AV.eqv, AC.eqv, eqvl, eqvt, Sl.eqv, List.map_append, List.length_map, List.length_append, List.length_replicate, List.length_set, List.map_replicate, nilVC, zr_29, el_27, zr_53, fl_29_0, sz_27, fl_29_1, sz_3, fs_29, sz_29]
    repeat' (first | with_reducible refine And.intro ?_ ?_ | intro _)
    all_goals try omega
    all_goals try rfl
    all_goals
      refine end_ret ?_
      simp only [↓WP, ↓grdD, ↓grdT, ↓un_dead, ↓binVC, ↓buildVC, ↓sliceVC, WQ, WN, Int.reduceToNat, renl, cll, rent, clt, ↓reduceIte, Nat.reduceLeDiff, Nat.reduceEqDiff, Nat.reduceLT, reduceCtorEq, List.append_nil, Nat.reduceAdd, Nat.reduceSub, Nat.reduceBEq, forall_const, implies_true, cond_true, cond_false, AV.ren, AC.ren, AV.cl, AC.cl, eq_self, List.all_cons, List.all_nil, AV.eqv, AC.eqv, eqvl, eqvt, Sl.eqv, List.map_append, List.length_map, List.length_append, List.length_replicate, List.length_set, List.map_replicate, nilVC, zr_29, el_27, zr_53, fl_29_0, sz_27, fl_29_1, sz_3, fs_29, sz_29]
      refine ⟨0, [(53, 3)], [2], ?_⟩
      simp [WL, WNL, swA_new, swA_ne, nest_sw_ne, mapLL, List.mem_cons, Nat.reduceAdd, Nat.reduceLT, Nat.reduceLeDiff, Nat.reduceEqDiff, okU, List.nodup_cons, List.not_mem_nil, toT, toL, toO, keysO, renl, rent, cll, clt, eq_self, AV.eqv, AC.eqv, eqvl, eqvt, Sl.eqv, rowsLe, mapLL, rowsCl, List.map_append, List.length_map, List.length_append, List.length_set, List.map_replicate, rowG, List.getElem?_cons_zero, List.getElem?_cons_succ, List.getElem?_nil, List.append_nil, List.nil_append, List.cons_append, ghosts, St.gh, Option.some.injEq, implies_true, setT, AV.ren, AC.ren, AV.cl, AC.cl, List.replicate_succ, List.replicate_zero, List.nodup_nil, List.length_nil, List.length_cons, List.getD_cons_zero, List.getD_cons_succ, ↓reduceIte, retP]

  · obtain ⟨own, ty, cnt, cap, len, get, hM, hf, hic, hkn, hget⟩ := hat h0
    have hwin : win (fun k => List.map AC.up (get a.i (a.k + k))) X.length = X.map enc := win_enc (g := fun k => get a.i (a.k + k)) hget
    simp only [↓WP, ↓grdD, ↓grdT, ↓un_dead, ↓binVC, ↓buildVC, ↓sliceVC, WQ, WN, Int.reduceToNat, renl, cll, rent, clt, ↓reduceIte, Nat.reduceLeDiff, Nat.reduceEqDiff, Nat.reduceLT, reduceCtorEq, List.append_nil, Nat.reduceAdd, Nat.reduceSub, Nat.reduceBEq, forall_const, implies_true, cond_true, cond_false, AV.ren, AC.ren, AV.cl, AC.cl, eq_self, List.all_cons, List.all_nil, AV.eqv, AC.eqv, eqvl, eqvt, Sl.eqv, List.map_append, List.length_map, List.length_append, List.length_replicate, List.length_set, List.map_replicate, nilVC, zr_29, el_27, zr_53, fl_29_0, sz_27, fl_29_1, sz_3, fs_29, sz_29, hM, hf, hwin]
    repeat' (first | with_reducible refine And.intro ?_ ?_ | intro _)
    all_goals try omega
    all_goals try rfl
    all_goals try exact .inl trivial
    all_goals
      rename_i k hk _
      refine end_ret ?_
      simp only [↓WP, ↓grdD, ↓grdT, ↓un_dead, ↓binVC, ↓buildVC, ↓sliceVC, WQ, WN, Int.reduceToNat, renl, cll, rent, clt, ↓reduceIte, Nat.reduceLeDiff, Nat.reduceEqDiff, Nat.reduceLT, reduceCtorEq, List.append_nil, Nat.reduceAdd, Nat.reduceSub, Nat.reduceBEq, forall_const, implies_true, cond_true, cond_false, AV.ren, AC.ren, AV.cl, AC.cl, eq_self, List.all_cons, List.all_nil, AV.eqv, AC.eqv, eqvl, eqvt, Sl.eqv, List.map_append, List.length_map, List.length_append, List.length_replicate, List.length_set, List.map_replicate, nilVC, zr_29, el_27, zr_53, fl_29_0, sz_27, fl_29_1, sz_3, fs_29, sz_29]
      refine ⟨k, [], [2], ?_⟩
      simp only [WL, WNL, swA_new, swA_ne, nest_sw_ne, mapLL, List.mem_cons, Nat.reduceAdd, Nat.reduceLT, Nat.reduceLeDiff, Nat.reduceEqDiff, okU, List.nodup_cons, List.not_mem_nil, toT, toL, toO, keysO, renl, rent, cll, clt, eq_self, AV.eqv, AC.eqv, eqvl, eqvt, Sl.eqv, rowsLe, mapLL, rowsCl, List.map_append, List.length_map, List.length_append, List.length_set, List.map_replicate, rowG, List.getElem?_cons_zero, List.getElem?_cons_succ, List.getElem?_nil, List.append_nil, List.nil_append, List.cons_append, ghosts, St.gh, Option.some.injEq, implies_true, setT, AV.ren, AC.ren, AV.cl, AC.cl, List.replicate_succ, List.replicate_zero, List.nodup_nil, List.length_nil, List.length_cons, List.getD_cons_zero, List.getD_cons_succ, ↓reduceIte, retP]
      simp [hk]
theorem q_spec_l33Copy : Quiet c_spec_l33Copy := by
  intro args M
  unfold c_spec_l33Copy
  dsimp only
  split <;> first | trivial | (intro _; rfl)
end Go.Eng.T
