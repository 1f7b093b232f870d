/- faults: the program's WorkingSet. -/
import Derived.Test.YtgbbegbepbniiaaFn13
set_option linter.unusedVariables false
set_option linter.unusedSimpArgs false
set_option linter.unusedSectionVars false
namespace Go.Eng.T
open Go.Proofs
open Cel (enc dec)
set_option maxRecDepth 100000
set_option maxHeartbeats 8000000
def c_slices_Clone_int : Contract := ⟨42, fun args M => match args with
  | [.c (.sl a n c)] => .eff (RowOk Int a n (M a.r) ∧ n ≤ c) Nat (fun k => n ≤ k) (fun k => .c (.sl ⟨.loc 0, 0, 0, 0⟩ n k)) (fun k => [rowG true 3 k (row Int a n (M a.r))]) (fun _ => [])
  | _ => .bad⟩
theorem ok_slices_Clone_int : fnP Try.prog c_slices_Clone_int.f = true ∧ ∀ args M, (c_slices_Clone_int.sp args M).OK Try.prog c_slices_Clone_int.f args M := by
  refine ⟨fp_42, fun args M => ?_⟩
  unfold c_slices_Clone_int
  dsimp only
  split
  case h_2 => trivial
  rename_i a n c
  rintro ⟨hrow, hc⟩
  obtain ⟨hs, X, hX, rfl, hat⟩ := hrow.x
  rw [hX]
  refine goIn hf_42 rfl (nt := 8) rfl (rs := [.tmp 2]) rfl (C := []) trivial (q := fun _ => false) okQ_none mixed (O := fun _ => .nil) (by kernel_rfl) ?_
  rcases Nat.eq_zero_or_pos X.length with h0 | h0
  · obtain rfl : X = [] := List.eq_nil_of_length_eq_zero h0
    simp only [↓WP, ↓grdD, ↓grdT, ↓un_dead, ↓binVC, ↓buildVC, ↓sliceVC, WQ, WN, Int.reduceToNat, renl, cll, rent, clt, ↓reduceIte, Nat.reduceLeDiff, Nat.reduceEqDiff, Nat.reduceLT, reduceCtorEq, List.append_nil, Nat.reduceAdd, Nat.reduceSub, Nat.reduceBEq, forall_const, implies_true, cond_true, cond_false, AV.ren, AC.ren, AV.cl, AC.cl, eq_self, List.all_cons, List.all_nil, AV.eqv, AC.eqv, eqvl, eqvt, Sl.eqv, List.map_append, List.length_map, List.length_append, List.length_replicate, List.length_set, List.map_replicate, nilVC, slt_22, el_22, zr_3]
    repeat' (first | with_reducible refine And.intro ?_ ?_ | intro _)
    all_goals try omega
    all_goals try rfl
    all_goals
      refine end_ret ?_
      simp only [↓WP, ↓grdD, ↓grdT, ↓un_dead, ↓binVC, ↓buildVC, ↓sliceVC, WQ, WN, Int.reduceToNat, renl, cll, rent, clt, ↓reduceIte, Nat.reduceLeDiff, Nat.reduceEqDiff, Nat.reduceLT, reduceCtorEq, List.append_nil, Nat.reduceAdd, Nat.reduceSub, Nat.reduceBEq, forall_const, implies_true, cond_true, cond_false, AV.ren, AC.ren, AV.cl, AC.cl, eq_self, List.all_cons, List.all_nil, AV.eqv, AC.eqv, eqvl, eqvt, Sl.eqv, List.map_append, List.length_map, List.length_append, List.length_replicate, List.length_set, List.map_replicate, nilVC, slt_22, el_22, zr_3]
      refine ⟨0, [(3, 1)], [0], ?_⟩
      simp [WL, WNL, swA_new, swA_ne, nest_sw_ne, mapLL, List.mem_cons, Nat.reduceAdd, Nat.reduceLT, Nat.reduceLeDiff, Nat.reduceEqDiff, okU, List.nodup_cons, List.not_mem_nil, toT, toL, toO, keysO, renl, rent, cll, clt, eq_self, AV.eqv, AC.eqv, eqvl, eqvt, Sl.eqv, rowsLe, mapLL, rowsCl, List.map_append, List.length_map, List.length_append, List.length_set, List.map_replicate, rowG, List.getElem?_cons_zero, List.getElem?_cons_succ, List.getElem?_nil, List.append_nil, List.nil_append, List.cons_append, ghosts, St.gh, Option.some.injEq, implies_true, setT, AV.ren, AC.ren, AV.cl, AC.cl, List.replicate_succ, List.replicate_zero, List.nodup_nil, List.length_nil, List.length_cons, List.getD_cons_zero, List.getD_cons_succ, ↓reduceIte, retP]
  · obtain ⟨own, ty, cnt, cap, len, get, hM, hf, hic, hkn, hget⟩ := hat h0
    have hwin : win (fun k => List.map AC.up (get a.i (a.k + k))) X.length = X.map enc := win_enc (g := fun k => get a.i (a.k + k)) hget
    simp only [↓WP, ↓grdD, ↓grdT, ↓un_dead, ↓binVC, ↓buildVC, ↓sliceVC, WQ, WN, Int.reduceToNat, renl, cll, rent, clt, ↓reduceIte, Nat.reduceLeDiff, Nat.reduceEqDiff, Nat.reduceLT, reduceCtorEq, List.append_nil, Nat.reduceAdd, Nat.reduceSub, Nat.reduceBEq, forall_const, implies_true, cond_true, cond_false, AV.ren, AC.ren, AV.cl, AC.cl, eq_self, List.all_cons, List.all_nil, AV.eqv, AC.eqv, eqvl, eqvt, Sl.eqv, List.map_append, List.length_map, List.length_append, List.length_replicate, List.length_set, List.map_replicate, nilVC, slt_22, el_22, zr_3, hM, hf, hwin]
    refine fun b hb => ⟨fun e => absurd (hb e) (by omega), fun _ => ?_⟩
    repeat' (first | with_reducible refine And.intro ?_ ?_ | intro _)
    all_goals try omega
    all_goals try rfl
    all_goals try exact .inl trivial
    all_goals
      rename_i k hk _
      refine end_ret ?_
      simp only [↓WP, ↓grdD, ↓grdT, ↓un_dead, ↓binVC, ↓buildVC, ↓sliceVC, WQ, WN, Int.reduceToNat, renl, cll, rent, clt, ↓reduceIte, Nat.reduceLeDiff, Nat.reduceEqDiff, Nat.reduceLT, reduceCtorEq, List.append_nil, Nat.reduceAdd, Nat.reduceSub, Nat.reduceBEq, forall_const, implies_true, cond_true, cond_false, AV.ren, AC.ren, AV.cl, AC.cl, eq_self, List.all_cons, List.all_nil, AV.eqv, AC.eqv, eqvl, eqvt, Sl.eqv, List.map_append, List.length_map, List.length_append, List.length_replicate, List.length_set, List.map_replicate, nilVC, slt_22, el_22, zr_3]
      refine ⟨k, [], [0], ?_⟩
      simp only [WL, WNL, swA_new, swA_ne, nest_sw_ne, mapLL, List.mem_cons, Nat.reduceAdd, Nat.reduceLT, Nat.reduceLeDiff, Nat.reduceEqDiff, okU, List.nodup_cons, List.not_mem_nil, toT, toL, toO, keysO, renl, rent, cll, clt, eq_self, AV.eqv, AC.eqv, eqvl, eqvt, Sl.eqv, rowsLe, mapLL, rowsCl, List.map_append, List.length_map, List.length_append, List.length_set, List.map_replicate, rowG, List.getElem?_cons_zero, List.getElem?_cons_succ, List.getElem?_nil, List.append_nil, List.nil_append, List.cons_append, ghosts, St.gh, Option.some.injEq, implies_true, setT, AV.ren, AC.ren, AV.cl, AC.cl, List.replicate_succ, List.replicate_zero, List.nodup_nil, List.length_nil, List.length_cons, List.getD_cons_zero, List.getD_cons_succ, ↓reduceIte, retP]
      simp [hk]
theorem q_slices_Clone_int : Quiet c_slices_Clone_int := by
  intro args M
  unfold c_slices_Clone_int
  dsimp only
  split <;> first | trivial | (intro _; rfl)
def c_impl_WorkingSet : Contract := ⟨21, fun args M => match args with
  | [.c (.sl a n c), .c (.int .i64 q), .c (.int .i64 w)] => .eff ((RowOk Int a n (M a.r) ∧ n ≤ c) ∧ w ≤ 9223372036854775807) Nat (fun k => (wsO (row Int a n (M a.r)) q w).length ≤ k) (fun k => .c (.sl ⟨.loc 0, 0, 0, 0⟩ (wsO (row Int a n (M a.r)) q w).length k)) (fun k => [rowG true 3 k (wsO (row Int a n (M a.r)) q w)]) (fun _ => [])
  | _ => .bad⟩
theorem ok_impl_WorkingSet : fnP Try.prog c_impl_WorkingSet.f = true ∧ ∀ args M, (c_impl_WorkingSet.sp args M).OK Try.prog c_impl_WorkingSet.f args M := by
  refine ⟨fp_21, fun args M => ?_⟩
  unfold c_impl_WorkingSet
  dsimp only
  split
  case h_2 => trivial
  rename_i a n c q w
  rintro ⟨⟨hrow, hc⟩, hw⟩
  have hrw := hrow
  obtain ⟨hs, X, hX, rfl, hat⟩ := hrow.x
  rw [hX]
  refine goIn hf_21 rfl (nt := 37) rfl (rs := [.tmp 6]) rfl (C := [c_impl_rowOk, c_impl_in, c_slices_Clone_int, c_slices_Sort_int, c_slices_Compact_int]) ⟨(by first | exact .inl ok_impl_rowOk | exact ok_impl_rowOk), (by first | exact .inl ok_impl_in | exact ok_impl_in), (by first | exact .inl ok_slices_Clone_int | exact ok_slices_Clone_int), (by first | exact .inl ok_slices_Sort_int | exact ok_slices_Sort_int), (by first | exact .inl ok_slices_Compact_int | exact ok_slices_Compact_int), trivial⟩ (q := fun _ => false) okQ_none mixed (O := fun _ => .nil) (by kernel_rfl) ?_
  by_cases hok : X.length ≤ 200 ∧ ∀ i, i < X.length → 0 ≤ X.getD i default ∧ X.getD i default ≤ 99
  · have hwm : IntKind.i64.wrap ((X.length : Int) - 1) = (X.length : Int) - 1 := w64 (by omega) (by omega)
    by_cases hq : 0 ≤ q ∧ q ≤ (X.length : Int) - 1
    · by_cases h1 : w < 1
      · simp only [↓WP, ↓grdD, ↓grdT, ↓un_dead, ↓binVC, ↓buildVC, ↓sliceVC, WQ, WN, Int.reduceToNat, renl, cll, rent, clt, ↓reduceIte, Nat.reduceLeDiff, Nat.reduceEqDiff, Nat.reduceLT, reduceCtorEq, List.append_nil, Nat.reduceAdd, Nat.reduceSub, Nat.reduceBEq, forall_const, implies_true, cond_true, cond_false, AV.ren, AC.ren, AV.cl, AC.cl, eq_self, List.all_cons, List.all_nil, AV.eqv, AC.eqv, eqvl, eqvt, Sl.eqv, List.map_append, List.length_map, List.length_append, List.length_replicate, List.length_set, List.map_replicate, nilVC, sd_22, el_22, c_impl_rowOk, c_impl_in, c_slices_Clone_int, c_slices_Sort_int, c_slices_Compact_int, hX, decide_eq_true hok, decide_eq_true hq, hwm, decide_eq_true h1]
        refine ⟨hrow, ?_⟩
        have hno : wsO X q w = [] := if_neg fun h => by have := h.2.2; omega
        rw [hno]
        refine end_ret ?_
        simp only [↓WP, ↓grdD, ↓grdT, ↓un_dead, ↓binVC, ↓buildVC, ↓sliceVC, WQ, WN, Int.reduceToNat, renl, cll, rent, clt, ↓reduceIte, Nat.reduceLeDiff, Nat.reduceEqDiff, Nat.reduceLT, reduceCtorEq, List.append_nil, Nat.reduceAdd, Nat.reduceSub, Nat.reduceBEq, forall_const, implies_true, cond_true, cond_false, AV.ren, AC.ren, AV.cl, AC.cl, eq_self, List.all_cons, List.all_nil, AV.eqv, AC.eqv, eqvl, eqvt, Sl.eqv, List.map_append, List.length_map, List.length_append, List.length_replicate, List.length_set, List.map_replicate, nilVC, sd_22, el_22, c_impl_rowOk, c_impl_in, c_slices_Clone_int, c_slices_Sort_int, c_slices_Compact_int]
        refine ⟨0, [(3, 1)], [0], ?_⟩
        simp [WL, WNL, swA_new, swA_ne, nest_sw_ne, mapLL, List.mem_cons, Nat.reduceAdd, Nat.reduceLT, Nat.reduceLeDiff, Nat.reduceEqDiff, okU, List.nodup_cons, List.not_mem_nil, toT, toL, toO, keysO, renl, rent, cll, clt, eq_self, AV.eqv, AC.eqv, eqvl, eqvt, Sl.eqv, rowsLe, mapLL, rowsCl, List.map_append, List.length_map, List.length_append, List.length_set, List.map_replicate, rowG, List.getElem?_cons_zero, List.getElem?_cons_succ, List.getElem?_nil, List.append_nil, List.nil_append, List.cons_append, ghosts, St.gh, Option.some.injEq, implies_true, setT, AV.ren, AC.ren, AV.cl, AC.cl, List.replicate_succ, List.replicate_zero, List.nodup_nil, List.length_nil, List.length_cons, List.getD_cons_zero, List.getD_cons_succ, ↓reduceIte, retP]
      · obtain ⟨q, rfl⟩ : ∃ n : Nat, q = n := ⟨q.toNat, by omega⟩
        have hmay : wsMay X q w := ⟨hok, ⟨by omega, by omega⟩, by omega⟩
        obtain ⟨own, ty, cnt, cap, len, get, hM, hf, hic, hkn, hget⟩ := hat (by omega)
        obtain ⟨ar, ai, ak, af⟩ := a
        dsimp only at hf hM hic hkn hget
        subst hf
        obtain ⟨d, hd⟩ : ∃ d : Nat, d = ((q : Int) - w + 1).toNat := ⟨_, rfl⟩
        have hwq1 : IntKind.i64.wrap ((q : Int) - w) = (q : Int) - w := w64 (by omega) (by omega)
        have hwq2 : IntKind.i64.wrap ((q : Int) - w + 1) = (q : Int) - w + 1 := w64 (by omega) (by omega)
        have hwq3 : IntKind.i64.wrap ((q : Int) + 1) = ((q + 1 : Nat) : Int) := by rw [w64 (by omega) (by omega)]; omega
        have hmx : (if 0 < (q : Int) - w + 1 then (q : Int) - w + 1 else 0) = (d : Int) := by split <;> omega
        obtain ⟨hp1, hp2⟩ := hrw.pre (m := q + 1) (by omega)
        obtain ⟨hq1, hq2⟩ := hp1.sub (q := d) (by omega)
        rw [hp2, hX] at hq2
        obtain ⟨S, hS⟩ : ∃ S, S = winW X w q := ⟨_, rfl⟩
        have hS' : (X.take (q + 1)).drop d = S := by rw [hS, winW, hd]
        rw [hS'] at hq2
        have hSl : q + 1 - d = S.length := by rw [← hS', List.length_drop, List.length_take]; omega
        rw [hSl] at hq1 hq2
        dsimp only at hq1 hq2
        rw [hM] at hq1 hq2
        have hR : row Int ⟨ar.out, ai, ak + d, 0⟩ S.length (some (Rg.arr own ty 1 cnt cap len fun i k => List.map AC.up (get i k))) = S := (row_up (α := Int) (a := ⟨ar, ai, ak + d, 0⟩) (n := S.length) (o := some (.arr own ty (Cel.sz Int) cnt cap len get))).trans hq2
        have hO : RowOk Int ⟨ar.out, ai, ak + d, 0⟩ S.length (some (Rg.arr own ty 1 cnt cap len fun i k => List.map AC.up (get i k))) := (RowOk_up (α := Int) (a := ⟨ar, ai, ak + d, 0⟩) (n := S.length) (o := some (.arr own ty (Cel.sz Int) cnt cap len get))).mpr hq1
        rw [hM] at hrow hX
        have hXu : row Int ⟨ar.out, ai, ak, 0⟩ X.length (some (Rg.arr own ty 1 cnt cap len fun i k => List.map AC.up (get i k))) = X := (row_up (α := Int) (a := ⟨ar, ai, ak, 0⟩) (n := X.length) (o := some (.arr own ty (Cel.sz Int) cnt cap len get))).trans hX
        have hOu : RowOk Int ⟨ar.out, ai, ak, 0⟩ X.length (some (Rg.arr own ty 1 cnt cap len fun i k => List.map AC.up (get i k))) := (RowOk_up (α := Int) (a := ⟨ar, ai, ak, 0⟩) (n := X.length) (o := some (.arr own ty (Cel.sz Int) cnt cap len get))).mpr hrow
        have hso : dd (S.mergeSort fun x y => decide (x ≤ y)) (S.mergeSort fun x y => decide (x ≤ y)).length = wsO X q w := ws_same hmay (by
          have := List.pairwise_mergeSort (le := fun x y : Int => decide (x ≤ y)) (by simp; omega) (by simp; omega) S
          simpa using this) (by rw [hS]; exact List.mergeSort_perm _ _)
        obtain ⟨T, hT⟩ : ∃ T, T = S.mergeSort fun x y => decide (x ≤ y) := ⟨_, rfl⟩
        have hTl : T.length = S.length := by rw [hT, List.length_mergeSort]
        rw [← hT, hTl] at hso
        have hwT : win (fun k => (List.map enc T).getD k []) S.length = List.map enc T := win_whole (by rw [List.length_map, hTl])
        simp only [↓WP, ↓grdD, ↓grdT, ↓un_dead, ↓binVC, ↓buildVC, ↓sliceVC, WQ, WN, Int.reduceToNat, renl, cll, rent, clt, ↓reduceIte, Nat.reduceLeDiff, Nat.reduceEqDiff, Nat.reduceLT, reduceCtorEq, List.append_nil, Nat.reduceAdd, Nat.reduceSub, Nat.reduceBEq, forall_const, implies_true, cond_true, cond_false, AV.ren, AC.ren, AV.cl, AC.cl, eq_self, List.all_cons, List.all_nil, AV.eqv, AC.eqv, eqvl, eqvt, Sl.eqv, List.map_append, List.length_map, List.length_append, List.length_replicate, List.length_set, List.map_replicate, nilVC, sd_22, el_22, c_impl_rowOk, c_impl_in, c_slices_Clone_int, c_slices_Sort_int, c_slices_Compact_int, hM, hXu, decide_eq_true hok, decide_eq_true hq, hwm, decide_eq_false h1, hwq1, hwq2, hwq3, hmx, hR, hSl, ← hT, hwT, hso]
        refine ⟨hOu, ⟨by omega, by omega, by omega⟩, ⟨hO, by omega⟩, fun p hp => ⟨⟨by omega, by omega, hp⟩, ⟨by omega, hp⟩, ?_⟩⟩
        have hwl : (wsO X q w).length ≤ S.length := by rw [← hso]; exact dd_len _ _
        refine end_ret ?_
        simp only [↓WP, ↓grdD, ↓grdT, ↓un_dead, ↓binVC, ↓buildVC, ↓sliceVC, WQ, WN, Int.reduceToNat, renl, cll, rent, clt, ↓reduceIte, Nat.reduceLeDiff, Nat.reduceEqDiff, Nat.reduceLT, reduceCtorEq, List.append_nil, Nat.reduceAdd, Nat.reduceSub, Nat.reduceBEq, forall_const, implies_true, cond_true, cond_false, AV.ren, AC.ren, AV.cl, AC.cl, eq_self, List.all_cons, List.all_nil, AV.eqv, AC.eqv, eqvl, eqvt, Sl.eqv, List.map_append, List.length_map, List.length_append, List.length_replicate, List.length_set, List.map_replicate, nilVC, sd_22, el_22, c_impl_rowOk, c_impl_in, c_slices_Clone_int, c_slices_Sort_int, c_slices_Compact_int]
        refine ⟨p, [], [0], ?_⟩
        simp only [WL, WNL, swA_new, swA_ne, nest_sw_ne, mapLL, List.mem_cons, Nat.reduceAdd, Nat.reduceLT, Nat.reduceLeDiff, Nat.reduceEqDiff, okU, List.nodup_cons, List.not_mem_nil, toT, toL, toO, keysO, renl, rent, cll, clt, eq_self, AV.eqv, AC.eqv, eqvl, eqvt, Sl.eqv, rowsLe, mapLL, rowsCl, List.map_append, List.length_map, List.length_append, List.length_set, List.map_replicate, rowG, List.getElem?_cons_zero, List.getElem?_cons_succ, List.getElem?_nil, List.append_nil, List.nil_append, List.cons_append, ghosts, St.gh, Option.some.injEq, implies_true, setT, AV.ren, AC.ren, AV.cl, AC.cl, List.replicate_succ, List.replicate_zero, List.nodup_nil, List.length_nil, List.length_cons, List.getD_cons_zero, List.getD_cons_succ, ↓reduceIte, retP]
        simp
        omega
    · simp only [↓WP, ↓grdD, ↓grdT, ↓un_dead, ↓binVC, ↓buildVC, ↓sliceVC, WQ, WN, Int.reduceToNat, renl, cll, rent, clt, ↓reduceIte, Nat.reduceLeDiff, Nat.reduceEqDiff, Nat.reduceLT, reduceCtorEq, List.append_nil, Nat.reduceAdd, Nat.reduceSub, Nat.reduceBEq, forall_const, implies_true, cond_true, cond_false, AV.ren, AC.ren, AV.cl, AC.cl, eq_self, List.all_cons, List.all_nil, AV.eqv, AC.eqv, eqvl, eqvt, Sl.eqv, List.map_append, List.length_map, List.length_append, List.length_replicate, List.length_set, List.map_replicate, nilVC, sd_22, el_22, c_impl_rowOk, c_impl_in, c_slices_Clone_int, c_slices_Sort_int, c_slices_Compact_int, hX, decide_eq_true hok, decide_eq_false hq, hwm]
      refine ⟨hrow, ?_⟩
      have hno : wsO X q w = [] := if_neg fun h => by have := h.2.1; omega
      rw [hno]
      refine end_ret ?_
      simp only [↓WP, ↓grdD, ↓grdT, ↓un_dead, ↓binVC, ↓buildVC, ↓sliceVC, WQ, WN, Int.reduceToNat, renl, cll, rent, clt, ↓reduceIte, Nat.reduceLeDiff, Nat.reduceEqDiff, Nat.reduceLT, reduceCtorEq, List.append_nil, Nat.reduceAdd, Nat.reduceSub, Nat.reduceBEq, forall_const, implies_true, cond_true, cond_false, AV.ren, AC.ren, AV.cl, AC.cl, eq_self, List.all_cons, List.all_nil, AV.eqv, AC.eqv, eqvl, eqvt, Sl.eqv, List.map_append, List.length_map, List.length_append, List.length_replicate, List.length_set, List.map_replicate, nilVC, sd_22, el_22, c_impl_rowOk, c_impl_in, c_slices_Clone_int, c_slices_Sort_int, c_slices_Compact_int]
      refine ⟨0, [(3, 1)], [0], ?_⟩
      simp [WL, WNL, swA_new, swA_ne, nest_sw_ne, mapLL, List.mem_cons, Nat.reduceAdd, Nat.reduceLT, Nat.reduceLeDiff, Nat.reduceEqDiff, okU, List.nodup_cons, List.not_mem_nil, toT, toL, toO, keysO, renl, rent, cll, clt, eq_self, AV.eqv, AC.eqv, eqvl, eqvt, Sl.eqv, rowsLe, mapLL, rowsCl, List.map_append, List.length_map, List.length_append, List.length_set, List.map_replicate, rowG, List.getElem?_cons_zero, List.getElem?_cons_succ, List.getElem?_nil, List.append_nil, List.nil_append, List.cons_append, ghosts, St.gh, Option.some.injEq, implies_true, setT, AV.ren, AC.ren, AV.cl, AC.cl, List.replicate_succ, List.replicate_zero, List.nodup_nil, List.length_nil, List.length_cons, List.getD_cons_zero, List.getD_cons_succ, ↓reduceIte, retP]
  · simp only [↓WP, ↓grdD, ↓grdT, ↓un_dead, ↓binVC, ↓buildVC, ↓sliceVC, WQ, WN, Int.reduceToNat, renl, cll, rent, clt, ↓reduceIte, Nat.reduceLeDiff, Nat.reduceEqDiff, Nat.reduceLT, reduceCtorEq, List.append_nil, Nat.reduceAdd, Nat.reduceSub, Nat.reduceBEq, forall_const, implies_true, cond_true, cond_false, AV.ren, AC.ren, AV.cl, AC.cl, eq_self, List.all_cons, List.all_nil, AV.eqv, AC.eqv, eqvl, eqvt, Sl.eqv, List.map_append, List.length_map, List.length_append, List.length_replicate, List.length_set, List.map_replicate, nilVC, sd_22, el_22, c_impl_rowOk, c_impl_in, c_slices_Clone_int, c_slices_Sort_int, c_slices_Compact_int, hX, decide_eq_false hok]
    refine ⟨hrow, ?_⟩
    have hno : wsO X q w = [] := if_neg fun h => hok h.1
    rw [hno]
    refine end_ret ?_
    simp only [↓WP, ↓grdD, ↓grdT, ↓un_dead, ↓binVC, ↓buildVC, ↓sliceVC, WQ, WN, Int.reduceToNat, renl, cll, rent, clt, ↓reduceIte, Nat.reduceLeDiff, Nat.reduceEqDiff, Nat.reduceLT, reduceCtorEq, List.append_nil, Nat.reduceAdd, Nat.reduceSub, Nat.reduceBEq, forall_const, implies_true, cond_true, cond_false, AV.ren, AC.ren, AV.cl, AC.cl, eq_self, List.all_cons, List.all_nil, AV.eqv, AC.eqv, eqvl, eqvt, Sl.eqv, List.map_append, List.length_map, List.length_append, List.length_replicate, List.length_set, List.map_replicate, nilVC, sd_22, el_22, c_impl_rowOk, c_impl_in, c_slices_Clone_int, c_slices_Sort_int, c_slices_Compact_int]
    refine ⟨0, [(3, 1)], [0], ?_⟩
    simp [WL, WNL, swA_new, swA_ne, nest_sw_ne, mapLL, List.mem_cons, Nat.reduceAdd, Nat.reduceLT, Nat.reduceLeDiff, Nat.reduceEqDiff, okU, List.nodup_cons, List.not_mem_nil, toT, toL, toO, keysO, renl, rent, cll, clt, eq_self, AV.eqv, AC.eqv, eqvl, eqvt, Sl.eqv, rowsLe, mapLL, rowsCl, List.map_append, List.length_map, List.length_append, List.length_set, List.map_replicate, rowG, List.getElem?_cons_zero, List.getElem?_cons_succ, List.getElem?_nil, List.append_nil, List.nil_append, List.cons_append, ghosts, St.gh, Option.some.injEq, implies_true, setT, AV.ren, AC.ren, AV.cl, AC.cl, List.replicate_succ, List.replicate_zero, List.nodup_nil, List.length_nil, List.length_cons, List.getD_cons_zero, List.getD_cons_succ, ↓reduceIte, retP]
end Go.Eng.T
