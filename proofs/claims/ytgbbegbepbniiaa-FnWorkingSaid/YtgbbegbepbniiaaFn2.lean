/- faults: to the end; without. -/
import Derived.Test.YtgbbegbepbniiaaFn1
set_option linter.unusedVariables false
set_option linter.unusedSimpArgs false
set_option linter.unusedSectionVars false
namespace Go.Eng.T
open Go.Proofs
open Cel (enc dec)
set_option maxRecDepth 100000
set_option maxHeartbeats 4000000
def c_impl_toEnd : Contract := ⟨30, fun args M => match args with
  | [.c (.sl a n c), .c (.int .i64 i)] => specR Int a n (M a.r) fun ty cap X => .eff (0 ≤ i ∧ i < n ∧ n ≤ c ∧ c ≤ cap) Unit (fun _ => True) (fun _ => .c (.sl a.up n c)) (fun _ => []) (fun _ => [(a.r, rowG true ty cap (wo X i.toNat ++ [X.getD i.toNat default]))])
  | _ => .bad⟩
theorem ok_impl_toEnd : fnP Try.prog c_impl_toEnd.f = true ∧ ∀ args M, (c_impl_toEnd.sp args M).OK Try.prog c_impl_toEnd.f args M := by
  refine ⟨fp_30, fun args M => ?_⟩
  unfold c_impl_toEnd
  dsimp only
  split
  case h_2 => trivial
  rename_i a n c i
  refine specR_cases fun ty cap X hM hX hlen hs hi0 hk0 hf0 => ?_
  rintro ⟨h1, h2, hc, hcap⟩
  subst hlen
  obtain ⟨m, rfl⟩ : ∃ m : Nat, i = m := ⟨i.toNat, by omega⟩
  obtain ⟨r, ai, ak, af⟩ := a
  dsimp only at hi0 hk0 hf0 hM
  subst hi0 hk0 hf0
  have hm : m < X.length := by omega
  refine goIn hf_30 rfl (nt := 18) rfl (rs := [.tmp 4]) rfl (C := [c_slices_Delete_int]) ⟨(by first | exact .inl ok_slices_Delete_int | exact ok_slices_Delete_int), trivial⟩ (q := fun _ => false) okQ_none mixed (O := fun _ => .nil) (by kernel_rfl) ?_
  have hw := wS (i := m) (by omega)
  have hgd : (List.map enc X).getD m [] = enc (X.getD m default) := getD_enc _ _ hm
  have h11 : X.length - 1 + 1 = X.length := by omega
  have hput : putAt (List.map enc (List.take m X) ++ List.map enc (List.drop (m + 1) X) ++ [[AC.int .i64 0]]) (X.length - 1) [[AC.int .i64 (X.getD m default)]] = List.map enc (wo X m) ++ [[AC.int .i64 (X.getD m default)]] := by
    rw [putAt_last (by simp; omega), List.take_left' (by simp; omega), wo, List.map_append]
  simp only [↓WP, ↓grdD, ↓grdT, ↓un_dead, ↓binVC, ↓buildVC, ↓sliceVC, WQ, WN, Int.reduceToNat, renl, cll, rent, clt, ↓reduceIte, Nat.reduceLeDiff, Nat.reduceEqDiff, Nat.reduceLT, reduceCtorEq, List.append_nil, Nat.reduceAdd, Nat.reduceSub, Nat.reduceBEq, forall_const, implies_true, cond_true, cond_false, AV.ren, AC.ren, AV.cl, AC.cl, eq_self, List.all_cons, List.all_nil, AV.eqv, AC.eqv, eqvl, eqvt, Sl.eqv, List.map_append, List.length_map, List.length_append, List.length_replicate, List.length_set, List.map_replicate, nilVC, el_22, sz_3, zr_3, c_slices_Delete_int, hM, hw, hgd, h11, hput]
  repeat' (first | with_reducible refine And.intro ?_ ?_ | intro _)
  all_goals try omega
  · simp; omega
  refine end_ret ?_
  simp only [↓WP, ↓grdD, ↓grdT, ↓un_dead, ↓binVC, ↓buildVC, ↓sliceVC, WQ, WN, Int.reduceToNat, renl, cll, rent, clt, ↓reduceIte, Nat.reduceLeDiff, Nat.reduceEqDiff, Nat.reduceLT, reduceCtorEq, List.append_nil, Nat.reduceAdd, Nat.reduceSub, Nat.reduceBEq, forall_const, implies_true, cond_true, cond_false, AV.ren, AC.ren, AV.cl, AC.cl, eq_self, List.all_cons, List.all_nil, AV.eqv, AC.eqv, eqvl, eqvt, Sl.eqv, List.map_append, List.length_map, List.length_append, List.length_replicate, List.length_set, List.map_replicate, nilVC, el_22, sz_3, zr_3, c_slices_Delete_int]
  refine ⟨(), [], [], ?_⟩
  simp only [WL, WNL, swA_new, swA_ne, nest_sw_ne, mapLL, List.mem_cons, Nat.reduceAdd, Nat.reduceLT, Nat.reduceLeDiff, Nat.reduceEqDiff, okU, List.nodup_cons, List.not_mem_nil, toT, toL, toO, keysO, renl, rent, cll, clt, eq_self, AV.eqv, AC.eqv, eqvl, eqvt, Sl.eqv, rowsLe, mapLL, rowsCl, List.map_append, List.length_map, List.length_append, List.length_set, List.map_replicate, rowG, List.getElem?_cons_zero, List.getElem?_cons_succ, List.getElem?_nil, List.append_nil, List.nil_append, List.cons_append, ghosts, St.gh, Option.some.injEq, implies_true, setT, AV.ren, AC.ren, AV.cl, AC.cl, List.replicate_succ, List.replicate_zero, List.nodup_nil, List.length_nil, List.length_cons, List.getD_cons_zero, List.getD_cons_succ, ↓reduceIte, retP]
  simp [okU, hM]
def c_spec_l35Without : Contract := ⟨34, fun args M => match args with
  | [.c (.sl a n c), .c (.int .i64 i)] => .eff (RowOk Int a n (M a.r) ∧ n ≤ c ∧ 0 ≤ i ∧ i < n) Nat (fun k => n - 1 ≤ k) (fun k => .c (.sl ⟨.loc 0, 0, 0, 0⟩ (n - 1) k)) (fun k => [rowG true 3 k (wo (row Int a n (M a.r)) i.toNat)]) (fun _ => [])
  | _ => .bad⟩
theorem ok_spec_l35Without : fnP Try.prog c_spec_l35Without.f = true ∧ ∀ args M, (c_spec_l35Without.sp args M).OK Try.prog c_spec_l35Without.f args M := by
  refine ⟨fp_34, fun args M => ?_⟩
  unfold c_spec_l35Without
  dsimp only
  split
  case h_2 => trivial
  rename_i a n c i
  rintro ⟨hrow, hc, hi0, hi1⟩
  obtain ⟨hs, X, hX, rfl, hat⟩ := hrow.x
  rw [hX]
  obtain ⟨m, rfl⟩ : ∃ m : Nat, i = m := ⟨i.toNat, by omega⟩
  have hm : m < X.length := by omega
  refine goIn hf_34 rfl (nt := 17) rfl (rs := [.tmp 4]) rfl (C := []) trivial (q := fun _ => false) okQ_none mixed (O := fun _ => .nil) (by kernel_rfl) ?_
  obtain ⟨own, ty, cnt, cap, len, get, hM, hf, hic, hkn, hget⟩ := hat (by omega)
  have hw := wS (i := m) (by omega)
  have hwin1 : win (fun k => List.map AC.up (get a.i (a.k + k))) m = (X.take m).map enc := by
    have hl : (X.take m).length = m := by simp; omega
    have := win_enc (X := X.take m) (g := fun k => get a.i (a.k + k)) (fun j hj => by
      rw [hget j (by omega)]; congr 1; rw [getD_of_lt (by omega), getD_of_lt hj, List.getElem_take])
    rwa [hl] at this
  have hwin2 : win (fun k => List.map AC.up (get a.i (a.k + (m + 1) + k))) (X.length - (m + 1)) = (X.drop (m + 1)).map enc := by
    have hl : (X.drop (m + 1)).length = X.length - (m + 1) := by simp
    have := win_enc (X := X.drop (m + 1)) (g := fun k => get a.i (a.k + (m + 1) + k)) (fun j hj => by
      rw [show a.k + (m + 1) + j = a.k + (m + 1 + j) by omega, hget (m + 1 + j) (by omega)]; congr 1; rw [getD_of_lt (by omega), getD_of_lt hj, List.getElem_drop])
    rwa [hl] at this
  have hwl : (wo X m) = X.take m ++ X.drop (m + 1) := rfl
  have hd1 : X.length - (m + 1) = 0 → X.drop (m + 1) = [] := fun h => List.drop_eq_nil_of_le (by omega)
  have ht1 : m = 0 → X.take m = [] := fun h => by rw [h]; rfl
  have hlm : m + (X.length - (m + 1)) = X.length - 1 := by omega
  rcases Nat.eq_zero_or_pos m with h0 | h0
  · subst h0
    rcases Nat.eq_zero_or_pos (X.length - 1) with h1 | h1
    · have e : wo X 0 = [] := by rw [hwl, hd1 h1]; rfl
      simp only [↓WP, ↓grdD, ↓grdT, ↓un_dead, ↓binVC, ↓buildVC, ↓sliceVC, WQ, WN, Int.reduceToNat, renl, cll, rent, clt, ↓reduceIte, Nat.reduceLeDiff, Nat.reduceEqDiff, Nat.reduceLT, reduceCtorEq, List.append_nil, Nat.reduceAdd, Nat.reduceSub, Nat.reduceBEq, forall_const, implies_true, cond_true, cond_false, AV.ren, AC.ren, AV.cl, AC.cl, eq_self, List.all_cons, List.all_nil, AV.eqv, AC.eqv, eqvl, eqvt, Sl.eqv, List.map_append, List.length_map, List.length_append, List.length_replicate, List.length_set, List.map_replicate, nilVC, el_22, zr_3, hM, hf, hw, hwin2, Nat.sub_zero, h1, e]
      repeat' (first | with_reducible refine And.intro ?_ ?_ | intro _)
      all_goals try omega
      all_goals try rfl
      refine end_ret ?_
      simp only [↓WP, ↓grdD, ↓grdT, ↓un_dead, ↓binVC, ↓buildVC, ↓sliceVC, WQ, WN, Int.reduceToNat, renl, cll, rent, clt, ↓reduceIte, Nat.reduceLeDiff, Nat.reduceEqDiff, Nat.reduceLT, reduceCtorEq, List.append_nil, Nat.reduceAdd, Nat.reduceSub, Nat.reduceBEq, forall_const, implies_true, cond_true, cond_false, AV.ren, AC.ren, AV.cl, AC.cl, eq_self, List.all_cons, List.all_nil, AV.eqv, AC.eqv, eqvl, eqvt, Sl.eqv, List.map_append, List.length_map, List.length_append, List.length_replicate, List.length_set, List.map_replicate, nilVC, el_22, zr_3]
      refine ⟨0, [(3, 1)], [0], ?_⟩
      simp [WL, WNL, swA_new, swA_ne, nest_sw_ne, mapLL, List.mem_cons, Nat.reduceAdd, Nat.reduceLT, Nat.reduceLeDiff, Nat.reduceEqDiff, okU, List.nodup_cons, List.not_mem_nil, toT, toL, toO, keysO, renl, rent, cll, clt, eq_self, AV.eqv, AC.eqv, eqvl, eqvt, Sl.eqv, rowsLe, mapLL, rowsCl, List.map_append, List.length_map, List.length_append, List.length_set, List.map_replicate, rowG, List.getElem?_cons_zero, List.getElem?_cons_succ, List.getElem?_nil, List.append_nil, List.nil_append, List.cons_append, ghosts, St.gh, Option.some.injEq, implies_true, setT, AV.ren, AC.ren, AV.cl, AC.cl, List.replicate_succ, List.replicate_zero, List.nodup_nil, List.length_nil, List.length_cons, List.getD_cons_zero, List.getD_cons_succ, ↓reduceIte, retP]
    · have e : wo X 0 = X.drop 1 := rfl
      simp only [↓WP, ↓grdD, ↓grdT, ↓un_dead, ↓binVC, ↓buildVC, ↓sliceVC, WQ, WN, Int.reduceToNat, renl, cll, rent, clt, ↓reduceIte, Nat.reduceLeDiff, Nat.reduceEqDiff, Nat.reduceLT, reduceCtorEq, List.append_nil, Nat.reduceAdd, Nat.reduceSub, Nat.reduceBEq, forall_const, implies_true, cond_true, cond_false, AV.ren, AC.ren, AV.cl, AC.cl, eq_self, List.all_cons, List.all_nil, AV.eqv, AC.eqv, eqvl, eqvt, Sl.eqv, List.map_append, List.length_map, List.length_append, List.length_replicate, List.length_set, List.map_replicate, nilVC, el_22, zr_3, hM, hf, hw, hwin2, Nat.sub_zero, e]
      repeat' (first | with_reducible refine And.intro ?_ ?_ | intro _)
      all_goals try omega
      all_goals try rfl
      all_goals try exact .inl trivial
      rename_i k hk _
      refine end_ret ?_
      simp only [↓WP, ↓grdD, ↓grdT, ↓un_dead, ↓binVC, ↓buildVC, ↓sliceVC, WQ, WN, Int.reduceToNat, renl, cll, rent, clt, ↓reduceIte, Nat.reduceLeDiff, Nat.reduceEqDiff, Nat.reduceLT, reduceCtorEq, List.append_nil, Nat.reduceAdd, Nat.reduceSub, Nat.reduceBEq, forall_const, implies_true, cond_true, cond_false, AV.ren, AC.ren, AV.cl, AC.cl, eq_self, List.all_cons, List.all_nil, AV.eqv, AC.eqv, eqvl, eqvt, Sl.eqv, List.map_append, List.length_map, List.length_append, List.length_replicate, List.length_set, List.map_replicate, nilVC, el_22, zr_3]
      refine ⟨k, [], [0], ?_⟩
      simp only [WL, WNL, swA_new, swA_ne, nest_sw_ne, mapLL, List.mem_cons, Nat.reduceAdd, Nat.reduceLT, Nat.reduceLeDiff, Nat.reduceEqDiff, okU, List.nodup_cons, List.not_mem_nil, toT, toL, toO, keysO, renl, rent, cll, clt, eq_self, AV.eqv, AC.eqv, eqvl, eqvt, Sl.eqv, rowsLe, mapLL, rowsCl, List.map_append, List.length_map, List.length_append, List.length_set, List.map_replicate, rowG, List.getElem?_cons_zero, List.getElem?_cons_succ, List.getElem?_nil, List.append_nil, List.nil_append, List.cons_append, ghosts, St.gh, Option.some.injEq, implies_true, setT, AV.ren, AC.ren, AV.cl, AC.cl, List.replicate_succ, List.replicate_zero, List.nodup_nil, List.length_nil, List.length_cons, List.getD_cons_zero, List.getD_cons_succ, ↓reduceIte, retP]
      simp [hk]
  · rcases Nat.eq_zero_or_pos (X.length - (m + 1)) with h1 | h1
    · have e : wo X m = X.take m := by rw [hwl, hd1 h1, List.append_nil]
      have hl : X.length - 1 = m := by omega
      simp only [↓WP, ↓grdD, ↓grdT, ↓un_dead, ↓binVC, ↓buildVC, ↓sliceVC, WQ, WN, Int.reduceToNat, renl, cll, rent, clt, ↓reduceIte, Nat.reduceLeDiff, Nat.reduceEqDiff, Nat.reduceLT, reduceCtorEq, List.append_nil, Nat.reduceAdd, Nat.reduceSub, Nat.reduceBEq, forall_const, implies_true, cond_true, cond_false, AV.ren, AC.ren, AV.cl, AC.cl, eq_self, List.all_cons, List.all_nil, AV.eqv, AC.eqv, eqvl, eqvt, Sl.eqv, List.map_append, List.length_map, List.length_append, List.length_replicate, List.length_set, List.map_replicate, nilVC, el_22, zr_3, hM, hf, hw, hwin1, Nat.sub_zero, h1, e, hl]
      repeat' (first | with_reducible refine And.intro ?_ ?_ | intro _)
      all_goals try omega
      all_goals try rfl
      all_goals try exact .inl trivial
      rename_i k hk _
      refine end_ret ?_
      simp only [↓WP, ↓grdD, ↓grdT, ↓un_dead, ↓binVC, ↓buildVC, ↓sliceVC, WQ, WN, Int.reduceToNat, renl, cll, rent, clt, ↓reduceIte, Nat.reduceLeDiff, Nat.reduceEqDiff, Nat.reduceLT, reduceCtorEq, List.append_nil, Nat.reduceAdd, Nat.reduceSub, Nat.reduceBEq, forall_const, implies_true, cond_true, cond_false, AV.ren, AC.ren, AV.cl, AC.cl, eq_self, List.all_cons, List.all_nil, AV.eqv, AC.eqv, eqvl, eqvt, Sl.eqv, List.map_append, List.length_map, List.length_append, List.length_replicate, List.length_set, List.map_replicate, nilVC, el_22, zr_3]
      refine ⟨k, [], [0], ?_⟩
      simp only [WL, WNL, swA_new, swA_ne, nest_sw_ne, mapLL, List.mem_cons, Nat.reduceAdd, Nat.reduceLT, Nat.reduceLeDiff, Nat.reduceEqDiff, okU, List.nodup_cons, List.not_mem_nil, toT, toL, toO, keysO, renl, rent, cll, clt, eq_self, AV.eqv, AC.eqv, eqvl, eqvt, Sl.eqv, rowsLe, mapLL, rowsCl, List.map_append, List.length_map, List.length_append, List.length_set, List.map_replicate, rowG, List.getElem?_cons_zero, List.getElem?_cons_succ, List.getElem?_nil, List.append_nil, List.nil_append, List.cons_append, ghosts, St.gh, Option.some.injEq, implies_true, setT, AV.ren, AC.ren, AV.cl, AC.cl, List.replicate_succ, List.replicate_zero, List.nodup_nil, List.length_nil, List.length_cons, List.getD_cons_zero, List.getD_cons_succ, ↓reduceIte, retP]
      simp [hk]
    · have htl : (X.take m).length = m := by simp; omega
      have hput : putAt (List.map enc (X.take m)) m (List.map enc (X.drop (m + 1))) = List.map enc (X.take m) ++ List.map enc (X.drop (m + 1)) := putAt_end (by rw [List.length_map, htl])
      have hwi : win (fun k => (List.map enc (X.take m)).getD k []) m = List.map enc (X.take m) := win_whole (by rw [List.length_map, htl])
      simp only [↓WP, ↓grdD, ↓grdT, ↓un_dead, ↓binVC, ↓buildVC, ↓sliceVC, WQ, WN, Int.reduceToNat, renl, cll, rent, clt, ↓reduceIte, Nat.reduceLeDiff, Nat.reduceEqDiff, Nat.reduceLT, reduceCtorEq, List.append_nil, Nat.reduceAdd, Nat.reduceSub, Nat.reduceBEq, forall_const, implies_true, cond_true, cond_false, AV.ren, AC.ren, AV.cl, AC.cl, eq_self, List.all_cons, List.all_nil, AV.eqv, AC.eqv, eqvl, eqvt, Sl.eqv, List.map_append, List.length_map, List.length_append, List.length_replicate, List.length_set, List.map_replicate, nilVC, el_22, zr_3, hM, hf, hw, hwin1, hwin2, Nat.sub_zero, hlm, hwl, htl, hput, hwi]
      repeat' (first | with_reducible refine And.intro ?_ ?_ | intro _)
      all_goals try omega
      all_goals try rfl
      all_goals try exact .inl trivial
      all_goals try exact .inr trivial
      · rename_i k hk _ _ _
        refine end_ret ?_
        simp only [↓WP, ↓grdD, ↓grdT, ↓un_dead, ↓binVC, ↓buildVC, ↓sliceVC, WQ, WN, Int.reduceToNat, renl, cll, rent, clt, ↓reduceIte, Nat.reduceLeDiff, Nat.reduceEqDiff, Nat.reduceLT, reduceCtorEq, List.append_nil, Nat.reduceAdd, Nat.reduceSub, Nat.reduceBEq, forall_const, implies_true, cond_true, cond_false, AV.ren, AC.ren, AV.cl, AC.cl, eq_self, List.all_cons, List.all_nil, AV.eqv, AC.eqv, eqvl, eqvt, Sl.eqv, List.map_append, List.length_map, List.length_append, List.length_replicate, List.length_set, List.map_replicate, nilVC, el_22, zr_3]
        refine ⟨k, [], [0], ?_⟩
        simp only [WL, WNL, swA_new, swA_ne, nest_sw_ne, mapLL, List.mem_cons, Nat.reduceAdd, Nat.reduceLT, Nat.reduceLeDiff, Nat.reduceEqDiff, okU, List.nodup_cons, List.not_mem_nil, toT, toL, toO, keysO, renl, rent, cll, clt, eq_self, AV.eqv, AC.eqv, eqvl, eqvt, Sl.eqv, rowsLe, mapLL, rowsCl, List.map_append, List.length_map, List.length_append, List.length_set, List.map_replicate, rowG, List.getElem?_cons_zero, List.getElem?_cons_succ, List.getElem?_nil, List.append_nil, List.nil_append, List.cons_append, ghosts, St.gh, Option.some.injEq, implies_true, setT, AV.ren, AC.ren, AV.cl, AC.cl, List.replicate_succ, List.replicate_zero, List.nodup_nil, List.length_nil, List.length_cons, List.getD_cons_zero, List.getD_cons_succ, ↓reduceIte, retP]
        simp
        omega
      · rename_i k hk _
        refine end_ret ?_
        simp only [↓WP, ↓grdD, ↓grdT, ↓un_dead, ↓binVC, ↓buildVC, ↓sliceVC, WQ, WN, Int.reduceToNat, renl, cll, rent, clt, ↓reduceIte, Nat.reduceLeDiff, Nat.reduceEqDiff, Nat.reduceLT, reduceCtorEq, List.append_nil, Nat.reduceAdd, Nat.reduceSub, Nat.reduceBEq, forall_const, implies_true, cond_true, cond_false, AV.ren, AC.ren, AV.cl, AC.cl, eq_self, List.all_cons, List.all_nil, AV.eqv, AC.eqv, eqvl, eqvt, Sl.eqv, List.map_append, List.length_map, List.length_append, List.length_replicate, List.length_set, List.map_replicate, nilVC, el_22, zr_3]
        refine ⟨k, [], [1], ?_⟩
        simp only [WL, WNL, swA_new, swA_ne, nest_sw_ne, mapLL, List.mem_cons, Nat.reduceAdd, Nat.reduceLT, Nat.reduceLeDiff, Nat.reduceEqDiff, okU, List.nodup_cons, List.not_mem_nil, toT, toL, toO, keysO, renl, rent, cll, clt, eq_self, AV.eqv, AC.eqv, eqvl, eqvt, Sl.eqv, rowsLe, mapLL, rowsCl, List.map_append, List.length_map, List.length_append, List.length_set, List.map_replicate, rowG, List.getElem?_cons_zero, List.getElem?_cons_succ, List.getElem?_nil, List.append_nil, List.nil_append, List.cons_append, ghosts, St.gh, Option.some.injEq, implies_true, setT, AV.ren, AC.ren, AV.cl, AC.cl, List.replicate_succ, List.replicate_zero, List.nodup_nil, List.length_nil, List.length_cons, List.getD_cons_zero, List.getD_cons_succ, ↓reduceIte, retP]
        simp [hk]
theorem q_spec_l35Without : Quiet c_spec_l35Without := by
  intro args M
  unfold c_spec_l35Without
  dsimp only
  split <;> first | trivial | (intro _; rfl)
end Go.Eng.T
