/- cache: CacheNew. -/
import Derived.Test.YtnpgddgbkaojmaaFn3
set_option linter.unusedVariables false
set_option linter.unusedSimpArgs false
set_option linter.unusedSectionVars false
namespace Go.Eng.T
open Go.Proofs
open Cel (enc dec)
set_option maxRecDepth 100000
set_option maxHeartbeats 4000000
def c_spec_CacheNew : Contract := ⟨11, fun args M => match args with
  | [.c (.int .i64 most)] => .eff True Unit (fun _ => True) (fun _ => .tup [(true, [.int .i64 (if 1 ≤ most ∧ most ≤ 6 then most else 0), .sl ⟨.loc 0, 0, 0, 0⟩ (if 1 ≤ most ∧ most ≤ 6 then 20 else 0) (if 1 ≤ most ∧ most ≤ 6 then 20 else 0), .sl ⟨.loc 1, 0, 0, 0⟩ 0 0, .int .i64 0, .int .i64 0]), (false, [.bool (decide (1 ≤ most ∧ most ≤ 6))])]) (fun _ => [rowG true 9 (if 1 ≤ most ∧ most ≤ 6 then 20 else 0) (List.replicate (if 1 ≤ most ∧ most ≤ 6 then 20 else 0) ByteArray.empty), rowG true 60 0 ([] : List TR)]) (fun _ => [])
  | _ => .bad⟩
theorem ok_spec_CacheNew : fnP Try.prog c_spec_CacheNew.f = true ∧ ∀ args M, (c_spec_CacheNew.sp args M).OK Try.prog c_spec_CacheNew.f args M := by
  refine ⟨fp_11, fun args M => ?_⟩
  unfold c_spec_CacheNew
  dsimp only
  split
  case h_2 => trivial
  rename_i most
  intro _
  refine goIn hf_11 rfl (nt := 11) rfl (rs := [.cell 2 25, .tmp 3]) rfl (C := [c_spec_l1In]) ⟨(by first | exact .inl ok_spec_l1In | exact ok_spec_l1In), trivial⟩ (q := fun _ => false) okQ_none mixed (O := fun _ => .nil) (by kernel_rfl) ?_
  by_cases h : 1 ≤ most ∧ most ≤ 6
  · simp only [↓WP, ↓grdD, ↓grdT, ↓un_dead, ↓binVC, ↓buildVC, ↓sliceVC, WQ, WN, Int.reduceToNat, renl, cll, rent, clt, ↓reduceIte, Nat.reduceLeDiff, Nat.reduceEqDiff, Nat.reduceLT, reduceCtorEq, List.append_nil, Nat.reduceAdd, Nat.reduceSub, Nat.reduceBEq, forall_const, implies_true, cond_true, cond_false, AV.ren, AC.ren, AV.cl, AC.cl, eq_self, List.all_cons, List.all_nil, AV.eqv, AC.eqv, eqvl, eqvt, Sl.eqv, List.map_append, List.length_map, List.length_append, List.length_replicate, List.length_set, List.map_replicate, nilVC, zr_25, fs_25, sz_25, el_22, zr_9, c_spec_l1In, decide_eq_true h, if_pos h]
    repeat' (first | with_reducible refine And.intro ?_ ?_ | intro _)
    all_goals try omega
    refine end_ret ?_
    simp only [↓WP, ↓grdD, ↓grdT, ↓un_dead, ↓binVC, ↓buildVC, ↓sliceVC, WQ, WN, Int.reduceToNat, renl, cll, rent, clt, ↓reduceIte, Nat.reduceLeDiff, Nat.reduceEqDiff, Nat.reduceLT, reduceCtorEq, List.append_nil, Nat.reduceAdd, Nat.reduceSub, Nat.reduceBEq, forall_const, implies_true, cond_true, cond_false, AV.ren, AC.ren, AV.cl, AC.cl, eq_self, List.all_cons, List.all_nil, AV.eqv, AC.eqv, eqvl, eqvt, Sl.eqv, List.map_append, List.length_map, List.length_append, List.length_replicate, List.length_set, List.map_replicate, nilVC, zr_25, fs_25, sz_25, el_22, zr_9, c_spec_l1In]
    refine ⟨(), [(60, 3)], [1, 2], ?_⟩
    simp only [WL, WNL, swA_new, swA_ne, nest_sw_ne, mapLL, List.mem_cons, Nat.reduceAdd, Nat.reduceLT, Nat.reduceLeDiff, Nat.reduceEqDiff, okU, List.nodup_cons, List.not_mem_nil, toT, toL, toO, keysO, renl, rent, cll, clt, eq_self, AV.eqv, AC.eqv, eqvl, eqvt, Sl.eqv, rowsLe, mapLL, rowsCl, List.map_append, List.length_map, List.length_append, List.length_set, List.map_replicate, rowG, List.getElem?_cons_zero, List.getElem?_cons_succ, List.getElem?_nil, List.append_nil, List.nil_append, List.cons_append, ghosts, St.gh, Option.some.injEq, implies_true, setT, AV.ren, AC.ren, AV.cl, AC.cl, List.replicate_succ, List.replicate_zero, List.nodup_nil, List.length_nil, List.length_cons, List.getD_cons_zero, List.getD_cons_succ, ↓reduceIte, retP]
    simp
  · simp only [↓WP, ↓grdD, ↓grdT, ↓un_dead, ↓binVC, ↓buildVC, ↓sliceVC, WQ, WN, Int.reduceToNat, renl, cll, rent, clt, ↓reduceIte, Nat.reduceLeDiff, Nat.reduceEqDiff, Nat.reduceLT, reduceCtorEq, List.append_nil, Nat.reduceAdd, Nat.reduceSub, Nat.reduceBEq, forall_const, implies_true, cond_true, cond_false, AV.ren, AC.ren, AV.cl, AC.cl, eq_self, List.all_cons, List.all_nil, AV.eqv, AC.eqv, eqvl, eqvt, Sl.eqv, List.map_append, List.length_map, List.length_append, List.length_replicate, List.length_set, List.map_replicate, nilVC, zr_25, fs_25, sz_25, el_22, zr_9, c_spec_l1In, decide_eq_false h, if_neg h]
    refine end_ret ?_
    simp only [↓WP, ↓grdD, ↓grdT, ↓un_dead, ↓binVC, ↓buildVC, ↓sliceVC, WQ, WN, Int.reduceToNat, renl, cll, rent, clt, ↓reduceIte, Nat.reduceLeDiff, Nat.reduceEqDiff, Nat.reduceLT, reduceCtorEq, List.append_nil, Nat.reduceAdd, Nat.reduceSub, Nat.reduceBEq, forall_const, implies_true, cond_true, cond_false, AV.ren, AC.ren, AV.cl, AC.cl, eq_self, List.all_cons, List.all_nil, AV.eqv, AC.eqv, eqvl, eqvt, Sl.eqv, List.map_append, List.length_map, List.length_append, List.length_replicate, List.length_set, List.map_replicate, nilVC, zr_25, fs_25, sz_25, el_22, zr_9, c_spec_l1In]
    refine ⟨(), [(9, 1), (60, 3)], [1, 2], ?_⟩
    simp only [WL, WNL, swA_new, swA_ne, nest_sw_ne, mapLL, List.mem_cons, Nat.reduceAdd, Nat.reduceLT, Nat.reduceLeDiff, Nat.reduceEqDiff, okU, List.nodup_cons, List.not_mem_nil, toT, toL, toO, keysO, renl, rent, cll, clt, eq_self, AV.eqv, AC.eqv, eqvl, eqvt, Sl.eqv, rowsLe, mapLL, rowsCl, List.map_append, List.length_map, List.length_append, List.length_set, List.map_replicate, rowG, List.getElem?_cons_zero, List.getElem?_cons_succ, List.getElem?_nil, List.append_nil, List.nil_append, List.cons_append, ghosts, St.gh, Option.some.injEq, implies_true, setT, AV.ren, AC.ren, AV.cl, AC.cl, List.replicate_succ, List.replicate_zero, List.nodup_nil, List.length_nil, List.length_cons, List.getD_cons_zero, List.getD_cons_succ, ↓reduceIte, retP]
    simp
def c_impl_CacheNew : Contract := ⟨12, fun args M => match args with
  | [.c (.int .i64 most)] => .eff True Unit (fun _ => True) (fun _ => .tup [(true, [.int .i64 (if 1 ≤ most ∧ most ≤ 6 then most else 0), .sl ⟨.loc 0, 0, 0, 0⟩ (if 1 ≤ most ∧ most ≤ 6 then 20 else 0) (if 1 ≤ most ∧ most ≤ 6 then 20 else 0), .sl ⟨.loc 1, 0, 0, 0⟩ 0 0, .int .i64 0, .int .i64 0]), (false, [.bool (decide (1 ≤ most ∧ most ≤ 6))])]) (fun _ => [rowG true 9 (if 1 ≤ most ∧ most ≤ 6 then 20 else 0) (List.replicate (if 1 ≤ most ∧ most ≤ 6 then 20 else 0) ByteArray.empty), rowG true 60 0 ([] : List TR)]) (fun _ => [])
  | _ => .bad⟩
theorem ok_impl_CacheNew : fnP Try.prog c_impl_CacheNew.f = true ∧ ∀ args M, (c_impl_CacheNew.sp args M).OK Try.prog c_impl_CacheNew.f args M := by
  refine ⟨fp_12, fun args M => ?_⟩
  unfold c_impl_CacheNew
  dsimp only
  split
  case h_2 => trivial
  rename_i most
  intro _
  refine goIn hf_12 rfl (nt := 11) rfl (rs := [.cell 2 25, .tmp 3]) rfl (C := [c_impl_in]) ⟨(by first | exact .inl ok_impl_in | exact ok_impl_in), trivial⟩ (q := fun _ => false) okQ_none mixed (O := fun _ => .nil) (by kernel_rfl) ?_
  by_cases h : 1 ≤ most ∧ most ≤ 6
  · simp only [↓WP, ↓grdD, ↓grdT, ↓un_dead, ↓binVC, ↓buildVC, ↓sliceVC, WQ, WN, Int.reduceToNat, renl, cll, rent, clt, ↓reduceIte, Nat.reduceLeDiff, Nat.reduceEqDiff, Nat.reduceLT, reduceCtorEq, List.append_nil, Nat.reduceAdd, Nat.reduceSub, Nat.reduceBEq, forall_const, implies_true, cond_true, cond_false, AV.ren, AC.ren, AV.cl, AC.cl, eq_self, List.all_cons, List.all_nil, AV.eqv, AC.eqv, eqvl, eqvt, Sl.eqv, List.map_append, List.length_map, List.length_append, List.length_replicate, List.length_set, List.map_replicate, nilVC, zr_25, fs_25, sz_25, el_22, zr_9, c_impl_in, decide_eq_true h, if_pos h]
    repeat' (first | with_reducible refine And.intro ?_ ?_ | intro _)
    all_goals try omega
    refine end_ret ?_
    simp only [↓WP, ↓grdD, ↓grdT, ↓un_dead, ↓binVC, ↓buildVC, ↓sliceVC, WQ, WN, Int.reduceToNat, renl, cll, rent, clt, ↓reduceIte, Nat.reduceLeDiff, Nat.reduceEqDiff, Nat.reduceLT, reduceCtorEq, List.append_nil, Nat.reduceAdd, Nat.reduceSub, Nat.reduceBEq, forall_const, implies_true, cond_true, cond_false, AV.ren, AC.ren, AV.cl, AC.cl, eq_self, List.all_cons, List.all_nil, AV.eqv, AC.eqv, eqvl, eqvt, Sl.eqv, List.map_append, List.length_map, List.length_append, List.length_replicate, List.length_set, List.map_replicate, nilVC, zr_25, fs_25, sz_25, el_22, zr_9, c_impl_in]
    refine ⟨(), [(60, 3)], [1, 2], ?_⟩
    simp only [WL, WNL, swA_new, swA_ne, nest_sw_ne, mapLL, List.mem_cons, Nat.reduceAdd, Nat.reduceLT, Nat.reduceLeDiff, Nat.reduceEqDiff, okU, List.nodup_cons, List.not_mem_nil, toT, toL, toO, keysO, renl, rent, cll, clt, eq_self, AV.eqv, AC.eqv, eqvl, eqvt, Sl.eqv, rowsLe, mapLL, rowsCl, List.map_append, List.length_map, List.length_append, List.length_set, List.map_replicate, rowG, List.getElem?_cons_zero, List.getElem?_cons_succ, List.getElem?_nil, List.append_nil, List.nil_append, List.cons_append, ghosts, St.gh, Option.some.injEq, implies_true, setT, AV.ren, AC.ren, AV.cl, AC.cl, List.replicate_succ, List.replicate_zero, List.nodup_nil, List.length_nil, List.length_cons, List.getD_cons_zero, List.getD_cons_succ, ↓reduceIte, retP]
    simp
  · simp only [↓WP, ↓grdD, ↓grdT, ↓un_dead, ↓binVC, ↓buildVC, ↓sliceVC, WQ, WN, Int.reduceToNat, renl, cll, rent, clt, ↓reduceIte, Nat.reduceLeDiff, Nat.reduceEqDiff, Nat.reduceLT, reduceCtorEq, List.append_nil, Nat.reduceAdd, Nat.reduceSub, Nat.reduceBEq, forall_const, implies_true, cond_true, cond_false, AV.ren, AC.ren, AV.cl, AC.cl, eq_self, List.all_cons, List.all_nil, AV.eqv, AC.eqv, eqvl, eqvt, Sl.eqv, List.map_append, List.length_map, List.length_append, List.length_replicate, List.length_set, List.map_replicate, nilVC, zr_25, fs_25, sz_25, el_22, zr_9, c_impl_in, decide_eq_false h, if_neg h]
    refine end_ret ?_
    simp only [↓WP, ↓grdD, ↓grdT, ↓un_dead, ↓binVC, ↓buildVC, ↓sliceVC, WQ, WN, Int.reduceToNat, renl, cll, rent, clt, ↓reduceIte, Nat.reduceLeDiff, Nat.reduceEqDiff, Nat.reduceLT, reduceCtorEq, List.append_nil, Nat.reduceAdd, Nat.reduceSub, Nat.reduceBEq, forall_const, implies_true, cond_true, cond_false, AV.ren, AC.ren, AV.cl, AC.cl, eq_self, List.all_cons, List.all_nil, AV.eqv, AC.eqv, eqvl, eqvt, Sl.eqv, List.map_append, List.length_map, List.length_append, List.length_replicate, List.length_set, List.map_replicate, nilVC, zr_25, fs_25, sz_25, el_22, zr_9, c_impl_in]
    refine ⟨(), [(9, 1), (60, 3)], [1, 2], ?_⟩
    simp only [WL, WNL, swA_new, swA_ne, nest_sw_ne, mapLL, List.mem_cons, Nat.reduceAdd, Nat.reduceLT, Nat.reduceLeDiff, Nat.reduceEqDiff, okU, List.nodup_cons, List.not_mem_nil, toT, toL, toO, keysO, renl, rent, cll, clt, eq_self, AV.eqv, AC.eqv, eqvl, eqvt, Sl.eqv, rowsLe, mapLL, rowsCl, List.map_append, List.length_map, List.length_append, List.length_set, List.map_replicate, rowG, List.getElem?_cons_zero, List.getElem?_cons_succ, List.getElem?_nil, List.append_nil, List.nil_append, List.cons_append, ghosts, St.gh, Option.some.injEq, implies_true, setT, AV.ren, AC.ren, AV.cl, AC.cl, List.replicate_succ, List.replicate_zero, List.nodup_nil, List.length_nil, List.length_cons, List.getD_cons_zero, List.getD_cons_succ, ↓reduceIte, retP]
    simp
def c_laws_FnExactCacheNew : Contract := ⟨3, fun args M => match args with
  | [.c (.int .i64 _)] => .pure True (Eng.B true)
  | _ => .bad⟩
theorem ok_laws_FnExactCacheNew : fnP Try.prog c_laws_FnExactCacheNew.f = true ∧ ∀ args M, (c_laws_FnExactCacheNew.sp args M).OK Try.prog c_laws_FnExactCacheNew.f args M := by
  refine ⟨fp_3, fun args M => ?_⟩
  unfold c_laws_FnExactCacheNew
  dsimp only
  split
  case h_2 => trivial
  rename_i most
  intro _
  refine goIn hf_3 rfl (nt := 63) rfl (rs := [.tmp 2]) rfl (C := [c_spec_CacheNew, c_impl_CacheNew, c_laws_eqCache, c_laws_markCache, c_laws_heldCache]) ⟨(by first | exact .inl ok_spec_CacheNew | exact ok_spec_CacheNew), (by first | exact .inl ok_impl_CacheNew | exact ok_impl_CacheNew), (by first | exact .inl ok_laws_eqCache | exact ok_laws_eqCache), (by first | exact .inl ok_laws_markCache | exact ok_laws_markCache), (by first | exact .inl ok_laws_heldCache | exact ok_laws_heldCache), trivial⟩ (q := fun _ => false) okQ_none mixed (O := fun _ => .nil) (by kernel_rfl) ?_
  by_cases h : 1 ≤ most ∧ most ≤ 6
  · simp only [↓WP, ↓grdD, ↓grdT, ↓un_dead, ↓binVC, ↓buildVC, ↓sliceVC, WQ, WN, Int.reduceToNat, renl, cll, rent, clt, ↓reduceIte, Nat.reduceLeDiff, Nat.reduceEqDiff, Nat.reduceLT, reduceCtorEq, List.append_nil, Nat.reduceAdd, Nat.reduceSub, Nat.reduceBEq, forall_const, implies_true, cond_true, cond_false, AV.ren, AC.ren, AV.cl, AC.cl, eq_self, List.all_cons, List.all_nil, AV.eqv, AC.eqv, eqvl, eqvt, Sl.eqv, List.map_append, List.length_map, List.length_append, List.length_replicate, List.length_set, List.map_replicate, nilVC, zr_25, sz_25, bt_4, c_spec_CacheNew, c_impl_CacheNew, c_laws_eqCache, c_laws_markCache, c_laws_heldCache, if_pos h, decide_eq_true h]
    have ds : ∀ b, (dec [AC.str b] : ByteArray) = b := fun _ => rfl
    simp [markS, markR, allEnc, ds, enc_str]
  · simp only [↓WP, ↓grdD, ↓grdT, ↓un_dead, ↓binVC, ↓buildVC, ↓sliceVC, WQ, WN, Int.reduceToNat, renl, cll, rent, clt, ↓reduceIte, Nat.reduceLeDiff, Nat.reduceEqDiff, Nat.reduceLT, reduceCtorEq, List.append_nil, Nat.reduceAdd, Nat.reduceSub, Nat.reduceBEq, forall_const, implies_true, cond_true, cond_false, AV.ren, AC.ren, AV.cl, AC.cl, eq_self, List.all_cons, List.all_nil, AV.eqv, AC.eqv, eqvl, eqvt, Sl.eqv, List.map_append, List.length_map, List.length_append, List.length_replicate, List.length_set, List.map_replicate, nilVC, zr_25, sz_25, bt_4, c_spec_CacheNew, c_impl_CacheNew, c_laws_eqCache, c_laws_markCache, c_laws_heldCache, if_neg h, decide_eq_false h]
    simp [markS, markR, allEnc]
end Go.Eng.T
