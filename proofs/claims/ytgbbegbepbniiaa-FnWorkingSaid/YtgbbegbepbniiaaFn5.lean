/- faults: the counting, as it is programmed: the loop. -/
import Derived.Test.YtgbbegbepbniiaaFn4
set_option linter.unusedVariables false
set_option linter.unusedSimpArgs false
set_option linter.unusedSectionVars false
namespace Go.Eng.T
open Go.Proofs
open Cel (enc dec)
set_option maxRecDepth 100000
set_option maxHeartbeats 4000000
def faultsSpec (M : RId → Option Rg) (a : AA) (n : Nat) (f : Int) (h v : FuncId) : List AA → Spec
  | [] => .pure (RowOk Int a n (M a.r) ∧ v = 29 ∧ (h = 28 ∨ h = 30)) (I (cntF (decide (h = 30)) v0 (row Int a n (M a.r)) f))
  | [p] => boxS p (M p.r) fun b m c => .pure (RowOk Int a n (M a.r) ∧ a = b ∧ n = m ∧ n ≤ c ∧ v = 35 ∧ h = 28) (I (cntF false (vicB (row Int a n (M a.r))) (row Int a n (M a.r)) f))
  | _ => .bad
theorem faultsSpec_nil {M a n f h v} : faultsSpec M a n f h v [] = .pure (RowOk Int a n (M a.r) ∧ v = 29 ∧ (h = 28 ∨ h = 30)) (I (cntF (decide (h = 30)) v0 (row Int a n (M a.r)) f)) := Eq.trans rfl rfl
theorem faultsSpec_one {M a n f h v p} : faultsSpec M a n f h v [p] = boxS p (M p.r) fun b m c => .pure (RowOk Int a n (M a.r) ∧ a = b ∧ n = m ∧ n ≤ c ∧ v = 35 ∧ h = 28) (I (cntF false (vicB (row Int a n (M a.r))) (row Int a n (M a.r)) f)) := Eq.trans rfl rfl
def c_impl_faults : Contract := ⟨27, fun args M => match args with
  | [.c (.sl a n c), .c (.int .i64 f), .c (.clo h []), .c (.clo v ps)] => faultsSpec M a n f h v ps
  | _ => .bad⟩
theorem ok_impl_faults : fnP Try.prog c_impl_faults.f = true ∧ ∀ args M, (c_impl_faults.sp args M).OK Try.prog c_impl_faults.f args M := by
  refine ⟨fp_27, fun args M => ?_⟩
  unfold c_impl_faults
  dsimp only
  split
  case h_2 => trivial
  rename_i a n c f h v ps
  match ps with
  | _ :: _ :: _ => trivial
  | [] =>
    rw [faultsSpec_nil]
    rintro ⟨hrow, rfl, hh⟩
    obtain ⟨hs, X, hX, rfl, hat⟩ := hrow.x
    rw [hX]
    refine goIn hf_27 rfl (nt := 57) rfl (rs := [.tmp 8]) rfl (C := [c_impl_pagesOk, c_slices_Index_int, c_slices_Delete_int, c_impl_asItIs, c_impl_toEnd, c_impl_first, c_impl_FaultsBest_1]) ⟨(by first | exact .inl ok_impl_pagesOk | exact ok_impl_pagesOk), (by first | exact .inl ok_slices_Index_int | exact ok_slices_Index_int), (by first | exact .inl ok_slices_Delete_int | exact ok_slices_Delete_int), (by first | exact .inl ok_impl_asItIs | exact ok_impl_asItIs), (by first | exact .inl ok_impl_toEnd | exact ok_impl_toEnd), (by first | exact .inl ok_impl_first | exact ok_impl_first), (by first | exact .inl ok_impl_FaultsBest_1 | exact ok_impl_FaultsBest_1), trivial⟩ (q := fun _ => false) okQ_none mixed (O := fun _ => .nil) (by kernel_rfl) ?_
    rcases hh with rfl | rfl
    · rw [show decide (28 = 30) = false from rfl]
      by_cases hok : faultsOk X f
      · have hX200 : X.length ≤ 200 := hok.1
        have hf1 : 1 ≤ f ∧ f ≤ 20 := hok.2.1
        have hcn : cntF false v0 X f = runN false v0 f X X.length := if_pos hok
        rw [hcn]
        simp only [↓WP, ↓grdD, ↓grdT, ↓un_dead, ↓binVC, ↓buildVC, ↓sliceVC, WQ, WN, Int.reduceToNat, renl, cll, rent, clt, ↓reduceIte, Nat.reduceLeDiff, Nat.reduceEqDiff, Nat.reduceLT, reduceCtorEq, List.append_nil, Nat.reduceAdd, Nat.reduceSub, Nat.reduceBEq, forall_const, implies_true, cond_true, cond_false, AV.ren, AC.ren, AV.cl, AC.cl, eq_self, List.all_cons, List.all_nil, AV.eqv, AC.eqv, eqvl, eqvt, Sl.eqv, List.map_append, List.length_map, List.length_append, List.length_replicate, List.length_set, List.map_replicate, nilVC, el_22, zr_3, sd_22, sz_3, c_impl_pagesOk, c_slices_Index_int, c_slices_Delete_int, c_impl_asItIs, c_impl_toEnd, c_impl_first, c_impl_FaultsBest_1, hX, decide_eq_true hok]
        refine ⟨hrow, by omega, ?_⟩
        refine loopI (J := {p : Nat × Nat // p.1 ≤ X.length ∧ (runL false v0 f X p.1).length ≤ p.2}) (fun p => ⟨slots 57 [(0, .c (.sl a.up X.length c)), (1, I f), (2, .c (.clo 28 [])), (3, .c (.clo 29 [])), (9, .c (.sl ⟨.loc 0, 0, 0, 0⟩ (runL false v0 f X p.1.1).length p.1.2)), (10, I (runN false v0 f X p.1.1)), (20, .c (.sl a.up X.length c)), (21, I X.length), (22, I p.1.1)], M, [], [rowG true 3 p.1.2 (runL false v0 f X p.1.1)]⟩) (fun p => X.length - p.1.1) ⟨(0, 0), by omega, by exact Nat.le_refl _⟩ (Le.trans (Le_gh _ [(3, 1)]) (Le_intro [0] (by simp only [WL, WNL, swA_new, swA_ne, nest_sw_ne, mapLL, List.mem_cons, Nat.reduceAdd, Nat.reduceLT, Nat.reduceLeDiff, Nat.reduceEqDiff, okU, List.nodup_cons, List.not_mem_nil, toT, toL, toO, keysO, renl, rent, cll, clt, eq_self, AV.eqv, AC.eqv, eqvl, eqvt, Sl.eqv, rowsLe, mapLL, rowsCl, List.map_append, List.length_map, List.length_append, List.length_set, List.map_replicate, rowG, List.getElem?_cons_zero, List.getElem?_cons_succ, List.getElem?_nil, List.append_nil, List.nil_append, List.cons_append, ghosts, St.gh, Option.some.injEq, implies_true, setT, AV.ren, AC.ren, AV.cl, AC.cl, List.replicate_succ, List.replicate_zero, List.nodup_nil, List.length_nil, List.length_cons, List.getD_cons_zero, List.getD_cons_succ, ↓reduceIte, runL, runN]; try simp [AA.up_r, cl_out]))) ?_
        rintro ⟨⟨i, k⟩, hi, hk⟩
        dsimp only at hi hk
        have hw := wS (i := i) (by omega)
        have hll := runL_len (rc := false) (vic := v0) (f := f) (X := X) hf1.1 (fun l i h => h) i
        have hnn := runN_le (rc := false) (vic := v0) (f := f) (X := X) i
        have hwn := wS (i := runN false v0 f X i) (by omega)
        rcases Nat.lt_or_ge i X.length with hlt | hge
        · obtain ⟨own, ty, cnt, cap, len, get, hM, hf, hic, hkn, hget⟩ := hat (by omega)
          obtain ⟨L, hL⟩ : ∃ L, L = runL false v0 f X i := ⟨_, rfl⟩
          rw [← hL] at hk hll
          have hjr := at1_range L (X.getD i default)
          by_cases hhit : 0 ≤ at1 L (X.getD i default)
          · have hN := runN_hit (rc := false) (vic := v0) (f := f) (X := X) (i := i) (by rw [← hL]; exact hhit)
            have hS := runL_stay (vic := v0) (f := f) (X := X) (i := i) (by rw [← hL]; exact hhit)
            rw [← hL] at hS
            simp only [↓WP, ↓grdD, ↓grdT, ↓un_dead, ↓binVC, ↓buildVC, ↓sliceVC, WQ, WN, Int.reduceToNat, renl, cll, rent, clt, ↓reduceIte, Nat.reduceLeDiff, Nat.reduceEqDiff, Nat.reduceLT, reduceCtorEq, List.append_nil, Nat.reduceAdd, Nat.reduceSub, Nat.reduceBEq, forall_const, implies_true, cond_true, cond_false, AV.ren, AC.ren, AV.cl, AC.cl, eq_self, List.all_cons, List.all_nil, AV.eqv, AC.eqv, eqvl, eqvt, Sl.eqv, List.map_append, List.length_map, List.length_append, List.length_replicate, List.length_set, List.map_replicate, nilVC, el_22, zr_3, sd_22, sz_3, c_impl_pagesOk, c_slices_Index_int, c_slices_Delete_int, c_impl_asItIs, c_impl_toEnd, c_impl_first, c_impl_FaultsBest_1, dlt hlt, hw, hM, hf, hget i hlt, ← hL, decide_eq_true hhit]
            repeat' (first | with_reducible refine And.intro ?_ ?_ | intro _)
            all_goals try omega
            all_goals try exact .inr trivial
            exact ⟨⟨(i + 1, k), hlt, by rw [hS]; assumption⟩, Le_intro [0] (by simp only [WL, WNL, swA_new, swA_ne, nest_sw_ne, mapLL, List.mem_cons, Nat.reduceAdd, Nat.reduceLT, Nat.reduceLeDiff, Nat.reduceEqDiff, okU, List.nodup_cons, List.not_mem_nil, toT, toL, toO, keysO, renl, rent, cll, clt, eq_self, AV.eqv, AC.eqv, eqvl, eqvt, Sl.eqv, rowsLe, mapLL, rowsCl, List.map_append, List.length_map, List.length_append, List.length_set, List.map_replicate, rowG, List.getElem?_cons_zero, List.getElem?_cons_succ, List.getElem?_nil, List.append_nil, List.nil_append, List.cons_append, ghosts, St.gh, Option.some.injEq, implies_true, setT, AV.ren, AC.ren, AV.cl, AC.cl, List.replicate_succ, List.replicate_zero, List.nodup_nil, List.length_nil, List.length_cons, List.getD_cons_zero, List.getD_cons_succ, ↓reduceIte, hS, hN]; try simp [AA.up_r, cl_out]), by show X.length - (i + 1) < X.length - i; omega⟩
          · have hN := runN_miss (rc := false) (vic := v0) (f := f) (X := X) (i := i) (by rw [← hL]; exact hhit)
            by_cases hfull : f ≤ L.length
            · have hS : _ = wo (runL false v0 f X i) 0 ++ _ := runL_full (rc := false) (vic := v0) (f := f) (X := X) (i := i) (by rw [← hL]; exact hhit) (by rw [← hL]; exact hfull)
              rw [← hL] at hS
              have hfe : decide ((L.length : Int) = f) = true := by simp only [decide_eq_true_iff]; omega
              have hw01 : IntKind.i64.wrap (0 + 1) = 1 := w64 (by omega) (by omega)
              have hwo := wo_len (l := L) (j := 0) (by omega)
              have hwd : wo L 0 = L.drop 1 := rfl
              have h11 : L.length - 1 + 1 = L.length := by omega
              have hput : putAt (List.map enc (List.drop 1 L) ++ [[AC.int .i64 0]]) (L.length - 1) [[AC.int .i64 (X.getD i default)]] = List.map enc (List.drop 1 L) ++ [[AC.int .i64 (X.getD i default)]] := by
                rw [putAt_last (by simp <;> omega), List.take_left' (by simp)]
              simp only [↓WP, ↓grdD, ↓grdT, ↓un_dead, ↓binVC, ↓buildVC, ↓sliceVC, WQ, WN, Int.reduceToNat, renl, cll, rent, clt, ↓reduceIte, Nat.reduceLeDiff, Nat.reduceEqDiff, Nat.reduceLT, reduceCtorEq, List.append_nil, Nat.reduceAdd, Nat.reduceSub, Nat.reduceBEq, forall_const, implies_true, cond_true, cond_false, AV.ren, AC.ren, AV.cl, AC.cl, eq_self, List.all_cons, List.all_nil, AV.eqv, AC.eqv, eqvl, eqvt, Sl.eqv, List.map_append, List.length_map, List.length_append, List.length_replicate, List.length_set, List.map_replicate, nilVC, el_22, zr_3, sd_22, sz_3, c_impl_pagesOk, c_slices_Index_int, c_slices_Delete_int, c_impl_asItIs, c_impl_toEnd, c_impl_first, c_impl_FaultsBest_1, dlt hlt, hw, hwn, hM, hf, hget i hlt, ← hL, decide_eq_false hhit, hfe, hw01, hput]
              repeat' (first | with_reducible refine And.intro ?_ ?_ | intro _)
              all_goals try omega
              all_goals try exact .inr trivial
              · simp <;> omega
              · exact ⟨⟨(i + 1, k), hlt, by rw [hS, List.length_append, hwo]; simp; omega⟩, Le_intro [0] (by simp only [WL, WNL, swA_new, swA_ne, nest_sw_ne, mapLL, List.mem_cons, Nat.reduceAdd, Nat.reduceLT, Nat.reduceLeDiff, Nat.reduceEqDiff, okU, List.nodup_cons, List.not_mem_nil, toT, toL, toO, keysO, renl, rent, cll, clt, eq_self, AV.eqv, AC.eqv, eqvl, eqvt, Sl.eqv, rowsLe, mapLL, rowsCl, List.map_append, List.length_map, List.length_append, List.length_set, List.map_replicate, rowG, List.getElem?_cons_zero, List.getElem?_cons_succ, List.getElem?_nil, List.append_nil, List.nil_append, List.cons_append, ghosts, St.gh, Option.some.injEq, implies_true, setT, AV.ren, AC.ren, AV.cl, AC.cl, List.replicate_succ, List.replicate_zero, List.nodup_nil, List.length_nil, List.length_cons, List.getD_cons_zero, List.getD_cons_succ, ↓reduceIte, hS, hN, hwo, hwd]; (try simp [AA.up_r, cl_out]); (try omega)), by show X.length - (i + 1) < X.length - i; omega⟩
            · have hS := runL_room (rc := false) (vic := v0) (f := f) (X := X) (i := i) (by rw [← hL]; exact hhit) (by rw [← hL]; exact hfull)
              rw [← hL] at hS
              have hfe : decide ((L.length : Int) = f) = false := by simp only [decide_eq_false_iff_not]; omega
              have hput : putAt (List.map enc L) L.length [[AC.int .i64 (X.getD i default)]] = List.map enc L ++ [[AC.int .i64 (X.getD i default)]] := putAt_end (by rw [List.length_map])
              simp only [↓WP, ↓grdD, ↓grdT, ↓un_dead, ↓binVC, ↓buildVC, ↓sliceVC, WQ, WN, Int.reduceToNat, renl, cll, rent, clt, ↓reduceIte, Nat.reduceLeDiff, Nat.reduceEqDiff, Nat.reduceLT, reduceCtorEq, List.append_nil, Nat.reduceAdd, Nat.reduceSub, Nat.reduceBEq, forall_const, implies_true, cond_true, cond_false, AV.ren, AC.ren, AV.cl, AC.cl, eq_self, List.all_cons, List.all_nil, AV.eqv, AC.eqv, eqvl, eqvt, Sl.eqv, List.map_append, List.length_map, List.length_append, List.length_replicate, List.length_set, List.map_replicate, nilVC, el_22, zr_3, sd_22, sz_3, c_impl_pagesOk, c_slices_Index_int, c_slices_Delete_int, c_impl_asItIs, c_impl_toEnd, c_impl_first, c_impl_FaultsBest_1, dlt hlt, hw, hwn, hM, hf, hget i hlt, ← hL, decide_eq_false hhit, hfe, hput]
              repeat' (first | with_reducible refine And.intro ?_ ?_ | intro _)
              all_goals try omega
              all_goals try exact .inr trivial
              · exact ⟨⟨(i + 1, k), hlt, by rw [hS, List.length_append]; simp; omega⟩, Le_intro [0] (by simp only [WL, WNL, swA_new, swA_ne, nest_sw_ne, mapLL, List.mem_cons, Nat.reduceAdd, Nat.reduceLT, Nat.reduceLeDiff, Nat.reduceEqDiff, okU, List.nodup_cons, List.not_mem_nil, toT, toL, toO, keysO, renl, rent, cll, clt, eq_self, AV.eqv, AC.eqv, eqvl, eqvt, Sl.eqv, rowsLe, mapLL, rowsCl, List.map_append, List.length_map, List.length_append, List.length_set, List.map_replicate, rowG, List.getElem?_cons_zero, List.getElem?_cons_succ, List.getElem?_nil, List.append_nil, List.nil_append, List.cons_append, ghosts, St.gh, Option.some.injEq, implies_true, setT, AV.ren, AC.ren, AV.cl, AC.cl, List.replicate_succ, List.replicate_zero, List.nodup_nil, List.length_nil, List.length_cons, List.getD_cons_zero, List.getD_cons_succ, ↓reduceIte, hS, hN]; try simp [AA.up_r, cl_out]), by show X.length - (i + 1) < X.length - i; omega⟩
              · rename_i k2 h1 h2
                exact ⟨⟨(i + 1, k2), hlt, by rw [hS, List.length_append]; simp; omega⟩, Le_intro [2] (by simp only [WL, WNL, swA_new, swA_ne, nest_sw_ne, mapLL, List.mem_cons, Nat.reduceAdd, Nat.reduceLT, Nat.reduceLeDiff, Nat.reduceEqDiff, okU, List.nodup_cons, List.not_mem_nil, toT, toL, toO, keysO, renl, rent, cll, clt, eq_self, AV.eqv, AC.eqv, eqvl, eqvt, Sl.eqv, rowsLe, mapLL, rowsCl, List.map_append, List.length_map, List.length_append, List.length_set, List.map_replicate, rowG, List.getElem?_cons_zero, List.getElem?_cons_succ, List.getElem?_nil, List.append_nil, List.nil_append, List.cons_append, ghosts, St.gh, Option.some.injEq, implies_true, setT, AV.ren, AC.ren, AV.cl, AC.cl, List.replicate_succ, List.replicate_zero, List.nodup_nil, List.length_nil, List.length_cons, List.getD_cons_zero, List.getD_cons_succ, ↓reduceIte, hS, hN]; try simp [AA.up_r, cl_out]), by show X.length - (i + 1) < X.length - i; omega⟩
        · obtain rfl : i = X.length := by omega
          simp only [↓WP, ↓grdD, ↓grdT, ↓un_dead, ↓binVC, ↓buildVC, ↓sliceVC, WQ, WN, Int.reduceToNat, renl, cll, rent, clt, ↓reduceIte, Nat.reduceLeDiff, Nat.reduceEqDiff, Nat.reduceLT, reduceCtorEq, List.append_nil, Nat.reduceAdd, Nat.reduceSub, Nat.reduceBEq, forall_const, implies_true, cond_true, cond_false, AV.ren, AC.ren, AV.cl, AC.cl, eq_self, List.all_cons, List.all_nil, AV.eqv, AC.eqv, eqvl, eqvt, Sl.eqv, List.map_append, List.length_map, List.length_append, List.length_replicate, List.length_set, List.map_replicate, nilVC, el_22, zr_3, sd_22, sz_3, c_impl_pagesOk, c_slices_Index_int, c_slices_Delete_int, c_impl_asItIs, c_impl_toEnd, c_impl_first, c_impl_FaultsBest_1, dge hge, hw]
      · have hcn : cntF false v0 X f = 0 := if_neg hok
        rw [hcn]
        simp only [↓WP, ↓grdD, ↓grdT, ↓un_dead, ↓binVC, ↓buildVC, ↓sliceVC, WQ, WN, Int.reduceToNat, renl, cll, rent, clt, ↓reduceIte, Nat.reduceLeDiff, Nat.reduceEqDiff, Nat.reduceLT, reduceCtorEq, List.append_nil, Nat.reduceAdd, Nat.reduceSub, Nat.reduceBEq, forall_const, implies_true, cond_true, cond_false, AV.ren, AC.ren, AV.cl, AC.cl, eq_self, List.all_cons, List.all_nil, AV.eqv, AC.eqv, eqvl, eqvt, Sl.eqv, List.map_append, List.length_map, List.length_append, List.length_replicate, List.length_set, List.map_replicate, nilVC, el_22, zr_3, sd_22, sz_3, c_impl_pagesOk, c_slices_Index_int, c_slices_Delete_int, c_impl_asItIs, c_impl_toEnd, c_impl_first, c_impl_FaultsBest_1, hX, decide_eq_false hok]
        exact hrow
    · rw [show decide (30 = 30) = true from rfl]
      by_cases hok : faultsOk X f
      · have hX200 : X.length ≤ 200 := hok.1
        have hf1 : 1 ≤ f ∧ f ≤ 20 := hok.2.1
        have hcn : cntF true v0 X f = runN true v0 f X X.length := if_pos hok
        rw [hcn]
        simp only [↓WP, ↓grdD, ↓grdT, ↓un_dead, ↓binVC, ↓buildVC, ↓sliceVC, WQ, WN, Int.reduceToNat, renl, cll, rent, clt, ↓reduceIte, Nat.reduceLeDiff, Nat.reduceEqDiff, Nat.reduceLT, reduceCtorEq, List.append_nil, Nat.reduceAdd, Nat.reduceSub, Nat.reduceBEq, forall_const, implies_true, cond_true, cond_false, AV.ren, AC.ren, AV.cl, AC.cl, eq_self, List.all_cons, List.all_nil, AV.eqv, AC.eqv, eqvl, eqvt, Sl.eqv, List.map_append, List.length_map, List.length_append, List.length_replicate, List.length_set, List.map_replicate, nilVC, el_22, zr_3, sd_22, sz_3, c_impl_pagesOk, c_slices_Index_int, c_slices_Delete_int, c_impl_asItIs, c_impl_toEnd, c_impl_first, c_impl_FaultsBest_1, hX, decide_eq_true hok]
        refine ⟨hrow, by omega, ?_⟩
        refine loopI (J := {p : Nat × Nat // p.1 ≤ X.length ∧ (runL true v0 f X p.1).length ≤ p.2}) (fun p => ⟨slots 57 [(0, .c (.sl a.up X.length c)), (1, I f), (2, .c (.clo 30 [])), (3, .c (.clo 29 [])), (9, .c (.sl ⟨.loc 0, 0, 0, 0⟩ (runL true v0 f X p.1.1).length p.1.2)), (10, I (runN true v0 f X p.1.1)), (20, .c (.sl a.up X.length c)), (21, I X.length), (22, I p.1.1)], M, [], [rowG true 3 p.1.2 (runL true v0 f X p.1.1)]⟩) (fun p => X.length - p.1.1) ⟨(0, 0), by omega, by exact Nat.le_refl _⟩ (Le.trans (Le_gh _ [(3, 1)]) (Le_intro [0] (by simp only [WL, WNL, swA_new, swA_ne, nest_sw_ne, mapLL, List.mem_cons, Nat.reduceAdd, Nat.reduceLT, Nat.reduceLeDiff, Nat.reduceEqDiff, okU, List.nodup_cons, List.not_mem_nil, toT, toL, toO, keysO, renl, rent, cll, clt, eq_self, AV.eqv, AC.eqv, eqvl, eqvt, Sl.eqv, rowsLe, mapLL, rowsCl, List.map_append, List.length_map, List.length_append, List.length_set, List.map_replicate, rowG, List.getElem?_cons_zero, List.getElem?_cons_succ, List.getElem?_nil, List.append_nil, List.nil_append, List.cons_append, ghosts, St.gh, Option.some.injEq, implies_true, setT, AV.ren, AC.ren, AV.cl, AC.cl, List.replicate_succ, List.replicate_zero, List.nodup_nil, List.length_nil, List.length_cons, List.getD_cons_zero, List.getD_cons_succ, ↓reduceIte, runL, runN]; try simp [AA.up_r, cl_out]))) ?_
        rintro ⟨⟨i, k⟩, hi, hk⟩
        dsimp only at hi hk
        have hw := wS (i := i) (by omega)
        have hll := runL_len (rc := true) (vic := v0) (f := f) (X := X) hf1.1 (fun l i h => h) i
        have hnn := runN_le (rc := true) (vic := v0) (f := f) (X := X) i
        have hwn := wS (i := runN true v0 f X i) (by omega)
        rcases Nat.lt_or_ge i X.length with hlt | hge
        · obtain ⟨own, ty, cnt, cap, len, get, hM, hf, hic, hkn, hget⟩ := hat (by omega)
          obtain ⟨L, hL⟩ : ∃ L, L = runL true v0 f X i := ⟨_, rfl⟩
          rw [← hL] at hk hll
          have hjr := at1_range L (X.getD i default)
          by_cases hhit : 0 ≤ at1 L (X.getD i default)
          · have hN := runN_hit (rc := true) (vic := v0) (f := f) (X := X) (i := i) (by rw [← hL]; exact hhit)
            obtain ⟨m, hm⟩ : ∃ m : Nat, at1 L (X.getD i default) = m := ⟨(at1 L (X.getD i default)).toNat, by omega⟩
            have hS := runL_end (vic := v0) (f := f) (X := X) (i := i) (by rw [← hL]; exact hhit)
            rw [← hL, hm, Int.toNat_natCast] at hS
            have hwo := wo_len (l := L) (j := m) (by omega)
            have h0m : decide (0 ≤ (m : Int)) = true := decide_eq_true (by omega)
            have hLm : L.getD m default = X.getD i default := by
              obtain ⟨m', e1, e2, e3, e4⟩ := idx_nonneg hhit
              have e1' : at1 L (X.getD i default) = m' := e1
              have : m' = m := by omega
              subst this
              exact of_decide_eq_true e3
            have h11 : L.length - 1 + 1 = L.length := by omega
            simp only [↓WP, ↓grdD, ↓grdT, ↓un_dead, ↓binVC, ↓buildVC, ↓sliceVC, WQ, WN, Int.reduceToNat, renl, cll, rent, clt, ↓reduceIte, Nat.reduceLeDiff, Nat.reduceEqDiff, Nat.reduceLT, reduceCtorEq, List.append_nil, Nat.reduceAdd, Nat.reduceSub, Nat.reduceBEq, forall_const, implies_true, cond_true, cond_false, AV.ren, AC.ren, AV.cl, AC.cl, eq_self, List.all_cons, List.all_nil, AV.eqv, AC.eqv, eqvl, eqvt, Sl.eqv, List.map_append, List.length_map, List.length_append, List.length_replicate, List.length_set, List.map_replicate, nilVC, el_22, zr_3, sd_22, sz_3, c_impl_pagesOk, c_slices_Index_int, c_slices_Delete_int, c_impl_asItIs, c_impl_toEnd, c_impl_first, c_impl_FaultsBest_1, dlt hlt, hw, hM, hf, hget i hlt, ← hL, hm, h0m, hLm]
            repeat' (first | with_reducible refine And.intro ?_ ?_ | intro _)
            all_goals try omega
            all_goals try exact .inr trivial
            exact ⟨⟨(i + 1, k), hlt, by rw [hS, List.length_append, hwo]; simp; omega⟩, Le_intro [0] (by simp only [WL, WNL, swA_new, swA_ne, nest_sw_ne, mapLL, List.mem_cons, Nat.reduceAdd, Nat.reduceLT, Nat.reduceLeDiff, Nat.reduceEqDiff, okU, List.nodup_cons, List.not_mem_nil, toT, toL, toO, keysO, renl, rent, cll, clt, eq_self, AV.eqv, AC.eqv, eqvl, eqvt, Sl.eqv, rowsLe, mapLL, rowsCl, List.map_append, List.length_map, List.length_append, List.length_set, List.map_replicate, rowG, List.getElem?_cons_zero, List.getElem?_cons_succ, List.getElem?_nil, List.append_nil, List.nil_append, List.cons_append, ghosts, St.gh, Option.some.injEq, implies_true, setT, AV.ren, AC.ren, AV.cl, AC.cl, List.replicate_succ, List.replicate_zero, List.nodup_nil, List.length_nil, List.length_cons, List.getD_cons_zero, List.getD_cons_succ, ↓reduceIte, hS, hN, hwo]; (try simp [AA.up_r, cl_out]); (try omega)), by show X.length - (i + 1) < X.length - i; omega⟩
          · have hN := runN_miss (rc := true) (vic := v0) (f := f) (X := X) (i := i) (by rw [← hL]; exact hhit)
            by_cases hfull : f ≤ L.length
            · have hS : _ = wo (runL true v0 f X i) 0 ++ _ := runL_full (rc := true) (vic := v0) (f := f) (X := X) (i := i) (by rw [← hL]; exact hhit) (by rw [← hL]; exact hfull)
              rw [← hL] at hS
              have hfe : decide ((L.length : Int) = f) = true := by simp only [decide_eq_true_iff]; omega
              have hw01 : IntKind.i64.wrap (0 + 1) = 1 := w64 (by omega) (by omega)
              have hwo := wo_len (l := L) (j := 0) (by omega)
              have hwd : wo L 0 = L.drop 1 := rfl
              have h11 : L.length - 1 + 1 = L.length := by omega
              have hput : putAt (List.map enc (List.drop 1 L) ++ [[AC.int .i64 0]]) (L.length - 1) [[AC.int .i64 (X.getD i default)]] = List.map enc (List.drop 1 L) ++ [[AC.int .i64 (X.getD i default)]] := by
                rw [putAt_last (by simp <;> omega), List.take_left' (by simp)]
              simp only [↓WP, ↓grdD, ↓grdT, ↓un_dead, ↓binVC, ↓buildVC, ↓sliceVC, WQ, WN, Int.reduceToNat, renl, cll, rent, clt, ↓reduceIte, Nat.reduceLeDiff, Nat.reduceEqDiff, Nat.reduceLT, reduceCtorEq, List.append_nil, Nat.reduceAdd, Nat.reduceSub, Nat.reduceBEq, forall_const, implies_true, cond_true, cond_false, AV.ren, AC.ren, AV.cl, AC.cl, eq_self, List.all_cons, List.all_nil, AV.eqv, AC.eqv, eqvl, eqvt, Sl.eqv, List.map_append, List.length_map, List.length_append, List.length_replicate, List.length_set, List.map_replicate, nilVC, el_22, zr_3, sd_22, sz_3, c_impl_pagesOk, c_slices_Index_int, c_slices_Delete_int, c_impl_asItIs, c_impl_toEnd, c_impl_first, c_impl_FaultsBest_1, dlt hlt, hw, hwn, hM, hf, hget i hlt, ← hL, decide_eq_false hhit, hfe, hw01, hput]
              repeat' (first | with_reducible refine And.intro ?_ ?_ | intro _)
              all_goals try omega
              all_goals try exact .inr trivial
              · simp <;> omega
              · exact ⟨⟨(i + 1, k), hlt, by rw [hS, List.length_append, hwo]; simp; omega⟩, Le_intro [0] (by simp only [WL, WNL, swA_new, swA_ne, nest_sw_ne, mapLL, List.mem_cons, Nat.reduceAdd, Nat.reduceLT, Nat.reduceLeDiff, Nat.reduceEqDiff, okU, List.nodup_cons, List.not_mem_nil, toT, toL, toO, keysO, renl, rent, cll, clt, eq_self, AV.eqv, AC.eqv, eqvl, eqvt, Sl.eqv, rowsLe, mapLL, rowsCl, List.map_append, List.length_map, List.length_append, List.length_set, List.map_replicate, rowG, List.getElem?_cons_zero, List.getElem?_cons_succ, List.getElem?_nil, List.append_nil, List.nil_append, List.cons_append, ghosts, St.gh, Option.some.injEq, implies_true, setT, AV.ren, AC.ren, AV.cl, AC.cl, List.replicate_succ, List.replicate_zero, List.nodup_nil, List.length_nil, List.length_cons, List.getD_cons_zero, List.getD_cons_succ, ↓reduceIte, hS, hN, hwo, hwd]; (try simp [AA.up_r, cl_out]); (try omega)), by show X.length - (i + 1) < X.length - i; omega⟩
            · have hS := runL_room (rc := true) (vic := v0) (f := f) (X := X) (i := i) (by rw [← hL]; exact hhit) (by rw [← hL]; exact hfull)
              rw [← hL] at hS
              have hfe : decide ((L.length : Int) = f) = false := by simp only [decide_eq_false_iff_not]; omega
              have hput : putAt (List.map enc L) L.length [[AC.int .i64 (X.getD i default)]] = List.map enc L ++ [[AC.int .i64 (X.getD i default)]] := putAt_end (by rw [List.length_map])
              simp only [↓WP, ↓grdD, ↓grdT, ↓un_dead, ↓binVC, ↓buildVC, ↓sliceVC, WQ, WN, Int.reduceToNat, renl, cll, rent, clt, ↓reduceIte, Nat.reduceLeDiff, Nat.reduceEqDiff, Nat.reduceLT, reduceCtorEq, List.append_nil, Nat.reduceAdd, Nat.reduceSub, Nat.reduceBEq, forall_const, implies_true, cond_true, cond_false, AV.ren, AC.ren, AV.cl, AC.cl, eq_self, List.all_cons, List.all_nil, AV.eqv, AC.eqv, eqvl, eqvt, Sl.eqv, List.map_append, List.length_map, List.length_append, List.length_replicate, List.length_set, List.map_replicate, nilVC, el_22, zr_3, sd_22, sz_3, c_impl_pagesOk, c_slices_Index_int, c_slices_Delete_int, c_impl_asItIs, c_impl_toEnd, c_impl_first, c_impl_FaultsBest_1, dlt hlt, hw, hwn, hM, hf, hget i hlt, ← hL, decide_eq_false hhit, hfe, hput]
              repeat' (first | with_reducible refine And.intro ?_ ?_ | intro _)
              all_goals try omega
              all_goals try exact .inr trivial
              · exact ⟨⟨(i + 1, k), hlt, by rw [hS, List.length_append]; simp; omega⟩, Le_intro [0] (by simp only [WL, WNL, swA_new, swA_ne, nest_sw_ne, mapLL, List.mem_cons, Nat.reduceAdd, Nat.reduceLT, Nat.reduceLeDiff, Nat.reduceEqDiff, okU, List.nodup_cons, List.not_mem_nil, toT, toL, toO, keysO, renl, rent, cll, clt, eq_self, AV.eqv, AC.eqv, eqvl, eqvt, Sl.eqv, rowsLe, mapLL, rowsCl, List.map_append, List.length_map, List.length_append, List.length_set, List.map_replicate, rowG, List.getElem?_cons_zero, List.getElem?_cons_succ, List.getElem?_nil, List.append_nil, List.nil_append, List.cons_append, ghosts, St.gh, Option.some.injEq, implies_true, setT, AV.ren, AC.ren, AV.cl, AC.cl, List.replicate_succ, List.replicate_zero, List.nodup_nil, List.length_nil, List.length_cons, List.getD_cons_zero, List.getD_cons_succ, ↓reduceIte, hS, hN]; try simp [AA.up_r, cl_out]), by show X.length - (i + 1) < X.length - i; omega⟩
              · rename_i k2 h1 h2
                exact ⟨⟨(i + 1, k2), hlt, by rw [hS, List.length_append]; simp; omega⟩, Le_intro [2] (by simp only [WL, WNL, swA_new, swA_ne, nest_sw_ne, mapLL, List.mem_cons, Nat.reduceAdd, Nat.reduceLT, Nat.reduceLeDiff, Nat.reduceEqDiff, okU, List.nodup_cons, List.not_mem_nil, toT, toL, toO, keysO, renl, rent, cll, clt, eq_self, AV.eqv, AC.eqv, eqvl, eqvt, Sl.eqv, rowsLe, mapLL, rowsCl, List.map_append, List.length_map, List.length_append, List.length_set, List.map_replicate, rowG, List.getElem?_cons_zero, List.getElem?_cons_succ, List.getElem?_nil, List.append_nil, List.nil_append, List.cons_append, ghosts, St.gh, Option.some.injEq, implies_true, setT, AV.ren, AC.ren, AV.cl, AC.cl, List.replicate_succ, List.replicate_zero, List.nodup_nil, List.length_nil, List.length_cons, List.getD_cons_zero, List.getD_cons_succ, ↓reduceIte, hS, hN]; try simp [AA.up_r, cl_out]), by show X.length - (i + 1) < X.length - i; omega⟩
        · obtain rfl : i = X.length := by omega
          simp only [↓WP, ↓grdD, ↓grdT, ↓un_dead, ↓binVC, ↓buildVC, ↓sliceVC, WQ, WN, Int.reduceToNat, renl, cll, rent, clt, ↓reduceIte, Nat.reduceLeDiff, Nat.reduceEqDiff, Nat.reduceLT, reduceCtorEq, List.append_nil, Nat.reduceAdd, Nat.reduceSub, Nat.reduceBEq, forall_const, implies_true, cond_true, cond_false, AV.ren, AC.ren, AV.cl, AC.cl, eq_self, List.all_cons, List.all_nil, AV.eqv, AC.eqv, eqvl, eqvt, Sl.eqv, List.map_append, List.length_map, List.length_append, List.length_replicate, List.length_set, List.map_replicate, nilVC, el_22, zr_3, sd_22, sz_3, c_impl_pagesOk, c_slices_Index_int, c_slices_Delete_int, c_impl_asItIs, c_impl_toEnd, c_impl_first, c_impl_FaultsBest_1, dge hge, hw]
      · have hcn : cntF true v0 X f = 0 := if_neg hok
        rw [hcn]
        simp only [↓WP, ↓grdD, ↓grdT, ↓un_dead, ↓binVC, ↓buildVC, ↓sliceVC, WQ, WN, Int.reduceToNat, renl, cll, rent, clt, ↓reduceIte, Nat.reduceLeDiff, Nat.reduceEqDiff, Nat.reduceLT, reduceCtorEq, List.append_nil, Nat.reduceAdd, Nat.reduceSub, Nat.reduceBEq, forall_const, implies_true, cond_true, cond_false, AV.ren, AC.ren, AV.cl, AC.cl, eq_self, List.all_cons, List.all_nil, AV.eqv, AC.eqv, eqvl, eqvt, Sl.eqv, List.map_append, List.length_map, List.length_append, List.length_replicate, List.length_set, List.map_replicate, nilVC, el_22, zr_3, sd_22, sz_3, c_impl_pagesOk, c_slices_Index_int, c_slices_Delete_int, c_impl_asItIs, c_impl_toEnd, c_impl_first, c_impl_FaultsBest_1, hX, decide_eq_false hok]
        exact hrow
  | [pp] =>
    rw [faultsSpec_one]
    refine boxS_cases fun t b m c2 hMp h1 h2 h3 => ?_
    rintro ⟨hrow, rfl, rfl, hc, rfl, rfl⟩
    obtain ⟨hs, X, hX, rfl, hat⟩ := hrow.x
    rw [hX]
    refine goIn hf_27 rfl (nt := 57) rfl (rs := [.tmp 8]) rfl (C := [c_impl_pagesOk, c_slices_Index_int, c_slices_Delete_int, c_impl_asItIs, c_impl_toEnd, c_impl_first, c_impl_FaultsBest_1]) ⟨(by first | exact .inl ok_impl_pagesOk | exact ok_impl_pagesOk), (by first | exact .inl ok_slices_Index_int | exact ok_slices_Index_int), (by first | exact .inl ok_slices_Delete_int | exact ok_slices_Delete_int), (by first | exact .inl ok_impl_asItIs | exact ok_impl_asItIs), (by first | exact .inl ok_impl_toEnd | exact ok_impl_toEnd), (by first | exact .inl ok_impl_first | exact ok_impl_first), (by first | exact .inl ok_impl_FaultsBest_1 | exact ok_impl_FaultsBest_1), trivial⟩ (q := fun _ => false) okQ_none mixed (O := fun _ => .nil) (by kernel_rfl) ?_
    by_cases hok : faultsOk X f
    · have hX200 : X.length ≤ 200 := hok.1
      have hf1 : 1 ≤ f ∧ f ≤ 20 := hok.2.1
      have hcn : cntF false (vicB X) X f = runN false (vicB X) f X X.length := if_pos hok
      rw [hcn]
      simp only [↓WP, ↓grdD, ↓grdT, ↓un_dead, ↓binVC, ↓buildVC, ↓sliceVC, WQ, WN, Int.reduceToNat, renl, cll, rent, clt, ↓reduceIte, Nat.reduceLeDiff, Nat.reduceEqDiff, Nat.reduceLT, reduceCtorEq, List.append_nil, Nat.reduceAdd, Nat.reduceSub, Nat.reduceBEq, forall_const, implies_true, cond_true, cond_false, AV.ren, AC.ren, AV.cl, AC.cl, eq_self, List.all_cons, List.all_nil, AV.eqv, AC.eqv, eqvl, eqvt, Sl.eqv, List.map_append, List.length_map, List.length_append, List.length_replicate, List.length_set, List.map_replicate, nilVC, el_22, zr_3, sd_22, sz_3, c_impl_pagesOk, c_slices_Index_int, c_slices_Delete_int, c_impl_asItIs, c_impl_toEnd, c_impl_first, c_impl_FaultsBest_1, hX, decide_eq_true hok]
      refine ⟨hrow, by omega, ?_⟩
      refine loopI (J := {p : Nat × Nat // p.1 ≤ X.length ∧ (runL false (vicB X) f X p.1).length ≤ p.2}) (fun p => ⟨slots 57 [(0, .c (.sl a.up X.length c)), (1, I f), (2, .c (.clo 28 [])), (3, .c (.clo 35 [pp.up])), (9, .c (.sl ⟨.loc 0, 0, 0, 0⟩ (runL false (vicB X) f X p.1.1).length p.1.2)), (10, I (runN false (vicB X) f X p.1.1)), (20, .c (.sl a.up X.length c)), (21, I X.length), (22, I p.1.1)], M, [], [rowG true 3 p.1.2 (runL false (vicB X) f X p.1.1)]⟩) (fun p => X.length - p.1.1) ⟨(0, 0), by omega, by exact Nat.le_refl _⟩ (Le.trans (Le_gh _ [(3, 1)]) (Le_intro [0] (by simp only [WL, WNL, swA_new, swA_ne, nest_sw_ne, mapLL, List.mem_cons, Nat.reduceAdd, Nat.reduceLT, Nat.reduceLeDiff, Nat.reduceEqDiff, okU, List.nodup_cons, List.not_mem_nil, toT, toL, toO, keysO, renl, rent, cll, clt, eq_self, AV.eqv, AC.eqv, eqvl, eqvt, Sl.eqv, rowsLe, mapLL, rowsCl, List.map_append, List.length_map, List.length_append, List.length_set, List.map_replicate, rowG, List.getElem?_cons_zero, List.getElem?_cons_succ, List.getElem?_nil, List.append_nil, List.nil_append, List.cons_append, ghosts, St.gh, Option.some.injEq, implies_true, setT, AV.ren, AC.ren, AV.cl, AC.cl, List.replicate_succ, List.replicate_zero, List.nodup_nil, List.length_nil, List.length_cons, List.getD_cons_zero, List.getD_cons_succ, ↓reduceIte, runL, runN]; try simp [AA.up_r, cl_out]))) ?_
      rintro ⟨⟨i, k⟩, hi, hk⟩
      dsimp only at hi hk
      have hw := wS (i := i) (by omega)
      have hll := runL_len (rc := false) (vic := (vicB X)) (f := f) (X := X) hf1.1 (fun l i h => vicB_lt X l i h) i
      have hnn := runN_le (rc := false) (vic := (vicB X)) (f := f) (X := X) i
      have hwn := wS (i := runN false (vicB X) f X i) (by omega)
      rcases Nat.lt_or_ge i X.length with hlt | hge
      · obtain ⟨own, ty, cnt, cap, len, get, hM, hf, hic, hkn, hget⟩ := hat (by omega)
        obtain ⟨L, hL⟩ : ∃ L, L = runL false (vicB X) f X i := ⟨_, rfl⟩
        rw [← hL] at hk hll
        have hjr := at1_range L (X.getD i default)
        by_cases hhit : 0 ≤ at1 L (X.getD i default)
        · have hN := runN_hit (rc := false) (vic := (vicB X)) (f := f) (X := X) (i := i) (by rw [← hL]; exact hhit)
          have hS := runL_stay (vic := (vicB X)) (f := f) (X := X) (i := i) (by rw [← hL]; exact hhit)
          rw [← hL] at hS
          simp only [↓WP, ↓grdD, ↓grdT, ↓un_dead, ↓binVC, ↓buildVC, ↓sliceVC, WQ, WN, Int.reduceToNat, renl, cll, rent, clt, ↓reduceIte, Nat.reduceLeDiff, Nat.reduceEqDiff, Nat.reduceLT, reduceCtorEq, List.append_nil, Nat.reduceAdd, Nat.reduceSub, Nat.reduceBEq, forall_const, implies_true, cond_true, cond_false, AV.ren, AC.ren, AV.cl, AC.cl, eq_self, List.all_cons, List.all_nil, AV.eqv, AC.eqv, eqvl, eqvt, Sl.eqv, List.map_append, List.length_map, List.length_append, List.length_replicate, List.length_set, List.map_replicate, nilVC, el_22, zr_3, sd_22, sz_3, c_impl_pagesOk, c_slices_Index_int, c_slices_Delete_int, c_impl_asItIs, c_impl_toEnd, c_impl_first, c_impl_FaultsBest_1, dlt hlt, hw, hM, hf, hget i hlt, ← hL, decide_eq_true hhit]
          repeat' (first | with_reducible refine And.intro ?_ ?_ | intro _)
          all_goals try omega
          all_goals try exact .inr trivial
          exact ⟨⟨(i + 1, k), hlt, by rw [hS]; assumption⟩, Le_intro [0] (by simp only [WL, WNL, swA_new, swA_ne, nest_sw_ne, mapLL, List.mem_cons, Nat.reduceAdd, Nat.reduceLT, Nat.reduceLeDiff, Nat.reduceEqDiff, okU, List.nodup_cons, List.not_mem_nil, toT, toL, toO, keysO, renl, rent, cll, clt, eq_self, AV.eqv, AC.eqv, eqvl, eqvt, Sl.eqv, rowsLe, mapLL, rowsCl, List.map_append, List.length_map, List.length_append, List.length_set, List.map_replicate, rowG, List.getElem?_cons_zero, List.getElem?_cons_succ, List.getElem?_nil, List.append_nil, List.nil_append, List.cons_append, ghosts, St.gh, Option.some.injEq, implies_true, setT, AV.ren, AC.ren, AV.cl, AC.cl, List.replicate_succ, List.replicate_zero, List.nodup_nil, List.length_nil, List.length_cons, List.getD_cons_zero, List.getD_cons_succ, ↓reduceIte, hS, hN]; try simp [AA.up_r, cl_out]), by show X.length - (i + 1) < X.length - i; omega⟩
        · have hN := runN_miss (rc := false) (vic := (vicB X)) (f := f) (X := X) (i := i) (by rw [← hL]; exact hhit)
          by_cases hfull : f ≤ L.length
          · have hS : _ = wo (runL false (vicB X) f X i) ((vicB X) (runL false (vicB X) f X i) i) ++ _ := runL_full (rc := false) (vic := (vicB X)) (f := f) (X := X) (i := i) (by rw [← hL]; exact hhit) (by rw [← hL]; exact hfull)
            rw [← hL] at hS
            have hfe : decide ((L.length : Int) = f) = true := by simp only [decide_eq_true_iff]; omega
            have hvl := vicB_lt X L i (by omega)
            have hwo := wo_len hvl
            obtain ⟨m, hm⟩ : ∃ m, m = wst (nxt X i) L L.length := ⟨_, rfl⟩
            have hS : runL false (vicB X) f X (i + 1) = wo L m ++ [X.getD i default] := by rw [hm]; exact hS
            rw [show vicB X L i = m from hm.symm] at hvl hwo
            have hwm := wS (i := m) (by omega)
            have h11 : L.length - 1 + 1 = L.length := by omega
            have hput : putAt (List.map enc (List.take m L) ++ List.map enc (List.drop (m + 1) L) ++ [[AC.int .i64 0]]) (L.length - 1) [[AC.int .i64 (X.getD i default)]] = List.map enc (wo L m) ++ [[AC.int .i64 (X.getD i default)]] := by
              rw [putAt_last (by simp; omega), List.take_left' (by simp; omega), wo, List.map_append]
            have hrow' := hrow
            have hX' := hX
            rw [hM] at hrow' hX'
            have hXu : row Int a.up X.length (some (Rg.arr own ty 1 cnt cap len fun i k => List.map AC.up (get i k))) = X := (row_up (α := Int) (a := a) (n := X.length) (o := some (.arr own ty (Cel.sz Int) cnt cap len get))).trans hX'
            have hRu : RowOk Int a.up X.length (some (Rg.arr own ty 1 cnt cap len fun i k => List.map AC.up (get i k))) := (RowOk_up (α := Int) (a := a) (n := X.length) (o := some (.arr own ty (Cel.sz Int) cnt cap len get))).mpr hrow'
            simp only [↓WP, ↓grdD, ↓grdT, ↓un_dead, ↓binVC, ↓buildVC, ↓sliceVC, WQ, WN, Int.reduceToNat, renl, cll, rent, clt, ↓reduceIte, Nat.reduceLeDiff, Nat.reduceEqDiff, Nat.reduceLT, reduceCtorEq, List.append_nil, Nat.reduceAdd, Nat.reduceSub, Nat.reduceBEq, forall_const, implies_true, cond_true, cond_false, AV.ren, AC.ren, AV.cl, AC.cl, eq_self, List.all_cons, List.all_nil, AV.eqv, AC.eqv, eqvl, eqvt, Sl.eqv, List.map_append, List.length_map, List.length_append, List.length_replicate, List.length_set, List.map_replicate, nilVC, el_22, zr_3, sd_22, sz_3, c_impl_pagesOk, c_slices_Index_int, c_slices_Delete_int, c_impl_asItIs, c_impl_toEnd, c_impl_first, c_impl_FaultsBest_1, dlt hlt, hw, hwn, hM, hf, hget i hlt, ← hL, decide_eq_false hhit, hfe, hwm, hput, hMp, h1, h2, h3, hXu, hRu, ← hm]
            repeat' (first | with_reducible refine And.intro ?_ ?_ | intro _)
            all_goals try omega
            all_goals try exact .inr trivial
            · simp; omega
            · exact ⟨⟨(i + 1, k), hlt, by rw [hS, List.length_append, hwo]; simp; omega⟩, Le_intro [0] (by simp only [WL, WNL, swA_new, swA_ne, nest_sw_ne, mapLL, List.mem_cons, Nat.reduceAdd, Nat.reduceLT, Nat.reduceLeDiff, Nat.reduceEqDiff, okU, List.nodup_cons, List.not_mem_nil, toT, toL, toO, keysO, renl, rent, cll, clt, eq_self, AV.eqv, AC.eqv, eqvl, eqvt, Sl.eqv, rowsLe, mapLL, rowsCl, List.map_append, List.length_map, List.length_append, List.length_set, List.map_replicate, rowG, List.getElem?_cons_zero, List.getElem?_cons_succ, List.getElem?_nil, List.append_nil, List.nil_append, List.cons_append, ghosts, St.gh, Option.some.injEq, implies_true, setT, AV.ren, AC.ren, AV.cl, AC.cl, List.replicate_succ, List.replicate_zero, List.nodup_nil, List.length_nil, List.length_cons, List.getD_cons_zero, List.getD_cons_succ, ↓reduceIte, hS, hN, hwo]; (try simp [AA.up_r, cl_out]); (try omega)), by show X.length - (i + 1) < X.length - i; omega⟩
          · have hS := runL_room (rc := false) (vic := (vicB X)) (f := f) (X := X) (i := i) (by rw [← hL]; exact hhit) (by rw [← hL]; exact hfull)
            rw [← hL] at hS
            have hfe : decide ((L.length : Int) = f) = false := by simp only [decide_eq_false_iff_not]; omega
            have hput : putAt (List.map enc L) L.length [[AC.int .i64 (X.getD i default)]] = List.map enc L ++ [[AC.int .i64 (X.getD i default)]] := putAt_end (by rw [List.length_map])
            simp only [↓WP, ↓grdD, ↓grdT, ↓un_dead, ↓binVC, ↓buildVC, ↓sliceVC, WQ, WN, Int.reduceToNat, renl, cll, rent, clt, ↓reduceIte, Nat.reduceLeDiff, Nat.reduceEqDiff, Nat.reduceLT, reduceCtorEq, List.append_nil, Nat.reduceAdd, Nat.reduceSub, Nat.reduceBEq, forall_const, implies_true, cond_true, cond_false, AV.ren, AC.ren, AV.cl, AC.cl, eq_self, List.all_cons, List.all_nil, AV.eqv, AC.eqv, eqvl, eqvt, Sl.eqv, List.map_append, List.length_map, List.length_append, List.length_replicate, List.length_set, List.map_replicate, nilVC, el_22, zr_3, sd_22, sz_3, c_impl_pagesOk, c_slices_Index_int, c_slices_Delete_int, c_impl_asItIs, c_impl_toEnd, c_impl_first, c_impl_FaultsBest_1, dlt hlt, hw, hwn, hM, hf, hget i hlt, ← hL, decide_eq_false hhit, hfe, hput]
            repeat' (first | with_reducible refine And.intro ?_ ?_ | intro _)
            all_goals try omega
            all_goals try exact .inr trivial
            · exact ⟨⟨(i + 1, k), hlt, by rw [hS, List.length_append]; simp; omega⟩, Le_intro [0] (by simp only [WL, WNL, swA_new, swA_ne, nest_sw_ne, mapLL, List.mem_cons, Nat.reduceAdd, Nat.reduceLT, Nat.reduceLeDiff, Nat.reduceEqDiff, okU, List.nodup_cons, List.not_mem_nil, toT, toL, toO, keysO, renl, rent, cll, clt, eq_self, AV.eqv, AC.eqv, eqvl, eqvt, Sl.eqv, rowsLe, mapLL, rowsCl, List.map_append, List.length_map, List.length_append, List.length_set, List.map_replicate, rowG, List.getElem?_cons_zero, List.getElem?_cons_succ, List.getElem?_nil, List.append_nil, List.nil_append, List.cons_append, ghosts, St.gh, Option.some.injEq, implies_true, setT, AV.ren, AC.ren, AV.cl, AC.cl, List.replicate_succ, List.replicate_zero, List.nodup_nil, List.length_nil, List.length_cons, List.getD_cons_zero, List.getD_cons_succ, ↓reduceIte, hS, hN]; try simp [AA.up_r, cl_out]), by show X.length - (i + 1) < X.length - i; omega⟩
            · rename_i k2 h1 h2
              exact ⟨⟨(i + 1, k2), hlt, by rw [hS, List.length_append]; simp; omega⟩, Le_intro [2] (by simp only [WL, WNL, swA_new, swA_ne, nest_sw_ne, mapLL, List.mem_cons, Nat.reduceAdd, Nat.reduceLT, Nat.reduceLeDiff, Nat.reduceEqDiff, okU, List.nodup_cons, List.not_mem_nil, toT, toL, toO, keysO, renl, rent, cll, clt, eq_self, AV.eqv, AC.eqv, eqvl, eqvt, Sl.eqv, rowsLe, mapLL, rowsCl, List.map_append, List.length_map, List.length_append, List.length_set, List.map_replicate, rowG, List.getElem?_cons_zero, List.getElem?_cons_succ, List.getElem?_nil, List.append_nil, List.nil_append, List.cons_append, ghosts, St.gh, Option.some.injEq, implies_true, setT, AV.ren, AC.ren, AV.cl, AC.cl, List.replicate_succ, List.replicate_zero, List.nodup_nil, List.length_nil, List.length_cons, List.getD_cons_zero, List.getD_cons_succ, ↓reduceIte, hS, hN]; try simp [AA.up_r, cl_out]), by show X.length - (i + 1) < X.length - i; omega⟩
      · obtain rfl : i = X.length := by omega
        simp only [↓WP, ↓grdD, ↓grdT, ↓un_dead, ↓binVC, ↓buildVC, ↓sliceVC, WQ, WN, Int.reduceToNat, renl, cll, rent, clt, ↓reduceIte, Nat.reduceLeDiff, Nat.reduceEqDiff, Nat.reduceLT, reduceCtorEq, List.append_nil, Nat.reduceAdd, Nat.reduceSub, Nat.reduceBEq, forall_const, implies_true, cond_true, cond_false, AV.ren, AC.ren, AV.cl, AC.cl, eq_self, List.all_cons, List.all_nil, AV.eqv, AC.eqv, eqvl, eqvt, Sl.eqv, List.map_append, List.length_map, List.length_append, List.length_replicate, List.length_set, List.map_replicate, nilVC, el_22, zr_3, sd_22, sz_3, c_impl_pagesOk, c_slices_Index_int, c_slices_Delete_int, c_impl_asItIs, c_impl_toEnd, c_impl_first, c_impl_FaultsBest_1, dge hge, hw]
    · have hcn : cntF false (vicB X) X f = 0 := if_neg hok
      rw [hcn]
      simp only [↓WP, ↓grdD, ↓grdT, ↓un_dead, ↓binVC, ↓buildVC, ↓sliceVC, WQ, WN, Int.reduceToNat, renl, cll, rent, clt, ↓reduceIte, Nat.reduceLeDiff, Nat.reduceEqDiff, Nat.reduceLT, reduceCtorEq, List.append_nil, Nat.reduceAdd, Nat.reduceSub, Nat.reduceBEq, forall_const, implies_true, cond_true, cond_false, AV.ren, AC.ren, AV.cl, AC.cl, eq_self, List.all_cons, List.all_nil, AV.eqv, AC.eqv, eqvl, eqvt, Sl.eqv, List.map_append, List.length_map, List.length_append, List.length_replicate, List.length_set, List.map_replicate, nilVC, el_22, zr_3, sd_22, sz_3, c_impl_pagesOk, c_slices_Index_int, c_slices_Delete_int, c_impl_asItIs, c_impl_toEnd, c_impl_first, c_impl_FaultsBest_1, hX, decide_eq_false hok]
      exact hrow
end Go.Eng.T
