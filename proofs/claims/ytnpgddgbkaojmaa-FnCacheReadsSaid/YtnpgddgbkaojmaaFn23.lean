/- cache: faults, as they are programmed. -/
import Derived.Test.YtnpgddgbkaojmaaFn22
set_option linter.unusedVariables false
set_option linter.unusedSimpArgs false
set_option linter.unusedSectionVars false
namespace Go.Eng.T
open Go.Proofs
open Cel (enc dec)
set_option maxRecDepth 100000
set_option maxHeartbeats 8000000
def c_impl_toEnd : Contract := ⟨59, fun args M => match args with
  | [.c (.sl a n c), .c (.int .i64 i)] => specR Int a n (M a.r) fun ty cap X => .eff (0 ≤ i ∧ i < n ∧ n ≤ c ∧ c ≤ cap) Unit (fun _ => True) (fun _ => .c (.sl a.up n c)) (fun _ => []) (fun _ => [(a.r, rowG true ty cap (wo X i.toNat ++ [X.getD i.toNat default]))])
  | _ => .bad⟩
theorem ok_impl_toEnd : fnP Try.prog c_impl_toEnd.f = true ∧ ∀ args M, (c_impl_toEnd.sp args M).OK Try.prog c_impl_toEnd.f args M := by
  refine ⟨fp_59, fun args M => ?_⟩
  unfold c_impl_toEnd
  dsimp only
  split
  case h_2 => trivial
  rename_i a n c i
  refine specR_cases fun ty cap X hM hX hlen hs hi0 hk0 hf0 => ?_
  rintro ⟨h1, h2, hc, hcap⟩
  subst hlen
  obtain ⟨m, rfl⟩ : ∃ m : Nat, i = m := ⟨i.toNat, by omega⟩
  obtain ⟨r, ai, ak, af⟩ := a
  dsimp only at hi0 hk0 hf0 hM
  subst hi0 hk0 hf0
  have hm : m < X.length := by omega
  refine goIn hf_59 rfl (nt := 18) rfl (rs := [.tmp 4]) rfl (C := [c_slices_Delete_int]) ⟨(by first | exact .inl ok_slices_Delete_int | exact ok_slices_Delete_int), trivial⟩ (q := fun _ => false) okQ_none mixed (O := fun _ => .nil) (by kernel_rfl) ?_
  have hw := wS (i := m) (by omega)
  have hgd : (List.map enc X).getD m [] = enc (X.getD m default) := getD_enc _ _ hm
  have h11 : X.length - 1 + 1 = X.length := by omega
  have hput : putAt (List.map enc (List.take m X) ++ List.map enc (List.drop (m + 1) X) ++ [[AC.int .i64 0]]) (X.length - 1) [[AC.int .i64 (X.getD m default)]] = List.map enc (wo X m) ++ [[AC.int .i64 (X.getD m default)]] := by
    rw [putAt_last (by simp; omega), List.take_left' (by simp; omega), wo, List.map_append]
  simp only [↓WP, ↓grdD, ↓grdT, ↓un_dead, ↓binVC, ↓buildVC, ↓sliceVC, WQ, WN, Int.reduceToNat, renl, cll, rent, clt, ↓reduceIte, Nat.reduceLeDiff, Nat.reduceEqDiff, Nat.reduceLT, reduceCtorEq, List.append_nil, Nat.reduceAdd, Nat.reduceSub, Nat.reduceBEq, forall_const, implies_true, cond_true, cond_false, AV.ren, AC.ren, AV.cl, AC.cl, eq_self, List.all_cons, List.all_nil, AV.eqv, AC.eqv, eqvl, eqvt, Sl.eqv, List.map_append, List.length_map, List.length_append, List.length_replicate, List.length_set, List.map_replicate, nilVC, el_49, sz_3, zr_3, c_slices_Delete_int, hM, hw, hgd, h11, hput]
  repeat' (first | with_reducible refine And.intro ?_ ?_ | intro _)
  all_goals try omega
  · simp; omega
  refine end_ret ?_
  simp only [↓WP, ↓grdD, ↓grdT, ↓un_dead, ↓binVC, ↓buildVC, ↓sliceVC, WQ, WN, Int.reduceToNat, renl, cll, rent, clt, ↓reduceIte, Nat.reduceLeDiff, Nat.reduceEqDiff, Nat.reduceLT, reduceCtorEq, List.append_nil, Nat.reduceAdd, Nat.reduceSub, Nat.reduceBEq, forall_const, implies_true, cond_true, cond_false, AV.ren, AC.ren, AV.cl, AC.cl, eq_self, List.all_cons, List.all_nil, AV.eqv, AC.eqv, eqvl, eqvt, Sl.eqv, List.map_append, List.length_map, List.length_append, List.length_replicate, List.length_set, List.map_replicate, nilVC, el_49, sz_3, zr_3, c_slices_Delete_int]
  refine ⟨(), [], [], ?_⟩
  simp only [WL, WNL, swA_new, swA_ne, nest_sw_ne, mapLL, List.mem_cons, Nat.reduceAdd, Nat.reduceLT, Nat.reduceLeDiff, Nat.reduceEqDiff, okU, List.nodup_cons, List.not_mem_nil, toT, toL, toO, keysO, renl, rent, cll, clt, eq_self, AV.eqv, AC.eqv, eqvl, eqvt, Sl.eqv, rowsLe, mapLL, rowsCl, List.map_append, List.length_map, List.length_append, List.length_set, List.map_replicate, rowG, List.getElem?_cons_zero, List.getElem?_cons_succ, List.getElem?_nil, List.append_nil, List.nil_append, List.cons_append, ghosts, St.gh, Option.some.injEq, implies_true, setT, AV.ren, AC.ren, AV.cl, AC.cl, List.replicate_succ, List.replicate_zero, List.nodup_nil, List.length_nil, List.length_cons, List.getD_cons_zero, List.getD_cons_succ, ↓reduceIte, retP]
  simp [okU, hM]
def c_impl_faults : Contract := ⟨58, fun args M => match args with
  | [.c (.sl a n c), .c (.int .i64 f), .c (.clo h []), .c (.clo v [])] => .pure (RowOk Int a n (M a.r) ∧ v = 60 ∧ h = 59) (I (cntF true v0 (row Int a n (M a.r)) f))
  | _ => .bad⟩
theorem ok_impl_faults : fnP Try.prog c_impl_faults.f = true ∧ ∀ args M, (c_impl_faults.sp args M).OK Try.prog c_impl_faults.f args M := by
  refine ⟨fp_58, fun args M => ?_⟩
  unfold c_impl_faults
  dsimp only
  split
  case h_2 => trivial
  rename_i a n c f h v
  rintro ⟨hrow, rfl, rfl⟩
  obtain ⟨hs, X, hX, rfl, hat⟩ := hrow.x
  rw [hX]
  refine goIn hf_58 rfl (nt := 57) rfl (rs := [.tmp 8]) rfl (C := [c_impl_pagesOk, c_slices_Index_int, c_slices_Delete_int, c_impl_toEnd, c_impl_first]) ⟨(by first | exact .inl ok_impl_pagesOk | exact ok_impl_pagesOk), (by first | exact .inl ok_slices_Index_int | exact ok_slices_Index_int), (by first | exact .inl ok_slices_Delete_int | exact ok_slices_Delete_int), (by first | exact .inl ok_impl_toEnd | exact ok_impl_toEnd), (by first | exact .inl ok_impl_first | exact ok_impl_first), trivial⟩ (q := fun _ => false) okQ_none mixed (O := fun _ => .nil) (by kernel_rfl) ?_
  by_cases hok : faultsOk X f
  · have hX200 : X.length ≤ 200 := hok.1
    have hf1 : 1 ≤ f ∧ f ≤ 20 := hok.2.1
    have hcn : cntF true v0 X f = runN true v0 f X X.length := if_pos hok
    rw [hcn]
    simp only [↓WP, ↓grdD, ↓grdT, ↓un_dead, ↓binVC, ↓buildVC, ↓sliceVC, WQ, WN, Int.reduceToNat, renl, cll, rent, clt, ↓reduceIte, Nat.reduceLeDiff, Nat.reduceEqDiff, Nat.reduceLT, reduceCtorEq, List.append_nil, Nat.reduceAdd, Nat.reduceSub, Nat.reduceBEq, forall_const, implies_true, cond_true, cond_false, AV.ren, AC.ren, AV.cl, AC.cl, eq_self, List.all_cons, List.all_nil, AV.eqv, AC.eqv, eqvl, eqvt, Sl.eqv, List.map_append, List.length_map, List.length_append, List.length_replicate, List.length_set, List.map_replicate, nilVC, el_49, zr_3, sd_49, sz_3, c_impl_pagesOk, c_slices_Index_int, c_slices_Delete_int, c_impl_toEnd, c_impl_first, hX, decide_eq_true hok]
    refine ⟨hrow, by omega, ?_⟩
    refine loopI (J := {p : Nat × Nat // p.1 ≤ X.length ∧ (runL true v0 f X p.1).length ≤ p.2}) (fun p => ⟨slots 57 [(0, .c (.sl a.up X.length c)), (1, I f), (2, .c (.clo 59 [])), (3, .c (.clo 60 [])), (9, .c (.sl ⟨.loc 0, 0, 0, 0⟩ (runL true v0 f X p.1.1).length p.1.2)), (10, I (runN true v0 f X p.1.1)), (20, .c (.sl a.up X.length c)), (21, I X.length), (22, I p.1.1)], M, [], [rowG true 3 p.1.2 (runL true v0 f X p.1.1)]⟩) (fun p => X.length - p.1.1) ⟨(0, 0), by omega, by exact Nat.le_refl _⟩ (Le.trans (Le_gh _ [(3, 1)]) (Le_intro [0] (by simp only [WL, WNL, swA_new, swA_ne, nest_sw_ne, mapLL, List.mem_cons, Nat.reduceAdd, Nat.reduceLT, Nat.reduceLeDiff, Nat.reduceEqDiff, okU, List.nodup_cons, List.not_mem_nil, toT, toL, toO, keysO, renl, rent, cll, clt, eq_self, AV.eqv, AC.eqv, eqvl, eqvt, Sl.eqv, rowsLe, mapLL, rowsCl, List.map_append, List.length_map, List.length_append, List.length_set, List.map_replicate, rowG, List.getElem?_cons_zero, List.getElem?_cons_succ, List.getElem?_nil, List.append_nil, List.nil_append, List.cons_append, ghosts, St.gh, Option.some.injEq, implies_true, setT, AV.ren, AC.ren, AV.cl, AC.cl, List.replicate_succ, List.replicate_zero, List.nodup_nil, List.length_nil, List.length_cons, List.getD_cons_zero, List.getD_cons_succ, ↓reduceIte, runL, runN]; try simp [AA.up_r, cl_out]))) ?_
    rintro ⟨⟨i, k⟩, hi, hk⟩
    dsimp only at hi hk
    have hw := wS (i := i) (by omega)
    have hll := runL_len (rc := true) (vic := v0) (f := f) (X := X) hf1.1 (fun l i h => h) i
    have hnn := runN_le (rc := true) (vic := v0) (f := f) (X := X) i
    have hwn := wS (i := runN true v0 f X i) (by omega)
    rcases Nat.lt_or_ge i X.length with hlt | hge
    · obtain ⟨own, ty, cnt, cap, len, get, hM, hf, hic, hkn, hget⟩ := hat (by omega)
      obtain ⟨L, hL⟩ : ∃ L, L = runL true v0 f X i := ⟨_, rfl⟩
      rw [← hL] at hk hll
      have hjr := at1_range L (X.getD i default)
      by_cases hhit : 0 ≤ at1 L (X.getD i default)
      · have hN := runN_hit (rc := true) (vic := v0) (f := f) (X := X) (i := i) (by rw [← hL]; exact hhit)
        obtain ⟨m, hm⟩ : ∃ m : Nat, at1 L (X.getD i default) = m := ⟨(at1 L (X.getD i default)).toNat, by omega⟩
        have hS := runL_end (vic := v0) (f := f) (X := X) (i := i) (by rw [← hL]; exact hhit)
        rw [← hL, hm, Int.toNat_natCast] at hS
        have hwo := wo_len (l := L) (j := m) (by omega)
        have h0m : decide (0 ≤ (m : Int)) = true := decide_eq_true (by omega)
        have hLm : L.getD m default = X.getD i default := by
          obtain ⟨m', e1, e2, e3, e4⟩ := idx_nonneg hhit
          have e1' : at1 L (X.getD i default) = m' := e1
          have : m' = m := by omega
          subst this
          exact of_decide_eq_true e3
        have h11 : L.length - 1 + 1 = L.length := by omega
        simp only [↓WP, ↓grdD, ↓grdT, ↓un_dead, ↓binVC, ↓buildVC, ↓sliceVC, WQ, WN, Int.reduceToNat, renl, cll, rent, clt, ↓reduceIte, Nat.reduceLeDiff, Nat.reduceEqDiff, Nat.reduceLT, reduceCtorEq, List.append_nil, Nat.reduceAdd, Nat.reduceSub, Nat.reduceBEq, forall_const, implies_true, cond_true, cond_false, AV.ren, AC.ren, AV.cl, AC.cl, eq_self, List.all_cons, List.all_nil, AV.eqv, AC.eqv, eqvl, eqvt, Sl.eqv, List.map_append, List.length_map, List.length_append, List.length_replicate, List.length_set, List.map_replicate, nilVC, el_49, zr_3, sd_49, sz_3, c_impl_pagesOk, c_slices_Index_int, c_slices_Delete_int, c_impl_toEnd, c_impl_first, dlt hlt, hw, hM, hf, hget i hlt, ← hL, hm, h0m, hLm]
        repeat' (first | with_reducible refine And.intro ?_ ?_ | intro _)
        all_goals try omega
        all_goals try exact .inr trivial
        exact ⟨⟨(i + 1, k), hlt, by rw [hS, List.length_append, hwo]; simp; omega⟩, Le_intro [0] (by simp only [WL, WNL, swA_new, swA_ne, nest_sw_ne, mapLL, List.mem_cons, Nat.reduceAdd, Nat.reduceLT, Nat.reduceLeDiff, Nat.reduceEqDiff, okU, List.nodup_cons, List.not_mem_nil, toT, toL, toO, keysO, renl, rent, cll, clt, eq_self, AV.eqv, AC.eqv, eqvl, eqvt, Sl.eqv, rowsLe, mapLL, rowsCl, List.map_append, List.length_map, List.length_append, List.length_set, List.map_replicate, rowG, List.getElem?_cons_zero, List.getElem?_cons_succ, List.getElem?_nil, List.append_nil, List.nil_append, List.cons_append, ghosts, St.gh, Option.some.injEq, implies_true, setT, AV.ren, AC.ren, AV.cl, AC.cl, List.replicate_succ, List.replicate_zero, List.nodup_nil, List.length_nil, List.length_cons, List.getD_cons_zero, List.getD_cons_succ, ↓reduceIte, hS, hN, hwo]; (try simp [AA.up_r, cl_out]); (try omega)), by show X.length - (i + 1) < X.length - i; omega⟩
      · have hN := runN_miss (rc := true) (vic := v0) (f := f) (X := X) (i := i) (by rw [← hL]; exact hhit)
        by_cases hfull : f ≤ L.length
        · have hS : _ = wo (runL true v0 f X i) 0 ++ _ := runL_full (rc := true) (vic := v0) (f := f) (X := X) (i := i) (by rw [← hL]; exact hhit) (by rw [← hL]; exact hfull)
          rw [← hL] at hS
          have hfe : decide ((L.length : Int) = f) = true := by simp only [decide_eq_true_iff]; omega
          have hw01 : IntKind.i64.wrap (0 + 1) = 1 := w64 (by omega) (by omega)
          have hwo := wo_len (l := L) (j := 0) (by omega)
          have hwd : wo L 0 = L.drop 1 := rfl
          have h11 : L.length - 1 + 1 = L.length := by omega
          have hput : putAt (List.map enc (List.drop 1 L) ++ [[AC.int .i64 0]]) (L.length - 1) [[AC.int .i64 (X.getD i default)]] = List.map enc (List.drop 1 L) ++ [[AC.int .i64 (X.getD i default)]] := by
            rw [putAt_last (by simp <;> omega), List.take_left' (by simp)]
          simp only [↓WP, ↓grdD, ↓grdT, ↓un_dead, ↓binVC, ↓buildVC, ↓sliceVC, WQ, WN, Int.reduceToNat, renl, cll, rent, clt, ↓reduceIte, Nat.reduceLeDiff, Nat.reduceEqDiff, Nat.reduceLT, reduceCtorEq, List.append_nil, Nat.reduceAdd, Nat.reduceSub, Nat.reduceBEq, forall_const, implies_true, cond_true, cond_false, AV.ren, AC.ren, AV.cl, AC.cl, eq_self, List.all_cons, List.all_nil, AV.eqv, AC.eqv, eqvl, eqvt, Sl.eqv, List.map_append, List.length_map, List.length_append, List.length_replicate, List.length_set, List.map_replicate, nilVC, el_49, zr_3, sd_49, sz_3, c_impl_pagesOk, c_slices_Index_int, c_slices_Delete_int, c_impl_toEnd, c_impl_first, dlt hlt, hw, hwn, hM, hf, hget i hlt, ← hL, decide_eq_false hhit, hfe, hw01, hput]
          repeat' (first | with_reducible refine And.intro ?_ ?_ | intro _)
          all_goals try omega
          all_goals try exact .inr trivial
          · simp <;> omega
          · exact ⟨⟨(i + 1, k), hlt, by rw [hS, List.length_append, hwo]; simp; omega⟩, Le_intro [0] (by simp only [WL, WNL, swA_new, swA_ne, nest_sw_ne, mapLL, List.mem_cons, Nat.reduceAdd, Nat.reduceLT, Nat.reduceLeDiff, Nat.reduceEqDiff, okU, List.nodup_cons, List.not_mem_nil, toT, toL, toO, keysO, renl, rent, cll, clt, eq_self, AV.eqv, AC.eqv, eqvl, eqvt, Sl.eqv, rowsLe, mapLL, rowsCl, List.map_append, List.length_map, List.length_append, List.length_set, List.map_replicate, rowG, List.getElem?_cons_zero, List.getElem?_cons_succ, List.getElem?_nil, List.append_nil, List.nil_append, List.cons_append, ghosts, St.gh, Option.some.injEq, implies_true, setT, AV.ren, AC.ren, AV.cl, AC.cl, List.replicate_succ, List.replicate_zero, List.nodup_nil, List.length_nil, List.length_cons, List.getD_cons_zero, List.getD_cons_succ, ↓reduceIte, hS, hN, hwo, hwd]; (try simp [AA.up_r, cl_out]); (try omega)), by show X.length - (i + 1) < X.length - i; omega⟩
        · have hS := runL_room (rc := true) (vic := v0) (f := f) (X := X) (i := i) (by rw [← hL]; exact hhit) (by rw [← hL]; exact hfull)
          rw [← hL] at hS
          have hfe : decide ((L.length : Int) = f) = false := by simp only [decide_eq_false_iff_not]; omega
          have hput : putAt (List.map enc L) L.length [[AC.int .i64 (X.getD i default)]] = List.map enc L ++ [[AC.int .i64 (X.getD i default)]] := putAt_end (by rw [List.length_map])
          simp only [↓WP, ↓grdD, ↓grdT, ↓un_dead, ↓binVC, ↓buildVC, ↓sliceVC, WQ, WN, Int.reduceToNat, renl, cll, rent, clt, ↓reduceIte, Nat.reduceLeDiff, Nat.reduceEqDiff, Nat.reduceLT, reduceCtorEq, List.append_nil, Nat.reduceAdd, Nat.reduceSub, Nat.reduceBEq, forall_const, implies_true, cond_true, cond_false, AV.ren, AC.ren, AV.cl, AC.cl, eq_self, List.all_cons, List.all_nil, AV.eqv, AC.eqv, eqvl, eqvt, Sl.eqv, List.map_append, List.length_map, List.length_append, List.length_replicate, List.length_set, List.map_replicate, nilVC, el_49, zr_3, sd_49, sz_3, c_impl_pagesOk, c_slices_Index_int, c_slices_Delete_int, c_impl_toEnd, c_impl_first, dlt hlt, hw, hwn, hM, hf, hget i hlt, ← hL, decide_eq_false hhit, hfe, hput]
          repeat' (first | with_reducible refine And.intro ?_ ?_ | intro _)
          all_goals try omega
          all_goals try exact .inr trivial
          · exact ⟨⟨(i + 1, k), hlt, by rw [hS, List.length_append]; simp; omega⟩, Le_intro [0] (by simp only [WL, WNL, swA_new, swA_ne, nest_sw_ne, mapLL, List.mem_cons, Nat.reduceAdd, Nat.reduceLT, Nat.reduceLeDiff, Nat.reduceEqDiff, okU, List.nodup_cons, List.not_mem_nil, toT, toL, toO, keysO, renl, rent, cll, clt, eq_self, AV.eqv, AC.eqv, eqvl, eqvt, Sl.eqv, rowsLe, mapLL, rowsCl, List.map_append, List.length_map, List.length_append, List.length_set, List.map_replicate, rowG, List.getElem?_cons_zero, List.getElem?_cons_succ, List.getElem?_nil, List.append_nil, List.nil_append, List.cons_append, ghosts, St.gh, Option.some.injEq, implies_true, setT, AV.ren, AC.ren, AV.cl, AC.cl, List.replicate_succ, List.replicate_zero, List.nodup_nil, List.length_nil, List.length_cons, List.getD_cons_zero, List.getD_cons_succ, ↓reduceIte, hS, hN]; try simp [AA.up_r, cl_out]), by show X.length - (i + 1) < X.length - i; omega⟩
          · rename_i k2 h1 h2
            exact ⟨⟨(i + 1, k2), hlt, by rw [hS, List.length_append]; simp; omega⟩, Le_intro [2] (by simp only [WL, WNL, swA_new, swA_ne, nest_sw_ne, mapLL, List.mem_cons, Nat.reduceAdd, Nat.reduceLT, Nat.reduceLeDiff, Nat.reduceEqDiff, okU, List.nodup_cons, List.not_mem_nil, toT, toL, toO, keysO, renl, rent, cll, clt, eq_self, AV.eqv, AC.eqv, eqvl, eqvt, Sl.eqv, rowsLe, mapLL, rowsCl, List.map_append, List.length_map, List.length_append, List.length_set, List.map_replicate, rowG, List.getElem?_cons_zero, List.getElem?_cons_succ, List.getElem?_nil, List.append_nil, List.nil_append, List.cons_append, ghosts, St.gh, Option.some.injEq, implies_true, setT, AV.ren, AC.ren, AV.cl, AC.cl, List.replicate_succ, List.replicate_zero, List.nodup_nil, List.length_nil, List.length_cons, List.getD_cons_zero, List.getD_cons_succ, ↓reduceIte, hS, hN]; try simp [AA.up_r, cl_out]), by show X.length - (i + 1) < X.length - i; omega⟩
    · obtain rfl : i = X.length := by omega
      simp only [↓WP, ↓grdD, ↓grdT, ↓un_dead, ↓binVC, ↓buildVC, ↓sliceVC, WQ, WN, Int.reduceToNat, renl, cll, rent, clt, ↓reduceIte, Nat.reduceLeDiff, Nat.reduceEqDiff, Nat.reduceLT, reduceCtorEq, List.append_nil, Nat.reduceAdd, Nat.reduceSub, Nat.reduceBEq, forall_const, implies_true, cond_true, cond_false, AV.ren, AC.ren, AV.cl, AC.cl, eq_self, List.all_cons, List.all_nil, AV.eqv, AC.eqv, eqvl, eqvt, Sl.eqv, List.map_append, List.length_map, List.length_append, List.length_replicate, List.length_set, List.map_replicate, nilVC, el_49, zr_3, sd_49, sz_3, c_impl_pagesOk, c_slices_Index_int, c_slices_Delete_int, c_impl_toEnd, c_impl_first, dge hge, hw]
  · have hcn : cntF true v0 X f = 0 := if_neg hok
    rw [hcn]
    simp only [↓WP, ↓grdD, ↓grdT, ↓un_dead, ↓binVC, ↓buildVC, ↓sliceVC, WQ, WN, Int.reduceToNat, renl, cll, rent, clt, ↓reduceIte, Nat.reduceLeDiff, Nat.reduceEqDiff, Nat.reduceLT, reduceCtorEq, List.append_nil, Nat.reduceAdd, Nat.reduceSub, Nat.reduceBEq, forall_const, implies_true, cond_true, cond_false, AV.ren, AC.ren, AV.cl, AC.cl, eq_self, List.all_cons, List.all_nil, AV.eqv, AC.eqv, eqvl, eqvt, Sl.eqv, List.map_append, List.length_map, List.length_append, List.length_replicate, List.length_set, List.map_replicate, nilVC, el_49, zr_3, sd_49, sz_3, c_impl_pagesOk, c_slices_Index_int, c_slices_Delete_int, c_impl_toEnd, c_impl_first, hX, decide_eq_false hok]
    exact hrow
def c_impl_Faults : Contract := ⟨31, fun args M => match args with
  | [.c (.sl a n _), .c (.int .i64 f)] => .pure (RowOk Int a n (M a.r)) (I (cntF true v0 (row Int a n (M a.r)) f))
  | _ => .bad⟩
theorem ok_impl_Faults : fnP Try.prog c_impl_Faults.f = true ∧ ∀ args M, (c_impl_Faults.sp args M).OK Try.prog c_impl_Faults.f args M := by
  refine ⟨fp_31, fun args M => ?_⟩
  unfold c_impl_Faults
  dsimp only
  split
  case h_2 => trivial
  rename_i a n c f
  intro hrow
  refine goIn hf_31 rfl (nt := 8) rfl (rs := [.tmp 4]) rfl (C := [c_impl_faults]) ⟨(by first | exact .inl ok_impl_faults | exact ok_impl_faults), trivial⟩ (q := fun _ => false) okQ_none mixed (O := fun _ => .nil) (by kernel_rfl) ?_
  simp only [↓WP, ↓grdD, ↓grdT, ↓un_dead, ↓binVC, ↓buildVC, ↓sliceVC, WQ, WN, Int.reduceToNat, renl, cll, rent, clt, ↓reduceIte, Nat.reduceLeDiff, Nat.reduceEqDiff, Nat.reduceLT, reduceCtorEq, List.append_nil, Nat.reduceAdd, Nat.reduceSub, Nat.reduceBEq, forall_const, implies_true, cond_true, cond_false, AV.ren, AC.ren, AV.cl, AC.cl, eq_self, List.all_cons, List.all_nil, AV.eqv, AC.eqv, eqvl, eqvt, Sl.eqv, List.map_append, List.length_map, List.length_append, List.length_replicate, List.length_set, List.map_replicate, nilVC, c_impl_faults]
  simp [hrow]
theorem q_impl_Faults : Quiet c_impl_Faults := by
  intro args M
  unfold c_impl_Faults
  dsimp only
  split <;> first | trivial | (intro _; rfl)
end Go.Eng.T
