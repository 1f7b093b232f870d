/- faults: the best one as it is specified; the laws. -/
import Derived.Test.YtgbbegbepbniiaaFn5
set_option linter.unusedVariables false
set_option linter.unusedSimpArgs false
set_option linter.unusedSectionVars false
namespace Go.Eng.T
open Go.Proofs
open Cel (enc dec)
set_option maxRecDepth 100000
set_option maxHeartbeats 4000000
def c_impl_FaultsFifo : Contract := ⟨11, fun args M => match args with
  | [.c (.sl a n _), .c (.int .i64 f)] => .pure (RowOk Int a n (M a.r)) (I (cntF false v0 (row Int a n (M a.r)) f))
  | _ => .bad⟩
theorem ok_impl_FaultsFifo : fnP Try.prog c_impl_FaultsFifo.f = true ∧ ∀ args M, (c_impl_FaultsFifo.sp args M).OK Try.prog c_impl_FaultsFifo.f args M := by
  refine ⟨fp_11, fun args M => ?_⟩
  unfold c_impl_FaultsFifo
  dsimp only
  split
  case h_2 => trivial
  rename_i a n c f
  intro hrow
  refine goIn hf_11 rfl (nt := 8) rfl (rs := [.tmp 4]) rfl (C := [c_impl_faults]) ⟨(by first | exact .inl ok_impl_faults | exact ok_impl_faults), trivial⟩ (q := fun _ => false) okQ_none mixed (O := fun _ => .nil) (by kernel_rfl) ?_
  simp only [↓WP, ↓grdD, ↓grdT, ↓un_dead, ↓binVC, ↓buildVC, ↓sliceVC, WQ, WN, Int.reduceToNat, renl, cll, rent, clt, ↓reduceIte, Nat.reduceLeDiff, Nat.reduceEqDiff, Nat.reduceLT, reduceCtorEq, List.append_nil, Nat.reduceAdd, Nat.reduceSub, Nat.reduceBEq, forall_const, implies_true, cond_true, cond_false, AV.ren, AC.ren, AV.cl, AC.cl, eq_self, List.all_cons, List.all_nil, AV.eqv, AC.eqv, eqvl, eqvt, Sl.eqv, List.map_append, List.length_map, List.length_append, List.length_replicate, List.length_set, List.map_replicate, nilVC, c_impl_faults, faultsSpec_nil]
  simp [hrow]
def c_impl_Faults : Contract := ⟨14, fun args M => match args with
  | [.c (.sl a n _), .c (.int .i64 f)] => .pure (RowOk Int a n (M a.r)) (I (cntF true v0 (row Int a n (M a.r)) f))
  | _ => .bad⟩
theorem ok_impl_Faults : fnP Try.prog c_impl_Faults.f = true ∧ ∀ args M, (c_impl_Faults.sp args M).OK Try.prog c_impl_Faults.f args M := by
  refine ⟨fp_14, fun args M => ?_⟩
  unfold c_impl_Faults
  dsimp only
  split
  case h_2 => trivial
  rename_i a n c f
  intro hrow
  refine goIn hf_14 rfl (nt := 8) rfl (rs := [.tmp 4]) rfl (C := [c_impl_faults]) ⟨(by first | exact .inl ok_impl_faults | exact ok_impl_faults), trivial⟩ (q := fun _ => false) okQ_none mixed (O := fun _ => .nil) (by kernel_rfl) ?_
  simp only [↓WP, ↓grdD, ↓grdT, ↓un_dead, ↓binVC, ↓buildVC, ↓sliceVC, WQ, WN, Int.reduceToNat, renl, cll, rent, clt, ↓reduceIte, Nat.reduceLeDiff, Nat.reduceEqDiff, Nat.reduceLT, reduceCtorEq, List.append_nil, Nat.reduceAdd, Nat.reduceSub, Nat.reduceBEq, forall_const, implies_true, cond_true, cond_false, AV.ren, AC.ren, AV.cl, AC.cl, eq_self, List.all_cons, List.all_nil, AV.eqv, AC.eqv, eqvl, eqvt, Sl.eqv, List.map_append, List.length_map, List.length_append, List.length_replicate, List.length_set, List.map_replicate, nilVC, c_impl_faults, faultsSpec_nil]
  simp [hrow]
def c_impl_FaultsBest : Contract := ⟨16, fun args M => match args with
  | [.c (.sl a n c), .c (.int .i64 f)] => .pure (RowOk Int a n (M a.r) ∧ n ≤ c) (I (cntF false (vicB (row Int a n (M a.r))) (row Int a n (M a.r)) f))
  | _ => .bad⟩
theorem ok_impl_FaultsBest : fnP Try.prog c_impl_FaultsBest.f = true ∧ ∀ args M, (c_impl_FaultsBest.sp args M).OK Try.prog c_impl_FaultsBest.f args M := by
  refine ⟨fp_16, fun args M => ?_⟩
  unfold c_impl_FaultsBest
  dsimp only
  split
  case h_2 => trivial
  rename_i a n c f
  rintro ⟨hrow, hc⟩
  refine goIn hf_16 rfl (nt := 9) rfl (rs := [.tmp 4]) rfl (C := [c_impl_FaultsBest_1, c_impl_faults]) ⟨(by first | exact .inl ok_impl_FaultsBest_1 | exact ok_impl_FaultsBest_1), (by first | exact .inl ok_impl_faults | exact ok_impl_faults), trivial⟩ (q := fun _ => false) okQ_none mixed (O := fun _ => .nil) (by kernel_rfl) ?_
  simp only [↓WP, ↓grdD, ↓grdT, ↓un_dead, ↓binVC, ↓buildVC, ↓sliceVC, WQ, WN, Int.reduceToNat, renl, cll, rent, clt, ↓reduceIte, Nat.reduceLeDiff, Nat.reduceEqDiff, Nat.reduceLT, reduceCtorEq, List.append_nil, Nat.reduceAdd, Nat.reduceSub, Nat.reduceBEq, forall_const, implies_true, cond_true, cond_false, AV.ren, AC.ren, AV.cl, AC.cl, eq_self, List.all_cons, List.all_nil, AV.eqv, AC.eqv, eqvl, eqvt, Sl.eqv, List.map_append, List.length_map, List.length_append, List.length_replicate, List.length_set, List.map_replicate, nilVC, sz_22, c_impl_FaultsBest_1, c_impl_faults, faultsSpec_one]
  simp [hrow, hc]
def c_spec_FaultsFifo : Contract := ⟨9, fun args M => match args with
  | [.c (.sl a n _), .c (.int .i64 f)] => .pure (RowOk Int a n (M a.r)) (I (cntF false v0 (row Int a n (M a.r)) f))
  | _ => .bad⟩
theorem ok_spec_FaultsFifo : fnP Try.prog c_spec_FaultsFifo.f = true ∧ ∀ args M, (c_spec_FaultsFifo.sp args M).OK Try.prog c_spec_FaultsFifo.f args M := by
  refine ⟨fp_9, fun args M => ?_⟩
  unfold c_spec_FaultsFifo
  dsimp only
  split
  case h_2 => trivial
  rename_i a n c f
  intro hrow
  refine goIn hf_9 rfl (nt := 8) rfl (rs := [.tmp 4]) rfl (C := [c_spec_l35Count]) ⟨(by first | exact .inl ok_spec_l35Count | exact ok_spec_l35Count), trivial⟩ (q := fun _ => false) okQ_none mixed (O := fun _ => .nil) (by kernel_rfl) ?_
  simp only [↓WP, ↓grdD, ↓grdT, ↓un_dead, ↓binVC, ↓buildVC, ↓sliceVC, WQ, WN, Int.reduceToNat, renl, cll, rent, clt, ↓reduceIte, Nat.reduceLeDiff, Nat.reduceEqDiff, Nat.reduceLT, reduceCtorEq, List.append_nil, Nat.reduceAdd, Nat.reduceSub, Nat.reduceBEq, forall_const, implies_true, cond_true, cond_false, AV.ren, AC.ren, AV.cl, AC.cl, eq_self, List.all_cons, List.all_nil, AV.eqv, AC.eqv, eqvl, eqvt, Sl.eqv, List.map_append, List.length_map, List.length_append, List.length_replicate, List.length_set, List.map_replicate, nilVC, c_spec_l35Count]
  simp [hrow]
def c_spec_Faults : Contract := ⟨13, fun args M => match args with
  | [.c (.sl a n _), .c (.int .i64 f)] => .pure (RowOk Int a n (M a.r)) (I (cntF true v0 (row Int a n (M a.r)) f))
  | _ => .bad⟩
theorem ok_spec_Faults : fnP Try.prog c_spec_Faults.f = true ∧ ∀ args M, (c_spec_Faults.sp args M).OK Try.prog c_spec_Faults.f args M := by
  refine ⟨fp_13, fun args M => ?_⟩
  unfold c_spec_Faults
  dsimp only
  split
  case h_2 => trivial
  rename_i a n c f
  intro hrow
  refine goIn hf_13 rfl (nt := 8) rfl (rs := [.tmp 4]) rfl (C := [c_spec_l35Count]) ⟨(by first | exact .inl ok_spec_l35Count | exact ok_spec_l35Count), trivial⟩ (q := fun _ => false) okQ_none mixed (O := fun _ => .nil) (by kernel_rfl) ?_
  simp only [↓WP, ↓grdD, ↓grdT, ↓un_dead, ↓binVC, ↓buildVC, ↓sliceVC, WQ, WN, Int.reduceToNat, renl, cll, rent, clt, ↓reduceIte, Nat.reduceLeDiff, Nat.reduceEqDiff, Nat.reduceLT, reduceCtorEq, List.append_nil, Nat.reduceAdd, Nat.reduceSub, Nat.reduceBEq, forall_const, implies_true, cond_true, cond_false, AV.ren, AC.ren, AV.cl, AC.cl, eq_self, List.all_cons, List.all_nil, AV.eqv, AC.eqv, eqvl, eqvt, Sl.eqv, List.map_append, List.length_map, List.length_append, List.length_replicate, List.length_set, List.map_replicate, nilVC, c_spec_l35Count]
  simp [hrow]
theorem again_hit {X : List Int} {q j : Nat} {p : Int} (hq : q + 1 ≤ j) (hj : j < X.length) (hc : clear (fun x => decide (x = p)) (X.drop (q + 1)) (j - (q + 1))) (hp : X.getD j default = p) : again X q p = j := by
  have hd : (X.drop (q + 1)).getD (j - (q + 1)) default = X.getD j default := by
    rw [getD_of_lt (by rw [List.length_drop]; omega), getD_of_lt hj, List.getElem_drop]
    congr 1; omega
  have := idx_hit hc (by rw [List.length_drop]; omega) (by rw [hd]; exact decide_eq_true hp)
  unfold again
  rw [if_pos (by omega), this]
  omega
theorem again_miss {X : List Int} {q : Nat} {p : Int} (hc : clear (fun x => decide (x = p)) (X.drop (q + 1)) (X.length - (q + 1))) : again X q p = X.length := by
  have := idx_miss (p := fun x => decide (x = p)) (X := X.drop (q + 1)) (by rw [List.length_drop]; exact hc)
  unfold again
  rw [if_neg (by omega)]
def c_spec_l35Again : Contract := ⟨33, fun args M => match args with
  | [.c (.sl a n _), .c (.int .i64 i), .c (.int .i64 p)] => .pure (RowOk Int a n (M a.r) ∧ 0 ≤ i ∧ i < n) (I (again (row Int a n (M a.r)) i.toNat p))
  | _ => .bad⟩
theorem ok_spec_l35Again : fnP Try.prog c_spec_l35Again.f = true ∧ ∀ args M, (c_spec_l35Again.sp args M).OK Try.prog c_spec_l35Again.f args M := by
  refine ⟨fp_33, fun args M => ?_⟩
  unfold c_spec_l35Again
  dsimp only
  split
  case h_2 => trivial
  rename_i a n ca i p
  rintro ⟨ha, hi0, hi1⟩
  obtain ⟨q, rfl⟩ : ∃ q : Nat, i = q := ⟨i.toNat, by omega⟩
  obtain ⟨hs, X, hX, rfl, hat⟩ := ha.x
  rw [hX, Int.toNat_natCast]
  refine goIn hf_33 rfl (nt := 25) rfl (rs := [.tmp 6]) rfl (C := []) trivial (q := fun _ => false) okQ_none mixed (O := fun _ => .nil) (by kernel_rfl) ?_
  obtain ⟨own, ty, cnt, cap, len, get, hM, hf, hic, hkn, hget⟩ := hat (by omega)
  have hwq := wS (i := q) (by omega)
  simp only [↓WP, ↓grdD, ↓grdT, ↓un_dead, ↓binVC, ↓buildVC, ↓sliceVC, WQ, WN, Int.reduceToNat, renl, cll, rent, clt, ↓reduceIte, Nat.reduceLeDiff, Nat.reduceEqDiff, Nat.reduceLT, reduceCtorEq, List.append_nil, Nat.reduceAdd, Nat.reduceSub, Nat.reduceBEq, forall_const, implies_true, cond_true, cond_false, AV.ren, AC.ren, AV.cl, AC.cl, eq_self, List.all_cons, List.all_nil, AV.eqv, AC.eqv, eqvl, eqvt, Sl.eqv, List.map_append, List.length_map, List.length_append, List.length_replicate, List.length_set, List.map_replicate, nilVC, sd_22, el_22, sz_3, hwq]
  refine loopI (J := {j : Nat // q + 1 ≤ j ∧ j ≤ X.length ∧ clear (fun x => decide (x = p)) (X.drop (q + 1)) (j - (q + 1))}) (fun j => ⟨slots 25 [(0, .c (.sl a.up X.length ca)), (2, I p), (7, I j.1)], M, [], []⟩) (fun j => X.length - j.1) ⟨q + 1, Nat.le_refl _, by omega, by rw [Nat.sub_self]; exact clear_zero _ _⟩ (Le_intro [] (by simp [WL, WNL, swA_new, swA_ne, nest_sw_ne, mapLL, List.mem_cons, Nat.reduceAdd, Nat.reduceLT, Nat.reduceLeDiff, Nat.reduceEqDiff, okU, List.nodup_cons, List.not_mem_nil, toT, toL, toO, keysO, renl, rent, cll, clt, eq_self, AV.eqv, AC.eqv, eqvl, eqvt, Sl.eqv, rowsLe, mapLL, rowsCl, List.map_append, List.length_map, List.length_append, List.length_set, List.map_replicate, rowG, List.getElem?_cons_zero, List.getElem?_cons_succ, List.getElem?_nil, List.append_nil, List.nil_append, List.cons_append, ghosts, St.gh, Option.some.injEq, implies_true, setT, AV.ren, AC.ren, AV.cl, AC.cl, List.replicate_succ, List.replicate_zero, List.nodup_nil, List.length_nil, List.length_cons, List.getD_cons_zero, List.getD_cons_succ, ↓reduceIte])) ?_
  rintro ⟨j, hj0, hj, he⟩
  have hw := wS (i := j) (by omega)
  rcases Nat.lt_or_ge j X.length with hlt | hge
  · simp only [↓WP, ↓grdD, ↓grdT, ↓un_dead, ↓binVC, ↓buildVC, ↓sliceVC, WQ, WN, Int.reduceToNat, renl, cll, rent, clt, ↓reduceIte, Nat.reduceLeDiff, Nat.reduceEqDiff, Nat.reduceLT, reduceCtorEq, List.append_nil, Nat.reduceAdd, Nat.reduceSub, Nat.reduceBEq, forall_const, implies_true, cond_true, cond_false, AV.ren, AC.ren, AV.cl, AC.cl, eq_self, List.all_cons, List.all_nil, AV.eqv, AC.eqv, eqvl, eqvt, Sl.eqv, List.map_append, List.length_map, List.length_append, List.length_replicate, List.length_set, List.map_replicate, nilVC, sd_22, el_22, sz_3, dlt hlt, hw, hM, hf, hget j hlt]
    repeat refine ⟨by omega, ?_⟩
    have hd : (X.drop (q + 1)).getD (j - (q + 1)) default = X.getD j default := by
      rw [getD_of_lt (by rw [List.length_drop]; omega), getD_of_lt hlt, List.getElem_drop]
      congr 1; omega
    refine ⟨fun h1 => ?_, fun h1 => ?_⟩
    · have := again_hit hj0 hlt he (of_decide_eq_true h1)
      rw [this]
    · refine ⟨⟨j + 1, by omega, hlt, ?_⟩, Le_intro [] (by simp [WL, WNL, swA_new, swA_ne, nest_sw_ne, mapLL, List.mem_cons, Nat.reduceAdd, Nat.reduceLT, Nat.reduceLeDiff, Nat.reduceEqDiff, okU, List.nodup_cons, List.not_mem_nil, toT, toL, toO, keysO, renl, rent, cll, clt, eq_self, AV.eqv, AC.eqv, eqvl, eqvt, Sl.eqv, rowsLe, mapLL, rowsCl, List.map_append, List.length_map, List.length_append, List.length_set, List.map_replicate, rowG, List.getElem?_cons_zero, List.getElem?_cons_succ, List.getElem?_nil, List.append_nil, List.nil_append, List.cons_append, ghosts, St.gh, Option.some.injEq, implies_true, setT, AV.ren, AC.ren, AV.cl, AC.cl, List.replicate_succ, List.replicate_zero, List.nodup_nil, List.length_nil, List.length_cons, List.getD_cons_zero, List.getD_cons_succ, ↓reduceIte]), by show X.length - (j + 1) < X.length - j; omega⟩
      rw [show j + 1 - (q + 1) = (j - (q + 1)) + 1 by omega]
      exact clear_succ he (by rw [hd]; exact h1)
  · obtain rfl : j = X.length := by omega
    simp only [↓WP, ↓grdD, ↓grdT, ↓un_dead, ↓binVC, ↓buildVC, ↓sliceVC, WQ, WN, Int.reduceToNat, renl, cll, rent, clt, ↓reduceIte, Nat.reduceLeDiff, Nat.reduceEqDiff, Nat.reduceLT, reduceCtorEq, List.append_nil, Nat.reduceAdd, Nat.reduceSub, Nat.reduceBEq, forall_const, implies_true, cond_true, cond_false, AV.ren, AC.ren, AV.cl, AC.cl, eq_self, List.all_cons, List.all_nil, AV.eqv, AC.eqv, eqvl, eqvt, Sl.eqv, List.map_append, List.length_map, List.length_append, List.length_replicate, List.length_set, List.map_replicate, nilVC, sd_22, el_22, sz_3, dge hge, hw]
    rw [again_miss he]
def c_spec_FaultsBest : Contract := ⟨15, fun args M => match args with
  | [.c (.sl a n _), .c (.int .i64 f)] => .pure (RowOk Int a n (M a.r)) (I (cntF false (vicB (row Int a n (M a.r))) (row Int a n (M a.r)) f))
  | _ => .bad⟩
theorem ok_spec_FaultsBest : fnP Try.prog c_spec_FaultsBest.f = true ∧ ∀ args M, (c_spec_FaultsBest.sp args M).OK Try.prog c_spec_FaultsBest.f args M := by
  refine ⟨fp_15, fun args M => ?_⟩
  unfold c_spec_FaultsBest
  dsimp only
  split
  case h_2 => trivial
  rename_i a n c f
  intro hrow
  obtain ⟨hs, X, hX, rfl, hat⟩ := hrow.x
  rw [hX]
  refine goIn hf_15 rfl (nt := 87) rfl (rs := [.tmp 4]) rfl (C := [c_spec_l35Ok, c_spec_l35At, c_spec_l35Again, c_spec_l35Without]) ⟨(by first | exact .inl ok_spec_l35Ok | exact ok_spec_l35Ok), (by first | exact .inl ok_spec_l35At | exact ok_spec_l35At), (by first | exact .inl ok_spec_l35Again | exact ok_spec_l35Again), (by first | exact .inl ok_spec_l35Without | exact ok_spec_l35Without), trivial⟩ (q := fun f => [].contains f) ⟨fun h => absurd h (by decide), fun h => absurd h (by decide), fun h => absurd h (by decide), fun h => absurd h (by decide), trivial⟩ mixed (O := ots [(17, otl [0, 1, 2, 3, 4, 5, 6, 7, 8, 9, 10, 11, 12, 13, 14, 15, 16, 17, 18] .nil)]) (by kernel_rfl) ?_
  by_cases hok : faultsOk X f
  · have hX200 : X.length ≤ 200 := hok.1
    have hf1 : 1 ≤ f ∧ f ≤ 20 := hok.2.1
    have hcn : cntF false (vicB X) X f = runN false (vicB X) f X X.length := if_pos hok
    rw [hcn]
    simp only [↓WP, ↓grdD, ↓grdT, ↓un_dead, ↓binVC, ↓buildVC, ↓sliceVC, WQ, WN, Int.reduceToNat, renl, cll, rent, clt, ↓reduceIte, Nat.reduceLeDiff, Nat.reduceEqDiff, Nat.reduceLT, reduceCtorEq, List.append_nil, Nat.reduceAdd, Nat.reduceSub, Nat.reduceBEq, forall_const, implies_true, cond_true, cond_false, AV.ren, AC.ren, AV.cl, AC.cl, eq_self, List.all_cons, List.all_nil, AV.eqv, AC.eqv, eqvl, eqvt, Sl.eqv, List.map_append, List.length_map, List.length_append, List.length_replicate, List.length_set, List.map_replicate, nilVC, el_22, zr_3, sd_22, sz_3, c_spec_l35Ok, c_spec_l35At, c_spec_l35Again, c_spec_l35Without, hX, decide_eq_true hok]
    refine ⟨hrow, by omega, ?_⟩
    refine loopI (J := {p : Nat × Nat // p.1 ≤ X.length ∧ (runL false (vicB X) f X p.1).length ≤ p.2}) (fun p => ⟨slots 87 [(0, .c (.sl a.up X.length c)), (1, I f), (5, .c (.sl ⟨.loc 0, 0, 0, 0⟩ (runL false (vicB X) f X p.1.1).length p.1.2)), (6, I (runN false (vicB X) f X p.1.1)), (7, I p.1.1)], M, [], [rowG true 3 p.1.2 (runL false (vicB X) f X p.1.1)]⟩) (fun p => X.length - p.1.1) ⟨(0, 0), by omega, by exact Nat.le_refl _⟩ (Le.trans (Le_gh _ [(3, 1)]) (Le_intro [0] (by simp only [WL, WNL, swA_new, swA_ne, nest_sw_ne, mapLL, List.mem_cons, Nat.reduceAdd, Nat.reduceLT, Nat.reduceLeDiff, Nat.reduceEqDiff, okU, List.nodup_cons, List.not_mem_nil, toT, toL, toO, keysO, renl, rent, cll, clt, eq_self, AV.eqv, AC.eqv, eqvl, eqvt, Sl.eqv, rowsLe, mapLL, rowsCl, List.map_append, List.length_map, List.length_append, List.length_set, List.map_replicate, rowG, List.getElem?_cons_zero, List.getElem?_cons_succ, List.getElem?_nil, List.append_nil, List.nil_append, List.cons_append, ghosts, St.gh, Option.some.injEq, implies_true, setT, AV.ren, AC.ren, AV.cl, AC.cl, List.replicate_succ, List.replicate_zero, List.nodup_nil, List.length_nil, List.length_cons, List.getD_cons_zero, List.getD_cons_succ, ↓reduceIte, runL, runN]; try simp))) ?_
    rintro ⟨⟨i, k⟩, hi, hk⟩
    dsimp only at hi hk
    have hw := wS (i := i) (by omega)
    have hll := runL_len (rc := false) (vic := vicB X) (f := f) (X := X) hf1.1 (fun l i h => vicB_lt X l i h) i
    have hnn := runN_le (rc := false) (vic := vicB X) (f := f) (X := X) i
    have hwn := wS (i := runN false (vicB X) f X i) (by omega)
    rcases Nat.lt_or_ge i X.length with hlt | hge
    · obtain ⟨own, ty, cnt, cap, len, get, hM, hf, hic, hkn, hget⟩ := hat (by omega)
      obtain ⟨L, hL⟩ : ∃ L, L = runL false (vicB X) f X i := ⟨_, rfl⟩
      rw [← hL] at hk hll
      have hjr := at1_range L (X.getD i default)
      by_cases hhit : 0 ≤ at1 L (X.getD i default)
      · have hN := runN_hit (rc := false) (vic := vicB X) (f := f) (X := X) (i := i) (by rw [← hL]; exact hhit)
        have hS := runL_stay (vic := vicB X) (f := f) (X := X) (i := i) (by rw [← hL]; exact hhit)
        rw [← hL] at hS
        simp only [↓WP, ↓grdD, ↓grdT, ↓un_dead, ↓binVC, ↓buildVC, ↓sliceVC, WQ, WN, Int.reduceToNat, renl, cll, rent, clt, ↓reduceIte, Nat.reduceLeDiff, Nat.reduceEqDiff, Nat.reduceLT, reduceCtorEq, List.append_nil, Nat.reduceAdd, Nat.reduceSub, Nat.reduceBEq, forall_const, implies_true, cond_true, cond_false, AV.ren, AC.ren, AV.cl, AC.cl, eq_self, List.all_cons, List.all_nil, AV.eqv, AC.eqv, eqvl, eqvt, Sl.eqv, List.map_append, List.length_map, List.length_append, List.length_replicate, List.length_set, List.map_replicate, nilVC, el_22, zr_3, sd_22, sz_3, c_spec_l35Ok, c_spec_l35At, c_spec_l35Again, c_spec_l35Without, dlt hlt, hw, hM, hf, hget i hlt, ← hL, decide_eq_true hhit]
        repeat' (first | with_reducible refine And.intro ?_ ?_ | intro _)
        all_goals try omega
        all_goals try exact .inr trivial
        exact ⟨⟨(i + 1, k), hlt, by rw [hS]; assumption⟩, Le_intro [0] (by simp only [WL, WNL, swA_new, swA_ne, nest_sw_ne, mapLL, List.mem_cons, Nat.reduceAdd, Nat.reduceLT, Nat.reduceLeDiff, Nat.reduceEqDiff, okU, List.nodup_cons, List.not_mem_nil, toT, toL, toO, keysO, renl, rent, cll, clt, eq_self, AV.eqv, AC.eqv, eqvl, eqvt, Sl.eqv, rowsLe, mapLL, rowsCl, List.map_append, List.length_map, List.length_append, List.length_set, List.map_replicate, rowG, List.getElem?_cons_zero, List.getElem?_cons_succ, List.getElem?_nil, List.append_nil, List.nil_append, List.cons_append, ghosts, St.gh, Option.some.injEq, implies_true, setT, AV.ren, AC.ren, AV.cl, AC.cl, List.replicate_succ, List.replicate_zero, List.nodup_nil, List.length_nil, List.length_cons, List.getD_cons_zero, List.getD_cons_succ, ↓reduceIte, hS, hN]; try simp), by show X.length - (i + 1) < X.length - i; omega⟩
      · have hN := runN_miss (rc := false) (vic := vicB X) (f := f) (X := X) (i := i) (by rw [← hL]; exact hhit)
        by_cases hfull : f ≤ L.length
        · have hS := runL_full (rc := false) (vic := vicB X) (f := f) (X := X) (i := i) (by rw [← hL]; exact hhit) (by rw [← hL]; exact hfull)
          rw [← hL, vicB_again hlt hhit] at hS
          have hrow' := hrow
          have hX' := hX
          rw [hM] at hrow' hX'
          have hXu : row Int a.up X.length (some (Rg.arr own ty 1 cnt cap len fun i k => List.map AC.up (get i k))) = X := (row_up (α := Int) (a := a) (n := X.length) (o := some (.arr own ty (Cel.sz Int) cnt cap len get))).trans hX'
          have hRu : RowOk Int a.up X.length (some (Rg.arr own ty 1 cnt cap len fun i k => List.map AC.up (get i k))) := (RowOk_up (α := Int) (a := a) (n := X.length) (o := some (.arr own ty (Cel.sz Int) cnt cap len get))).mpr hrow'
          simp only [↓WP, ↓grdD, ↓grdT, ↓un_dead, ↓binVC, ↓buildVC, ↓sliceVC, WQ, WN, Int.reduceToNat, renl, cll, rent, clt, ↓reduceIte, Nat.reduceLeDiff, Nat.reduceEqDiff, Nat.reduceLT, reduceCtorEq, List.append_nil, Nat.reduceAdd, Nat.reduceSub, Nat.reduceBEq, forall_const, implies_true, cond_true, cond_false, AV.ren, AC.ren, AV.cl, AC.cl, eq_self, List.all_cons, List.all_nil, AV.eqv, AC.eqv, eqvl, eqvt, Sl.eqv, List.map_append, List.length_map, List.length_append, List.length_replicate, List.length_set, List.map_replicate, nilVC, el_22, zr_3, sd_22, sz_3, c_spec_l35Ok, c_spec_l35At, c_spec_l35Again, c_spec_l35Without, dlt hlt, hw, hwn, hM, hf, hget i hlt, ← hL, decide_eq_false hhit, decide_eq_true hfull]
          repeat' (first | with_reducible refine And.intro ?_ ?_ | intro _)
          all_goals try omega
          all_goals try exact .inr trivial
          refine loopI (J := {j : Nat // 1 ≤ j ∧ j ≤ L.length}) (fun j => ⟨slots 87 [(0, .c (.sl a.up X.length c)), (1, I f), (5, .c (.sl ⟨.loc 0, 0, 0, 0⟩ L.length k)), (6, I (runN false (vicB X) f X i + 1 : Nat)), (7, I i), (8, I (wst (again X i) L j.1)), (9, I j.1)], M, [], [rowG true 3 k L]⟩) (fun j => L.length - j.1) ⟨1, Nat.le_refl _, by omega⟩ (Le_intro [0] (by simp only [WL, WNL, swA_new, swA_ne, nest_sw_ne, mapLL, List.mem_cons, Nat.reduceAdd, Nat.reduceLT, Nat.reduceLeDiff, Nat.reduceEqDiff, okU, List.nodup_cons, List.not_mem_nil, toT, toL, toO, keysO, renl, rent, cll, clt, eq_self, AV.eqv, AC.eqv, eqvl, eqvt, Sl.eqv, rowsLe, mapLL, rowsCl, List.map_append, List.length_map, List.length_append, List.length_set, List.map_replicate, rowG, List.getElem?_cons_zero, List.getElem?_cons_succ, List.getElem?_nil, List.append_nil, List.nil_append, List.cons_append, ghosts, St.gh, Option.some.injEq, implies_true, setT, AV.ren, AC.ren, AV.cl, AC.cl, List.replicate_succ, List.replicate_zero, List.nodup_nil, List.length_nil, List.length_cons, List.getD_cons_zero, List.getD_cons_succ, ↓reduceIte, wst]; try simp)) ?_
          rintro ⟨j, hj0, hj⟩
          have hwj := wS (i := j) (by omega)
          have hwl := wst_lt (again X i) L j hj0
          obtain ⟨w, hwd⟩ : ∃ w, w = wst (again X i) L j := ⟨_, rfl⟩
          rw [← hwd] at hwl
          rcases Nat.lt_or_ge j L.length with hjlt | hjge
          · have hgj : (List.map enc L).getD j [] = enc (L.getD j default) := getD_enc _ _ hjlt
            have hgw : (List.map enc L).getD w [] = enc (L.getD w default) := getD_enc _ _ (by omega)
            simp only [↓WP, ↓grdD, ↓grdT, ↓un_dead, ↓binVC, ↓buildVC, ↓sliceVC, WQ, WN, Int.reduceToNat, renl, cll, rent, clt, ↓reduceIte, Nat.reduceLeDiff, Nat.reduceEqDiff, Nat.reduceLT, reduceCtorEq, List.append_nil, Nat.reduceAdd, Nat.reduceSub, Nat.reduceBEq, forall_const, implies_true, cond_true, cond_false, AV.ren, AC.ren, AV.cl, AC.cl, eq_self, List.all_cons, List.all_nil, AV.eqv, AC.eqv, eqvl, eqvt, Sl.eqv, List.map_append, List.length_map, List.length_append, List.length_replicate, List.length_set, List.map_replicate, nilVC, el_22, zr_3, sd_22, sz_3, c_spec_l35Ok, c_spec_l35At, c_spec_l35Again, c_spec_l35Without, dlt hjlt, hwj, hM, hf, ← hwd, hgj, hgw, hXu, hRu]
            simp only [WB, eq_self]
            repeat' (first | with_reducible refine And.intro ?_ ?_ | intro _)
            all_goals try omega
            · rename_i hc
              have hk2 := wst_take (key := again X i) (l := L) (k := j) (by omega) (by rw [← hwd]; exact hc)
              exact ⟨⟨j + 1, by omega, hjlt⟩, Le_intro [0] (by simp only [WL, WNL, swA_new, swA_ne, nest_sw_ne, mapLL, List.mem_cons, Nat.reduceAdd, Nat.reduceLT, Nat.reduceLeDiff, Nat.reduceEqDiff, okU, List.nodup_cons, List.not_mem_nil, toT, toL, toO, keysO, renl, rent, cll, clt, eq_self, AV.eqv, AC.eqv, eqvl, eqvt, Sl.eqv, rowsLe, mapLL, rowsCl, List.map_append, List.length_map, List.length_append, List.length_set, List.map_replicate, rowG, List.getElem?_cons_zero, List.getElem?_cons_succ, List.getElem?_nil, List.append_nil, List.nil_append, List.cons_append, ghosts, St.gh, Option.some.injEq, implies_true, setT, AV.ren, AC.ren, AV.cl, AC.cl, List.replicate_succ, List.replicate_zero, List.nodup_nil, List.length_nil, List.length_cons, List.getD_cons_zero, List.getD_cons_succ, ↓reduceIte, hk2]; try simp), by show L.length - (j + 1) < L.length - j; omega⟩
            · rename_i hc
              have hk2 := wst_keep (key := again X i) (l := L) (k := j) (by omega) (by rw [← hwd]; unfold worse; omega)
              rw [← hwd] at hk2
              exact ⟨⟨j + 1, by omega, hjlt⟩, Le_intro [0] (by simp only [WL, WNL, swA_new, swA_ne, nest_sw_ne, mapLL, List.mem_cons, Nat.reduceAdd, Nat.reduceLT, Nat.reduceLeDiff, Nat.reduceEqDiff, okU, List.nodup_cons, List.not_mem_nil, toT, toL, toO, keysO, renl, rent, cll, clt, eq_self, AV.eqv, AC.eqv, eqvl, eqvt, Sl.eqv, rowsLe, mapLL, rowsCl, List.map_append, List.length_map, List.length_append, List.length_set, List.map_replicate, rowG, List.getElem?_cons_zero, List.getElem?_cons_succ, List.getElem?_nil, List.append_nil, List.nil_append, List.cons_append, ghosts, St.gh, Option.some.injEq, implies_true, setT, AV.ren, AC.ren, AV.cl, AC.cl, List.replicate_succ, List.replicate_zero, List.nodup_nil, List.length_nil, List.length_cons, List.getD_cons_zero, List.getD_cons_succ, ↓reduceIte, hk2]; try simp), by show L.length - (j + 1) < L.length - j; omega⟩
          · obtain rfl : j = L.length := by omega
            have hwo := wo_len (l := L) (j := w) (by omega)
            have hput : putAt (List.map enc (wo L w)) (L.length - 1) [[AC.int .i64 (X.getD i default)]] = List.map enc (wo L w) ++ [[AC.int .i64 (X.getD i default)]] := putAt_end (by rw [List.length_map, hwo])
            have hwi : win (fun k => (List.map enc (wo L w)).getD k []) (L.length - 1) = List.map enc (wo L w) := win_whole (by rw [List.length_map, hwo])
            rw [← hwd] at hS
            simp only [↓WP, ↓grdD, ↓grdT, ↓un_dead, ↓binVC, ↓buildVC, ↓sliceVC, WQ, WN, Int.reduceToNat, renl, cll, rent, clt, ↓reduceIte, Nat.reduceLeDiff, Nat.reduceEqDiff, Nat.reduceLT, reduceCtorEq, List.append_nil, Nat.reduceAdd, Nat.reduceSub, Nat.reduceBEq, forall_const, implies_true, cond_true, cond_false, AV.ren, AC.ren, AV.cl, AC.cl, eq_self, List.all_cons, List.all_nil, AV.eqv, AC.eqv, eqvl, eqvt, Sl.eqv, List.map_append, List.length_map, List.length_append, List.length_replicate, List.length_set, List.map_replicate, nilVC, el_22, zr_3, sd_22, sz_3, c_spec_l35Ok, c_spec_l35At, c_spec_l35Again, c_spec_l35Without, dge hjge, hwj, hw, hM, hf, hget i hlt, ← hwd, hwo, hput, hwi]
            repeat' (first | with_reducible refine And.intro ?_ ?_ | intro _)
            all_goals try omega
            all_goals try exact .inr trivial
            all_goals
              rename_i k2 h1 h2
              first
              | (refine ⟨⟨(i + 1, k2), hlt, by rw [hS, List.length_append, hwo]; simp; omega⟩, Le_intro [1] ?_, by show X.length - (i + 1) < X.length - i; omega⟩; simp only [WL, WNL, swA_new, swA_ne, nest_sw_ne, mapLL, List.mem_cons, Nat.reduceAdd, Nat.reduceLT, Nat.reduceLeDiff, Nat.reduceEqDiff, okU, List.nodup_cons, List.not_mem_nil, toT, toL, toO, keysO, renl, rent, cll, clt, eq_self, AV.eqv, AC.eqv, eqvl, eqvt, Sl.eqv, rowsLe, mapLL, rowsCl, List.map_append, List.length_map, List.length_append, List.length_set, List.map_replicate, rowG, List.getElem?_cons_zero, List.getElem?_cons_succ, List.getElem?_nil, List.append_nil, List.nil_append, List.cons_append, ghosts, St.gh, Option.some.injEq, implies_true, setT, AV.ren, AC.ren, AV.cl, AC.cl, List.replicate_succ, List.replicate_zero, List.nodup_nil, List.length_nil, List.length_cons, List.getD_cons_zero, List.getD_cons_succ, ↓reduceIte, hS, hN, hwo]; (try simp); done)
              | (refine ⟨⟨(i + 1, k2), hlt, by rw [hS, List.length_append, hwo]; simp; omega⟩, Le_intro [2] ?_, by show X.length - (i + 1) < X.length - i; omega⟩; simp only [WL, WNL, swA_new, swA_ne, nest_sw_ne, mapLL, List.mem_cons, Nat.reduceAdd, Nat.reduceLT, Nat.reduceLeDiff, Nat.reduceEqDiff, okU, List.nodup_cons, List.not_mem_nil, toT, toL, toO, keysO, renl, rent, cll, clt, eq_self, AV.eqv, AC.eqv, eqvl, eqvt, Sl.eqv, rowsLe, mapLL, rowsCl, List.map_append, List.length_map, List.length_append, List.length_set, List.map_replicate, rowG, List.getElem?_cons_zero, List.getElem?_cons_succ, List.getElem?_nil, List.append_nil, List.nil_append, List.cons_append, ghosts, St.gh, Option.some.injEq, implies_true, setT, AV.ren, AC.ren, AV.cl, AC.cl, List.replicate_succ, List.replicate_zero, List.nodup_nil, List.length_nil, List.length_cons, List.getD_cons_zero, List.getD_cons_succ, ↓reduceIte, hS, hN, hwo]; (try simp); done)
              | (refine ⟨⟨(i + 1, k2), hlt, by rw [hS, List.length_append, hwo]; simp; omega⟩, Le_intro [3] ?_, by show X.length - (i + 1) < X.length - i; omega⟩; simp only [WL, WNL, swA_new, swA_ne, nest_sw_ne, mapLL, List.mem_cons, Nat.reduceAdd, Nat.reduceLT, Nat.reduceLeDiff, Nat.reduceEqDiff, okU, List.nodup_cons, List.not_mem_nil, toT, toL, toO, keysO, renl, rent, cll, clt, eq_self, AV.eqv, AC.eqv, eqvl, eqvt, Sl.eqv, rowsLe, mapLL, rowsCl, List.map_append, List.length_map, List.length_append, List.length_set, List.map_replicate, rowG, List.getElem?_cons_zero, List.getElem?_cons_succ, List.getElem?_nil, List.append_nil, List.nil_append, List.cons_append, ghosts, St.gh, Option.some.injEq, implies_true, setT, AV.ren, AC.ren, AV.cl, AC.cl, List.replicate_succ, List.replicate_zero, List.nodup_nil, List.length_nil, List.length_cons, List.getD_cons_zero, List.getD_cons_succ, ↓reduceIte, hS, hN, hwo]; (try simp); done)
        · have hS := runL_room (rc := false) (vic := vicB X) (f := f) (X := X) (i := i) (by rw [← hL]; exact hhit) (by rw [← hL]; exact hfull)
          rw [← hL] at hS
          have hput : putAt (List.map enc L) L.length [[AC.int .i64 (X.getD i default)]] = List.map enc L ++ [[AC.int .i64 (X.getD i default)]] := putAt_end (by rw [List.length_map])
          simp only [↓WP, ↓grdD, ↓grdT, ↓un_dead, ↓binVC, ↓buildVC, ↓sliceVC, WQ, WN, Int.reduceToNat, renl, cll, rent, clt, ↓reduceIte, Nat.reduceLeDiff, Nat.reduceEqDiff, Nat.reduceLT, reduceCtorEq, List.append_nil, Nat.reduceAdd, Nat.reduceSub, Nat.reduceBEq, forall_const, implies_true, cond_true, cond_false, AV.ren, AC.ren, AV.cl, AC.cl, eq_self, List.all_cons, List.all_nil, AV.eqv, AC.eqv, eqvl, eqvt, Sl.eqv, List.map_append, List.length_map, List.length_append, List.length_replicate, List.length_set, List.map_replicate, nilVC, el_22, zr_3, sd_22, sz_3, c_spec_l35Ok, c_spec_l35At, c_spec_l35Again, c_spec_l35Without, dlt hlt, hw, hwn, hM, hf, hget i hlt, ← hL, decide_eq_false hhit, decide_eq_false hfull, hput]
          repeat' (first | with_reducible refine And.intro ?_ ?_ | intro _)
          all_goals try omega
          all_goals try exact .inr trivial
          · exact ⟨⟨(i + 1, k), hlt, by rw [hS, List.length_append]; simp; omega⟩, Le_intro [0] (by simp only [WL, WNL, swA_new, swA_ne, nest_sw_ne, mapLL, List.mem_cons, Nat.reduceAdd, Nat.reduceLT, Nat.reduceLeDiff, Nat.reduceEqDiff, okU, List.nodup_cons, List.not_mem_nil, toT, toL, toO, keysO, renl, rent, cll, clt, eq_self, AV.eqv, AC.eqv, eqvl, eqvt, Sl.eqv, rowsLe, mapLL, rowsCl, List.map_append, List.length_map, List.length_append, List.length_set, List.map_replicate, rowG, List.getElem?_cons_zero, List.getElem?_cons_succ, List.getElem?_nil, List.append_nil, List.nil_append, List.cons_append, ghosts, St.gh, Option.some.injEq, implies_true, setT, AV.ren, AC.ren, AV.cl, AC.cl, List.replicate_succ, List.replicate_zero, List.nodup_nil, List.length_nil, List.length_cons, List.getD_cons_zero, List.getD_cons_succ, ↓reduceIte, hS, hN]; try simp), by show X.length - (i + 1) < X.length - i; omega⟩
          · rename_i k2 h1 h2
            exact ⟨⟨(i + 1, k2), hlt, by rw [hS, List.length_append]; simp; omega⟩, Le_intro [2] (by simp only [WL, WNL, swA_new, swA_ne, nest_sw_ne, mapLL, List.mem_cons, Nat.reduceAdd, Nat.reduceLT, Nat.reduceLeDiff, Nat.reduceEqDiff, okU, List.nodup_cons, List.not_mem_nil, toT, toL, toO, keysO, renl, rent, cll, clt, eq_self, AV.eqv, AC.eqv, eqvl, eqvt, Sl.eqv, rowsLe, mapLL, rowsCl, List.map_append, List.length_map, List.length_append, List.length_set, List.map_replicate, rowG, List.getElem?_cons_zero, List.getElem?_cons_succ, List.getElem?_nil, List.append_nil, List.nil_append, List.cons_append, ghosts, St.gh, Option.some.injEq, implies_true, setT, AV.ren, AC.ren, AV.cl, AC.cl, List.replicate_succ, List.replicate_zero, List.nodup_nil, List.length_nil, List.length_cons, List.getD_cons_zero, List.getD_cons_succ, ↓reduceIte, hS, hN]; try simp), by show X.length - (i + 1) < X.length - i; omega⟩
    · obtain rfl : i = X.length := by omega
      simp only [↓WP, ↓grdD, ↓grdT, ↓un_dead, ↓binVC, ↓buildVC, ↓sliceVC, WQ, WN, Int.reduceToNat, renl, cll, rent, clt, ↓reduceIte, Nat.reduceLeDiff, Nat.reduceEqDiff, Nat.reduceLT, reduceCtorEq, List.append_nil, Nat.reduceAdd, Nat.reduceSub, Nat.reduceBEq, forall_const, implies_true, cond_true, cond_false, AV.ren, AC.ren, AV.cl, AC.cl, eq_self, List.all_cons, List.all_nil, AV.eqv, AC.eqv, eqvl, eqvt, Sl.eqv, List.map_append, List.length_map, List.length_append, List.length_replicate, List.length_set, List.map_replicate, nilVC, el_22, zr_3, sd_22, sz_3, c_spec_l35Ok, c_spec_l35At, c_spec_l35Again, c_spec_l35Without, dge hge, hw]
  · have hcn : cntF false (vicB X) X f = 0 := if_neg hok
    rw [hcn]
    simp only [↓WP, ↓grdD, ↓grdT, ↓un_dead, ↓binVC, ↓buildVC, ↓sliceVC, WQ, WN, Int.reduceToNat, renl, cll, rent, clt, ↓reduceIte, Nat.reduceLeDiff, Nat.reduceEqDiff, Nat.reduceLT, reduceCtorEq, List.append_nil, Nat.reduceAdd, Nat.reduceSub, Nat.reduceBEq, forall_const, implies_true, cond_true, cond_false, AV.ren, AC.ren, AV.cl, AC.cl, eq_self, List.all_cons, List.all_nil, AV.eqv, AC.eqv, eqvl, eqvt, Sl.eqv, List.map_append, List.length_map, List.length_append, List.length_replicate, List.length_set, List.map_replicate, nilVC, el_22, zr_3, sd_22, sz_3, c_spec_l35Ok, c_spec_l35At, c_spec_l35Again, c_spec_l35Without, hX, decide_eq_false hok]
    exact hrow
def c_laws_FnExactFaultsFifo : Contract := ⟨3, fun args M => match args with
  | [.c (.sl a n c), .c (.int .i64 _)] => .pure ((n ≤ 9223372036854775807 ∧ n ≤ c) ∧ (n ≤ 4294967296 → RowOk Int a n (M a.r))) (Eng.B true)
  | _ => .bad⟩
theorem ok_laws_FnExactFaultsFifo : fnP Try.prog c_laws_FnExactFaultsFifo.f = true ∧ ∀ args M, (c_laws_FnExactFaultsFifo.sp args M).OK Try.prog c_laws_FnExactFaultsFifo.f args M := by
  refine ⟨fp_3, fun args M => ?_⟩
  unfold c_laws_FnExactFaultsFifo
  dsimp only
  split
  case h_2 => trivial
  rename_i a n c f
  rintro ⟨⟨hn, hc⟩, hrow⟩
  refine goIn hf_3 rfl (nt := 28) rfl (rs := [.tmp 4]) rfl (C := [c_laws_toIntS, c_spec_FaultsFifo, c_impl_FaultsFifo, c_laws_eqIntS]) ⟨(by first | exact .inl ok_laws_toIntS | exact ok_laws_toIntS), (by first | exact .inl ok_spec_FaultsFifo | exact ok_spec_FaultsFifo), (by first | exact .inl ok_impl_FaultsFifo | exact ok_impl_FaultsFifo), (by first | exact .inl ok_laws_eqIntS | exact ok_laws_eqIntS), trivial⟩ (q := fun _ => false) okQ_none mixed (O := fun _ => .nil) (by kernel_rfl) ?_
  rcases Nat.lt_or_ge 1048576 n with hb | hb
  · simp only [↓WP, ↓grdD, ↓grdT, ↓un_dead, ↓binVC, ↓buildVC, ↓sliceVC, WQ, WN, Int.reduceToNat, renl, cll, rent, clt, ↓reduceIte, Nat.reduceLeDiff, Nat.reduceEqDiff, Nat.reduceLT, reduceCtorEq, List.append_nil, Nat.reduceAdd, Nat.reduceSub, Nat.reduceBEq, forall_const, implies_true, cond_true, cond_false, AV.ren, AC.ren, AV.cl, AC.cl, eq_self, List.all_cons, List.all_nil, AV.eqv, AC.eqv, eqvl, eqvt, Sl.eqv, List.map_append, List.length_map, List.length_append, List.length_replicate, List.length_set, List.map_replicate, nilVC, sd_22, c_laws_toIntS, c_spec_FaultsFifo, c_impl_FaultsFifo, c_laws_eqIntS, if_pos (show (1048576 : Int) < n by omega)]
    simp
    omega
  · have hrow := hrow (by omega)
    have hb2 : n ≤ 4294967296 := by omega
    simp only [↓WP, ↓grdD, ↓grdT, ↓un_dead, ↓binVC, ↓buildVC, ↓sliceVC, WQ, WN, Int.reduceToNat, renl, cll, rent, clt, ↓reduceIte, Nat.reduceLeDiff, Nat.reduceEqDiff, Nat.reduceLT, reduceCtorEq, List.append_nil, Nat.reduceAdd, Nat.reduceSub, Nat.reduceBEq, forall_const, implies_true, cond_true, cond_false, AV.ren, AC.ren, AV.cl, AC.cl, eq_self, List.all_cons, List.all_nil, AV.eqv, AC.eqv, eqvl, eqvt, Sl.eqv, List.map_append, List.length_map, List.length_append, List.length_replicate, List.length_set, List.map_replicate, nilVC, sd_22, c_laws_toIntS, c_spec_FaultsFifo, c_impl_FaultsFifo, c_laws_eqIntS, if_neg (show ¬ (1048576 : Int) < n by omega), hrow]
    simp [hb2]
def c_laws_FnExactFaults : Contract := ⟨4, fun args M => match args with
  | [.c (.sl a n c), .c (.int .i64 _)] => .pure ((n ≤ 9223372036854775807 ∧ n ≤ c) ∧ (n ≤ 4294967296 → RowOk Int a n (M a.r))) (Eng.B true)
  | _ => .bad⟩
theorem ok_laws_FnExactFaults : fnP Try.prog c_laws_FnExactFaults.f = true ∧ ∀ args M, (c_laws_FnExactFaults.sp args M).OK Try.prog c_laws_FnExactFaults.f args M := by
  refine ⟨fp_4, fun args M => ?_⟩
  unfold c_laws_FnExactFaults
  dsimp only
  split
  case h_2 => trivial
  rename_i a n c f
  rintro ⟨⟨hn, hc⟩, hrow⟩
  refine goIn hf_4 rfl (nt := 28) rfl (rs := [.tmp 4]) rfl (C := [c_laws_toIntS, c_spec_Faults, c_impl_Faults, c_laws_eqIntS]) ⟨(by first | exact .inl ok_laws_toIntS | exact ok_laws_toIntS), (by first | exact .inl ok_spec_Faults | exact ok_spec_Faults), (by first | exact .inl ok_impl_Faults | exact ok_impl_Faults), (by first | exact .inl ok_laws_eqIntS | exact ok_laws_eqIntS), trivial⟩ (q := fun _ => false) okQ_none mixed (O := fun _ => .nil) (by kernel_rfl) ?_
  rcases Nat.lt_or_ge 1048576 n with hb | hb
  · simp only [↓WP, ↓grdD, ↓grdT, ↓un_dead, ↓binVC, ↓buildVC, ↓sliceVC, WQ, WN, Int.reduceToNat, renl, cll, rent, clt, ↓reduceIte, Nat.reduceLeDiff, Nat.reduceEqDiff, Nat.reduceLT, reduceCtorEq, List.append_nil, Nat.reduceAdd, Nat.reduceSub, Nat.reduceBEq, forall_const, implies_true, cond_true, cond_false, AV.ren, AC.ren, AV.cl, AC.cl, eq_self, List.all_cons, List.all_nil, AV.eqv, AC.eqv, eqvl, eqvt, Sl.eqv, List.map_append, List.length_map, List.length_append, List.length_replicate, List.length_set, List.map_replicate, nilVC, sd_22, c_laws_toIntS, c_spec_Faults, c_impl_Faults, c_laws_eqIntS, if_pos (show (1048576 : Int) < n by omega)]
    simp
    omega
  · have hrow := hrow (by omega)
    have hb2 : n ≤ 4294967296 := by omega
    simp only [↓WP, ↓grdD, ↓grdT, ↓un_dead, ↓binVC, ↓buildVC, ↓sliceVC, WQ, WN, Int.reduceToNat, renl, cll, rent, clt, ↓reduceIte, Nat.reduceLeDiff, Nat.reduceEqDiff, Nat.reduceLT, reduceCtorEq, List.append_nil, Nat.reduceAdd, Nat.reduceSub, Nat.reduceBEq, forall_const, implies_true, cond_true, cond_false, AV.ren, AC.ren, AV.cl, AC.cl, eq_self, List.all_cons, List.all_nil, AV.eqv, AC.eqv, eqvl, eqvt, Sl.eqv, List.map_append, List.length_map, List.length_append, List.length_replicate, List.length_set, List.map_replicate, nilVC, sd_22, c_laws_toIntS, c_spec_Faults, c_impl_Faults, c_laws_eqIntS, if_neg (show ¬ (1048576 : Int) < n by omega), hrow]
    simp [hb2]
def c_laws_FnExactFaultsBest : Contract := ⟨5, fun args M => match args with
  | [.c (.sl a n c), .c (.int .i64 _)] => .pure ((n ≤ 9223372036854775807 ∧ n ≤ c) ∧ (n ≤ 4294967296 → RowOk Int a n (M a.r))) (Eng.B true)
  | _ => .bad⟩
theorem ok_laws_FnExactFaultsBest : fnP Try.prog c_laws_FnExactFaultsBest.f = true ∧ ∀ args M, (c_laws_FnExactFaultsBest.sp args M).OK Try.prog c_laws_FnExactFaultsBest.f args M := by
  refine ⟨fp_5, fun args M => ?_⟩
  unfold c_laws_FnExactFaultsBest
  dsimp only
  split
  case h_2 => trivial
  rename_i a n c f
  rintro ⟨⟨hn, hc⟩, hrow⟩
  refine goIn hf_5 rfl (nt := 28) rfl (rs := [.tmp 4]) rfl (C := [c_laws_toIntS, c_spec_FaultsBest, c_impl_FaultsBest, c_laws_eqIntS]) ⟨(by first | exact .inl ok_laws_toIntS | exact ok_laws_toIntS), (by first | exact .inl ok_spec_FaultsBest | exact ok_spec_FaultsBest), (by first | exact .inl ok_impl_FaultsBest | exact ok_impl_FaultsBest), (by first | exact .inl ok_laws_eqIntS | exact ok_laws_eqIntS), trivial⟩ (q := fun _ => false) okQ_none mixed (O := fun _ => .nil) (by kernel_rfl) ?_
  rcases Nat.lt_or_ge 1048576 n with hb | hb
  · simp only [↓WP, ↓grdD, ↓grdT, ↓un_dead, ↓binVC, ↓buildVC, ↓sliceVC, WQ, WN, Int.reduceToNat, renl, cll, rent, clt, ↓reduceIte, Nat.reduceLeDiff, Nat.reduceEqDiff, Nat.reduceLT, reduceCtorEq, List.append_nil, Nat.reduceAdd, Nat.reduceSub, Nat.reduceBEq, forall_const, implies_true, cond_true, cond_false, AV.ren, AC.ren, AV.cl, AC.cl, eq_self, List.all_cons, List.all_nil, AV.eqv, AC.eqv, eqvl, eqvt, Sl.eqv, List.map_append, List.length_map, List.length_append, List.length_replicate, List.length_set, List.map_replicate, nilVC, sd_22, c_laws_toIntS, c_spec_FaultsBest, c_impl_FaultsBest, c_laws_eqIntS, if_pos (show (1048576 : Int) < n by omega)]
    simp
    omega
  · have hrow := hrow (by omega)
    have hb2 : n ≤ 4294967296 := by omega
    simp only [↓WP, ↓grdD, ↓grdT, ↓un_dead, ↓binVC, ↓buildVC, ↓sliceVC, WQ, WN, Int.reduceToNat, renl, cll, rent, clt, ↓reduceIte, Nat.reduceLeDiff, Nat.reduceEqDiff, Nat.reduceLT, reduceCtorEq, List.append_nil, Nat.reduceAdd, Nat.reduceSub, Nat.reduceBEq, forall_const, implies_true, cond_true, cond_false, AV.ren, AC.ren, AV.cl, AC.cl, eq_self, List.all_cons, List.all_nil, AV.eqv, AC.eqv, eqvl, eqvt, Sl.eqv, List.map_append, List.length_map, List.length_append, List.length_replicate, List.length_set, List.map_replicate, nilVC, sd_22, c_laws_toIntS, c_spec_FaultsBest, c_impl_FaultsBest, c_laws_eqIntS, if_neg (show ¬ (1048576 : Int) < n by omega), hrow]
    simp [hb2]
end Go.Eng.T
