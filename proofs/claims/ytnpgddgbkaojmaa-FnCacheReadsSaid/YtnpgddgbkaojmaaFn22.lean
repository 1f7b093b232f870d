/- cache: faults, as they are programmed. -/
import Derived.Test.YtnpgddgbkaojmaaFn21
set_option linter.unusedVariables false
set_option linter.unusedSimpArgs false
set_option linter.unusedSectionVars false
namespace Go.Eng.T
open Go.Proofs
open Cel (enc dec)
set_option maxRecDepth 100000
set_option maxHeartbeats 8000000
def c_slices_Index_int : Contract := ⟨75, fun args M => match args with
  | [.c (.sl a n _), .c (.int .i64 v)] => .pure (RowOk Int a n (M a.r)) (I (idx (fun x => decide (x = v)) (row Int a n (M a.r))))
  | _ => .bad⟩
theorem ok_slices_Index_int : fnP Try.prog c_slices_Index_int.f = true ∧ ∀ args M, (c_slices_Index_int.sp args M).OK Try.prog c_slices_Index_int.f args M := by
  refine ⟨fp_75, fun args M => ?_⟩
  unfold c_slices_Index_int
  dsimp only
  split
  case h_2 => trivial
  rename_i a n ca v
  intro ha
  obtain ⟨hs, X, hX, rfl, hat⟩ := ha.x
  rw [hX]
  refine goIn hf_75 rfl (nt := 19) rfl (rs := [.tmp 4]) rfl (C := []) trivial (q := fun _ => false) okQ_none mixed (O := fun _ => .nil) (by kernel_rfl) ?_
  simp only [↓WP, ↓grdD, ↓grdT, ↓un_dead, ↓binVC, ↓buildVC, ↓sliceVC, WQ, WN, Int.reduceToNat, renl, cll, rent, clt, ↓reduceIte, Nat.reduceLeDiff, Nat.reduceEqDiff, Nat.reduceLT, reduceCtorEq, List.append_nil, Nat.reduceAdd, Nat.reduceSub, Nat.reduceBEq, forall_const, implies_true, cond_true, cond_false, AV.ren, AC.ren, AV.cl, AC.cl, eq_self, List.all_cons, List.all_nil, AV.eqv, AC.eqv, eqvl, eqvt, Sl.eqv, List.map_append, List.length_map, List.length_append, List.length_replicate, List.length_set, List.map_replicate, nilVC, sd_49, el_49, sz_3]
  refine loopI (J := {i : Nat // i ≤ X.length ∧ clear (fun x => decide (x = v)) X i}) (fun i => ⟨slots 19 [(0, .c (.sl a.up X.length ca)), (1, I v), (7, I X.length), (8, I i.1)], M, [], []⟩) (fun i => X.length - i.1) ⟨0, by omega, clear_zero _ _⟩ (Le_intro [] (by simp [WL, WNL, swA_new, swA_ne, nest_sw_ne, mapLL, List.mem_cons, Nat.reduceAdd, Nat.reduceLT, Nat.reduceLeDiff, Nat.reduceEqDiff, okU, List.nodup_cons, List.not_mem_nil, toT, toL, toO, keysO, renl, rent, cll, clt, eq_self, AV.eqv, AC.eqv, eqvl, eqvt, Sl.eqv, rowsLe, mapLL, rowsCl, List.map_append, List.length_map, List.length_append, List.length_set, List.map_replicate, rowG, List.getElem?_cons_zero, List.getElem?_cons_succ, List.getElem?_nil, List.append_nil, List.nil_append, List.cons_append, ghosts, St.gh, Option.some.injEq, implies_true, setT, AV.ren, AC.ren, AV.cl, AC.cl, List.replicate_succ, List.replicate_zero, List.nodup_nil, List.length_nil, List.length_cons, List.getD_cons_zero, List.getD_cons_succ, ↓reduceIte])) ?_
  rintro ⟨i, hi, he⟩
  have hw := wS (i := i) (by omega)
  rcases Nat.lt_or_ge i X.length with hlt | hge
  · obtain ⟨own, ty, cnt, cap, len, get, hM, hf, hic, hkn, hget⟩ := hat (by omega)
    simp only [↓WP, ↓grdD, ↓grdT, ↓un_dead, ↓binVC, ↓buildVC, ↓sliceVC, WQ, WN, Int.reduceToNat, renl, cll, rent, clt, ↓reduceIte, Nat.reduceLeDiff, Nat.reduceEqDiff, Nat.reduceLT, reduceCtorEq, List.append_nil, Nat.reduceAdd, Nat.reduceSub, Nat.reduceBEq, forall_const, implies_true, cond_true, cond_false, AV.ren, AC.ren, AV.cl, AC.cl, eq_self, List.all_cons, List.all_nil, AV.eqv, AC.eqv, eqvl, eqvt, Sl.eqv, List.map_append, List.length_map, List.length_append, List.length_replicate, List.length_set, List.map_replicate, nilVC, sd_49, el_49, sz_3, dlt hlt, hw, hM, hf, hget i hlt]
    repeat refine ⟨by omega, ?_⟩
    refine ⟨fun h1 => ?_, fun h1 => ?_⟩
    · have h1 : X.getD i default = v := (of_decide_eq_true h1).symm
      have := idx_hit he hlt (decide_eq_true h1)
      simp [this]
    · have h1 : ¬ X.getD i default = v := fun e => of_decide_eq_false h1 e.symm
      exact ⟨⟨i + 1, hlt, clear_succ he (decide_eq_false h1)⟩, Le_intro [] (by simp [WL, WNL, swA_new, swA_ne, nest_sw_ne, mapLL, List.mem_cons, Nat.reduceAdd, Nat.reduceLT, Nat.reduceLeDiff, Nat.reduceEqDiff, okU, List.nodup_cons, List.not_mem_nil, toT, toL, toO, keysO, renl, rent, cll, clt, eq_self, AV.eqv, AC.eqv, eqvl, eqvt, Sl.eqv, rowsLe, mapLL, rowsCl, List.map_append, List.length_map, List.length_append, List.length_set, List.map_replicate, rowG, List.getElem?_cons_zero, List.getElem?_cons_succ, List.getElem?_nil, List.append_nil, List.nil_append, List.cons_append, ghosts, St.gh, Option.some.injEq, implies_true, setT, AV.ren, AC.ren, AV.cl, AC.cl, List.replicate_succ, List.replicate_zero, List.nodup_nil, List.length_nil, List.length_cons, List.getD_cons_zero, List.getD_cons_succ, ↓reduceIte]), by show X.length - (i + 1) < X.length - i; omega⟩
  · obtain rfl : i = X.length := by omega
    simp only [↓WP, ↓grdD, ↓grdT, ↓un_dead, ↓binVC, ↓buildVC, ↓sliceVC, WQ, WN, Int.reduceToNat, renl, cll, rent, clt, ↓reduceIte, Nat.reduceLeDiff, Nat.reduceEqDiff, Nat.reduceLT, reduceCtorEq, List.append_nil, Nat.reduceAdd, Nat.reduceSub, Nat.reduceBEq, forall_const, implies_true, cond_true, cond_false, AV.ren, AC.ren, AV.cl, AC.cl, eq_self, List.all_cons, List.all_nil, AV.eqv, AC.eqv, eqvl, eqvt, Sl.eqv, List.map_append, List.length_map, List.length_append, List.length_replicate, List.length_set, List.map_replicate, nilVC, sd_49, el_49, sz_3, dge hge, hw]
    have := idx_miss he
    simp [this]
theorem q_slices_Index_int : Quiet c_slices_Index_int := by
  intro args M
  unfold c_slices_Index_int
  dsimp only
  split <;> first | trivial | (intro _; rfl)
def c_slices_Delete_int : Contract := ⟨76, fun args M => match args with
  | [.c (.sl a n c), .c (.int .i64 i), .c (.int .i64 j)] => specR Int a n (M a.r) fun ty cap X => .eff (0 ≤ i ∧ i < n ∧ j = i + 1 ∧ n ≤ c ∧ c ≤ cap) Unit (fun _ => True) (fun _ => .c (.sl a.up (n - 1) c)) (fun _ => []) (fun _ => [(a.r, rowG true ty cap (X.take i.toNat ++ X.drop (i.toNat + 1) ++ [0]))])
  | _ => .bad⟩
theorem ok_slices_Delete_int : fnP Try.prog c_slices_Delete_int.f = true ∧ ∀ args M, (c_slices_Delete_int.sp args M).OK Try.prog c_slices_Delete_int.f args M := by
  refine ⟨fp_76, fun args M => ?_⟩
  unfold c_slices_Delete_int
  dsimp only
  split
  case h_2 => trivial
  rename_i a n c i j
  refine specR_cases fun ty cap X hM hX hlen hs hi0 hk0 hf0 => ?_
  rintro ⟨h1, h2, rfl, hc, hcap⟩
  subst hlen
  obtain ⟨m, rfl⟩ : ∃ m : Nat, i = m := ⟨i.toNat, by omega⟩
  obtain ⟨r, ai, ak, af⟩ := a
  dsimp only at hi0 hk0 hf0 hM
  subst hi0 hk0 hf0
  have hm : m < X.length := by omega
  refine goIn hf_76 rfl (nt := 33) rfl (rs := [.tmp 6]) rfl (C := []) trivial (q := fun f => [].contains f) trivial mixed (O := ots [(5, otl [0, 1, 3, 4] (.alt 2 (otl [5, 6, 7] .nil) (otl [5, 2, 6, 7] .nil)))]) (by kernel_rfl) ?_
  have htn : ((m : Int) + 1).toNat = m + 1 := by omega
  have hdec : decide ((m : Int) = (m : Int) + 1) = false := by simp only [decide_eq_false_iff_not]; omega
  rcases Nat.eq_zero_or_pos (X.length - (m + 1)) with hr | hr
  · have hx1 : X.length - m = 1 := by omega
    have hml : m + 1 = X.length := by omega
    have hm1 : X.length - 1 = m := by omega
    have hput : putAt (List.map enc X) m [[.int .i64 0]] = List.map enc (X.take m) ++ [[.int .i64 0]] := by
      rw [putAt_last (by simp; omega), List.map_take]
    have hdr : X.drop (m + 1) = [] := List.drop_eq_nil_of_le (by omega)
    simp only [↓WP, ↓grdD, ↓grdT, ↓un_dead, ↓binVC, ↓buildVC, ↓sliceVC, WQ, WN, Int.reduceToNat, renl, cll, rent, clt, ↓reduceIte, Nat.reduceLeDiff, Nat.reduceEqDiff, Nat.reduceLT, reduceCtorEq, List.append_nil, Nat.reduceAdd, Nat.reduceSub, Nat.reduceBEq, forall_const, implies_true, cond_true, cond_false, AV.ren, AC.ren, AV.cl, AC.cl, eq_self, List.all_cons, List.all_nil, AV.eqv, AC.eqv, eqvl, eqvt, Sl.eqv, List.map_append, List.length_map, List.length_append, List.length_replicate, List.length_set, List.map_replicate, nilVC, sd_49, el_49, zr_3, hM, htn, hdec, Nat.sub_zero, hr, hx1, win_one, hput, hdr]
    repeat' (first | with_reducible refine And.intro ?_ ?_ | intro _)
    all_goals try omega
    all_goals try rfl
    all_goals
      refine end_ret ?_
      simp only [↓WP, ↓grdD, ↓grdT, ↓un_dead, ↓binVC, ↓buildVC, ↓sliceVC, WQ, WN, Int.reduceToNat, renl, cll, rent, clt, ↓reduceIte, Nat.reduceLeDiff, Nat.reduceEqDiff, Nat.reduceLT, reduceCtorEq, List.append_nil, Nat.reduceAdd, Nat.reduceSub, Nat.reduceBEq, forall_const, implies_true, cond_true, cond_false, AV.ren, AC.ren, AV.cl, AC.cl, eq_self, List.all_cons, List.all_nil, AV.eqv, AC.eqv, eqvl, eqvt, Sl.eqv, List.map_append, List.length_map, List.length_append, List.length_replicate, List.length_set, List.map_replicate, nilVC, sd_49, el_49, zr_3]
      refine ⟨(), [], [], ?_⟩
      simp only [WL, WNL, swA_new, swA_ne, nest_sw_ne, mapLL, List.mem_cons, Nat.reduceAdd, Nat.reduceLT, Nat.reduceLeDiff, Nat.reduceEqDiff, okU, List.nodup_cons, List.not_mem_nil, toT, toL, toO, keysO, renl, rent, cll, clt, eq_self, AV.eqv, AC.eqv, eqvl, eqvt, Sl.eqv, rowsLe, mapLL, rowsCl, List.map_append, List.length_map, List.length_append, List.length_set, List.map_replicate, rowG, List.getElem?_cons_zero, List.getElem?_cons_succ, List.getElem?_nil, List.append_nil, List.nil_append, List.cons_append, ghosts, St.gh, Option.some.injEq, implies_true, setT, AV.ren, AC.ren, AV.cl, AC.cl, List.replicate_succ, List.replicate_zero, List.nodup_nil, List.length_nil, List.length_cons, List.getD_cons_zero, List.getD_cons_succ, ↓reduceIte, retP]
      simp [okU, hM, hm1]
  · have hr2 : X.length - (X.length - 1) = 1 := by omega
    have hml : m + (X.length - (m + 1)) = X.length - 1 := by omega
    have hput : putAt (putAt (List.map enc X) m (win (fun k => (List.map enc X).getD (m + 1 + k) []) (X.length - (m + 1)))) (X.length - 1) [[.int .i64 0]] = List.map enc (X.take m) ++ List.map enc (X.drop (m + 1)) ++ [[.int .i64 0]] := by
      have := putAt_del (Z := List.map enc X) (z := [.int .i64 0]) (m := m) (by simp; omega)
      rw [List.length_map] at this
      rw [this, List.map_take, List.map_drop]
    have hpl : (putAt (List.map enc X) m (win (fun k => (List.map enc X).getD (m + 1 + k) []) (X.length - (m + 1)))).length = X.length := by
      rw [putAt_in (by simp; omega)]
      simp [win_length]
      omega
    simp only [↓WP, ↓grdD, ↓grdT, ↓un_dead, ↓binVC, ↓buildVC, ↓sliceVC, WQ, WN, Int.reduceToNat, renl, cll, rent, clt, ↓reduceIte, Nat.reduceLeDiff, Nat.reduceEqDiff, Nat.reduceLT, reduceCtorEq, List.append_nil, Nat.reduceAdd, Nat.reduceSub, Nat.reduceBEq, forall_const, implies_true, cond_true, cond_false, AV.ren, AC.ren, AV.cl, AC.cl, eq_self, List.all_cons, List.all_nil, AV.eqv, AC.eqv, eqvl, eqvt, Sl.eqv, List.map_append, List.length_map, List.length_append, List.length_replicate, List.length_set, List.map_replicate, nilVC, sd_49, el_49, zr_3, hM, htn, hdec, Nat.sub_zero, hr2, hml, win_one, hput, hpl]
    repeat' (first | with_reducible refine And.intro ?_ ?_ | intro _)
    all_goals try omega
    all_goals try rfl
    all_goals
      refine end_ret ?_
      simp only [↓WP, ↓grdD, ↓grdT, ↓un_dead, ↓binVC, ↓buildVC, ↓sliceVC, WQ, WN, Int.reduceToNat, renl, cll, rent, clt, ↓reduceIte, Nat.reduceLeDiff, Nat.reduceEqDiff, Nat.reduceLT, reduceCtorEq, List.append_nil, Nat.reduceAdd, Nat.reduceSub, Nat.reduceBEq, forall_const, implies_true, cond_true, cond_false, AV.ren, AC.ren, AV.cl, AC.cl, eq_self, List.all_cons, List.all_nil, AV.eqv, AC.eqv, eqvl, eqvt, Sl.eqv, List.map_append, List.length_map, List.length_append, List.length_replicate, List.length_set, List.map_replicate, nilVC, sd_49, el_49, zr_3]
      refine ⟨(), [], [], ?_⟩
      simp only [WL, WNL, swA_new, swA_ne, nest_sw_ne, mapLL, List.mem_cons, Nat.reduceAdd, Nat.reduceLT, Nat.reduceLeDiff, Nat.reduceEqDiff, okU, List.nodup_cons, List.not_mem_nil, toT, toL, toO, keysO, renl, rent, cll, clt, eq_self, AV.eqv, AC.eqv, eqvl, eqvt, Sl.eqv, rowsLe, mapLL, rowsCl, List.map_append, List.length_map, List.length_append, List.length_set, List.map_replicate, rowG, List.getElem?_cons_zero, List.getElem?_cons_succ, List.getElem?_nil, List.append_nil, List.nil_append, List.cons_append, ghosts, St.gh, Option.some.injEq, implies_true, setT, AV.ren, AC.ren, AV.cl, AC.cl, List.replicate_succ, List.replicate_zero, List.nodup_nil, List.length_nil, List.length_cons, List.getD_cons_zero, List.getD_cons_succ, ↓reduceIte, retP]
      simp [okU, hM]
def c_impl_first : Contract := ⟨60, fun args M => match args with
  | [.c (.sl _ _ _), .c (.int .i64 _)] => .pure True (I 0)
  | _ => .bad⟩
theorem ok_impl_first : fnP Try.prog c_impl_first.f = true ∧ ∀ args M, (c_impl_first.sp args M).OK Try.prog c_impl_first.f args M := by
  refine ⟨fp_60, fun args M => ?_⟩
  unfold c_impl_first
  dsimp only
  split
  case h_2 => trivial
  rename_i a n c i
  intro _
  refine goIn hf_60 rfl (nt := 5) rfl (rs := [.tmp 4]) rfl (C := []) trivial (q := fun _ => false) okQ_none mixed (O := fun _ => .nil) (by kernel_rfl) ?_
  simp only [↓WP, ↓grdD, ↓grdT, ↓un_dead, ↓binVC, ↓buildVC, ↓sliceVC, WQ, WN, Int.reduceToNat, renl, cll, rent, clt, ↓reduceIte, Nat.reduceLeDiff, Nat.reduceEqDiff, Nat.reduceLT, reduceCtorEq, List.append_nil, Nat.reduceAdd, Nat.reduceSub, Nat.reduceBEq, forall_const, implies_true, cond_true, cond_false, AV.ren, AC.ren, AV.cl, AC.cl, eq_self, List.all_cons, List.all_nil, AV.eqv, AC.eqv, eqvl, eqvt, Sl.eqv, List.map_append, List.length_map, List.length_append, List.length_replicate, List.length_set, List.map_replicate, nilVC, ]
def c_impl_rowOk_1 : Contract := ⟨80, fun args M => match args with
  | [.c (.int .i64 p)] => .pure True (Eng.B (decide (¬ (0 ≤ p ∧ p ≤ 99))))
  | _ => .bad⟩
theorem ok_impl_rowOk_1 : fnP Try.prog c_impl_rowOk_1.f = true ∧ ∀ args M, (c_impl_rowOk_1.sp args M).OK Try.prog c_impl_rowOk_1.f args M := by
  refine ⟨fp_80, fun args M => ?_⟩
  unfold c_impl_rowOk_1
  dsimp only
  split
  case h_2 => trivial
  rename_i p
  intro _
  refine goIn hf_80 rfl (nt := 6) rfl (rs := [.tmp 2]) rfl (C := [c_impl_in]) ⟨(by first | exact .inl ok_impl_in | exact ok_impl_in), trivial⟩ (q := fun _ => false) okQ_none mixed (O := fun _ => .nil) (by kernel_rfl) ?_
  simp only [↓WP, ↓grdD, ↓grdT, ↓un_dead, ↓binVC, ↓buildVC, ↓sliceVC, WQ, WN, Int.reduceToNat, renl, cll, rent, clt, ↓reduceIte, Nat.reduceLeDiff, Nat.reduceEqDiff, Nat.reduceLT, reduceCtorEq, List.append_nil, Nat.reduceAdd, Nat.reduceSub, Nat.reduceBEq, forall_const, implies_true, cond_true, cond_false, AV.ren, AC.ren, AV.cl, AC.cl, eq_self, List.all_cons, List.all_nil, AV.eqv, AC.eqv, eqvl, eqvt, Sl.eqv, List.map_append, List.length_map, List.length_append, List.length_replicate, List.length_set, List.map_replicate, nilVC, c_impl_in]
  simp only [WB, eq_self]
def c_slices_IndexFunc_int : Contract := ⟨81, fun args M => match args with
  | [.c (.sl a n _), .c (.clo f [])] => .pure (f = 80 ∧ RowOk Int a n (M a.r)) (I (idx (fun p => decide (¬ (0 ≤ p ∧ p ≤ 99))) (row Int a n (M a.r))))
  | _ => .bad⟩
theorem ok_slices_IndexFunc_int : fnP Try.prog c_slices_IndexFunc_int.f = true ∧ ∀ args M, (c_slices_IndexFunc_int.sp args M).OK Try.prog c_slices_IndexFunc_int.f args M := by
  refine ⟨fp_81, fun args M => ?_⟩
  unfold c_slices_IndexFunc_int
  dsimp only
  split
  case h_2 => trivial
  rename_i a n ca f
  rintro ⟨rfl, ha⟩
  obtain ⟨hs, X, hX, rfl, hat⟩ := ha.x
  rw [hX]
  refine goIn hf_81 rfl (nt := 19) rfl (rs := [.tmp 4]) rfl (C := [c_impl_rowOk_1]) ⟨(by first | exact .inl ok_impl_rowOk_1 | exact ok_impl_rowOk_1), trivial⟩ (q := fun _ => false) okQ_none mixed (O := fun _ => .nil) (by kernel_rfl) ?_
  simp only [↓WP, ↓grdD, ↓grdT, ↓un_dead, ↓binVC, ↓buildVC, ↓sliceVC, WQ, WN, Int.reduceToNat, renl, cll, rent, clt, ↓reduceIte, Nat.reduceLeDiff, Nat.reduceEqDiff, Nat.reduceLT, reduceCtorEq, List.append_nil, Nat.reduceAdd, Nat.reduceSub, Nat.reduceBEq, forall_const, implies_true, cond_true, cond_false, AV.ren, AC.ren, AV.cl, AC.cl, eq_self, List.all_cons, List.all_nil, AV.eqv, AC.eqv, eqvl, eqvt, Sl.eqv, List.map_append, List.length_map, List.length_append, List.length_replicate, List.length_set, List.map_replicate, nilVC, sd_49, el_49, sz_3, c_impl_rowOk_1]
  refine loopI (J := {i : Nat // i ≤ X.length ∧ clear (fun p : Int => decide (¬ (0 ≤ p ∧ p ≤ 99))) X i}) (fun i => ⟨slots 19 [(0, .c (.sl a.up X.length ca)), (1, .c (.clo 80 [])), (7, I X.length), (8, I i.1)], M, [], []⟩) (fun i => X.length - i.1) ⟨0, by omega, clear_zero _ _⟩ (Le_intro [] (by simp [WL, WNL, swA_new, swA_ne, nest_sw_ne, mapLL, List.mem_cons, Nat.reduceAdd, Nat.reduceLT, Nat.reduceLeDiff, Nat.reduceEqDiff, okU, List.nodup_cons, List.not_mem_nil, toT, toL, toO, keysO, renl, rent, cll, clt, eq_self, AV.eqv, AC.eqv, eqvl, eqvt, Sl.eqv, rowsLe, mapLL, rowsCl, List.map_append, List.length_map, List.length_append, List.length_set, List.map_replicate, rowG, List.getElem?_cons_zero, List.getElem?_cons_succ, List.getElem?_nil, List.append_nil, List.nil_append, List.cons_append, ghosts, St.gh, Option.some.injEq, implies_true, setT, AV.ren, AC.ren, AV.cl, AC.cl, List.replicate_succ, List.replicate_zero, List.nodup_nil, List.length_nil, List.length_cons, List.getD_cons_zero, List.getD_cons_succ, ↓reduceIte])) ?_
  rintro ⟨i, hi, he⟩
  have hw := wS (i := i) (by omega)
  rcases Nat.lt_or_ge i X.length with hlt | hge
  · obtain ⟨own, ty, cnt, cap, len, get, hM, hf, hic, hkn, hget⟩ := hat (by omega)
    simp only [↓WP, ↓grdD, ↓grdT, ↓un_dead, ↓binVC, ↓buildVC, ↓sliceVC, WQ, WN, Int.reduceToNat, renl, cll, rent, clt, ↓reduceIte, Nat.reduceLeDiff, Nat.reduceEqDiff, Nat.reduceLT, reduceCtorEq, List.append_nil, Nat.reduceAdd, Nat.reduceSub, Nat.reduceBEq, forall_const, implies_true, cond_true, cond_false, AV.ren, AC.ren, AV.cl, AC.cl, eq_self, List.all_cons, List.all_nil, AV.eqv, AC.eqv, eqvl, eqvt, Sl.eqv, List.map_append, List.length_map, List.length_append, List.length_replicate, List.length_set, List.map_replicate, nilVC, sd_49, el_49, sz_3, c_impl_rowOk_1, dlt hlt, hw, hM, hf, hget i hlt]
    repeat refine ⟨by omega, ?_⟩
    refine ⟨fun h1 => ?_, fun h1 => ?_⟩
    · have := idx_hit (p := fun p : Int => decide (¬ (0 ≤ p ∧ p ≤ 99))) he hlt h1
      rw [this]
    · exact ⟨⟨i + 1, hlt, clear_succ he h1⟩, Le_intro [] (by simp [WL, WNL, swA_new, swA_ne, nest_sw_ne, mapLL, List.mem_cons, Nat.reduceAdd, Nat.reduceLT, Nat.reduceLeDiff, Nat.reduceEqDiff, okU, List.nodup_cons, List.not_mem_nil, toT, toL, toO, keysO, renl, rent, cll, clt, eq_self, AV.eqv, AC.eqv, eqvl, eqvt, Sl.eqv, rowsLe, mapLL, rowsCl, List.map_append, List.length_map, List.length_append, List.length_set, List.map_replicate, rowG, List.getElem?_cons_zero, List.getElem?_cons_succ, List.getElem?_nil, List.append_nil, List.nil_append, List.cons_append, ghosts, St.gh, Option.some.injEq, implies_true, setT, AV.ren, AC.ren, AV.cl, AC.cl, List.replicate_succ, List.replicate_zero, List.nodup_nil, List.length_nil, List.length_cons, List.getD_cons_zero, List.getD_cons_succ, ↓reduceIte]), by show X.length - (i + 1) < X.length - i; omega⟩
  · obtain rfl : i = X.length := by omega
    simp only [↓WP, ↓grdD, ↓grdT, ↓un_dead, ↓binVC, ↓buildVC, ↓sliceVC, WQ, WN, Int.reduceToNat, renl, cll, rent, clt, ↓reduceIte, Nat.reduceLeDiff, Nat.reduceEqDiff, Nat.reduceLT, reduceCtorEq, List.append_nil, Nat.reduceAdd, Nat.reduceSub, Nat.reduceBEq, forall_const, implies_true, cond_true, cond_false, AV.ren, AC.ren, AV.cl, AC.cl, eq_self, List.all_cons, List.all_nil, AV.eqv, AC.eqv, eqvl, eqvt, Sl.eqv, List.map_append, List.length_map, List.length_append, List.length_replicate, List.length_set, List.map_replicate, nilVC, sd_49, el_49, sz_3, c_impl_rowOk_1, dge hge, hw]
    have := idx_miss he
    rw [this]
def c_slices_ContainsFunc_int : Contract := ⟨79, fun args M => match args with
  | [.c (.sl a n _), .c (.clo f [])] => .pure (f = 80 ∧ RowOk Int a n (M a.r)) (Eng.B ((row Int a n (M a.r)).any fun p => decide (¬ (0 ≤ p ∧ p ≤ 99))))
  | _ => .bad⟩
theorem ok_slices_ContainsFunc_int : fnP Try.prog c_slices_ContainsFunc_int.f = true ∧ ∀ args M, (c_slices_ContainsFunc_int.sp args M).OK Try.prog c_slices_ContainsFunc_int.f args M := by
  refine ⟨fp_79, fun args M => ?_⟩
  unfold c_slices_ContainsFunc_int
  dsimp only
  split
  case h_2 => trivial
  rename_i a n ca f
  rintro ⟨rfl, ha⟩
  refine goIn hf_79 rfl (nt := 9) rfl (rs := [.tmp 4]) rfl (C := [c_slices_IndexFunc_int]) ⟨(by first | exact .inl ok_slices_IndexFunc_int | exact ok_slices_IndexFunc_int), trivial⟩ (q := fun _ => false) okQ_none mixed (O := fun _ => .nil) (by kernel_rfl) ?_
  simp only [↓WP, ↓grdD, ↓grdT, ↓un_dead, ↓binVC, ↓buildVC, ↓sliceVC, WQ, WN, Int.reduceToNat, renl, cll, rent, clt, ↓reduceIte, Nat.reduceLeDiff, Nat.reduceEqDiff, Nat.reduceLT, reduceCtorEq, List.append_nil, Nat.reduceAdd, Nat.reduceSub, Nat.reduceBEq, forall_const, implies_true, cond_true, cond_false, AV.ren, AC.ren, AV.cl, AC.cl, eq_self, List.all_cons, List.all_nil, AV.eqv, AC.eqv, eqvl, eqvt, Sl.eqv, List.map_append, List.length_map, List.length_append, List.length_replicate, List.length_set, List.map_replicate, nilVC, c_slices_IndexFunc_int, ← idx_any]
  exact ha
theorem any_bad {X : List Int} : (X.any fun p => decide (¬ (0 ≤ p ∧ p ≤ 99))) = decide (¬ ∀ i, i < X.length → 0 ≤ X.getD i default ∧ X.getD i default ≤ 99) := by
  rw [Bool.eq_iff_iff, List.any_eq_true, decide_eq_true_iff]
  constructor
  · rintro ⟨x, hx, h⟩ hc
    obtain ⟨j, hj, rfl⟩ := List.getElem_of_mem hx
    have := hc j hj
    rw [getD_of_lt hj] at this
    exact of_decide_eq_true h this
  · intro h
    refine Classical.byContradiction fun hn => h fun i hi => ?_
    refine Classical.byContradiction fun hi2 => hn ⟨_, getD_mem hi, decide_eq_true hi2⟩
def c_impl_rowOk : Contract := ⟨78, fun args M => match args with
  | [.c (.sl a n _)] => .pure (RowOk Int a n (M a.r)) (Eng.B (decide ((row Int a n (M a.r)).length ≤ 200 ∧ ∀ i, i < (row Int a n (M a.r)).length → 0 ≤ (row Int a n (M a.r)).getD i default ∧ (row Int a n (M a.r)).getD i default ≤ 99)))
  | _ => .bad⟩
theorem ok_impl_rowOk : fnP Try.prog c_impl_rowOk.f = true ∧ ∀ args M, (c_impl_rowOk.sp args M).OK Try.prog c_impl_rowOk.f args M := by
  refine ⟨fp_78, fun args M => ?_⟩
  unfold c_impl_rowOk
  dsimp only
  split
  case h_2 => trivial
  rename_i a n c
  intro hrow
  refine goIn hf_78 rfl (nt := 11) rfl (rs := [.tmp 2]) rfl (C := [c_slices_ContainsFunc_int]) ⟨(by first | exact .inl ok_slices_ContainsFunc_int | exact ok_slices_ContainsFunc_int), trivial⟩ (q := fun _ => false) okQ_none mixed (O := fun _ => .nil) (by kernel_rfl) ?_
  simp only [↓WP, ↓grdD, ↓grdT, ↓un_dead, ↓binVC, ↓buildVC, ↓sliceVC, WQ, WN, Int.reduceToNat, renl, cll, rent, clt, ↓reduceIte, Nat.reduceLeDiff, Nat.reduceEqDiff, Nat.reduceLT, reduceCtorEq, List.append_nil, Nat.reduceAdd, Nat.reduceSub, Nat.reduceBEq, forall_const, implies_true, cond_true, cond_false, AV.ren, AC.ren, AV.cl, AC.cl, eq_self, List.all_cons, List.all_nil, AV.eqv, AC.eqv, eqvl, eqvt, Sl.eqv, List.map_append, List.length_map, List.length_append, List.length_replicate, List.length_set, List.map_replicate, nilVC, sd_49, c_slices_ContainsFunc_int, any_bad]
  simp only [WB, eq_self]
  refine ⟨fun _ => hrow, ?_⟩
  by_cases h1 : n ≤ 200
  · have h2 : (n : Int) ≤ 200 := by omega
    simp [h1, h2]
  · have h2 : ¬ (n : Int) ≤ 200 := by omega
    simp [h1, h2]
def c_impl_pagesOk : Contract := ⟨74, fun args M => match args with
  | [.c (.sl a n _), .c (.int .i64 f)] => .pure (RowOk Int a n (M a.r)) (Eng.B (decide (faultsOk (row Int a n (M a.r)) f)))
  | _ => .bad⟩
theorem ok_impl_pagesOk : fnP Try.prog c_impl_pagesOk.f = true ∧ ∀ args M, (c_impl_pagesOk.sp args M).OK Try.prog c_impl_pagesOk.f args M := by
  refine ⟨fp_74, fun args M => ?_⟩
  unfold c_impl_pagesOk
  dsimp only
  split
  case h_2 => trivial
  rename_i a n c f
  intro hrow
  refine goIn hf_74 rfl (nt := 11) rfl (rs := [.tmp 4]) rfl (C := [c_impl_rowOk, c_impl_in]) ⟨(by first | exact .inl ok_impl_rowOk | exact ok_impl_rowOk), (by first | exact .inl ok_impl_in | exact ok_impl_in), trivial⟩ (q := fun _ => false) okQ_none mixed (O := fun _ => .nil) (by kernel_rfl) ?_
  simp only [↓WP, ↓grdD, ↓grdT, ↓un_dead, ↓binVC, ↓buildVC, ↓sliceVC, WQ, WN, Int.reduceToNat, renl, cll, rent, clt, ↓reduceIte, Nat.reduceLeDiff, Nat.reduceEqDiff, Nat.reduceLT, reduceCtorEq, List.append_nil, Nat.reduceAdd, Nat.reduceSub, Nat.reduceBEq, forall_const, implies_true, cond_true, cond_false, AV.ren, AC.ren, AV.cl, AC.cl, eq_self, List.all_cons, List.all_nil, AV.eqv, AC.eqv, eqvl, eqvt, Sl.eqv, List.map_append, List.length_map, List.length_append, List.length_replicate, List.length_set, List.map_replicate, nilVC, c_impl_rowOk, c_impl_in]
  refine ⟨hrow, ?_⟩
  rw [Bool.eq_iff_iff]
  simp only [WB, eq_self]
  unfold faultsOk
  rw [row_length]
  constructor
  · rintro ⟨⟨h1, h2⟩, h3⟩
    exact ⟨h1, h3, h2⟩
  · rintro ⟨h1, h3, h2⟩
    exact ⟨⟨h1, h2⟩, h3⟩
end Go.Eng.T
