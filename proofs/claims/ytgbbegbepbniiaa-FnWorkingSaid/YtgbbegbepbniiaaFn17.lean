/- faults: DrawWorkingSet; the law FnWorking. -/
import Derived.Test.YtgbbegbepbniiaaFn16
set_option linter.unusedVariables false
set_option linter.unusedSimpArgs false
set_option linter.unusedSectionVars false
namespace Go.Eng.T
open Go.Proofs
open Cel (enc dec)
set_option maxRecDepth 100000
set_option maxHeartbeats 8000000
def c_spec_DrawWorkingSet : Contract := ⟨24, fun args M => match args with
  | [.c (.sl a n c)] => .eff (RowOk UInt8 a n (M a.r)) (List Int × Nat × Int × Int) (fun q => (q.1.length ≤ 41 ∧ q.1.length ≤ q.2.1) ∧ q.2.2.2 ≤ 9223372036854775807) (fun q => .tup [(false, [.sl ⟨.loc 0, 0, 0, 0⟩ q.1.length q.2.1]), (false, [.int .i64 q.2.2.1]), (false, [.int .i64 q.2.2.2])]) (fun q => [rowG true 3 q.2.1 q.1]) (fun _ => [])
  | _ => .bad⟩
theorem ok_spec_DrawWorkingSet : fnP Try.prog c_spec_DrawWorkingSet.f = true ∧ ∀ args M, (c_spec_DrawWorkingSet.sp args M).OK Try.prog c_spec_DrawWorkingSet.f args M := by
  refine ⟨fp_24, fun args M => ?_⟩
  unfold c_spec_DrawWorkingSet
  dsimp only
  split
  case h_2 => trivial
  rename_i a n ca
  intro ha
  refine goIn hf_24 rfl (nt := 18) rfl (rs := [.tmp 2, .tmp 3, .tmp 4]) rfl (C := [c_spec_l1New, c_spec_l35Refs, c_spec_l1Below, c_spec_l1PickInt]) ⟨(by first | exact .inl ok_spec_l1New | exact ok_spec_l1New), (by first | exact .inl ok_spec_l35Refs | exact ok_spec_l35Refs), (by first | exact .inl ok_spec_l1Below | exact ok_spec_l1Below), (by first | exact .inl ok_spec_l1PickInt | exact ok_spec_l1PickInt), trivial⟩ (q := fun _ => false) okQ_none mixed (O := fun _ => .nil) (by kernel_rfl) ?_
  simp only [↓WP, ↓grdD, ↓grdT, ↓un_dead, ↓binVC, ↓buildVC, ↓sliceVC, WQ, WN, Int.reduceToNat, renl, cll, rent, clt, ↓reduceIte, Nat.reduceLeDiff, Nat.reduceEqDiff, Nat.reduceLT, reduceCtorEq, List.append_nil, Nat.reduceAdd, Nat.reduceSub, Nat.reduceBEq, forall_const, implies_true, cond_true, cond_false, AV.ren, AC.ren, AV.cl, AC.cl, eq_self, List.all_cons, List.all_nil, AV.eqv, AC.eqv, eqvl, eqvt, Sl.eqv, List.map_append, List.length_map, List.length_append, List.length_replicate, List.length_set, List.map_replicate, nilVC, el_22, zr_3, c_spec_l1New, c_spec_l35Refs, c_spec_l1Below, c_spec_l1PickInt, ha]
  repeat' (first | with_reducible refine And.intro ?_ ?_ | intro _)
  all_goals try omega
  all_goals try exact .inr trivial
  all_goals try (refine .inr ?_; intro cs hcs; simp only [List.mem_cons, List.not_mem_nil, or_false] at hcs; rcases hcs with rfl | rfl | rfl | rfl | rfl | rfl | rfl | rfl <;> rfl)
  all_goals
    rename_i q1 hq1 q2 hq2 q3 hq3
    obtain ⟨X, k, p9, z9⟩ := q1
    obtain ⟨⟨x1, x2⟩, _⟩ := hq1
    dsimp only at x1 x2
    have hw : q3.1 ≤ 9223372036854775807 := by
      have h := hq3.1
      simp only [List.mem_cons, List.not_mem_nil, or_false] at h
      rcases h with h | h | h | h | h | h <;> rw [h] <;> decide
    refine end_ret ?_
    simp only [↓WP, ↓grdD, ↓grdT, ↓un_dead, ↓binVC, ↓buildVC, ↓sliceVC, WQ, WN, Int.reduceToNat, renl, cll, rent, clt, ↓reduceIte, Nat.reduceLeDiff, Nat.reduceEqDiff, Nat.reduceLT, reduceCtorEq, List.append_nil, Nat.reduceAdd, Nat.reduceSub, Nat.reduceBEq, forall_const, implies_true, cond_true, cond_false, AV.ren, AC.ren, AV.cl, AC.cl, eq_self, List.all_cons, List.all_nil, AV.eqv, AC.eqv, eqvl, eqvt, Sl.eqv, List.map_append, List.length_map, List.length_append, List.length_replicate, List.length_set, List.map_replicate, nilVC, el_22, zr_3, c_spec_l1New, c_spec_l35Refs, c_spec_l1Below, c_spec_l1PickInt]
    refine ⟨(X, k, IntKind.i64.wrap (q2.1 - 1), q3.1), [], [1], ?_⟩
    simp only [WL, WNL, swA_new, swA_ne, nest_sw_ne, mapLL, List.mem_cons, Nat.reduceAdd, Nat.reduceLT, Nat.reduceLeDiff, Nat.reduceEqDiff, okU, List.nodup_cons, List.not_mem_nil, toT, toL, toO, keysO, renl, rent, cll, clt, eq_self, AV.eqv, AC.eqv, eqvl, eqvt, Sl.eqv, rowsLe, mapLL, rowsCl, List.map_append, List.length_map, List.length_append, List.length_set, List.map_replicate, rowG, List.getElem?_cons_zero, List.getElem?_cons_succ, List.getElem?_nil, List.append_nil, List.nil_append, List.cons_append, ghosts, St.gh, Option.some.injEq, implies_true, setT, AV.ren, AC.ren, AV.cl, AC.cl, List.replicate_succ, List.replicate_zero, List.nodup_nil, List.length_nil, List.length_cons, List.getD_cons_zero, List.getD_cons_succ, ↓reduceIte, retP]
    simp [x1, x2, hw]
def c_laws_sameInts : Contract := ⟨25, fun args M => match args with
  | [.c (.sl a n _), .c (.sl b m _)] => .pure (RowOk Int a n (M a.r) ∧ RowOk Int b m (M b.r)) (Eng.B (decide (row Int a n (M a.r) = row Int b m (M b.r))))
  | _ => .bad⟩
theorem ok_laws_sameInts : fnP Try.prog c_laws_sameInts.f = true ∧ ∀ args M, (c_laws_sameInts.sp args M).OK Try.prog c_laws_sameInts.f args M := by
  refine ⟨fp_25, fun args M => ?_⟩
  unfold c_laws_sameInts
  dsimp only
  split
  case h_2 => trivial
  rename_i a n ca b m cb
  rintro ⟨ha, hb⟩
  obtain ⟨hs, X, hX, rfl, hat⟩ := ha.x
  obtain ⟨hs', Y, hY, rfl, hbt⟩ := hb.x
  rw [hX, hY]
  refine goIn hf_25 rfl (nt := 26) rfl (rs := [.tmp 4]) rfl (C := []) trivial (q := fun f => [].contains f) trivial mixed (O := ots [(6, otl [0, 1, 2, 3, 4, 5, 6, 7, 8] .nil)]) (by kernel_rfl) ?_
  simp only [↓WP, ↓grdD, ↓grdT, ↓un_dead, ↓binVC, ↓buildVC, ↓sliceVC, WQ, WN, Int.reduceToNat, renl, cll, rent, clt, ↓reduceIte, Nat.reduceLeDiff, Nat.reduceEqDiff, Nat.reduceLT, reduceCtorEq, List.append_nil, Nat.reduceAdd, Nat.reduceSub, Nat.reduceBEq, forall_const, implies_true, cond_true, cond_false, AV.ren, AC.ren, AV.cl, AC.cl, eq_self, List.all_cons, List.all_nil, AV.eqv, AC.eqv, eqvl, eqvt, Sl.eqv, List.map_append, List.length_map, List.length_append, List.length_replicate, List.length_set, List.map_replicate, nilVC, sd_22, el_22, sz_3]
  refine ⟨fun h => ?_, fun h => ?_⟩
  · have : X ≠ Y := by rintro rfl; simp at h
    simp [this]
  · have hl : X.length = Y.length := by simp at h; omega
    refine loopI (J := {i : Nat // i ≤ X.length ∧ X.take i = Y.take i}) (fun i => ⟨slots 26 [(0, .c (.sl a.up X.length ca)), (1, .c (.sl b.up Y.length cb)), (5, I i.1)], M, [], []⟩) (fun i => X.length - i.1) ⟨0, by omega, rfl⟩ (Le_intro [] (by simp [WL, WNL, swA_new, swA_ne, nest_sw_ne, mapLL, List.mem_cons, Nat.reduceAdd, Nat.reduceLT, Nat.reduceLeDiff, Nat.reduceEqDiff, okU, List.nodup_cons, List.not_mem_nil, toT, toL, toO, keysO, renl, rent, cll, clt, eq_self, AV.eqv, AC.eqv, eqvl, eqvt, Sl.eqv, rowsLe, mapLL, rowsCl, List.map_append, List.length_map, List.length_append, List.length_set, List.map_replicate, rowG, List.getElem?_cons_zero, List.getElem?_cons_succ, List.getElem?_nil, List.append_nil, List.nil_append, List.cons_append, ghosts, St.gh, Option.some.injEq, implies_true, setT, AV.ren, AC.ren, AV.cl, AC.cl, List.replicate_succ, List.replicate_zero, List.nodup_nil, List.length_nil, List.length_cons, List.getD_cons_zero, List.getD_cons_succ, ↓reduceIte])) ?_
    rintro ⟨i, hi, he⟩
    have hw := wS (i := i) (by omega)
    rcases Nat.lt_or_ge i X.length with hlt | hge
    · obtain ⟨own, ty, cnt, cap, len, get, hM, hf, hic, hkn, hget⟩ := hat (by omega)
      obtain ⟨own', ty', cnt', cap', len', get', hM', hf', hic', hkn', hget'⟩ := hbt (by omega)
      simp only [↓WP, ↓grdD, ↓grdT, ↓un_dead, ↓binVC, ↓buildVC, ↓sliceVC, WQ, WN, Int.reduceToNat, renl, cll, rent, clt, ↓reduceIte, Nat.reduceLeDiff, Nat.reduceEqDiff, Nat.reduceLT, reduceCtorEq, List.append_nil, Nat.reduceAdd, Nat.reduceSub, Nat.reduceBEq, forall_const, implies_true, cond_true, cond_false, AV.ren, AC.ren, AV.cl, AC.cl, eq_self, List.all_cons, List.all_nil, AV.eqv, AC.eqv, eqvl, eqvt, Sl.eqv, List.map_append, List.length_map, List.length_append, List.length_replicate, List.length_set, List.map_replicate, nilVC, sd_22, el_22, sz_3, dlt hlt, hw, hM, hf, hget i hlt, hM', hf', hget' i (by omega)]
      repeat refine ⟨by omega, ?_⟩
      refine ⟨fun h1 => ?_, fun h1 => ?_⟩
      · have := ne_of_getD (X := X) (Y := Y) (i := i) (by simpa using h1)
        simp [this]
      · exact ⟨⟨i + 1, hlt, eq_step he hlt (by omega) (by simpa using h1)⟩, Le_intro [] (by simp [WL, WNL, swA_new, swA_ne, nest_sw_ne, mapLL, List.mem_cons, Nat.reduceAdd, Nat.reduceLT, Nat.reduceLeDiff, Nat.reduceEqDiff, okU, List.nodup_cons, List.not_mem_nil, toT, toL, toO, keysO, renl, rent, cll, clt, eq_self, AV.eqv, AC.eqv, eqvl, eqvt, Sl.eqv, rowsLe, mapLL, rowsCl, List.map_append, List.length_map, List.length_append, List.length_set, List.map_replicate, rowG, List.getElem?_cons_zero, List.getElem?_cons_succ, List.getElem?_nil, List.append_nil, List.nil_append, List.cons_append, ghosts, St.gh, Option.some.injEq, implies_true, setT, AV.ren, AC.ren, AV.cl, AC.cl, List.replicate_succ, List.replicate_zero, List.nodup_nil, List.length_nil, List.length_cons, List.getD_cons_zero, List.getD_cons_succ, ↓reduceIte]), by show X.length - (i + 1) < X.length - i; omega⟩
    · obtain rfl : i = X.length := by omega
      simp only [↓WP, ↓grdD, ↓grdT, ↓un_dead, ↓binVC, ↓buildVC, ↓sliceVC, WQ, WN, Int.reduceToNat, renl, cll, rent, clt, ↓reduceIte, Nat.reduceLeDiff, Nat.reduceEqDiff, Nat.reduceLT, reduceCtorEq, List.append_nil, Nat.reduceAdd, Nat.reduceSub, Nat.reduceBEq, forall_const, implies_true, cond_true, cond_false, AV.ren, AC.ren, AV.cl, AC.cl, eq_self, List.all_cons, List.all_nil, AV.eqv, AC.eqv, eqvl, eqvt, Sl.eqv, List.map_append, List.length_map, List.length_append, List.length_replicate, List.length_set, List.map_replicate, nilVC, sd_22, el_22, sz_3, dge hge, hw]
      simp [eq_of_take hl he]
theorem q_laws_sameInts : Quiet c_laws_sameInts := by
  intro args M
  unfold c_laws_sameInts
  dsimp only
  split <;> first | trivial | (intro _; rfl)
def c_laws_FnWorking : Contract := ⟨8, fun args M => match args with
  | [.c (.sl a n _)] => .pure (n ≤ 9223372036854775807 ∧ (n ≤ 4294967296 → RowOk UInt8 a n (M a.r))) (Eng.B true)
  | _ => .bad⟩
theorem ok_laws_FnWorking : fnP Try.prog c_laws_FnWorking.f = true ∧ ∀ args M, (c_laws_FnWorking.sp args M).OK Try.prog c_laws_FnWorking.f args M := by
  refine ⟨fp_8, fun args M => ?_⟩
  unfold c_laws_FnWorking
  dsimp only
  split
  case h_2 => trivial
  rename_i a n ca
  rintro ⟨hn, h1⟩
  refine goIn hf_8 rfl (nt := 70) rfl (rs := [.tmp 2]) rfl (C := [c_laws_big, c_spec_DrawWorkingSet, c_impl_WorkingSet, c_spec_WorkingSet, c_laws_sameInts, c_laws_has]) ⟨(by first | exact .inl ok_laws_big | exact ok_laws_big), (by first | exact .inl ok_spec_DrawWorkingSet | exact ok_spec_DrawWorkingSet), (by first | exact .inl ok_impl_WorkingSet | exact ok_impl_WorkingSet), (by first | exact .inl ok_spec_WorkingSet | exact ok_spec_WorkingSet), (by first | exact .inl ok_laws_sameInts | exact ok_laws_sameInts), (by first | exact .inl ok_laws_has | exact ok_laws_has), trivial⟩ (q := fun _ => false) okQ_none mixed (O := fun _ => .nil) (by kernel_rfl) ?_
  by_cases hs : 1048576 < n
  · simp only [↓WP, ↓grdD, ↓grdT, ↓un_dead, ↓binVC, ↓buildVC, ↓sliceVC, WQ, WN, Int.reduceToNat, renl, cll, rent, clt, ↓reduceIte, Nat.reduceLeDiff, Nat.reduceEqDiff, Nat.reduceLT, reduceCtorEq, List.append_nil, Nat.reduceAdd, Nat.reduceSub, Nat.reduceBEq, forall_const, implies_true, cond_true, cond_false, AV.ren, AC.ren, AV.cl, AC.cl, eq_self, List.all_cons, List.all_nil, AV.eqv, AC.eqv, eqvl, eqvt, Sl.eqv, List.map_append, List.length_map, List.length_append, List.length_replicate, List.length_set, List.map_replicate, nilVC, sd_22, el_22, sz_3, c_laws_big, c_spec_DrawWorkingSet, c_impl_WorkingSet, c_spec_WorkingSet, c_laws_sameInts, c_laws_has, decide_eq_true hs]
  · have ha := h1 (by omega)
    simp only [↓WP, ↓grdD, ↓grdT, ↓un_dead, ↓binVC, ↓buildVC, ↓sliceVC, WQ, WN, Int.reduceToNat, renl, cll, rent, clt, ↓reduceIte, Nat.reduceLeDiff, Nat.reduceEqDiff, Nat.reduceLT, reduceCtorEq, List.append_nil, Nat.reduceAdd, Nat.reduceSub, Nat.reduceBEq, forall_const, implies_true, cond_true, cond_false, AV.ren, AC.ren, AV.cl, AC.cl, eq_self, List.all_cons, List.all_nil, AV.eqv, AC.eqv, eqvl, eqvt, Sl.eqv, List.map_append, List.length_map, List.length_append, List.length_replicate, List.length_set, List.map_replicate, nilVC, sd_22, el_22, sz_3, c_laws_big, c_spec_DrawWorkingSet, c_impl_WorkingSet, c_spec_WorkingSet, c_laws_sameInts, c_laws_has, decide_eq_false hs, ha, decide_true]
    rintro ⟨X, k, q, w⟩ ⟨⟨x1, x2⟩, x3⟩
    dsimp only at x1 x2 x3 ⊢
    have hX : ((X.length ≤ 4294967296 ∧ (X.length = 0 ∨ True)) ∧ X.length ≤ k) ∧ w ≤ 9223372036854775807 := ⟨⟨⟨by omega, .inr trivial⟩, x2⟩, x3⟩
    have hl := wsO_len X q w
    refine ⟨hX, fun p1 h1 => ⟨hX, fun p2 h2 => ⟨⟨⟨by omega, .inr trivial⟩, by omega, .inr trivial⟩, fun h0 => ?_⟩⟩⟩
    have hmay : wsMay X q w := by
      by_cases h : wsMay X q w
      · exact h
      · have e : wsO X q w = [] := if_neg h
        rw [e] at h0
        simp at h0
    obtain ⟨hg1, hg2, hg3⟩ := wsO_grow hmay
    have hin := wsO_has hmay
    obtain ⟨hq0, hq1⟩ := hmay.2.1
    have hl2 := wsO_len X q (w + 1)
    obtain ⟨S, hS⟩ : ∃ S, S = wsO X q w := ⟨_, rfl⟩
    obtain ⟨R, hR⟩ : ∃ R, R = wsO X q (w + 1) := ⟨_, rfl⟩
    rw [← hS] at hg1 hg2 hg3 hin hl h1 h2
    rw [← hR] at hg1 hg2 hl2
    have hgq : (List.map enc X).getD q.toNat [] = [AC.int .i64 (X.getD q.toNat default)] := getD_enc _ _ (by omega)
    have hany : (S.any fun x => decide (x = X.getD q.toNat default)) = true := List.any_eq_true.2 ⟨_, hin, decide_eq_true rfl⟩
    have hlw : decide (w < (S.length : Int)) = false := decide_eq_false (by omega)
    refine ⟨⟨hq0, hq1⟩, by omega, ?_⟩
    by_cases hb : w > 1000
    · simp only [↓WP, ↓grdD, ↓grdT, ↓un_dead, ↓binVC, ↓buildVC, ↓sliceVC, WQ, WN, Int.reduceToNat, renl, cll, rent, clt, ↓reduceIte, Nat.reduceLeDiff, Nat.reduceEqDiff, Nat.reduceLT, reduceCtorEq, List.append_nil, Nat.reduceAdd, Nat.reduceSub, Nat.reduceBEq, forall_const, implies_true, cond_true, cond_false, AV.ren, AC.ren, AV.cl, AC.cl, eq_self, List.all_cons, List.all_nil, AV.eqv, AC.eqv, eqvl, eqvt, Sl.eqv, List.map_append, List.length_map, List.length_append, List.length_replicate, List.length_set, List.map_replicate, nilVC, sd_22, el_22, sz_3, c_laws_big, c_spec_DrawWorkingSet, c_impl_WorkingSet, c_spec_WorkingSet, c_laws_sameInts, c_laws_has, hgq, ← hS, hany, hlw, decide_eq_true hb]
      exact ⟨by omega, .inr trivial⟩
    · have hww : IntKind.i64.wrap (w + 1) = w + 1 := w64 (by have := hmay.2.2; omega) (by omega)
      simp only [↓WP, ↓grdD, ↓grdT, ↓un_dead, ↓binVC, ↓buildVC, ↓sliceVC, WQ, WN, Int.reduceToNat, renl, cll, rent, clt, ↓reduceIte, Nat.reduceLeDiff, Nat.reduceEqDiff, Nat.reduceLT, reduceCtorEq, List.append_nil, Nat.reduceAdd, Nat.reduceSub, Nat.reduceBEq, forall_const, implies_true, cond_true, cond_false, AV.ren, AC.ren, AV.cl, AC.cl, eq_self, List.all_cons, List.all_nil, AV.eqv, AC.eqv, eqvl, eqvt, Sl.eqv, List.map_append, List.length_map, List.length_append, List.length_replicate, List.length_set, List.map_replicate, nilVC, sd_22, el_22, sz_3, c_laws_big, c_spec_DrawWorkingSet, c_impl_WorkingSet, c_spec_WorkingSet, c_laws_sameInts, c_laws_has, hgq, ← hS, hany, hlw, decide_eq_false hb, hww, ← hR]
      refine ⟨⟨by omega, .inr trivial⟩, ⟨hX.1, by omega⟩, fun p3 h3 => ?_⟩
      refine loopI (J := {i : Nat // i ≤ S.length}) (fun i => ⟨slots 70 [(3, .c (.sl ⟨.loc 0, 0, 0, 0⟩ X.length k)), (4, .c (.int .i64 q)), (5, .c (.int .i64 w)), (6, .c (.sl ⟨.loc 1, 0, 0, 0⟩ S.length p1)), (7, .c (.sl ⟨.loc 2, 0, 0, 0⟩ R.length p3)), (8, I i.1)], M, [], [rowG true 3 k X, rowG true 3 p1 S, rowG true 3 p3 R]⟩) (fun i => S.length - i.1) ⟨0, Nat.zero_le _⟩ (Le_intro [0, 1, 3] (by simp only [WL, WNL, swA_new, swA_ne, nest_sw_ne, mapLL, List.mem_cons, Nat.reduceAdd, Nat.reduceLT, Nat.reduceLeDiff, Nat.reduceEqDiff, okU, List.nodup_cons, List.not_mem_nil, toT, toL, toO, keysO, renl, rent, cll, clt, eq_self, AV.eqv, AC.eqv, eqvl, eqvt, Sl.eqv, rowsLe, mapLL, rowsCl, List.map_append, List.length_map, List.length_append, List.length_set, List.map_replicate, rowG, List.getElem?_cons_zero, List.getElem?_cons_succ, List.getElem?_nil, List.append_nil, List.nil_append, List.cons_append, ghosts, St.gh, Option.some.injEq, implies_true, setT, AV.ren, AC.ren, AV.cl, AC.cl, List.replicate_succ, List.replicate_zero, List.nodup_nil, List.length_nil, List.length_cons, List.getD_cons_zero, List.getD_cons_succ, ↓reduceIte]; try simp)) ?_
      rintro ⟨i, hi⟩
      have hwi := wS (i := i) (by omega)
      rcases Nat.lt_or_ge i S.length with hlt | hge
      · have hgi : (List.map enc S).getD i [] = [AC.int .i64 (S.getD i default)] := getD_enc _ _ hlt
        have hany2 : (R.any fun x => decide (x = S.getD i default)) = true := List.any_eq_true.2 ⟨_, hg1 _ (by rw [getD_of_lt hlt]; exact List.getElem_mem _), decide_eq_true rfl⟩
        simp only [↓WP, ↓grdD, ↓grdT, ↓un_dead, ↓binVC, ↓buildVC, ↓sliceVC, WQ, WN, Int.reduceToNat, renl, cll, rent, clt, ↓reduceIte, Nat.reduceLeDiff, Nat.reduceEqDiff, Nat.reduceLT, reduceCtorEq, List.append_nil, Nat.reduceAdd, Nat.reduceSub, Nat.reduceBEq, forall_const, implies_true, cond_true, cond_false, AV.ren, AC.ren, AV.cl, AC.cl, eq_self, List.all_cons, List.all_nil, AV.eqv, AC.eqv, eqvl, eqvt, Sl.eqv, List.map_append, List.length_map, List.length_append, List.length_replicate, List.length_set, List.map_replicate, nilVC, sd_22, el_22, sz_3, c_laws_big, c_spec_DrawWorkingSet, c_impl_WorkingSet, c_spec_WorkingSet, c_laws_sameInts, c_laws_has, dlt hlt, hgi, hany2, hwi]
        refine ⟨by omega, hlt, ⟨by omega, .inr trivial⟩, ⟨i + 1, hlt⟩, Le_intro [0, 1, 2] (by simp only [WL, WNL, swA_new, swA_ne, nest_sw_ne, mapLL, List.mem_cons, Nat.reduceAdd, Nat.reduceLT, Nat.reduceLeDiff, Nat.reduceEqDiff, okU, List.nodup_cons, List.not_mem_nil, toT, toL, toO, keysO, renl, rent, cll, clt, eq_self, AV.eqv, AC.eqv, eqvl, eqvt, Sl.eqv, rowsLe, mapLL, rowsCl, List.map_append, List.length_map, List.length_append, List.length_set, List.map_replicate, rowG, List.getElem?_cons_zero, List.getElem?_cons_succ, List.getElem?_nil, List.append_nil, List.nil_append, List.cons_append, ghosts, St.gh, Option.some.injEq, implies_true, setT, AV.ren, AC.ren, AV.cl, AC.cl, List.replicate_succ, List.replicate_zero, List.nodup_nil, List.length_nil, List.length_cons, List.getD_cons_zero, List.getD_cons_succ, ↓reduceIte]; try simp), by show S.length - (i + 1) < S.length - i; omega⟩
      · obtain rfl : i = S.length := by omega
        have dle : decide ((R.length : Int) ≤ ((S.length + 1 : Nat) : Int)) = true := decide_eq_true (by omega)
        simp only [↓WP, ↓grdD, ↓grdT, ↓un_dead, ↓binVC, ↓buildVC, ↓sliceVC, WQ, WN, Int.reduceToNat, renl, cll, rent, clt, ↓reduceIte, Nat.reduceLeDiff, Nat.reduceEqDiff, Nat.reduceLT, reduceCtorEq, List.append_nil, Nat.reduceAdd, Nat.reduceSub, Nat.reduceBEq, forall_const, implies_true, cond_true, cond_false, AV.ren, AC.ren, AV.cl, AC.cl, eq_self, List.all_cons, List.all_nil, AV.eqv, AC.eqv, eqvl, eqvt, Sl.eqv, List.map_append, List.length_map, List.length_append, List.length_replicate, List.length_set, List.map_replicate, nilVC, sd_22, el_22, sz_3, c_laws_big, c_spec_DrawWorkingSet, c_impl_WorkingSet, c_spec_WorkingSet, c_laws_sameInts, c_laws_has, dge hge, hwi, dle]
end Go.Eng.T
