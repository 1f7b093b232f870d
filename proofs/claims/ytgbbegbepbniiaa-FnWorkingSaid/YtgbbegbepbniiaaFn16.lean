/- faults: the law on WorkingSet. -/
import Derived.Test.YtgbbegbepbniiaaFn15
set_option linter.unusedVariables false
set_option linter.unusedSimpArgs false
set_option linter.unusedSectionVars false
namespace Go.Eng.T
open Go.Proofs
open Cel (enc dec)
set_option maxRecDepth 100000
set_option maxHeartbeats 8000000
def c_laws_markIntS : Contract := ⟨22, fun args M => match args with
  | [.c (.sl a n _), .c (.int .i64 k)] => specR Int a n (M a.r) fun ty c _ => .eff (0 ≤ k ∧ k ≤ 4611686018427387904) Unit (fun _ => True) (fun _ => I (k + n)) (fun _ => []) (fun _ => [(a.r, rowG true ty c (mark1 k n))])
  | _ => .bad⟩
theorem ok_laws_markIntS : fnP Try.prog c_laws_markIntS.f = true ∧ ∀ args M, (c_laws_markIntS.sp args M).OK Try.prog c_laws_markIntS.f args M := by
  refine ⟨fp_22, fun args M => ?_⟩
  unfold c_laws_markIntS
  dsimp only
  split
  case h_2 => trivial
  rename_i a n ca k
  refine specR_cases fun ty c X hM hX hlen hs hi0 hk0 hf0 => ?_
  rintro ⟨h1, h2⟩
  subst hlen
  refine goIn hf_22 rfl (nt := 19) rfl (rs := [.tmp 4]) rfl (C := []) trivial (q := fun _ => false) okQ_none mixed (O := fun _ => .nil) (by kernel_rfl) ?_
  simp only [↓WP, ↓grdD, ↓grdT, ↓un_dead, ↓binVC, ↓buildVC, ↓sliceVC, WQ, WN, Int.reduceToNat, renl, cll, rent, clt, ↓reduceIte, Nat.reduceLeDiff, Nat.reduceEqDiff, Nat.reduceLT, reduceCtorEq, List.append_nil, Nat.reduceAdd, Nat.reduceSub, Nat.reduceBEq, forall_const, implies_true, cond_true, cond_false, AV.ren, AC.ren, AV.cl, AC.cl, eq_self, List.all_cons, List.all_nil, AV.eqv, AC.eqv, eqvl, eqvt, Sl.eqv, List.map_append, List.length_map, List.length_append, List.length_replicate, List.length_set, List.map_replicate, nilVC, sd_22, el_22, sz_3]
  refine loopI (J := {i : Nat // i ≤ X.length}) (fun i => ⟨slots 19 [(0, .c (.sl a.up X.length ca)), (1, I (k + (i.1 : Int))), (5, I i.1)], M, [(a.r, rowG true ty c (over (mark1 k X.length) X i.1))], []⟩) (fun i => X.length - i.1) ⟨0, by omega⟩ (Le_intro [] (by simp only [WL, WNL, swA_new, swA_ne, nest_sw_ne, mapLL, List.mem_cons, Nat.reduceAdd, Nat.reduceLT, Nat.reduceLeDiff, Nat.reduceEqDiff, okU, List.nodup_cons, List.not_mem_nil, toT, toL, toO, keysO, renl, rent, cll, clt, eq_self, AV.eqv, AC.eqv, eqvl, eqvt, Sl.eqv, rowsLe, mapLL, rowsCl, List.map_append, List.length_map, List.length_append, List.length_set, List.map_replicate, rowG, List.getElem?_cons_zero, List.getElem?_cons_succ, List.getElem?_nil, List.append_nil, List.nil_append, List.cons_append, ghosts, St.gh, Option.some.injEq, implies_true, setT, AV.ren, AC.ren, AV.cl, AC.cl, List.replicate_succ, List.replicate_zero, List.nodup_nil, List.length_nil, List.length_cons, List.getD_cons_zero, List.getD_cons_succ, ↓reduceIte, hM, over_zero]; simp)) ?_
  rintro ⟨i, hi⟩
  have hw := wS (i := i) (by omega)
  have hol : (over (mark1 k X.length) X i).length = X.length := over_length _ _ _ (mark1_length _ _)
  rcases Nat.lt_or_ge i X.length with hlt | hge
  · have w1 : IntKind.i64.wrap (k + (i : Int) + 1) = k + ((i + 1 : Nat) : Int) := by rw [w64 (by omega) (by omega)]; omega
    simp only [↓WP, ↓grdD, ↓grdT, ↓un_dead, ↓binVC, ↓buildVC, ↓sliceVC, WQ, WN, Int.reduceToNat, renl, cll, rent, clt, ↓reduceIte, Nat.reduceLeDiff, Nat.reduceEqDiff, Nat.reduceLT, reduceCtorEq, List.append_nil, Nat.reduceAdd, Nat.reduceSub, Nat.reduceBEq, forall_const, implies_true, cond_true, cond_false, AV.ren, AC.ren, AV.cl, AC.cl, eq_self, List.all_cons, List.all_nil, AV.eqv, AC.eqv, eqvl, eqvt, Sl.eqv, List.map_append, List.length_map, List.length_append, List.length_replicate, List.length_set, List.map_replicate, nilVC, sd_22, el_22, sz_3, dlt hlt, hw, hM, hol, hi0, hk0, hf0, w1]
    repeat refine ⟨by omega, ?_⟩
    refine ⟨⟨i + 1, hlt⟩, Le_intro [] ?_, by show X.length - (i + 1) < X.length - i; omega⟩
    have hst := over_set (mark1 k X.length) X i default (mark1_length _ _) hlt
    rw [mark1_get k hlt] at hst
    simp only [WL, WNL, swA_new, swA_ne, nest_sw_ne, mapLL, List.mem_cons, Nat.reduceAdd, Nat.reduceLT, Nat.reduceLeDiff, Nat.reduceEqDiff, okU, List.nodup_cons, List.not_mem_nil, toT, toL, toO, keysO, renl, rent, cll, clt, eq_self, AV.eqv, AC.eqv, eqvl, eqvt, Sl.eqv, rowsLe, mapLL, rowsCl, List.map_append, List.length_map, List.length_append, List.length_set, List.map_replicate, rowG, List.getElem?_cons_zero, List.getElem?_cons_succ, List.getElem?_nil, List.append_nil, List.nil_append, List.cons_append, ghosts, St.gh, Option.some.injEq, implies_true, setT, AV.ren, AC.ren, AV.cl, AC.cl, List.replicate_succ, List.replicate_zero, List.nodup_nil, List.length_nil, List.length_cons, List.getD_cons_zero, List.getD_cons_succ, ↓reduceIte, ← hst, List.map_set]
    try simp
  · obtain rfl : i = X.length := by omega
    simp only [↓WP, ↓grdD, ↓grdT, ↓un_dead, ↓binVC, ↓buildVC, ↓sliceVC, WQ, WN, Int.reduceToNat, renl, cll, rent, clt, ↓reduceIte, Nat.reduceLeDiff, Nat.reduceEqDiff, Nat.reduceLT, reduceCtorEq, List.append_nil, Nat.reduceAdd, Nat.reduceSub, Nat.reduceBEq, forall_const, implies_true, cond_true, cond_false, AV.ren, AC.ren, AV.cl, AC.cl, eq_self, List.all_cons, List.all_nil, AV.eqv, AC.eqv, eqvl, eqvt, Sl.eqv, List.map_append, List.length_map, List.length_append, List.length_replicate, List.length_set, List.map_replicate, nilVC, sd_22, el_22, sz_3, dge hge, hw]
    refine end_ret ?_
    simp only [↓WP, ↓grdD, ↓grdT, ↓un_dead, ↓binVC, ↓buildVC, ↓sliceVC, WQ, WN, Int.reduceToNat, renl, cll, rent, clt, ↓reduceIte, Nat.reduceLeDiff, Nat.reduceEqDiff, Nat.reduceLT, reduceCtorEq, List.append_nil, Nat.reduceAdd, Nat.reduceSub, Nat.reduceBEq, forall_const, implies_true, cond_true, cond_false, AV.ren, AC.ren, AV.cl, AC.cl, eq_self, List.all_cons, List.all_nil, AV.eqv, AC.eqv, eqvl, eqvt, Sl.eqv, List.map_append, List.length_map, List.length_append, List.length_replicate, List.length_set, List.map_replicate, nilVC, sd_22, el_22, sz_3]
    refine ⟨(), [], [], ?_⟩
    simp only [WL, WNL, swA_new, swA_ne, nest_sw_ne, mapLL, List.mem_cons, Nat.reduceAdd, Nat.reduceLT, Nat.reduceLeDiff, Nat.reduceEqDiff, okU, List.nodup_cons, List.not_mem_nil, toT, toL, toO, keysO, renl, rent, cll, clt, eq_self, AV.eqv, AC.eqv, eqvl, eqvt, Sl.eqv, rowsLe, mapLL, rowsCl, List.map_append, List.length_map, List.length_append, List.length_set, List.map_replicate, rowG, List.getElem?_cons_zero, List.getElem?_cons_succ, List.getElem?_nil, List.append_nil, List.nil_append, List.cons_append, ghosts, St.gh, Option.some.injEq, implies_true, setT, AV.ren, AC.ren, AV.cl, AC.cl, List.replicate_succ, List.replicate_zero, List.nodup_nil, List.length_nil, List.length_cons, List.getD_cons_zero, List.getD_cons_succ, ↓reduceIte, retP, hM, over_all (mark1 k X.length) X (mark1_length _ _)]
    simp [okU, hM]
def c_laws_heldIntS : Contract := ⟨23, fun args M => match args with
  | [.c (.sl a n _), .c (.int .i64 k)] => .pure (RowOk Int a n (M a.r) ∧ 0 ≤ k ∧ k ≤ 4611686018427387904) (I (if row Int a n (M a.r) = mark1 k n then k + n else -1))
  | _ => .bad⟩
theorem ok_laws_heldIntS : fnP Try.prog c_laws_heldIntS.f = true ∧ ∀ args M, (c_laws_heldIntS.sp args M).OK Try.prog c_laws_heldIntS.f args M := by
  refine ⟨fp_23, fun args M => ?_⟩
  unfold c_laws_heldIntS
  dsimp only
  split
  case h_2 => trivial
  rename_i a n ca k
  rintro ⟨hrow, h1, h2⟩
  obtain ⟨hs, X, hX, rfl, hat⟩ := hrow.x
  rw [hX]
  refine goIn hf_23 rfl (nt := 21) rfl (rs := [.tmp 4]) rfl (C := []) trivial (q := fun _ => false) okQ_none mixed (O := fun _ => .nil) (by kernel_rfl) ?_
  simp only [↓WP, ↓grdD, ↓grdT, ↓un_dead, ↓binVC, ↓buildVC, ↓sliceVC, WQ, WN, Int.reduceToNat, renl, cll, rent, clt, ↓reduceIte, Nat.reduceLeDiff, Nat.reduceEqDiff, Nat.reduceLT, reduceCtorEq, List.append_nil, Nat.reduceAdd, Nat.reduceSub, Nat.reduceBEq, forall_const, implies_true, cond_true, cond_false, AV.ren, AC.ren, AV.cl, AC.cl, eq_self, List.all_cons, List.all_nil, AV.eqv, AC.eqv, eqvl, eqvt, Sl.eqv, List.map_append, List.length_map, List.length_append, List.length_replicate, List.length_set, List.map_replicate, nilVC, sd_22, el_22, sz_3]
  refine loopI (J := {i : Nat // i ≤ X.length ∧ X.take i = (mark1 k X.length).take i}) (fun i => ⟨slots 21 [(0, .c (.sl a.up X.length ca)), (1, I (k + (i.1 : Int))), (5, I i.1)], M, [], []⟩) (fun i => X.length - i.1) ⟨0, by omega, rfl⟩ (Le_intro [] (by simp [WL, WNL, swA_new, swA_ne, nest_sw_ne, mapLL, List.mem_cons, Nat.reduceAdd, Nat.reduceLT, Nat.reduceLeDiff, Nat.reduceEqDiff, okU, List.nodup_cons, List.not_mem_nil, toT, toL, toO, keysO, renl, rent, cll, clt, eq_self, AV.eqv, AC.eqv, eqvl, eqvt, Sl.eqv, rowsLe, mapLL, rowsCl, List.map_append, List.length_map, List.length_append, List.length_set, List.map_replicate, rowG, List.getElem?_cons_zero, List.getElem?_cons_succ, List.getElem?_nil, List.append_nil, List.nil_append, List.cons_append, ghosts, St.gh, Option.some.injEq, implies_true, setT, AV.ren, AC.ren, AV.cl, AC.cl, List.replicate_succ, List.replicate_zero, List.nodup_nil, List.length_nil, List.length_cons, List.getD_cons_zero, List.getD_cons_succ, ↓reduceIte])) ?_
  rintro ⟨i, hi, he⟩
  have hw := wS (i := i) (by omega)
  rcases Nat.lt_or_ge i X.length with hlt | hge
  · obtain ⟨own, ty, cnt, cap, len, get, hM, hf, hic, hkn, hget⟩ := hat (by omega)
    have w1 : IntKind.i64.wrap (k + (i : Int) + 1) = k + ((i + 1 : Nat) : Int) := by rw [w64 (by omega) (by omega)]; omega
    have hm := mark1_get k hlt
    simp only [↓WP, ↓grdD, ↓grdT, ↓un_dead, ↓binVC, ↓buildVC, ↓sliceVC, WQ, WN, Int.reduceToNat, renl, cll, rent, clt, ↓reduceIte, Nat.reduceLeDiff, Nat.reduceEqDiff, Nat.reduceLT, reduceCtorEq, List.append_nil, Nat.reduceAdd, Nat.reduceSub, Nat.reduceBEq, forall_const, implies_true, cond_true, cond_false, AV.ren, AC.ren, AV.cl, AC.cl, eq_self, List.all_cons, List.all_nil, AV.eqv, AC.eqv, eqvl, eqvt, Sl.eqv, List.map_append, List.length_map, List.length_append, List.length_replicate, List.length_set, List.map_replicate, nilVC, sd_22, el_22, sz_3, dlt hlt, hw, hM, hf, hget i hlt, w1]
    simp only [WB, eq_self]
    repeat refine ⟨by omega, ?_⟩
    refine ⟨fun h => ?_, fun h => ?_⟩
    · rw [if_neg fun e => h (by rw [← hm, ← e])]
    · exact ⟨⟨i + 1, hlt, eq_step he hlt (by rw [mark1_length]; exact hlt) (by rw [hm]; simpa using h)⟩, Le_intro [] (by simp [WL, WNL, swA_new, swA_ne, nest_sw_ne, mapLL, List.mem_cons, Nat.reduceAdd, Nat.reduceLT, Nat.reduceLeDiff, Nat.reduceEqDiff, okU, List.nodup_cons, List.not_mem_nil, toT, toL, toO, keysO, renl, rent, cll, clt, eq_self, AV.eqv, AC.eqv, eqvl, eqvt, Sl.eqv, rowsLe, mapLL, rowsCl, List.map_append, List.length_map, List.length_append, List.length_set, List.map_replicate, rowG, List.getElem?_cons_zero, List.getElem?_cons_succ, List.getElem?_nil, List.append_nil, List.nil_append, List.cons_append, ghosts, St.gh, Option.some.injEq, implies_true, setT, AV.ren, AC.ren, AV.cl, AC.cl, List.replicate_succ, List.replicate_zero, List.nodup_nil, List.length_nil, List.length_cons, List.getD_cons_zero, List.getD_cons_succ, ↓reduceIte]), by show X.length - (i + 1) < X.length - i; omega⟩
  · obtain rfl : i = X.length := by omega
    simp only [↓WP, ↓grdD, ↓grdT, ↓un_dead, ↓binVC, ↓buildVC, ↓sliceVC, WQ, WN, Int.reduceToNat, renl, cll, rent, clt, ↓reduceIte, Nat.reduceLeDiff, Nat.reduceEqDiff, Nat.reduceLT, reduceCtorEq, List.append_nil, Nat.reduceAdd, Nat.reduceSub, Nat.reduceBEq, forall_const, implies_true, cond_true, cond_false, AV.ren, AC.ren, AV.cl, AC.cl, eq_self, List.all_cons, List.all_nil, AV.eqv, AC.eqv, eqvl, eqvt, Sl.eqv, List.map_append, List.length_map, List.length_append, List.length_replicate, List.length_set, List.map_replicate, nilVC, sd_22, el_22, sz_3, dge hge, hw]
    rw [if_pos (eq_of_take (by rw [mark1_length]) he)]
theorem q_laws_heldIntS : Quiet c_laws_heldIntS := by
  intro args M
  unfold c_laws_heldIntS
  dsimp only
  split <;> first | trivial | (intro _; rfl)
theorem wsO_len (X : List Int) (q w : Int) : (wsO X q w).length ≤ 100 := by
  unfold wsO
  split
  · exact wsL_len _ _ _ _
  · simp
def c_laws_FnExactWorkingSet : Contract := ⟨7, fun args M => match args with
  | [.c (.sl a n c), .c (.int .i64 _), .c (.int .i64 w)] => .pure (((n ≤ 9223372036854775807 ∧ n ≤ c) ∧ w ≤ 9223372036854775807) ∧ (n ≤ 4294967296 → RowOk Int a n (M a.r))) (Eng.B true)
  | _ => .bad⟩
theorem ok_laws_FnExactWorkingSet : fnP Try.prog c_laws_FnExactWorkingSet.f = true ∧ ∀ args M, (c_laws_FnExactWorkingSet.sp args M).OK Try.prog c_laws_FnExactWorkingSet.f args M := by
  refine ⟨fp_7, fun args M => ?_⟩
  unfold c_laws_FnExactWorkingSet
  dsimp only
  split
  case h_2 => trivial
  rename_i a n c q w
  rintro ⟨⟨⟨hn, hc⟩, hw⟩, hrow⟩
  refine goIn hf_7 rfl (nt := 76) rfl (rs := [.tmp 6]) rfl (C := [c_laws_toIntS, c_spec_WorkingSet, c_impl_WorkingSet, c_laws_eqIntS, c_laws_markIntS, c_laws_heldIntS]) ⟨(by first | exact .inl ok_laws_toIntS | exact ok_laws_toIntS), (by first | exact .inl ok_spec_WorkingSet | exact ok_spec_WorkingSet), (by first | exact .inl ok_impl_WorkingSet | exact ok_impl_WorkingSet), (by first | exact .inl ok_laws_eqIntS | exact ok_laws_eqIntS), (by first | exact .inl ok_laws_markIntS | exact ok_laws_markIntS), (by first | exact .inl ok_laws_heldIntS | exact ok_laws_heldIntS), trivial⟩ (q := fun _ => false) okQ_none mixed (O := fun _ => .nil) (by kernel_rfl) ?_
  rcases Nat.lt_or_ge 1048576 n with hb | hb
  · simp only [↓WP, ↓grdD, ↓grdT, ↓un_dead, ↓binVC, ↓buildVC, ↓sliceVC, WQ, WN, Int.reduceToNat, renl, cll, rent, clt, ↓reduceIte, Nat.reduceLeDiff, Nat.reduceEqDiff, Nat.reduceLT, reduceCtorEq, List.append_nil, Nat.reduceAdd, Nat.reduceSub, Nat.reduceBEq, forall_const, implies_true, cond_true, cond_false, AV.ren, AC.ren, AV.cl, AC.cl, eq_self, List.all_cons, List.all_nil, AV.eqv, AC.eqv, eqvl, eqvt, Sl.eqv, List.map_append, List.length_map, List.length_append, List.length_replicate, List.length_set, List.map_replicate, nilVC, sd_22, c_laws_toIntS, c_spec_WorkingSet, c_impl_WorkingSet, c_laws_eqIntS, c_laws_markIntS, c_laws_heldIntS, if_pos (show (1048576 : Int) < n by omega)]
    simp
    omega
  · have hrow := hrow (by omega)
    obtain ⟨hs, X, hX, rfl, hat⟩ := hrow.x
    have hb2 : X.length ≤ 4294967296 := by omega
    obtain ⟨R, hR⟩ : ∃ R, R = wsO X q w := ⟨_, rfl⟩
    have hl := wsO_len X q w
    rw [← hR] at hl
    simp only [↓WP, ↓grdD, ↓grdT, ↓un_dead, ↓binVC, ↓buildVC, ↓sliceVC, WQ, WN, Int.reduceToNat, renl, cll, rent, clt, ↓reduceIte, Nat.reduceLeDiff, Nat.reduceEqDiff, Nat.reduceLT, reduceCtorEq, List.append_nil, Nat.reduceAdd, Nat.reduceSub, Nat.reduceBEq, forall_const, implies_true, cond_true, cond_false, AV.ren, AC.ren, AV.cl, AC.cl, eq_self, List.all_cons, List.all_nil, AV.eqv, AC.eqv, eqvl, eqvt, Sl.eqv, List.map_append, List.length_map, List.length_append, List.length_replicate, List.length_set, List.map_replicate, nilVC, sd_22, c_laws_toIntS, c_spec_WorkingSet, c_impl_WorkingSet, c_laws_eqIntS, c_laws_markIntS, c_laws_heldIntS, if_neg (show ¬ (1048576 : Int) < X.length by omega), hrow, hX, ← hR, decide_true]
    simp
    repeat' (first | with_reducible refine And.intro ?_ ?_ | intro _)
    all_goals try omega
    all_goals trace_state
end Go.Eng.T
