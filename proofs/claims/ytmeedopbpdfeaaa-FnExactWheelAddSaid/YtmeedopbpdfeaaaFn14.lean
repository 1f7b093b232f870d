/- wheel: the laws of WheelAdd and WheelGo. -/
import Derived.Test.YtmeedopbpdfeaaaFn13
set_option linter.unusedVariables false
set_option linter.unusedSimpArgs false
set_option linter.unusedSectionVars false
namespace Go.Eng.T
open Go.Proofs
open Cel (enc dec)
set_option maxRecDepth 100000
set_option maxHeartbeats 8000000
def c_laws_FnExactWheelAdd : Contract := ⟨6, fun args M => match args with
  | [.agg [.int .i64 _, .int .i64 _, .sl a n c], .c (.int .i64 _), .c (.int .i64 _)] => .pure ((n ≤ 9223372036854775807 ∧ n ≤ c) ∧ (n ≤ 4294967296 → RowOk T3 a n (M a.r))) (Eng.B true)
  | _ => .bad⟩
theorem ok_laws_FnExactWheelAdd : fnP Try.prog c_laws_FnExactWheelAdd.f = true ∧ ∀ args M, (c_laws_FnExactWheelAdd.sp args M).OK Try.prog c_laws_FnExactWheelAdd.f args M := by
  refine ⟨fp_6, fun args M => ?_⟩
  unfold c_laws_FnExactWheelAdd
  dsimp only
  split
  case h_2 => trivial
  rename_i u v a n c w e
  rintro ⟨⟨hn, hc⟩, hrow⟩
  refine goIn hf_6 rfl (nt := 106) rfl (rs := [.tmp 6]) rfl (C := [c_laws_szWheel, c_laws_toWheel, c_spec_WheelAdd, c_impl_WheelAdd, c_laws_eqWheel, c_laws_markWheel, c_laws_heldWheel]) ⟨(by first | exact .inl ok_laws_szWheel | exact ok_laws_szWheel), (by first | exact .inl ok_laws_toWheel | exact ok_laws_toWheel), (by first | exact .inl ok_spec_WheelAdd | exact ok_spec_WheelAdd), (by first | exact .inl ok_impl_WheelAdd | exact ok_impl_WheelAdd), (by first | exact .inl ok_laws_eqWheel | exact ok_laws_eqWheel), (by first | exact .inl ok_laws_markWheel | exact ok_laws_markWheel), (by first | exact .inl ok_laws_heldWheel | exact ok_laws_heldWheel), trivial⟩ (q := fun f => [12, 14].contains f) ⟨fun h => absurd h (by decide), fun _ => q_laws_toWheel, fun h => absurd h (by decide), fun h => absurd h (by decide), fun _ => q_laws_eqWheel, fun h => absurd h (by decide), fun h => absurd h (by decide), trivial⟩ mixed (O := ots [(10, otl [0, 1, 2, 3, 4] .nil)]) (by kernel_rfl) ?_
  rcases Nat.lt_or_ge 1048576 n with hb | hb
  · simp only [↓WP, ↓grdD, ↓grdT, ↓un_dead, ↓binVC, ↓buildVC, ↓sliceVC, WQ, WN, Int.reduceToNat, renl, cll, rent, clt, ↓reduceIte, Nat.reduceLeDiff, Nat.reduceEqDiff, Nat.reduceLT, reduceCtorEq, List.append_nil, Nat.reduceAdd, Nat.reduceSub, Nat.reduceBEq, forall_const, implies_true, cond_true, cond_false, AV.ren, AC.ren, AV.cl, AC.cl, eq_self, List.all_cons, List.all_nil, AV.eqv, AC.eqv, eqvl, eqvt, Sl.eqv, List.map_append, List.length_map, List.length_append, List.length_replicate, List.length_set, List.map_replicate, nilVC, sz_24, zr_29, sz_29, c_laws_szWheel, c_laws_toWheel, c_spec_WheelAdd, c_impl_WheelAdd, c_laws_eqWheel, c_laws_markWheel, c_laws_heldWheel, if_pos (show (1048576 : Int) < n by omega)]
    simp
    omega
  · have hrow := hrow (by omega)
    obtain ⟨hs, X, hX, rfl, hat⟩ := hrow.x
    have hb2 : X.length ≤ 4294967296 := by omega
    obtain ⟨R, hR⟩ : ∃ R, R = addW u v X w e := ⟨_, rfl⟩
    have hl : R.2.2.1.length ≤ X.length + 1 := by rw [hR]; exact addW_len u v X w e
    have hzz : ∀ z : Int, decide (z = z) = true := fun z => by simp
    simp only [↓WP, ↓grdD, ↓grdT, ↓un_dead, ↓binVC, ↓buildVC, ↓sliceVC, WQ, WN, Int.reduceToNat, renl, cll, rent, clt, ↓reduceIte, Nat.reduceLeDiff, Nat.reduceEqDiff, Nat.reduceLT, reduceCtorEq, List.append_nil, Nat.reduceAdd, Nat.reduceSub, Nat.reduceBEq, forall_const, implies_true, cond_true, cond_false, AV.ren, AC.ren, AV.cl, AC.cl, eq_self, List.all_cons, List.all_nil, AV.eqv, AC.eqv, eqvl, eqvt, Sl.eqv, List.map_append, List.length_map, List.length_append, List.length_replicate, List.length_set, List.map_replicate, nilVC, sz_24, zr_29, sz_29, c_laws_szWheel, c_laws_toWheel, c_spec_WheelAdd, c_impl_WheelAdd, c_laws_eqWheel, c_laws_markWheel, c_laws_heldWheel, if_neg (show ¬ (1048576 : Int) < X.length by omega), hrow, hX, ← hR, decide_true]
    simp
    repeat' (first | with_reducible refine And.intro ?_ ?_ | intro _)
    all_goals try omega
theorem goO_len (u v : Int) (T : List T3) (n : Int) : (goO u v T n).2.2.1.length ≤ T.length + 12 ∧ (goO u v T n).2.2.2.length ≤ 12000 := by
  by_cases h : wheelOk u v T
  · by_cases hm : mayGo u n
    · rw [goO_yes h hm]
      have := (goW_ok h hm).2.2.1
      exact ⟨by dsimp only; omega, goW_ids h hm⟩
    · rw [goO_no h hm]
      exact ⟨by dsimp only; omega, by simp⟩
  · rw [goO_bad h]
    exact ⟨by simp, by simp⟩
def c_laws_eqIntS : Contract := ⟨25, fun args M => match args with
  | [.c (.sl a n _), .c (.sl b m _)] => .pure (RowOk Int a n (M a.r) ∧ RowOk Int b m (M b.r)) (Eng.B (decide (row Int a n (M a.r) = row Int b m (M b.r))))
  | _ => .bad⟩
theorem ok_laws_eqIntS : fnP Try.prog c_laws_eqIntS.f = true ∧ ∀ args M, (c_laws_eqIntS.sp args M).OK Try.prog c_laws_eqIntS.f args M := by
  refine ⟨fp_25, fun args M => ?_⟩
  unfold c_laws_eqIntS
  dsimp only
  split
  case h_2 => trivial
  rename_i a n ca b m cb
  rintro ⟨ha, hb⟩
  obtain ⟨hs, X, hX, rfl, hat⟩ := ha.x
  obtain ⟨hs', Y, hY, rfl, hbt⟩ := hb.x
  rw [hX, hY]
  refine goIn hf_25 rfl (nt := 26) rfl (rs := [.tmp 4]) rfl (C := []) trivial (q := fun f => [].contains f) trivial mixed (O := ots [(6, otl [0, 1, 2, 3, 4, 5, 6, 7, 8] .nil)]) (by kernel_rfl) ?_
  simp only [↓WP, ↓grdD, ↓grdT, ↓un_dead, ↓binVC, ↓buildVC, ↓sliceVC, WQ, WN, Int.reduceToNat, renl, cll, rent, clt, ↓reduceIte, Nat.reduceLeDiff, Nat.reduceEqDiff, Nat.reduceLT, reduceCtorEq, List.append_nil, Nat.reduceAdd, Nat.reduceSub, Nat.reduceBEq, forall_const, implies_true, cond_true, cond_false, AV.ren, AC.ren, AV.cl, AC.cl, eq_self, List.all_cons, List.all_nil, AV.eqv, AC.eqv, eqvl, eqvt, Sl.eqv, List.map_append, List.length_map, List.length_append, List.length_replicate, List.length_set, List.map_replicate, nilVC, sd_40, el_40, sz_3]
  refine ⟨fun h => ?_, fun h => ?_⟩
  · have : X ≠ Y := by rintro rfl; simp at h
    simp [this]
  · have hl : X.length = Y.length := by simp at h; omega
    refine loopI (J := {i : Nat // i ≤ X.length ∧ X.take i = Y.take i}) (fun i => ⟨slots 26 [(0, .c (.sl a.up X.length ca)), (1, .c (.sl b.up Y.length cb)), (5, I i.1)], M, [], []⟩) (fun i => X.length - i.1) ⟨0, by omega, rfl⟩ (Le_intro [] (by simp [WL, WNL, swA_new, swA_ne, nest_sw_ne, mapLL, List.mem_cons, Nat.reduceAdd, Nat.reduceLT, Nat.reduceLeDiff, Nat.reduceEqDiff, okU, List.nodup_cons, List.not_mem_nil, toT, toL, toO, keysO, renl, rent, cll, clt, eq_self, AV.eqv, AC.eqv, eqvl, eqvt, Sl.eqv, rowsLe, mapLL, rowsCl, List.map_append, List.length_map, List.length_append, List.length_set, List.map_replicate, rowG, List.getElem?_cons_zero, List.getElem?_cons_succ, List.getElem?_nil, List.append_nil, List.nil_append, List.cons_append, ghosts, St.gh, Option.some.injEq, implies_true, setT, AV.ren, AC.ren, AV.cl, AC.cl, List.replicate_succ, List.replicate_zero, List.nodup_nil, List.length_nil, List.length_cons, List.getD_cons_zero, List.getD_cons_succ, ↓reduceIte])) ?_
    rintro ⟨i, hi, he⟩
    have hw := wS (i := i) (by omega)
    rcases Nat.lt_or_ge i X.length with hlt | hge
    · obtain ⟨own, ty, cnt, cap, len, get, hM, hf, hic, hkn, hget⟩ := hat (by omega)
      obtain ⟨own', ty', cnt', cap', len', get', hM', hf', hic', hkn', hget'⟩ := hbt (by omega)
      simp only [↓WP, ↓grdD, ↓grdT, ↓un_dead, ↓binVC, ↓buildVC, ↓sliceVC, WQ, WN, Int.reduceToNat, renl, cll, rent, clt, ↓reduceIte, Nat.reduceLeDiff, Nat.reduceEqDiff, Nat.reduceLT, reduceCtorEq, List.append_nil, Nat.reduceAdd, Nat.reduceSub, Nat.reduceBEq, forall_const, implies_true, cond_true, cond_false, AV.ren, AC.ren, AV.cl, AC.cl, eq_self, List.all_cons, List.all_nil, AV.eqv, AC.eqv, eqvl, eqvt, Sl.eqv, List.map_append, List.length_map, List.length_append, List.length_replicate, List.length_set, List.map_replicate, nilVC, sd_40, el_40, sz_3, dlt hlt, hw, hM, hf, hget i hlt, hM', hf', hget' i (by omega)]
      repeat refine ⟨by omega, ?_⟩
      refine ⟨fun h1 => ?_, fun h1 => ?_⟩
      · have := ne_of_getD (X := X) (Y := Y) (i := i) (by simpa using h1)
        simp [this]
      · exact ⟨⟨i + 1, hlt, eq_step he hlt (by omega) (by simpa using h1)⟩, Le_intro [] (by simp [WL, WNL, swA_new, swA_ne, nest_sw_ne, mapLL, List.mem_cons, Nat.reduceAdd, Nat.reduceLT, Nat.reduceLeDiff, Nat.reduceEqDiff, okU, List.nodup_cons, List.not_mem_nil, toT, toL, toO, keysO, renl, rent, cll, clt, eq_self, AV.eqv, AC.eqv, eqvl, eqvt, Sl.eqv, rowsLe, mapLL, rowsCl, List.map_append, List.length_map, List.length_append, List.length_set, List.map_replicate, rowG, List.getElem?_cons_zero, List.getElem?_cons_succ, List.getElem?_nil, List.append_nil, List.nil_append, List.cons_append, ghosts, St.gh, Option.some.injEq, implies_true, setT, AV.ren, AC.ren, AV.cl, AC.cl, List.replicate_succ, List.replicate_zero, List.nodup_nil, List.length_nil, List.length_cons, List.getD_cons_zero, List.getD_cons_succ, ↓reduceIte]), by show X.length - (i + 1) < X.length - i; omega⟩
    · obtain rfl : i = X.length := by omega
      simp only [↓WP, ↓grdD, ↓grdT, ↓un_dead, ↓binVC, ↓buildVC, ↓sliceVC, WQ, WN, Int.reduceToNat, renl, cll, rent, clt, ↓reduceIte, Nat.reduceLeDiff, Nat.reduceEqDiff, Nat.reduceLT, reduceCtorEq, List.append_nil, Nat.reduceAdd, Nat.reduceSub, Nat.reduceBEq, forall_const, implies_true, cond_true, cond_false, AV.ren, AC.ren, AV.cl, AC.cl, eq_self, List.all_cons, List.all_nil, AV.eqv, AC.eqv, eqvl, eqvt, Sl.eqv, List.map_append, List.length_map, List.length_append, List.length_replicate, List.length_set, List.map_replicate, nilVC, sd_40, el_40, sz_3, dge hge, hw]
      simp [eq_of_take hl he]
theorem q_laws_eqIntS : Quiet c_laws_eqIntS := by
  intro args M
  unfold c_laws_eqIntS
  dsimp only
  split <;> first | trivial | (intro _; rfl)
def c_laws_markIntS : Contract := ⟨26, fun args M => match args with
  | [.c (.sl a n _), .c (.int .i64 k)] => specR Int a n (M a.r) fun ty c _ => .eff (0 ≤ k ∧ k ≤ 4611686018427387904) Unit (fun _ => True) (fun _ => I (k + n)) (fun _ => []) (fun _ => [(a.r, rowG true ty c (mark1 k n))])
  | _ => .bad⟩
theorem ok_laws_markIntS : fnP Try.prog c_laws_markIntS.f = true ∧ ∀ args M, (c_laws_markIntS.sp args M).OK Try.prog c_laws_markIntS.f args M := by
  refine ⟨fp_26, fun args M => ?_⟩
  unfold c_laws_markIntS
  dsimp only
  split
  case h_2 => trivial
  rename_i a n ca k
  refine specR_cases fun ty c X hM hX hlen hs hi0 hk0 hf0 => ?_
  rintro ⟨h1, h2⟩
  subst hlen
  refine goIn hf_26 rfl (nt := 19) rfl (rs := [.tmp 4]) rfl (C := []) trivial (q := fun _ => false) okQ_none mixed (O := fun _ => .nil) (by kernel_rfl) ?_
  simp only [↓WP, ↓grdD, ↓grdT, ↓un_dead, ↓binVC, ↓buildVC, ↓sliceVC, WQ, WN, Int.reduceToNat, renl, cll, rent, clt, ↓reduceIte, Nat.reduceLeDiff, Nat.reduceEqDiff, Nat.reduceLT, reduceCtorEq, List.append_nil, Nat.reduceAdd, Nat.reduceSub, Nat.reduceBEq, forall_const, implies_true, cond_true, cond_false, AV.ren, AC.ren, AV.cl, AC.cl, eq_self, List.all_cons, List.all_nil, AV.eqv, AC.eqv, eqvl, eqvt, Sl.eqv, List.map_append, List.length_map, List.length_append, List.length_replicate, List.length_set, List.map_replicate, nilVC, sd_40, el_40, sz_3]
  refine loopI (J := {i : Nat // i ≤ X.length}) (fun i => ⟨slots 19 [(0, .c (.sl a.up X.length ca)), (1, I (k + (i.1 : Int))), (5, I i.1)], M, [(a.r, rowG true ty c (over (mark1 k X.length) X i.1))], []⟩) (fun i => X.length - i.1) ⟨0, by omega⟩ (Le_intro [] (by simp only [WL, WNL, swA_new, swA_ne, nest_sw_ne, mapLL, List.mem_cons, Nat.reduceAdd, Nat.reduceLT, Nat.reduceLeDiff, Nat.reduceEqDiff, okU, List.nodup_cons, List.not_mem_nil, toT, toL, toO, keysO, renl, rent, cll, clt, eq_self, AV.eqv, AC.eqv, eqvl, eqvt, Sl.eqv, rowsLe, mapLL, rowsCl, List.map_append, List.length_map, List.length_append, List.length_set, List.map_replicate, rowG, List.getElem?_cons_zero, List.getElem?_cons_succ, List.getElem?_nil, List.append_nil, List.nil_append, List.cons_append, ghosts, St.gh, Option.some.injEq, implies_true, setT, AV.ren, AC.ren, AV.cl, AC.cl, List.replicate_succ, List.replicate_zero, List.nodup_nil, List.length_nil, List.length_cons, List.getD_cons_zero, List.getD_cons_succ, ↓reduceIte, hM, over_zero]; simp)) ?_
  rintro ⟨i, hi⟩
  have hw := wS (i := i) (by omega)
  have hol : (over (mark1 k X.length) X i).length = X.length := over_length _ _ _ (mark1_length _ _)
  rcases Nat.lt_or_ge i X.length with hlt | hge
  · have w1 : IntKind.i64.wrap (k + (i : Int) + 1) = k + ((i + 1 : Nat) : Int) := by rw [w64 (by omega) (by omega)]; omega
    simp only [↓WP, ↓grdD, ↓grdT, ↓un_dead, ↓binVC, ↓buildVC, ↓sliceVC, WQ, WN, Int.reduceToNat, renl, cll, rent, clt, ↓reduceIte, Nat.reduceLeDiff, Nat.reduceEqDiff, Nat.reduceLT, reduceCtorEq, List.append_nil, Nat.reduceAdd, Nat.reduceSub, Nat.reduceBEq, forall_const, implies_true, cond_true, cond_false, AV.ren, AC.ren, AV.cl, AC.cl, eq_self, List.all_cons, List.all_nil, AV.eqv, AC.eqv, eqvl, eqvt, Sl.eqv, List.map_append, List.length_map, List.length_append, List.length_replicate, List.length_set, List.map_replicate, nilVC, sd_40, el_40, sz_3, dlt hlt, hw, hM, hol, hi0, hk0, hf0, w1]
    repeat refine ⟨by omega, ?_⟩
    refine ⟨⟨i + 1, hlt⟩, Le_intro [] ?_, by show X.length - (i + 1) < X.length - i; omega⟩
    have hst := over_set (mark1 k X.length) X i default (mark1_length _ _) hlt
    rw [mark1_get k hlt] at hst
    simp only [WL, WNL, swA_new, swA_ne, nest_sw_ne, mapLL, List.mem_cons, Nat.reduceAdd, Nat.reduceLT, Nat.reduceLeDiff, Nat.reduceEqDiff, okU, List.nodup_cons, List.not_mem_nil, toT, toL, toO, keysO, renl, rent, cll, clt, eq_self, AV.eqv, AC.eqv, eqvl, eqvt, Sl.eqv, rowsLe, mapLL, rowsCl, List.map_append, List.length_map, List.length_append, List.length_set, List.map_replicate, rowG, List.getElem?_cons_zero, List.getElem?_cons_succ, List.getElem?_nil, List.append_nil, List.nil_append, List.cons_append, ghosts, St.gh, Option.some.injEq, implies_true, setT, AV.ren, AC.ren, AV.cl, AC.cl, List.replicate_succ, List.replicate_zero, List.nodup_nil, List.length_nil, List.length_cons, List.getD_cons_zero, List.getD_cons_succ, ↓reduceIte, ← hst, List.map_set]
    try simp
  · obtain rfl : i = X.length := by omega
    simp only [↓WP, ↓grdD, ↓grdT, ↓un_dead, ↓binVC, ↓buildVC, ↓sliceVC, WQ, WN, Int.reduceToNat, renl, cll, rent, clt, ↓reduceIte, Nat.reduceLeDiff, Nat.reduceEqDiff, Nat.reduceLT, reduceCtorEq, List.append_nil, Nat.reduceAdd, Nat.reduceSub, Nat.reduceBEq, forall_const, implies_true, cond_true, cond_false, AV.ren, AC.ren, AV.cl, AC.cl, eq_self, List.all_cons, List.all_nil, AV.eqv, AC.eqv, eqvl, eqvt, Sl.eqv, List.map_append, List.length_map, List.length_append, List.length_replicate, List.length_set, List.map_replicate, nilVC, sd_40, el_40, sz_3, dge hge, hw]
    refine end_ret ?_
    simp only [↓WP, ↓grdD, ↓grdT, ↓un_dead, ↓binVC, ↓buildVC, ↓sliceVC, WQ, WN, Int.reduceToNat, renl, cll, rent, clt, ↓reduceIte, Nat.reduceLeDiff, Nat.reduceEqDiff, Nat.reduceLT, reduceCtorEq, List.append_nil, Nat.reduceAdd, Nat.reduceSub, Nat.reduceBEq, forall_const, implies_true, cond_true, cond_false, AV.ren, AC.ren, AV.cl, AC.cl, eq_self, List.all_cons, List.all_nil, AV.eqv, AC.eqv, eqvl, eqvt, Sl.eqv, List.map_append, List.length_map, List.length_append, List.length_replicate, List.length_set, List.map_replicate, nilVC, sd_40, el_40, sz_3]
    refine ⟨(), [], [], ?_⟩
    simp only [WL, WNL, swA_new, swA_ne, nest_sw_ne, mapLL, List.mem_cons, Nat.reduceAdd, Nat.reduceLT, Nat.reduceLeDiff, Nat.reduceEqDiff, okU, List.nodup_cons, List.not_mem_nil, toT, toL, toO, keysO, renl, rent, cll, clt, eq_self, AV.eqv, AC.eqv, eqvl, eqvt, Sl.eqv, rowsLe, mapLL, rowsCl, List.map_append, List.length_map, List.length_append, List.length_set, List.map_replicate, rowG, List.getElem?_cons_zero, List.getElem?_cons_succ, List.getElem?_nil, List.append_nil, List.nil_append, List.cons_append, ghosts, St.gh, Option.some.injEq, implies_true, setT, AV.ren, AC.ren, AV.cl, AC.cl, List.replicate_succ, List.replicate_zero, List.nodup_nil, List.length_nil, List.length_cons, List.getD_cons_zero, List.getD_cons_succ, ↓reduceIte, retP, hM, over_all (mark1 k X.length) X (mark1_length _ _)]
    simp [okU, hM]
def c_laws_heldIntS : Contract := ⟨27, fun args M => match args with
  | [.c (.sl a n _), .c (.int .i64 k)] => .pure (RowOk Int a n (M a.r) ∧ 0 ≤ k ∧ k ≤ 4611686018427387904) (I (if row Int a n (M a.r) = mark1 k n then k + n else -1))
  | _ => .bad⟩
theorem ok_laws_heldIntS : fnP Try.prog c_laws_heldIntS.f = true ∧ ∀ args M, (c_laws_heldIntS.sp args M).OK Try.prog c_laws_heldIntS.f args M := by
  refine ⟨fp_27, fun args M => ?_⟩
  unfold c_laws_heldIntS
  dsimp only
  split
  case h_2 => trivial
  rename_i a n ca k
  rintro ⟨hrow, h1, h2⟩
  obtain ⟨hs, X, hX, rfl, hat⟩ := hrow.x
  rw [hX]
  refine goIn hf_27 rfl (nt := 21) rfl (rs := [.tmp 4]) rfl (C := []) trivial (q := fun _ => false) okQ_none mixed (O := fun _ => .nil) (by kernel_rfl) ?_
  simp only [↓WP, ↓grdD, ↓grdT, ↓un_dead, ↓binVC, ↓buildVC, ↓sliceVC, WQ, WN, Int.reduceToNat, renl, cll, rent, clt, ↓reduceIte, Nat.reduceLeDiff, Nat.reduceEqDiff, Nat.reduceLT, reduceCtorEq, List.append_nil, Nat.reduceAdd, Nat.reduceSub, Nat.reduceBEq, forall_const, implies_true, cond_true, cond_false, AV.ren, AC.ren, AV.cl, AC.cl, eq_self, List.all_cons, List.all_nil, AV.eqv, AC.eqv, eqvl, eqvt, Sl.eqv, List.map_append, List.length_map, List.length_append, List.length_replicate, List.length_set, List.map_replicate, nilVC, sd_40, el_40, sz_3]
  refine loopI (J := {i : Nat // i ≤ X.length ∧ X.take i = (mark1 k X.length).take i}) (fun i => ⟨slots 21 [(0, .c (.sl a.up X.length ca)), (1, I (k + (i.1 : Int))), (5, I i.1)], M, [], []⟩) (fun i => X.length - i.1) ⟨0, by omega, rfl⟩ (Le_intro [] (by simp [WL, WNL, swA_new, swA_ne, nest_sw_ne, mapLL, List.mem_cons, Nat.reduceAdd, Nat.reduceLT, Nat.reduceLeDiff, Nat.reduceEqDiff, okU, List.nodup_cons, List.not_mem_nil, toT, toL, toO, keysO, renl, rent, cll, clt, eq_self, AV.eqv, AC.eqv, eqvl, eqvt, Sl.eqv, rowsLe, mapLL, rowsCl, List.map_append, List.length_map, List.length_append, List.length_set, List.map_replicate, rowG, List.getElem?_cons_zero, List.getElem?_cons_succ, List.getElem?_nil, List.append_nil, List.nil_append, List.cons_append, ghosts, St.gh, Option.some.injEq, implies_true, setT, AV.ren, AC.ren, AV.cl, AC.cl, List.replicate_succ, List.replicate_zero, List.nodup_nil, List.length_nil, List.length_cons, List.getD_cons_zero, List.getD_cons_succ, ↓reduceIte])) ?_
  rintro ⟨i, hi, he⟩
  have hw := wS (i := i) (by omega)
  rcases Nat.lt_or_ge i X.length with hlt | hge
  · obtain ⟨own, ty, cnt, cap, len, get, hM, hf, hic, hkn, hget⟩ := hat (by omega)
    have w1 : IntKind.i64.wrap (k + (i : Int) + 1) = k + ((i + 1 : Nat) : Int) := by rw [w64 (by omega) (by omega)]; omega
    have hm := mark1_get k hlt
    simp only [↓WP, ↓grdD, ↓grdT, ↓un_dead, ↓binVC, ↓buildVC, ↓sliceVC, WQ, WN, Int.reduceToNat, renl, cll, rent, clt, ↓reduceIte, Nat.reduceLeDiff, Nat.reduceEqDiff, Nat.reduceLT, reduceCtorEq, List.append_nil, Nat.reduceAdd, Nat.reduceSub, Nat.reduceBEq, forall_const, implies_true, cond_true, cond_false, AV.ren, AC.ren, AV.cl, AC.cl, eq_self, List.all_cons, List.all_nil, AV.eqv, AC.eqv, eqvl, eqvt, Sl.eqv, List.map_append, List.length_map, List.length_append, List.length_replicate, List.length_set, List.map_replicate, nilVC, sd_40, el_40, sz_3, dlt hlt, hw, hM, hf, hget i hlt, w1]
    simp only [WB, eq_self]
    repeat refine ⟨by omega, ?_⟩
    refine ⟨fun h => ?_, fun h => ?_⟩
    · rw [if_neg fun e => h (by rw [← hm, ← e])]
    · exact ⟨⟨i + 1, hlt, eq_step he hlt (by rw [mark1_length]; exact hlt) (by rw [hm]; simpa using h)⟩, Le_intro [] (by simp [WL, WNL, swA_new, swA_ne, nest_sw_ne, mapLL, List.mem_cons, Nat.reduceAdd, Nat.reduceLT, Nat.reduceLeDiff, Nat.reduceEqDiff, okU, List.nodup_cons, List.not_mem_nil, toT, toL, toO, keysO, renl, rent, cll, clt, eq_self, AV.eqv, AC.eqv, eqvl, eqvt, Sl.eqv, rowsLe, mapLL, rowsCl, List.map_append, List.length_map, List.length_append, List.length_set, List.map_replicate, rowG, List.getElem?_cons_zero, List.getElem?_cons_succ, List.getElem?_nil, List.append_nil, List.nil_append, List.cons_append, ghosts, St.gh, Option.some.injEq, implies_true, setT, AV.ren, AC.ren, AV.cl, AC.cl, List.replicate_succ, List.replicate_zero, List.nodup_nil, List.length_nil, List.length_cons, List.getD_cons_zero, List.getD_cons_succ, ↓reduceIte]), by show X.length - (i + 1) < X.length - i; omega⟩
  · obtain rfl : i = X.length := by omega
    simp only [↓WP, ↓grdD, ↓grdT, ↓un_dead, ↓binVC, ↓buildVC, ↓sliceVC, WQ, WN, Int.reduceToNat, renl, cll, rent, clt, ↓reduceIte, Nat.reduceLeDiff, Nat.reduceEqDiff, Nat.reduceLT, reduceCtorEq, List.append_nil, Nat.reduceAdd, Nat.reduceSub, Nat.reduceBEq, forall_const, implies_true, cond_true, cond_false, AV.ren, AC.ren, AV.cl, AC.cl, eq_self, List.all_cons, List.all_nil, AV.eqv, AC.eqv, eqvl, eqvt, Sl.eqv, List.map_append, List.length_map, List.length_append, List.length_replicate, List.length_set, List.map_replicate, nilVC, sd_40, el_40, sz_3, dge hge, hw]
    rw [if_pos (eq_of_take (by rw [mark1_length]) he)]
theorem q_laws_heldIntS : Quiet c_laws_heldIntS := by
  intro args M
  unfold c_laws_heldIntS
  dsimp only
  split <;> first | trivial | (intro _; rfl)
def c_laws_FnExactWheelGo : Contract := ⟨7, fun args M => match args with
  | [.agg [.int .i64 _, .int .i64 _, .sl a n c], .c (.int .i64 _)] => .pure ((n ≤ 9223372036854775807 ∧ n ≤ c) ∧ (n ≤ 4294967296 → RowOk T3 a n (M a.r))) (Eng.B true)
  | _ => .bad⟩
theorem ok_laws_FnExactWheelGo : fnP Try.prog c_laws_FnExactWheelGo.f = true ∧ ∀ args M, (c_laws_FnExactWheelGo.sp args M).OK Try.prog c_laws_FnExactWheelGo.f args M := by
  refine ⟨fp_7, fun args M => ?_⟩
  unfold c_laws_FnExactWheelGo
  dsimp only
  split
  case h_2 => trivial
  rename_i u v a n c m
  rintro ⟨⟨hn, hc⟩, hrow⟩
  refine goIn hf_7 rfl (nt := 117) rfl (rs := [.tmp 4]) rfl (C := [c_laws_szWheel, c_laws_toWheel, c_spec_WheelGo, c_impl_WheelGo, c_laws_eqWheel, c_laws_eqIntS, c_laws_markWheel, c_laws_markIntS, c_laws_heldWheel, c_laws_heldIntS]) ⟨(by first | exact .inl ok_laws_szWheel | exact ok_laws_szWheel), (by first | exact .inl ok_laws_toWheel | exact ok_laws_toWheel), (by first | exact .inl ok_spec_WheelGo | exact ok_spec_WheelGo), (by first | exact .inl ok_impl_WheelGo | exact ok_impl_WheelGo), (by first | exact .inl ok_laws_eqWheel | exact ok_laws_eqWheel), (by first | exact .inl ok_laws_eqIntS | exact ok_laws_eqIntS), (by first | exact .inl ok_laws_markWheel | exact ok_laws_markWheel), (by first | exact .inl ok_laws_markIntS | exact ok_laws_markIntS), (by first | exact .inl ok_laws_heldWheel | exact ok_laws_heldWheel), (by first | exact .inl ok_laws_heldIntS | exact ok_laws_heldIntS), trivial⟩ (q := fun f => [12, 14].contains f) ⟨fun h => absurd h (by decide), fun _ => q_laws_toWheel, fun h => absurd h (by decide), fun h => absurd h (by decide), fun _ => q_laws_eqWheel, fun h => absurd h (by decide), fun h => absurd h (by decide), fun h => absurd h (by decide), fun h => absurd h (by decide), fun h => absurd h (by decide), trivial⟩ mixed (O := ots [(10, otl [0, 1, 2, 3, 4] .nil)]) (by kernel_rfl) ?_
  rcases Nat.lt_or_ge 1048576 n with hb | hb
  · simp only [↓WP, ↓grdD, ↓grdT, ↓un_dead, ↓binVC, ↓buildVC, ↓sliceVC, WQ, WN, Int.reduceToNat, renl, cll, rent, clt, ↓reduceIte, Nat.reduceLeDiff, Nat.reduceEqDiff, Nat.reduceLT, reduceCtorEq, List.append_nil, Nat.reduceAdd, Nat.reduceSub, Nat.reduceBEq, forall_const, implies_true, cond_true, cond_false, AV.ren, AC.ren, AV.cl, AC.cl, eq_self, List.all_cons, List.all_nil, AV.eqv, AC.eqv, eqvl, eqvt, Sl.eqv, List.map_append, List.length_map, List.length_append, List.length_replicate, List.length_set, List.map_replicate, nilVC, sz_24, zr_29, sz_29, c_laws_szWheel, c_laws_toWheel, c_spec_WheelGo, c_impl_WheelGo, c_laws_eqWheel, c_laws_eqIntS, c_laws_markWheel, c_laws_markIntS, c_laws_heldWheel, c_laws_heldIntS, if_pos (show (1048576 : Int) < n by omega)]
    simp
    omega
  · have hrow := hrow (by omega)
    obtain ⟨hs, X, hX, rfl, hat⟩ := hrow.x
    have hb2 : X.length ≤ 4294967296 := by omega
    obtain ⟨R, hR⟩ : ∃ R, R = goO u v X m := ⟨_, rfl⟩
    have hl := goO_len u v X m
    rw [← hR] at hl
    obtain ⟨hl1, hl2⟩ := hl
    simp only [↓WP, ↓grdD, ↓grdT, ↓un_dead, ↓binVC, ↓buildVC, ↓sliceVC, WQ, WN, Int.reduceToNat, renl, cll, rent, clt, ↓reduceIte, Nat.reduceLeDiff, Nat.reduceEqDiff, Nat.reduceLT, reduceCtorEq, List.append_nil, Nat.reduceAdd, Nat.reduceSub, Nat.reduceBEq, forall_const, implies_true, cond_true, cond_false, AV.ren, AC.ren, AV.cl, AC.cl, eq_self, List.all_cons, List.all_nil, AV.eqv, AC.eqv, eqvl, eqvt, Sl.eqv, List.map_append, List.length_map, List.length_append, List.length_replicate, List.length_set, List.map_replicate, nilVC, sz_24, zr_29, sz_29, c_laws_szWheel, c_laws_toWheel, c_spec_WheelGo, c_impl_WheelGo, c_laws_eqWheel, c_laws_eqIntS, c_laws_markWheel, c_laws_markIntS, c_laws_heldWheel, c_laws_heldIntS, if_neg (show ¬ (1048576 : Int) < X.length by omega), hrow, hX, ← hR, decide_true]
    simp
    repeat' (first | with_reducible refine And.intro ?_ ?_ | intro _)
    all_goals try omega
end Go.Eng.T
