/- wheel: WheelGo as it is programmed. -/
import Derived.Test.YtmeedopbpdfeaaaFn10
set_option linter.unusedVariables false
set_option linter.unusedSimpArgs false
set_option linter.unusedSectionVars false
namespace Go.Eng.T
open Go.Proofs
open Cel (enc dec)
set_option maxRecDepth 100000
set_option maxHeartbeats 8000000
theorem goO_bad {u v n : Int} {T : List T3} (h : ¬ wheelOk u v T) : goO u v T n = (0, 0, [], []) := by rw [goO, if_neg h]
theorem goO_no {u v n : Int} {T : List T3} (h : wheelOk u v T) (hm : ¬ mayGo u n) : goO u v T n = (u, v, T, []) := by rw [goO, if_pos h, if_neg hm]
theorem goO_yes {u v n : Int} {T : List T3} (h : wheelOk u v T) (hm : mayGo u n) : goO u v T n = (u + n, v, (goW (u + n) T).1, (goW (u + n) T).2) := by rw [goO, if_pos h, if_pos hm]
/-- where the going on stands -/
def going (u v now : Int) (X T : List T3) (I : List Int) : Prop := (∃ i, runW now (X, []) i = (T, I)) ∧ wk u v T ∧ T.length ≤ 12 ∧ I.length + meas now T ≤ 12000
theorem going_new {u v n : Int} {X : List T3} (h : wheelOk u v X) (hm : mayGo u n) : going u v (u + n) X X [] := by
  obtain ⟨h1, h2, h3, h4⟩ := wheelOk_wk.1 h
  refine ⟨⟨0, rfl⟩, h4, h3, ?_⟩
  have b := meas_le (n := n) h4 (by have := hm.1; omega)
  have c : n.toNat * X.length ≤ 1000 * 12 := Nat.mul_le_mul (by have := hm.1; omega) h3
  simp only [List.length_nil]
  omega
theorem going_step {u v now : Int} {X : List T3} {t : T3} {T : List T3} {I : List Int} (h : going u v now X (t :: T) I) (hn : now ≤ 1000000) (hc : t.2.1 ≤ now) :
    going u v now X (if 0 < t.2.2 then putW T (t.1, t.2.1 + t.2.2, t.2.2) else T) (I ++ [t.1]) ∧ meas now (if 0 < t.2.2 then putW T (t.1, t.2.1 + t.2.2, t.2.2) else T) < meas now (t :: T) ∧ tmOk u v t ∧ T.length + 1 ≤ 12 ∧ I.length ≤ 12000 ∧ T.Pairwise blt := by
  obtain ⟨⟨i, hi⟩, h2, h3, h4⟩ := h
  obtain ⟨k1, k2, k3, k4⟩ := wk_tail h2
  have hms := meas_step (T := T) (I := I) hc k4.2.2.1
  have hst := step_wk (s := (t :: T, I)) h2 hn
  have e : stepW now (t :: T, I) = ((if 0 < t.2.2 then putW T (t.1, t.2.1 + t.2.2, t.2.2) else T), I ++ [t.1]) := by rw [stepW, if_pos hc]
  rw [e] at hms hst
  dsimp only at hms hst
  refine ⟨⟨⟨i + 1, by rw [runW, hi, e]⟩, hst.1, Nat.le_trans hst.2 h3, ?_⟩, hms, k4, h3, by omega, k1.1⟩
  rw [List.length_append, List.length_singleton]
  omega
theorem going_end {u v now : Int} {X T : List T3} {I : List Int} (h : going u v now X T I) (hX : ∀ t ∈ X, 0 ≤ t.2.2) (hd : doneW now T) : goW now X = (T, I) := by
  obtain ⟨⟨i, hi⟩, _⟩ := h
  rw [goW_eq hX (k := i) (by rw [hi]; exact hd), hi]
def c_impl_WheelGo : Contract := ⟨24, fun args M => match args with
  | [.agg [.int .i64 u, .int .i64 v, .sl a n c], .c (.int .i64 m)] => .eff (RowOk T3 a n (M a.r) ∧ n ≤ c) (Nat × Nat) (fun k => (goO u v (row T3 a n (M a.r)) m).2.2.1.length ≤ k.1 ∧ (goO u v (row T3 a n (M a.r)) m).2.2.2.length ≤ k.2) (fun k => .tup [(true, [.int .i64 (goO u v (row T3 a n (M a.r)) m).1, .int .i64 (goO u v (row T3 a n (M a.r)) m).2.1, .sl ⟨.loc 0, 0, 0, 0⟩ (goO u v (row T3 a n (M a.r)) m).2.2.1.length k.1]), (false, [.sl ⟨.loc 1, 0, 0, 0⟩ (goO u v (row T3 a n (M a.r)) m).2.2.2.length k.2])]) (fun k => [rowG true 51 k.1 (goO u v (row T3 a n (M a.r)) m).2.2.1, rowG true 3 k.2 (goO u v (row T3 a n (M a.r)) m).2.2.2]) (fun _ => [])
  | _ => .bad⟩
theorem ok_impl_WheelGo : fnP Try.prog c_impl_WheelGo.f = true ∧ ∀ args M, (c_impl_WheelGo.sp args M).OK Try.prog c_impl_WheelGo.f args M := by
  refine ⟨fp_24, fun args M => ?_⟩
  unfold c_impl_WheelGo
  dsimp only
  split
  case h_2 => trivial
  rename_i u v a n c m
  rintro ⟨hrow, hc⟩
  obtain ⟨hs, X, hX, rfl, hat⟩ := hrow.x
  rw [hX]
  refine goIn hf_24 rfl (nt := 79) rfl (rs := [.cell 4 29, .tmp 5]) rfl (C := [c_impl_WheelOk, c_impl_cloneWheel, c_impl_in, c_slices_Delete_Timer, c_slices_SortFunc_Timer]) ⟨(by first | exact .inl ok_impl_WheelOk | exact ok_impl_WheelOk), (by first | exact .inl ok_impl_cloneWheel | exact ok_impl_cloneWheel), (by first | exact .inl ok_impl_in | exact ok_impl_in), (by first | exact .inl ok_slices_Delete_Timer | exact ok_slices_Delete_Timer), (by first | exact .inl ok_slices_SortFunc_Timer | exact ok_slices_SortFunc_Timer), trivial⟩ (q := fun f => [].contains f) ⟨fun h => absurd h (by decide), fun h => absurd h (by decide), fun h => absurd h (by decide), fun h => absurd h (by decide), fun h => absurd h (by decide), trivial⟩ mixed (O := ots [(8, otl [0, 1, 2, 3, 4, 5, 6, 7, 8, 9, 10, 11, 12, 13] .nil)]) (by kernel_rfl) ?_
  by_cases hok : wheelOk u v X
  · have hX12 : X.length ≤ 12 := hok.2.2.1
    have hb := hok.1
    by_cases hm : mayGo u m
    · rw [goO_yes hok hm]
      have hk := (wheelOk_wk.1 hok).2.2.2
      have hnew := going_new hok hm
      obtain ⟨m1, m2⟩ := hm
      obtain ⟨now, hnow⟩ : ∃ now, now = u + m := ⟨_, rfl⟩
      have d1 : decide (1 ≤ m ∧ m ≤ 1000) = true := decide_eq_true m1
      have w1 : IntKind.i64.wrap (u + m) = now := by rw [hnow]; exact w64 (by omega) (by omega)
      have d2 : decide (now > 1000000) = false := decide_eq_false (by omega)
      rw [← hnow] at hnew ⊢
      simp only [↓WP, ↓grdD, ↓grdT, ↓un_dead, ↓binVC, ↓buildVC, ↓sliceVC, WQ, WN, Int.reduceToNat, renl, cll, rent, clt, ↓reduceIte, Nat.reduceLeDiff, Nat.reduceEqDiff, Nat.reduceLT, reduceCtorEq, List.append_nil, Nat.reduceAdd, Nat.reduceSub, Nat.reduceBEq, forall_const, implies_true, cond_true, cond_false, AV.ren, AC.ren, AV.cl, AC.cl, eq_self, List.all_cons, List.all_nil, AV.eqv, AC.eqv, eqvl, eqvt, Sl.eqv, List.map_append, List.length_map, List.length_append, List.length_replicate, List.length_set, List.map_replicate, nilVC, zr_29, sz_29, fs_29, fl_29_0, sz_3, el_40, zr_3, fl_29_2, sz_27, sd_27, el_27, fl_51_1, sz_51, zr_51, fl_51_0, fl_51_2, c_impl_WheelOk, c_impl_cloneWheel, c_impl_in, c_slices_Delete_Timer, c_slices_SortFunc_Timer, hX, decide_eq_true hok, d1, d2, w1]
      refine ⟨hrow, ⟨hrow, hc⟩, fun k hk0 => ⟨by omega, ?_⟩⟩
      refine loopI (J := {q : List T3 × List Int × Nat × Nat // going u v now X q.1 q.2.1 ∧ q.1.length ≤ q.2.2.1 ∧ q.2.1.length ≤ q.2.2.2}) (fun q => ⟨slots 79 [(1, I m), (2, .c (.ptr ⟨.loc 0, 0, 0, 0⟩)), (4, .c (.ptr ⟨.loc 1, 0, 0, 0⟩)), (6, .c (.ptr ⟨.loc 3, 0, 0, 0⟩)), (7, .c (.sl ⟨.loc 4, 0, 0, 0⟩ q.1.2.1.length q.1.2.2.2))], M, [], [.box 29 [.int .i64 u, .int .i64 v, .sl a.up X.length c], .box 29 [.int .i64 0, .int .i64 0, .sl ⟨.nil, 0, 0, 0⟩ 0 0], rowG true 51 q.1.2.2.1 q.1.1, .box 29 [.int .i64 now, .int .i64 v, .sl ⟨.loc 2, 0, 0, 0⟩ q.1.1.length q.1.2.2.1], rowG true 3 q.1.2.2.2 q.1.2.1]⟩) (fun q => meas now q.1.1) ⟨(X, [], k, 0), hnew, hk0, Nat.le_refl _⟩ (Le.trans (Le_gh _ [(3, 1)]) (Le_intro [0, 1, 2, 3, 4] (by simp only [WL, WNL, swA_new, swA_ne, nest_sw_ne, mapLL, List.mem_cons, Nat.reduceAdd, Nat.reduceLT, Nat.reduceLeDiff, Nat.reduceEqDiff, okU, List.nodup_cons, List.not_mem_nil, toT, toL, toO, keysO, renl, rent, cll, clt, eq_self, AV.eqv, AC.eqv, eqvl, eqvt, Sl.eqv, rowsLe, mapLL, rowsCl, List.map_append, List.length_map, List.length_append, List.length_set, List.map_replicate, rowG, List.getElem?_cons_zero, List.getElem?_cons_succ, List.getElem?_nil, List.append_nil, List.nil_append, List.cons_append, ghosts, St.gh, Option.some.injEq, implies_true, setT, AV.ren, AC.ren, AV.cl, AC.cl, List.replicate_succ, List.replicate_zero, List.nodup_nil, List.length_nil, List.length_cons, List.getD_cons_zero, List.getD_cons_succ, ↓reduceIte]; try simp))) ?_
      rintro ⟨⟨T, Q, k1, k2⟩, hg, g1, g2⟩
      dsimp only at hg g1 g2
      by_cases hT0 : T = []
      · subst hT0
        have he := going_end hg (wk_each hk) trivial
        rw [he]
        have d0 : decide (((0 : Nat) : Int) > 0) = false := by decide
        simp only [↓WP, ↓grdD, ↓grdT, ↓un_dead, ↓binVC, ↓buildVC, ↓sliceVC, WQ, WN, Int.reduceToNat, renl, cll, rent, clt, ↓reduceIte, Nat.reduceLeDiff, Nat.reduceEqDiff, Nat.reduceLT, reduceCtorEq, List.append_nil, Nat.reduceAdd, Nat.reduceSub, Nat.reduceBEq, forall_const, implies_true, cond_true, cond_false, AV.ren, AC.ren, AV.cl, AC.cl, eq_self, List.all_cons, List.all_nil, AV.eqv, AC.eqv, eqvl, eqvt, Sl.eqv, List.map_append, List.length_map, List.length_append, List.length_replicate, List.length_set, List.map_replicate, nilVC, zr_29, sz_29, fs_29, fl_29_0, sz_3, el_40, zr_3, fl_29_2, sz_27, sd_27, el_27, fl_51_1, sz_51, zr_51, fl_51_0, fl_51_2, c_impl_WheelOk, c_impl_cloneWheel, c_impl_in, c_slices_Delete_Timer, c_slices_SortFunc_Timer, d0, dfl]
        repeat' (first | with_reducible refine And.intro ?_ ?_ | intro _)
        all_goals try omega
        all_goals
          refine end_ret ?_
          simp only [↓WP, ↓grdD, ↓grdT, ↓un_dead, ↓binVC, ↓buildVC, ↓sliceVC, WQ, WN, Int.reduceToNat, renl, cll, rent, clt, ↓reduceIte, Nat.reduceLeDiff, Nat.reduceEqDiff, Nat.reduceLT, reduceCtorEq, List.append_nil, Nat.reduceAdd, Nat.reduceSub, Nat.reduceBEq, forall_const, implies_true, cond_true, cond_false, AV.ren, AC.ren, AV.cl, AC.cl, eq_self, List.all_cons, List.all_nil, AV.eqv, AC.eqv, eqvl, eqvt, Sl.eqv, List.map_append, List.length_map, List.length_append, List.length_replicate, List.length_set, List.map_replicate, nilVC, zr_29, sz_29, fs_29, fl_29_0, sz_3, el_40, zr_3, fl_29_2, sz_27, sd_27, el_27, fl_51_1, sz_51, zr_51, fl_51_0, fl_51_2, c_impl_WheelOk, c_impl_cloneWheel, c_impl_in, c_slices_Delete_Timer, c_slices_SortFunc_Timer]
          refine ⟨(k1, k2), [], [2, 4], ?_⟩
          simp only [WL, WNL, swA_new, swA_ne, nest_sw_ne, mapLL, List.mem_cons, Nat.reduceAdd, Nat.reduceLT, Nat.reduceLeDiff, Nat.reduceEqDiff, okU, List.nodup_cons, List.not_mem_nil, toT, toL, toO, keysO, renl, rent, cll, clt, eq_self, AV.eqv, AC.eqv, eqvl, eqvt, Sl.eqv, rowsLe, mapLL, rowsCl, List.map_append, List.length_map, List.length_append, List.length_set, List.map_replicate, rowG, List.getElem?_cons_zero, List.getElem?_cons_succ, List.getElem?_nil, List.append_nil, List.nil_append, List.cons_append, ghosts, St.gh, Option.some.injEq, implies_true, setT, AV.ren, AC.ren, AV.cl, AC.cl, List.replicate_succ, List.replicate_zero, List.nodup_nil, List.length_nil, List.length_cons, List.getD_cons_zero, List.getD_cons_succ, ↓reduceIte, retP]
          simp [g2]
      · obtain ⟨t, T', hT⟩ := List.exists_cons_of_ne_nil hT0
        have hTl : T.length = T'.length + 1 := by rw [hT]; rfl
        have d0 : decide (((T'.length + 1 : Nat) : Int) > 0) = true := decide_eq_true (by omega)
        have hg0 : (List.map enc T).getD 0 [] = [AC.int .i64 t.1, AC.int .i64 t.2.1, AC.int .i64 t.2.2] := by rw [hT]; rfl
        by_cases hdn : t.2.1 ≤ now
        · obtain ⟨s1, s2, s3, s4, s5, s6⟩ := going_step (hT ▸ hg) (by omega) hdn
          have hTd : T.drop 1 = T' := by rw [hT]; rfl
          rw [← hT] at s2
          by_cases he : 0 < t.2.2
          · rw [if_pos he] at s1 s2
            have d3 : decide (t.2.2 > 0) = true := decide_eq_true he
            unfold tmOk at s3
            have w2 : IntKind.i64.wrap (t.2.1 + t.2.2) = t.2.1 + t.2.2 := w64 (by omega) (by omega)
            obtain ⟨Y, hY⟩ : ∃ Y, Y = T' ++ [((t.1, t.2.1 + t.2.2, t.2.2) : T3)] := ⟨_, rfl⟩
            have hput : putAt (List.map enc T' ++ [[AC.int .i64 0, AC.int .i64 0, AC.int .i64 0]]) T'.length [[AC.int .i64 t.1, AC.int .i64 (t.2.1 + t.2.2), AC.int .i64 t.2.2]] = List.map enc Y := by
              rw [putAt_last (by simp), List.take_left' (by simp), hY, List.map_append]; rfl
            have hYl : Y.length = T'.length + 1 := by rw [hY]; simp
            have hYt : Y.take T'.length = T' := by rw [hY]; exact List.take_left' rfl
            obtain ⟨Z, hZ⟩ : ∃ Z, Z = putW T' (t.1, t.2.1 + t.2.2, t.2.2) := ⟨_, rfl⟩
            have hsr : srtW Y = Z := by rw [hY, hZ, srtW_snoc]
            have hZl : Z.length = T'.length + 1 := by rw [hZ, putW_len]
            rw [← hZ] at s1 s2
            have hwin : win (fun k => (List.map enc Y).getD k []) (T'.length + 1) = List.map enc Y := win_whole (by rw [List.length_map, hYl])
            simp only [↓WP, ↓grdD, ↓grdT, ↓un_dead, ↓binVC, ↓buildVC, ↓sliceVC, WQ, WN, Int.reduceToNat, renl, cll, rent, clt, ↓reduceIte, Nat.reduceLeDiff, Nat.reduceEqDiff, Nat.reduceLT, reduceCtorEq, List.append_nil, Nat.reduceAdd, Nat.reduceSub, Nat.reduceBEq, forall_const, implies_true, cond_true, cond_false, AV.ren, AC.ren, AV.cl, AC.cl, eq_self, List.all_cons, List.all_nil, AV.eqv, AC.eqv, eqvl, eqvt, Sl.eqv, List.map_append, List.length_map, List.length_append, List.length_replicate, List.length_set, List.map_replicate, nilVC, zr_29, sz_29, fs_29, fl_29_0, sz_3, el_40, zr_3, fl_29_2, sz_27, sd_27, el_27, fl_51_1, sz_51, zr_51, fl_51_0, fl_51_2, c_impl_WheelOk, c_impl_cloneWheel, c_impl_in, c_slices_Delete_Timer, c_slices_SortFunc_Timer, hTl, d0, hg0, decide_eq_true hdn, d3, hTd, w2, Nat.add_sub_cancel, hput, hwin, hsr, hYt]
            repeat' (first | with_reducible refine And.intro ?_ ?_ | intro _)
            all_goals try omega
            all_goals try assumption
            all_goals try rfl
            all_goals try exact .inr trivial
            all_goals first
              | (rename_i b0 kk b1 b2 b3; exact ⟨⟨(Z, Q ++ [t.1], k1, kk), s1, by show Z.length ≤ k1; omega, by simp; omega⟩, Le_intro [0, 1, 2, 3, 7] (by simp only [WL, WNL, swA_new, swA_ne, nest_sw_ne, mapLL, List.mem_cons, Nat.reduceAdd, Nat.reduceLT, Nat.reduceLeDiff, Nat.reduceEqDiff, okU, List.nodup_cons, List.not_mem_nil, toT, toL, toO, keysO, renl, rent, cll, clt, eq_self, AV.eqv, AC.eqv, eqvl, eqvt, Sl.eqv, rowsLe, mapLL, rowsCl, List.map_append, List.length_map, List.length_append, List.length_set, List.map_replicate, rowG, List.getElem?_cons_zero, List.getElem?_cons_succ, List.getElem?_nil, List.append_nil, List.nil_append, List.cons_append, ghosts, St.gh, Option.some.injEq, implies_true, setT, AV.ren, AC.ren, AV.cl, AC.cl, List.replicate_succ, List.replicate_zero, List.nodup_nil, List.length_nil, List.length_cons, List.getD_cons_zero, List.getD_cons_succ, ↓reduceIte, hZl, List.length_append, List.length_cons, List.length_nil, List.map_append, List.map_cons, List.map_nil]; try simp), s2⟩)
              | (rename_i b1 b3; exact ⟨⟨(Z, Q ++ [t.1], k1, k2), s1, by show Z.length ≤ k1; omega, by simp; omega⟩, Le_intro [0, 1, 2, 3, 4] (by simp only [WL, WNL, swA_new, swA_ne, nest_sw_ne, mapLL, List.mem_cons, Nat.reduceAdd, Nat.reduceLT, Nat.reduceLeDiff, Nat.reduceEqDiff, okU, List.nodup_cons, List.not_mem_nil, toT, toL, toO, keysO, renl, rent, cll, clt, eq_self, AV.eqv, AC.eqv, eqvl, eqvt, Sl.eqv, rowsLe, mapLL, rowsCl, List.map_append, List.length_map, List.length_append, List.length_set, List.map_replicate, rowG, List.getElem?_cons_zero, List.getElem?_cons_succ, List.getElem?_nil, List.append_nil, List.nil_append, List.cons_append, ghosts, St.gh, Option.some.injEq, implies_true, setT, AV.ren, AC.ren, AV.cl, AC.cl, List.replicate_succ, List.replicate_zero, List.nodup_nil, List.length_nil, List.length_cons, List.getD_cons_zero, List.getD_cons_succ, ↓reduceIte, hZl, List.length_append, List.length_cons, List.length_nil, List.map_append, List.map_cons, List.map_nil]; try simp), s2⟩)
          · rw [if_neg he] at s1 s2
            have d3 : decide (t.2.2 > 0) = false := decide_eq_false he
            simp only [↓WP, ↓grdD, ↓grdT, ↓un_dead, ↓binVC, ↓buildVC, ↓sliceVC, WQ, WN, Int.reduceToNat, renl, cll, rent, clt, ↓reduceIte, Nat.reduceLeDiff, Nat.reduceEqDiff, Nat.reduceLT, reduceCtorEq, List.append_nil, Nat.reduceAdd, Nat.reduceSub, Nat.reduceBEq, forall_const, implies_true, cond_true, cond_false, AV.ren, AC.ren, AV.cl, AC.cl, eq_self, List.all_cons, List.all_nil, AV.eqv, AC.eqv, eqvl, eqvt, Sl.eqv, List.map_append, List.length_map, List.length_append, List.length_replicate, List.length_set, List.map_replicate, nilVC, zr_29, sz_29, fs_29, fl_29_0, sz_3, el_40, zr_3, fl_29_2, sz_27, sd_27, el_27, fl_51_1, sz_51, zr_51, fl_51_0, fl_51_2, c_impl_WheelOk, c_impl_cloneWheel, c_impl_in, c_slices_Delete_Timer, c_slices_SortFunc_Timer, hTl, d0, hg0, decide_eq_true hdn, d3, hTd, Nat.add_sub_cancel]
            repeat' (first | with_reducible refine And.intro ?_ ?_ | intro _)
            all_goals try omega
            all_goals try assumption
            all_goals try rfl
            all_goals try exact .inr trivial
            all_goals first
              | (rename_i b0 kk b1 b2; exact ⟨⟨(T', Q ++ [t.1], k1, kk), s1, by show T'.length ≤ k1; omega, by simp; omega⟩, Le_intro [0, 1, 2, 3, 7] (by simp only [WL, WNL, swA_new, swA_ne, nest_sw_ne, mapLL, List.mem_cons, Nat.reduceAdd, Nat.reduceLT, Nat.reduceLeDiff, Nat.reduceEqDiff, okU, List.nodup_cons, List.not_mem_nil, toT, toL, toO, keysO, renl, rent, cll, clt, eq_self, AV.eqv, AC.eqv, eqvl, eqvt, Sl.eqv, rowsLe, mapLL, rowsCl, List.map_append, List.length_map, List.length_append, List.length_set, List.map_replicate, rowG, List.getElem?_cons_zero, List.getElem?_cons_succ, List.getElem?_nil, List.append_nil, List.nil_append, List.cons_append, ghosts, St.gh, Option.some.injEq, implies_true, setT, AV.ren, AC.ren, AV.cl, AC.cl, List.replicate_succ, List.replicate_zero, List.nodup_nil, List.length_nil, List.length_cons, List.getD_cons_zero, List.getD_cons_succ, ↓reduceIte, List.length_append, List.length_cons, List.length_nil, List.map_append, List.map_cons, List.map_nil]; try simp), s2⟩)
              | (rename_i b1; exact ⟨⟨(T', Q ++ [t.1], k1, k2), s1, by show T'.length ≤ k1; omega, by simp; omega⟩, Le_intro [0, 1, 2, 3, 4] (by simp only [WL, WNL, swA_new, swA_ne, nest_sw_ne, mapLL, List.mem_cons, Nat.reduceAdd, Nat.reduceLT, Nat.reduceLeDiff, Nat.reduceEqDiff, okU, List.nodup_cons, List.not_mem_nil, toT, toL, toO, keysO, renl, rent, cll, clt, eq_self, AV.eqv, AC.eqv, eqvl, eqvt, Sl.eqv, rowsLe, mapLL, rowsCl, List.map_append, List.length_map, List.length_append, List.length_set, List.map_replicate, rowG, List.getElem?_cons_zero, List.getElem?_cons_succ, List.getElem?_nil, List.append_nil, List.nil_append, List.cons_append, ghosts, St.gh, Option.some.injEq, implies_true, setT, AV.ren, AC.ren, AV.cl, AC.cl, List.replicate_succ, List.replicate_zero, List.nodup_nil, List.length_nil, List.length_cons, List.getD_cons_zero, List.getD_cons_succ, ↓reduceIte, List.length_append, List.length_cons, List.length_nil, List.map_append, List.map_cons, List.map_nil]; try simp), s2⟩)
        · have hend := going_end hg (wk_each hk) (by rw [hT]; show now < t.2.1; omega)
          rw [hend]
          simp only [↓WP, ↓grdD, ↓grdT, ↓un_dead, ↓binVC, ↓buildVC, ↓sliceVC, WQ, WN, Int.reduceToNat, renl, cll, rent, clt, ↓reduceIte, Nat.reduceLeDiff, Nat.reduceEqDiff, Nat.reduceLT, reduceCtorEq, List.append_nil, Nat.reduceAdd, Nat.reduceSub, Nat.reduceBEq, forall_const, implies_true, cond_true, cond_false, AV.ren, AC.ren, AV.cl, AC.cl, eq_self, List.all_cons, List.all_nil, AV.eqv, AC.eqv, eqvl, eqvt, Sl.eqv, List.map_append, List.length_map, List.length_append, List.length_replicate, List.length_set, List.map_replicate, nilVC, zr_29, sz_29, fs_29, fl_29_0, sz_3, el_40, zr_3, fl_29_2, sz_27, sd_27, el_27, fl_51_1, sz_51, zr_51, fl_51_0, fl_51_2, c_impl_WheelOk, c_impl_cloneWheel, c_impl_in, c_slices_Delete_Timer, c_slices_SortFunc_Timer, hTl, d0, hg0, decide_eq_false hdn]
          repeat' (first | with_reducible refine And.intro ?_ ?_ | intro _)
          all_goals try omega
          all_goals
            refine end_ret ?_
            simp only [↓WP, ↓grdD, ↓grdT, ↓un_dead, ↓binVC, ↓buildVC, ↓sliceVC, WQ, WN, Int.reduceToNat, renl, cll, rent, clt, ↓reduceIte, Nat.reduceLeDiff, Nat.reduceEqDiff, Nat.reduceLT, reduceCtorEq, List.append_nil, Nat.reduceAdd, Nat.reduceSub, Nat.reduceBEq, forall_const, implies_true, cond_true, cond_false, AV.ren, AC.ren, AV.cl, AC.cl, eq_self, List.all_cons, List.all_nil, AV.eqv, AC.eqv, eqvl, eqvt, Sl.eqv, List.map_append, List.length_map, List.length_append, List.length_replicate, List.length_set, List.map_replicate, nilVC, zr_29, sz_29, fs_29, fl_29_0, sz_3, el_40, zr_3, fl_29_2, sz_27, sd_27, el_27, fl_51_1, sz_51, zr_51, fl_51_0, fl_51_2, c_impl_WheelOk, c_impl_cloneWheel, c_impl_in, c_slices_Delete_Timer, c_slices_SortFunc_Timer]
            refine ⟨(k1, k2), [], [2, 4], ?_⟩
            simp only [WL, WNL, swA_new, swA_ne, nest_sw_ne, mapLL, List.mem_cons, Nat.reduceAdd, Nat.reduceLT, Nat.reduceLeDiff, Nat.reduceEqDiff, okU, List.nodup_cons, List.not_mem_nil, toT, toL, toO, keysO, renl, rent, cll, clt, eq_self, AV.eqv, AC.eqv, eqvl, eqvt, Sl.eqv, rowsLe, mapLL, rowsCl, List.map_append, List.length_map, List.length_append, List.length_set, List.map_replicate, rowG, List.getElem?_cons_zero, List.getElem?_cons_succ, List.getElem?_nil, List.append_nil, List.nil_append, List.cons_append, ghosts, St.gh, Option.some.injEq, implies_true, setT, AV.ren, AC.ren, AV.cl, AC.cl, List.replicate_succ, List.replicate_zero, List.nodup_nil, List.length_nil, List.length_cons, List.getD_cons_zero, List.getD_cons_succ, ↓reduceIte, retP]
            simp [g1, g2]
            try omega
    · rw [goO_no hok hm]
      have key : decide (1 ≤ m ∧ m ≤ 1000) = false ∨ (decide (1 ≤ m ∧ m ≤ 1000) = true ∧ decide (IntKind.i64.wrap (u + m) > 1000000) = true) := by
        unfold mayGo at hm
        by_cases h1 : 1 ≤ m ∧ m ≤ 1000
        · right
          refine ⟨decide_eq_true h1, decide_eq_true ?_⟩
          rw [w64 (by omega) (by omega)]
          omega
        · exact .inl (decide_eq_false h1)
      rcases key with d1 | ⟨d1, d2⟩
      · simp only [↓WP, ↓grdD, ↓grdT, ↓un_dead, ↓binVC, ↓buildVC, ↓sliceVC, WQ, WN, Int.reduceToNat, renl, cll, rent, clt, ↓reduceIte, Nat.reduceLeDiff, Nat.reduceEqDiff, Nat.reduceLT, reduceCtorEq, List.append_nil, Nat.reduceAdd, Nat.reduceSub, Nat.reduceBEq, forall_const, implies_true, cond_true, cond_false, AV.ren, AC.ren, AV.cl, AC.cl, eq_self, List.all_cons, List.all_nil, AV.eqv, AC.eqv, eqvl, eqvt, Sl.eqv, List.map_append, List.length_map, List.length_append, List.length_replicate, List.length_set, List.map_replicate, nilVC, zr_29, sz_29, fs_29, fl_29_0, sz_3, el_40, zr_3, fl_29_2, sz_27, sd_27, el_27, fl_51_1, sz_51, zr_51, fl_51_0, fl_51_2, c_impl_WheelOk, c_impl_cloneWheel, c_impl_in, c_slices_Delete_Timer, c_slices_SortFunc_Timer, hX, decide_eq_true hok, d1]
        refine ⟨hrow, ⟨hrow, hc⟩, fun k hk => end_ret ?_⟩
        simp only [↓WP, ↓grdD, ↓grdT, ↓un_dead, ↓binVC, ↓buildVC, ↓sliceVC, WQ, WN, Int.reduceToNat, renl, cll, rent, clt, ↓reduceIte, Nat.reduceLeDiff, Nat.reduceEqDiff, Nat.reduceLT, reduceCtorEq, List.append_nil, Nat.reduceAdd, Nat.reduceSub, Nat.reduceBEq, forall_const, implies_true, cond_true, cond_false, AV.ren, AC.ren, AV.cl, AC.cl, eq_self, List.all_cons, List.all_nil, AV.eqv, AC.eqv, eqvl, eqvt, Sl.eqv, List.map_append, List.length_map, List.length_append, List.length_replicate, List.length_set, List.map_replicate, nilVC, zr_29, sz_29, fs_29, fl_29_0, sz_3, el_40, zr_3, fl_29_2, sz_27, sd_27, el_27, fl_51_1, sz_51, zr_51, fl_51_0, fl_51_2, c_impl_WheelOk, c_impl_cloneWheel, c_impl_in, c_slices_Delete_Timer, c_slices_SortFunc_Timer]
        refine ⟨(k, 0), [(3, 1)], [2, 4], ?_⟩
        simp only [WL, WNL, swA_new, swA_ne, nest_sw_ne, mapLL, List.mem_cons, Nat.reduceAdd, Nat.reduceLT, Nat.reduceLeDiff, Nat.reduceEqDiff, okU, List.nodup_cons, List.not_mem_nil, toT, toL, toO, keysO, renl, rent, cll, clt, eq_self, AV.eqv, AC.eqv, eqvl, eqvt, Sl.eqv, rowsLe, mapLL, rowsCl, List.map_append, List.length_map, List.length_append, List.length_set, List.map_replicate, rowG, List.getElem?_cons_zero, List.getElem?_cons_succ, List.getElem?_nil, List.append_nil, List.nil_append, List.cons_append, ghosts, St.gh, Option.some.injEq, implies_true, setT, AV.ren, AC.ren, AV.cl, AC.cl, List.replicate_succ, List.replicate_zero, List.nodup_nil, List.length_nil, List.length_cons, List.getD_cons_zero, List.getD_cons_succ, ↓reduceIte, retP]
        simp [hk]
      · simp only [↓WP, ↓grdD, ↓grdT, ↓un_dead, ↓binVC, ↓buildVC, ↓sliceVC, WQ, WN, Int.reduceToNat, renl, cll, rent, clt, ↓reduceIte, Nat.reduceLeDiff, Nat.reduceEqDiff, Nat.reduceLT, reduceCtorEq, List.append_nil, Nat.reduceAdd, Nat.reduceSub, Nat.reduceBEq, forall_const, implies_true, cond_true, cond_false, AV.ren, AC.ren, AV.cl, AC.cl, eq_self, List.all_cons, List.all_nil, AV.eqv, AC.eqv, eqvl, eqvt, Sl.eqv, List.map_append, List.length_map, List.length_append, List.length_replicate, List.length_set, List.map_replicate, nilVC, zr_29, sz_29, fs_29, fl_29_0, sz_3, el_40, zr_3, fl_29_2, sz_27, sd_27, el_27, fl_51_1, sz_51, zr_51, fl_51_0, fl_51_2, c_impl_WheelOk, c_impl_cloneWheel, c_impl_in, c_slices_Delete_Timer, c_slices_SortFunc_Timer, hX, decide_eq_true hok, d1, d2]
        refine ⟨hrow, ⟨hrow, hc⟩, fun k hk => end_ret ?_⟩
        simp only [↓WP, ↓grdD, ↓grdT, ↓un_dead, ↓binVC, ↓buildVC, ↓sliceVC, WQ, WN, Int.reduceToNat, renl, cll, rent, clt, ↓reduceIte, Nat.reduceLeDiff, Nat.reduceEqDiff, Nat.reduceLT, reduceCtorEq, List.append_nil, Nat.reduceAdd, Nat.reduceSub, Nat.reduceBEq, forall_const, implies_true, cond_true, cond_false, AV.ren, AC.ren, AV.cl, AC.cl, eq_self, List.all_cons, List.all_nil, AV.eqv, AC.eqv, eqvl, eqvt, Sl.eqv, List.map_append, List.length_map, List.length_append, List.length_replicate, List.length_set, List.map_replicate, nilVC, zr_29, sz_29, fs_29, fl_29_0, sz_3, el_40, zr_3, fl_29_2, sz_27, sd_27, el_27, fl_51_1, sz_51, zr_51, fl_51_0, fl_51_2, c_impl_WheelOk, c_impl_cloneWheel, c_impl_in, c_slices_Delete_Timer, c_slices_SortFunc_Timer]
        refine ⟨(k, 0), [(3, 1)], [2, 4], ?_⟩
        simp only [WL, WNL, swA_new, swA_ne, nest_sw_ne, mapLL, List.mem_cons, Nat.reduceAdd, Nat.reduceLT, Nat.reduceLeDiff, Nat.reduceEqDiff, okU, List.nodup_cons, List.not_mem_nil, toT, toL, toO, keysO, renl, rent, cll, clt, eq_self, AV.eqv, AC.eqv, eqvl, eqvt, Sl.eqv, rowsLe, mapLL, rowsCl, List.map_append, List.length_map, List.length_append, List.length_set, List.map_replicate, rowG, List.getElem?_cons_zero, List.getElem?_cons_succ, List.getElem?_nil, List.append_nil, List.nil_append, List.cons_append, ghosts, St.gh, Option.some.injEq, implies_true, setT, AV.ren, AC.ren, AV.cl, AC.cl, List.replicate_succ, List.replicate_zero, List.nodup_nil, List.length_nil, List.length_cons, List.getD_cons_zero, List.getD_cons_succ, ↓reduceIte, retP]
        simp [hk]
  · rw [goO_bad hok]
    simp only [↓WP, ↓grdD, ↓grdT, ↓un_dead, ↓binVC, ↓buildVC, ↓sliceVC, WQ, WN, Int.reduceToNat, renl, cll, rent, clt, ↓reduceIte, Nat.reduceLeDiff, Nat.reduceEqDiff, Nat.reduceLT, reduceCtorEq, List.append_nil, Nat.reduceAdd, Nat.reduceSub, Nat.reduceBEq, forall_const, implies_true, cond_true, cond_false, AV.ren, AC.ren, AV.cl, AC.cl, eq_self, List.all_cons, List.all_nil, AV.eqv, AC.eqv, eqvl, eqvt, Sl.eqv, List.map_append, List.length_map, List.length_append, List.length_replicate, List.length_set, List.map_replicate, nilVC, zr_29, sz_29, fs_29, fl_29_0, sz_3, el_40, zr_3, fl_29_2, sz_27, sd_27, el_27, fl_51_1, sz_51, zr_51, fl_51_0, fl_51_2, c_impl_WheelOk, c_impl_cloneWheel, c_impl_in, c_slices_Delete_Timer, c_slices_SortFunc_Timer, hX, decide_eq_false hok]
    refine ⟨hrow, end_ret ?_⟩
    simp only [↓WP, ↓grdD, ↓grdT, ↓un_dead, ↓binVC, ↓buildVC, ↓sliceVC, WQ, WN, Int.reduceToNat, renl, cll, rent, clt, ↓reduceIte, Nat.reduceLeDiff, Nat.reduceEqDiff, Nat.reduceLT, reduceCtorEq, List.append_nil, Nat.reduceAdd, Nat.reduceSub, Nat.reduceBEq, forall_const, implies_true, cond_true, cond_false, AV.ren, AC.ren, AV.cl, AC.cl, eq_self, List.all_cons, List.all_nil, AV.eqv, AC.eqv, eqvl, eqvt, Sl.eqv, List.map_append, List.length_map, List.length_append, List.length_replicate, List.length_set, List.map_replicate, nilVC, zr_29, sz_29, fs_29, fl_29_0, sz_3, el_40, zr_3, fl_29_2, sz_27, sd_27, el_27, fl_51_1, sz_51, zr_51, fl_51_0, fl_51_2, c_impl_WheelOk, c_impl_cloneWheel, c_impl_in, c_slices_Delete_Timer, c_slices_SortFunc_Timer]
    refine ⟨(0, 0), [(51, 3), (3, 1)], [2, 3], ?_⟩
    simp [WL, WNL, swA_new, swA_ne, nest_sw_ne, mapLL, List.mem_cons, Nat.reduceAdd, Nat.reduceLT, Nat.reduceLeDiff, Nat.reduceEqDiff, okU, List.nodup_cons, List.not_mem_nil, toT, toL, toO, keysO, renl, rent, cll, clt, eq_self, AV.eqv, AC.eqv, eqvl, eqvt, Sl.eqv, rowsLe, mapLL, rowsCl, List.map_append, List.length_map, List.length_append, List.length_set, List.map_replicate, rowG, List.getElem?_cons_zero, List.getElem?_cons_succ, List.getElem?_nil, List.append_nil, List.nil_append, List.cons_append, ghosts, St.gh, Option.some.injEq, implies_true, setT, AV.ren, AC.ren, AV.cl, AC.cl, List.replicate_succ, List.replicate_zero, List.nodup_nil, List.length_nil, List.length_cons, List.getD_cons_zero, List.getD_cons_succ, ↓reduceIte, retP]
end Go.Eng.T
