/- cow: CowGrow as the reference does it. -/
import Derived.Test.YtjdppjomhkbljaaFn14
set_option linter.unusedVariables false
set_option linter.unusedSimpArgs false
set_option linter.unusedSectionVars false
namespace Go.Eng.T
open Go.Proofs
open Cel (enc dec)
set_option maxRecDepth 100000
set_option maxHeartbeats 4000000
def c_spec_CowGrow : Contract := ⟨30, fun args M => match args with
  | [.agg [.sl a1 n1 _, .sl a2 n2 c2, .sl a3 n3 _], .c (.int .i64 s)] => .eff ((Row2Ok Int a1 n1 M ∧ RowOk Int a2 n2 (M a2.r) ∧ Row2Ok Int a3 n3 M) ∧ n2 ≤ c2) (Nat × List (Nat × List Int) × Nat × Nat × List (Nat × List Int)) (fun p => CowC (growO (row2 Int a1 n1 M) (row Int a2 n2 (M a2.r)) (row2 Int a3 n3 M) s).1.1 (growO (row2 Int a1 n1 M) (row Int a2 n2 (M a2.r)) (row2 Int a3 n3 M) s).1.2.1 (growO (row2 Int a1 n1 M) (row Int a2 n2 (M a2.r)) (row2 Int a3 n3 M) s).1.2.2 p) (fun p => .tup [(true, [.sl ⟨.loc 0, 0, 0, 0⟩ (growO (row2 Int a1 n1 M) (row Int a2 n2 (M a2.r)) (row2 Int a3 n3 M) s).1.1.length p.1, .sl ⟨.loc 2, 0, 0, 0⟩ (growO (row2 Int a1 n1 M) (row Int a2 n2 (M a2.r)) (row2 Int a3 n3 M) s).1.2.1.length p.2.2.1, .sl ⟨.loc 3, 0, 0, 0⟩ (growO (row2 Int a1 n1 M) (row Int a2 n2 (M a2.r)) (row2 Int a3 n3 M) s).1.2.2.length p.2.2.2.1]), (false, [.bool (growO (row2 Int a1 n1 M) (row Int a2 n2 (M a2.r)) (row2 Int a3 n3 M) s).2])]) (fun p => [.rows true 23 1 [(p.1, nestC (.loc 1) p.2.1)], .rows true 3 1 (mems p.2.1), rowG true 3 p.2.2.1 (growO (row2 Int a1 n1 M) (row Int a2 n2 (M a2.r)) (row2 Int a3 n3 M) s).1.2.1, .rows true 23 1 [(p.2.2.2.1, nestC (.loc 4) p.2.2.2.2)], .rows true 3 1 (mems p.2.2.2.2)]) (fun _ => [])
  | _ => .bad⟩
theorem ok_spec_CowGrow : fnP Try.prog c_spec_CowGrow.f = true ∧ ∀ args M, (c_spec_CowGrow.sp args M).OK Try.prog c_spec_CowGrow.f args M := by
  refine ⟨fp_30, fun args M => ?_⟩
  unfold c_spec_CowGrow
  dsimp only
  split
  case h_2 => trivial
  rename_i a1 n1 c1 a2 n2 c2 a3 n3 c3 s
  rintro ⟨⟨h1, h2, h3⟩, hc2⟩
  obtain ⟨s1, X, hX, rfl, t1⟩ := h1.x
  obtain ⟨s2, R, hR, rfl, t2⟩ := h2.x
  obtain ⟨s3, Z, hZ, rfl, t3⟩ := h3.x
  rw [hX, hR, hZ]
  refine goInX hf_30 rfl (nt := 54) rfl (rs := [.cell 4 25, .tmp 5]) rfl (C := [c_spec_CowOk, c_spec_l29Copy, c_spec_l29Free, c_spec_l29Space]) ⟨(by first | exact .inl ok_spec_CowOk | exact ok_spec_CowOk), (by first | exact .inl ok_spec_l29Copy | exact ok_spec_l29Copy), (by first | exact .inl ok_spec_l29Free | exact ok_spec_l29Free), (by first | exact .inl ok_spec_l29Space | exact ok_spec_l29Space), trivial⟩ (q := fun f => [].contains f) ⟨fun h => absurd h (by decide), fun h => absurd h (by decide), fun h => absurd h (by decide), fun h => absurd h (by decide), trivial⟩ mixed (O := ots [(9, otl [0, 2, 3, 4] (.gob 1 (otl [5, 6, 7, 8] .nil)))]) (by kernel_rfl) ?_
  by_cases hok : cowOk X R Z
  · have hok' := hok
    obtain ⟨⟨l1, l2, l3⟩, k1, k2, k3⟩ := hok'
    have hfr : idx (fun x => decide (x = 0)) R = fr0 R := rfl
    by_cases hs : 0 ≤ s ∧ s ≤ 3
    · simp only [↓WP, ↓grdD, ↓grdT, ↓un_dead, ↓binVC, ↓buildVC, ↓sliceVC, WQ, WN, Int.reduceToNat, renl, cll, rent, clt, ↓reduceIte, Nat.reduceLeDiff, Nat.reduceEqDiff, Nat.reduceLT, reduceCtorEq, List.append_nil, Nat.reduceAdd, Nat.reduceSub, Nat.reduceBEq, forall_const, implies_true, cond_true, cond_false, AV.ren, AC.ren, AV.cl, AC.cl, eq_self, List.all_cons, List.all_nil, AV.eqv, AC.eqv, eqvl, eqvt, Sl.eqv, List.map_append, List.length_map, List.length_append, List.length_replicate, List.length_set, List.map_replicate, nilVC, zr_25, sz_25, fs_25, fl_25_2, sz_22, el_22, sz_23, sd_23, fl_25_1, el_23, sz_3, zr_3, c_spec_CowOk, c_spec_l29Copy, c_spec_l29Free, c_spec_l29Space, Row2Ok_upE h1, row2_upE h1, hX, Row2Ok_upE h3, row2_upE h3, hZ, hR, decide_eq_true hok, decide_eq_true hs]
      refine ⟨h2, ⟨h2, l2⟩, fun p hp => ?_⟩
      obtain ⟨pF, F, pR, pZ, G⟩ := p
      obtain ⟨⟨u1, hF, hFo⟩, u2, u3, u4, u5, u6, hG, hGo⟩ := hp
      dsimp only at u1 hF hFo u2 u3 u4 u5 u6 hG hGo
      have hGl : G.length = Z.length := by rw [← hG]; simp
      have hFl : F.length = X.length := by rw [← hF]; simp
      obtain ⟨gc, w1, w2, w3, w4, w5⟩ := fam_at hG hGo (cow_pos hok hs)
      obtain ⟨Y, hY⟩ : ∃ Y, Z.getD s.toNat default = Y := ⟨_, rfl⟩
      by_cases hmay : (Z.getD s.toNat default).length < 4 ∧ 0 ≤ fr0 R
      · have hO : growO X R Z s = ((X, R.set (fr0 R).toNat 1, Z.set s.toNat (Z.getD s.toNat default ++ [fr0 R])), true) := by rw [growO, if_pos hok, if_pos ⟨hs, hmay⟩]
        rw [hO]
        obtain ⟨f, e1, e2, e3, e4⟩ := idx_nonneg (p := fun x : Int => decide (x = 0)) hmay.2
        rw [hfr] at e1
        rw [hY] at w1 w2 w3 w5 hmay ⊢
        have hcd : (decide (fr0 R < 0) || decide ((4 : Int) ≤ (Y.length : Int))) = false := by simp only [WB, eq_self]; omega
        obtain ⟨Y2, hY2⟩ : ∃ Y2, Y2 = Y ++ [fr0 R] := ⟨_, rfl⟩
        have hY2l : Y2.length = Y.length + 1 := by rw [hY2]; simp
        have hap : List.map enc Y ++ [[AC.int .i64 (fr0 R)]] = List.map enc Y2 := by rw [hY2, List.map_append]; rfl
        have hfY : (List.map enc Y).length = Y.length := by simp
        have hwn : win (fun k => (List.map enc Y).getD (0 + k) []) Y.length = List.map enc Y := by simp only [Nat.zero_add]; exact win_whole hfY
        rw [← hY2]
        rcases Nat.eq_zero_or_pos Y.length with h0 | h0
        · have hap0 : [[AC.int .i64 (fr0 R)]] = List.map enc Y2 := by rw [hY2, List.eq_nil_of_length_eq_zero h0]; rfl
          have hcd0 : (decide (fr0 R < 0) || decide ((4 : Int) ≤ ((0 : Nat) : Int))) = false := by rw [h0] at hcd; exact hcd
          have hY21 : Y2.length = 1 := by omega
          simp only [↓WP, ↓grdD, ↓grdT, ↓un_dead, ↓binVC, ↓buildVC, ↓sliceVC, WQ, WN, Int.reduceToNat, renl, cll, rent, clt, ↓reduceIte, Nat.reduceLeDiff, Nat.reduceEqDiff, Nat.reduceLT, reduceCtorEq, List.append_nil, Nat.reduceAdd, Nat.reduceSub, Nat.reduceBEq, forall_const, implies_true, cond_true, cond_false, AV.ren, AC.ren, AV.cl, AC.cl, eq_self, List.all_cons, List.all_nil, AV.eqv, AC.eqv, eqvl, eqvt, Sl.eqv, List.map_append, List.length_map, List.length_append, List.length_replicate, List.length_set, List.map_replicate, nilVC, zr_25, sz_25, fs_25, fl_25_2, sz_22, el_22, sz_23, sd_23, fl_25_1, el_23, sz_3, zr_3, c_spec_CowOk, c_spec_l29Copy, c_spec_l29Free, c_spec_l29Space, hcd0, hfr, hY, w1, w5, u6, hGl, hap, enc_set1, hs, h0, hap0, hwn, hY21]
          repeat' (first | with_reducible refine And.intro ?_ ?_ | intro _)
          all_goals try omega
          all_goals try exact .inl trivial
          all_goals try exact .inr trivial
          all_goals try rfl
          all_goals
            first
            | (rename_i c hc _
               refine endX_ret ?_
               simp only [↓WP, ↓grdD, ↓grdT, ↓un_dead, ↓binVC, ↓buildVC, ↓sliceVC, WQ, WN, Int.reduceToNat, renl, cll, rent, clt, ↓reduceIte, Nat.reduceLeDiff, Nat.reduceEqDiff, Nat.reduceLT, reduceCtorEq, List.append_nil, Nat.reduceAdd, Nat.reduceSub, Nat.reduceBEq, forall_const, implies_true, cond_true, cond_false, AV.ren, AC.ren, AV.cl, AC.cl, eq_self, List.all_cons, List.all_nil, AV.eqv, AC.eqv, eqvl, eqvt, Sl.eqv, List.map_append, List.length_map, List.length_append, List.length_replicate, List.length_set, List.map_replicate, nilVC, zr_25, sz_25, fs_25, fl_25_2, sz_22, el_22, sz_23, sd_23, fl_25_1, el_23, sz_3, zr_3, c_spec_CowOk, c_spec_l29Copy, c_spec_l29Free, c_spec_l29Space]
               refine ⟨_, _, LeV_swap (j := 6) (j2 := 9) (i0 := s.toNat) true 3 1 (mems G) (by decide) rfl rfl (by rw [mems_len]; exact w4), (pF, F, pR, pZ, G.set s.toNat (c, Y2)), [], [2, 3, 4, 5, 6], ?_⟩
               simp only [WL, WNL, swA_new, swA_ne, nest_sw_ne, mapLL, List.mem_cons, Nat.reduceAdd, Nat.reduceLT, Nat.reduceLeDiff, Nat.reduceEqDiff, okU, List.nodup_cons, List.not_mem_nil, toT, toL, toO, keysO, renl, rent, cll, clt, eq_self, AV.eqv, AC.eqv, eqvl, eqvt, Sl.eqv, rowsLe, mapLL, rowsCl, List.map_append, List.length_map, List.length_append, List.length_set, List.map_replicate, rowG, List.getElem?_cons_zero, List.getElem?_cons_succ, List.getElem?_nil, List.append_nil, List.nil_append, List.cons_append, ghosts, St.gh, Option.some.injEq, implies_true, setT, AV.ren, AC.ren, AV.cl, AC.cl, List.replicate_succ, List.replicate_zero, List.nodup_nil, List.length_nil, List.length_cons, List.getD_cons_zero, List.getD_cons_succ, ↓reduceIte, retP, nest_sw_set (j := 6) (j2 := 9) (X := Y2) (by decide) hY21, nest_sw_ne (j := 6) (j2 := 9) (q := 3) (by decide) (by decide)]
               simp [CowC, u1, hF, hFo, u2, u3, u4, u5, u6, hG, hGo, snd_set hG, famOk_set hGo (show Y2.length ≤ 4294967296 by omega) (show Y2.length ≤ c by omega), rowsLe_self]
               done)
        · simp only [↓WP, ↓grdD, ↓grdT, ↓un_dead, ↓binVC, ↓buildVC, ↓sliceVC, WQ, WN, Int.reduceToNat, renl, cll, rent, clt, ↓reduceIte, Nat.reduceLeDiff, Nat.reduceEqDiff, Nat.reduceLT, reduceCtorEq, List.append_nil, Nat.reduceAdd, Nat.reduceSub, Nat.reduceBEq, forall_const, implies_true, cond_true, cond_false, AV.ren, AC.ren, AV.cl, AC.cl, eq_self, List.all_cons, List.all_nil, AV.eqv, AC.eqv, eqvl, eqvt, Sl.eqv, List.map_append, List.length_map, List.length_append, List.length_replicate, List.length_set, List.map_replicate, nilVC, zr_25, sz_25, fs_25, fl_25_2, sz_22, el_22, sz_23, sd_23, fl_25_1, el_23, sz_3, zr_3, c_spec_CowOk, c_spec_l29Copy, c_spec_l29Free, c_spec_l29Space, hcd, hfr, hY, w1, w5, u6, hGl, hap, enc_set1, hs, hwn]
          repeat' (first | with_reducible refine And.intro ?_ ?_ | intro _)
          all_goals try omega
          all_goals try exact .inl trivial
          all_goals try exact .inr trivial
          all_goals try rfl
          all_goals
            first
            | (rename_i k hk _ hin
               refine endX_ret ?_
               simp only [↓WP, ↓grdD, ↓grdT, ↓un_dead, ↓binVC, ↓buildVC, ↓sliceVC, WQ, WN, Int.reduceToNat, renl, cll, rent, clt, ↓reduceIte, Nat.reduceLeDiff, Nat.reduceEqDiff, Nat.reduceLT, reduceCtorEq, List.append_nil, Nat.reduceAdd, Nat.reduceSub, Nat.reduceBEq, forall_const, implies_true, cond_true, cond_false, AV.ren, AC.ren, AV.cl, AC.cl, eq_self, List.all_cons, List.all_nil, AV.eqv, AC.eqv, eqvl, eqvt, Sl.eqv, List.map_append, List.length_map, List.length_append, List.length_replicate, List.length_set, List.map_replicate, nilVC, zr_25, sz_25, fs_25, fl_25_2, sz_22, el_22, sz_23, sd_23, fl_25_1, el_23, sz_3, zr_3, c_spec_CowOk, c_spec_l29Copy, c_spec_l29Free, c_spec_l29Space]
               refine ⟨_, _, LeV_swap (j := 6) (j2 := 8) (i0 := s.toNat) true 3 1 (mems G) (by decide) rfl rfl (by rw [mems_len]; exact w4), (pF, F, pR, pZ, G.set s.toNat (k, Y2)), [], [2, 3, 4, 5, 6], ?_⟩
               simp only [WL, WNL, swA_new, swA_ne, nest_sw_ne, mapLL, List.mem_cons, Nat.reduceAdd, Nat.reduceLT, Nat.reduceLeDiff, Nat.reduceEqDiff, okU, List.nodup_cons, List.not_mem_nil, toT, toL, toO, keysO, renl, rent, cll, clt, eq_self, AV.eqv, AC.eqv, eqvl, eqvt, Sl.eqv, rowsLe, mapLL, rowsCl, List.map_append, List.length_map, List.length_append, List.length_set, List.map_replicate, rowG, List.getElem?_cons_zero, List.getElem?_cons_succ, List.getElem?_nil, List.append_nil, List.nil_append, List.cons_append, ghosts, St.gh, Option.some.injEq, implies_true, setT, AV.ren, AC.ren, AV.cl, AC.cl, List.replicate_succ, List.replicate_zero, List.nodup_nil, List.length_nil, List.length_cons, List.getD_cons_zero, List.getD_cons_succ, ↓reduceIte, retP, nest_sw_set (j := 6) (j2 := 8) (X := Y2) (by decide) hY2l, nest_sw_ne (j := 6) (j2 := 8) (q := 3) (by decide) (by decide)]
               simp [CowC, u1, hF, hFo, u2, u3, u4, u5, u6, hG, hGo, snd_set hG, famOk_set hGo (show Y2.length ≤ 4294967296 by omega) (show Y2.length ≤ k by omega), rowsLe_self]
               done)
            | (rename_i k hk _ _ c hc _
               refine endX_ret ?_
               simp only [↓WP, ↓grdD, ↓grdT, ↓un_dead, ↓binVC, ↓buildVC, ↓sliceVC, WQ, WN, Int.reduceToNat, renl, cll, rent, clt, ↓reduceIte, Nat.reduceLeDiff, Nat.reduceEqDiff, Nat.reduceLT, reduceCtorEq, List.append_nil, Nat.reduceAdd, Nat.reduceSub, Nat.reduceBEq, forall_const, implies_true, cond_true, cond_false, AV.ren, AC.ren, AV.cl, AC.cl, eq_self, List.all_cons, List.all_nil, AV.eqv, AC.eqv, eqvl, eqvt, Sl.eqv, List.map_append, List.length_map, List.length_append, List.length_replicate, List.length_set, List.map_replicate, nilVC, zr_25, sz_25, fs_25, fl_25_2, sz_22, el_22, sz_23, sd_23, fl_25_1, el_23, sz_3, zr_3, c_spec_CowOk, c_spec_l29Copy, c_spec_l29Free, c_spec_l29Space]
               refine ⟨_, _, LeV_swap (j := 6) (j2 := 10) (i0 := s.toNat) true 3 1 (mems G) (by decide) rfl rfl (by rw [mems_len]; exact w4), (pF, F, pR, pZ, G.set s.toNat (c, Y2)), [], [2, 3, 4, 5, 6], ?_⟩
               simp only [WL, WNL, swA_new, swA_ne, nest_sw_ne, mapLL, List.mem_cons, Nat.reduceAdd, Nat.reduceLT, Nat.reduceLeDiff, Nat.reduceEqDiff, okU, List.nodup_cons, List.not_mem_nil, toT, toL, toO, keysO, renl, rent, cll, clt, eq_self, AV.eqv, AC.eqv, eqvl, eqvt, Sl.eqv, rowsLe, mapLL, rowsCl, List.map_append, List.length_map, List.length_append, List.length_set, List.map_replicate, rowG, List.getElem?_cons_zero, List.getElem?_cons_succ, List.getElem?_nil, List.append_nil, List.nil_append, List.cons_append, ghosts, St.gh, Option.some.injEq, implies_true, setT, AV.ren, AC.ren, AV.cl, AC.cl, List.replicate_succ, List.replicate_zero, List.nodup_nil, List.length_nil, List.length_cons, List.getD_cons_zero, List.getD_cons_succ, ↓reduceIte, retP, nest_sw_set (j := 6) (j2 := 10) (X := Y2) (by decide) hY2l, nest_sw_ne (j := 6) (j2 := 10) (q := 3) (by decide) (by decide)]
               simp [CowC, u1, hF, hFo, u2, u3, u4, u5, u6, hG, hGo, snd_set hG, famOk_set hGo (show Y2.length ≤ 4294967296 by omega) (show Y2.length ≤ c by omega), rowsLe_self]
               done)
      · have hO : growO X R Z s = ((X, R, Z), false) := by rw [growO, if_pos hok, if_neg fun h => hmay h.2]
        rw [hO]
        rw [hY] at w1 w2 w3 w5 hmay
        have hcd : (decide (fr0 R < 0) || decide ((4 : Int) ≤ (Y.length : Int))) = true := by simp only [WB, eq_self]; omega
        simp only [↓WP, ↓grdD, ↓grdT, ↓un_dead, ↓binVC, ↓buildVC, ↓sliceVC, WQ, WN, Int.reduceToNat, renl, cll, rent, clt, ↓reduceIte, Nat.reduceLeDiff, Nat.reduceEqDiff, Nat.reduceLT, reduceCtorEq, List.append_nil, Nat.reduceAdd, Nat.reduceSub, Nat.reduceBEq, forall_const, implies_true, cond_true, cond_false, AV.ren, AC.ren, AV.cl, AC.cl, eq_self, List.all_cons, List.all_nil, AV.eqv, AC.eqv, eqvl, eqvt, Sl.eqv, List.map_append, List.length_map, List.length_append, List.length_replicate, List.length_set, List.map_replicate, nilVC, zr_25, sz_25, fs_25, fl_25_2, sz_22, el_22, sz_23, sd_23, fl_25_1, el_23, sz_3, zr_3, c_spec_CowOk, c_spec_l29Copy, c_spec_l29Free, c_spec_l29Space, hcd, hfr, hY, w1, w5, u6, hGl, hs]
        repeat' (first | with_reducible refine And.intro ?_ ?_ | intro _)
        all_goals try omega
        all_goals try exact .inr trivial
        refine endX_ret ?_
        simp only [↓WP, ↓grdD, ↓grdT, ↓un_dead, ↓binVC, ↓buildVC, ↓sliceVC, WQ, WN, Int.reduceToNat, renl, cll, rent, clt, ↓reduceIte, Nat.reduceLeDiff, Nat.reduceEqDiff, Nat.reduceLT, reduceCtorEq, List.append_nil, Nat.reduceAdd, Nat.reduceSub, Nat.reduceBEq, forall_const, implies_true, cond_true, cond_false, AV.ren, AC.ren, AV.cl, AC.cl, eq_self, List.all_cons, List.all_nil, AV.eqv, AC.eqv, eqvl, eqvt, Sl.eqv, List.map_append, List.length_map, List.length_append, List.length_replicate, List.length_set, List.map_replicate, nilVC, zr_25, sz_25, fs_25, fl_25_2, sz_22, el_22, sz_23, sd_23, fl_25_1, el_23, sz_3, zr_3, c_spec_CowOk, c_spec_l29Copy, c_spec_l29Free, c_spec_l29Space]
        refine ⟨_, _, LeV.refl _ _, (pF, F, pR, pZ, G), [], [2, 3, 4, 5, 6], ?_⟩
        simp only [WL, WNL, swA_new, swA_ne, nest_sw_ne, mapLL, List.mem_cons, Nat.reduceAdd, Nat.reduceLT, Nat.reduceLeDiff, Nat.reduceEqDiff, okU, List.nodup_cons, List.not_mem_nil, toT, toL, toO, keysO, renl, rent, cll, clt, eq_self, AV.eqv, AC.eqv, eqvl, eqvt, Sl.eqv, rowsLe, mapLL, rowsCl, List.map_append, List.length_map, List.length_append, List.length_set, List.map_replicate, rowG, List.getElem?_cons_zero, List.getElem?_cons_succ, List.getElem?_nil, List.append_nil, List.nil_append, List.cons_append, ghosts, St.gh, Option.some.injEq, implies_true, setT, AV.ren, AC.ren, AV.cl, AC.cl, List.replicate_succ, List.replicate_zero, List.nodup_nil, List.length_nil, List.length_cons, List.getD_cons_zero, List.getD_cons_succ, ↓reduceIte, retP]
        simp [CowC, u1, hF, hFo, u2, u3, u4, u5, u6, hG, hGo, rowsLe_self]
    · have hO : growO X R Z s = ((X, R, Z), false) := by rw [growO, if_pos hok, if_neg fun h => hs h.1]
      rw [hO]
      simp only [↓WP, ↓grdD, ↓grdT, ↓un_dead, ↓binVC, ↓buildVC, ↓sliceVC, WQ, WN, Int.reduceToNat, renl, cll, rent, clt, ↓reduceIte, Nat.reduceLeDiff, Nat.reduceEqDiff, Nat.reduceLT, reduceCtorEq, List.append_nil, Nat.reduceAdd, Nat.reduceSub, Nat.reduceBEq, forall_const, implies_true, cond_true, cond_false, AV.ren, AC.ren, AV.cl, AC.cl, eq_self, List.all_cons, List.all_nil, AV.eqv, AC.eqv, eqvl, eqvt, Sl.eqv, List.map_append, List.length_map, List.length_append, List.length_replicate, List.length_set, List.map_replicate, nilVC, zr_25, sz_25, fs_25, fl_25_2, sz_22, el_22, sz_23, sd_23, fl_25_1, el_23, sz_3, zr_3, c_spec_CowOk, c_spec_l29Copy, c_spec_l29Free, c_spec_l29Space, Row2Ok_upE h1, row2_upE h1, hX, Row2Ok_upE h3, row2_upE h3, hZ, hR, decide_eq_true hok, decide_eq_false hs]
      refine ⟨h2, ⟨h2, l2⟩, fun p hp => ?_⟩
      obtain ⟨pF, F, pR, pZ, G⟩ := p
      obtain ⟨⟨u1, hF, hFo⟩, u2, u3, u4, u5, u6, hG, hGo⟩ := hp
      dsimp only at u1 hF hFo u2 u3 u4 u5 u6 hG hGo
      have hGl : G.length = Z.length := by rw [← hG]; simp
      have hFl : F.length = X.length := by rw [← hF]; simp
      obtain ⟨x, hx⟩ : ∃ x, ((nestC (.loc 6) G).getD s.toNat []).getD 0 dfl = x := ⟨_, rfl⟩
      simp only [↓WP, ↓grdD, ↓grdT, ↓un_dead, ↓binVC, ↓buildVC, ↓sliceVC, WQ, WN, Int.reduceToNat, renl, cll, rent, clt, ↓reduceIte, Nat.reduceLeDiff, Nat.reduceEqDiff, Nat.reduceLT, reduceCtorEq, List.append_nil, Nat.reduceAdd, Nat.reduceSub, Nat.reduceBEq, forall_const, implies_true, cond_true, cond_false, AV.ren, AC.ren, AV.cl, AC.cl, eq_self, List.all_cons, List.all_nil, AV.eqv, AC.eqv, eqvl, eqvt, Sl.eqv, List.map_append, List.length_map, List.length_append, List.length_replicate, List.length_set, List.map_replicate, nilVC, zr_25, sz_25, fs_25, fl_25_2, sz_22, el_22, sz_23, sd_23, fl_25_1, el_23, sz_3, zr_3, c_spec_CowOk, c_spec_l29Copy, c_spec_l29Free, c_spec_l29Space, hfr, hx]
      repeat' (first | with_reducible refine And.intro ?_ ?_ | intro _)
      all_goals try omega
      all_goals try exact .inr trivial
      cases x <;> simp only [↓WP, ↓grdD, ↓grdT, ↓un_dead, ↓binVC, ↓buildVC, ↓sliceVC, WQ, WN, Int.reduceToNat, renl, cll, rent, clt, ↓reduceIte, Nat.reduceLeDiff, Nat.reduceEqDiff, Nat.reduceLT, reduceCtorEq, List.append_nil, Nat.reduceAdd, Nat.reduceSub, Nat.reduceBEq, forall_const, implies_true, cond_true, cond_false, AV.ren, AC.ren, AV.cl, AC.cl, eq_self, List.all_cons, List.all_nil, AV.eqv, AC.eqv, eqvl, eqvt, Sl.eqv, List.map_append, List.length_map, List.length_append, List.length_replicate, List.length_set, List.map_replicate, nilVC, zr_25, sz_25, fs_25, fl_25_2, sz_22, el_22, sz_23, sd_23, fl_25_1, el_23, sz_3, zr_3, c_spec_CowOk, c_spec_l29Copy, c_spec_l29Free, c_spec_l29Space]
      all_goals
        refine endX_ret ?_
        simp only [↓WP, ↓grdD, ↓grdT, ↓un_dead, ↓binVC, ↓buildVC, ↓sliceVC, WQ, WN, Int.reduceToNat, renl, cll, rent, clt, ↓reduceIte, Nat.reduceLeDiff, Nat.reduceEqDiff, Nat.reduceLT, reduceCtorEq, List.append_nil, Nat.reduceAdd, Nat.reduceSub, Nat.reduceBEq, forall_const, implies_true, cond_true, cond_false, AV.ren, AC.ren, AV.cl, AC.cl, eq_self, List.all_cons, List.all_nil, AV.eqv, AC.eqv, eqvl, eqvt, Sl.eqv, List.map_append, List.length_map, List.length_append, List.length_replicate, List.length_set, List.map_replicate, nilVC, zr_25, sz_25, fs_25, fl_25_2, sz_22, el_22, sz_23, sd_23, fl_25_1, el_23, sz_3, zr_3, c_spec_CowOk, c_spec_l29Copy, c_spec_l29Free, c_spec_l29Space]
        refine ⟨_, _, LeV.refl _ _, (pF, F, pR, pZ, G), [], [2, 3, 4, 5, 6], ?_⟩
        simp only [WL, WNL, swA_new, swA_ne, nest_sw_ne, mapLL, List.mem_cons, Nat.reduceAdd, Nat.reduceLT, Nat.reduceLeDiff, Nat.reduceEqDiff, okU, List.nodup_cons, List.not_mem_nil, toT, toL, toO, keysO, renl, rent, cll, clt, eq_self, AV.eqv, AC.eqv, eqvl, eqvt, Sl.eqv, rowsLe, mapLL, rowsCl, List.map_append, List.length_map, List.length_append, List.length_set, List.map_replicate, rowG, List.getElem?_cons_zero, List.getElem?_cons_succ, List.getElem?_nil, List.append_nil, List.nil_append, List.cons_append, ghosts, St.gh, Option.some.injEq, implies_true, setT, AV.ren, AC.ren, AV.cl, AC.cl, List.replicate_succ, List.replicate_zero, List.nodup_nil, List.length_nil, List.length_cons, List.getD_cons_zero, List.getD_cons_succ, ↓reduceIte, retP]
        simp [CowC, u1, hF, hFo, u2, u3, u4, u5, u6, hG, hGo, rowsLe_self]
  · have hO : growO X R Z s = (([], [], []), false) := if_neg hok
    rw [hO]
    simp only [↓WP, ↓grdD, ↓grdT, ↓un_dead, ↓binVC, ↓buildVC, ↓sliceVC, WQ, WN, Int.reduceToNat, renl, cll, rent, clt, ↓reduceIte, Nat.reduceLeDiff, Nat.reduceEqDiff, Nat.reduceLT, reduceCtorEq, List.append_nil, Nat.reduceAdd, Nat.reduceSub, Nat.reduceBEq, forall_const, implies_true, cond_true, cond_false, AV.ren, AC.ren, AV.cl, AC.cl, eq_self, List.all_cons, List.all_nil, AV.eqv, AC.eqv, eqvl, eqvt, Sl.eqv, List.map_append, List.length_map, List.length_append, List.length_replicate, List.length_set, List.map_replicate, nilVC, zr_25, sz_25, fs_25, fl_25_2, sz_22, el_22, sz_23, sd_23, fl_25_1, el_23, sz_3, zr_3, c_spec_CowOk, c_spec_l29Copy, c_spec_l29Free, c_spec_l29Space, Row2Ok_upE h1, row2_upE h1, hX, Row2Ok_upE h3, row2_upE h3, hZ, hR, decide_eq_false hok]
    refine ⟨h2, endX_ret ?_⟩
    simp only [↓WP, ↓grdD, ↓grdT, ↓un_dead, ↓binVC, ↓buildVC, ↓sliceVC, WQ, WN, Int.reduceToNat, renl, cll, rent, clt, ↓reduceIte, Nat.reduceLeDiff, Nat.reduceEqDiff, Nat.reduceLT, reduceCtorEq, List.append_nil, Nat.reduceAdd, Nat.reduceSub, Nat.reduceBEq, forall_const, implies_true, cond_true, cond_false, AV.ren, AC.ren, AV.cl, AC.cl, eq_self, List.all_cons, List.all_nil, AV.eqv, AC.eqv, eqvl, eqvt, Sl.eqv, List.map_append, List.length_map, List.length_append, List.length_replicate, List.length_set, List.map_replicate, nilVC, zr_25, sz_25, fs_25, fl_25_2, sz_22, el_22, sz_23, sd_23, fl_25_1, el_23, sz_3, zr_3, c_spec_CowOk, c_spec_l29Copy, c_spec_l29Free, c_spec_l29Space]
    refine ⟨_, _, LeV.refl _ _, (0, [], 0, 0, []), [(23, 1), (3, 1), (3, 1), (23, 1), (3, 1)], [2, 3, 4, 5, 6], ?_⟩
    simp only [WL, WNL, swA_new, swA_ne, nest_sw_ne, mapLL, List.mem_cons, Nat.reduceAdd, Nat.reduceLT, Nat.reduceLeDiff, Nat.reduceEqDiff, okU, List.nodup_cons, List.not_mem_nil, toT, toL, toO, keysO, renl, rent, cll, clt, eq_self, AV.eqv, AC.eqv, eqvl, eqvt, Sl.eqv, rowsLe, mapLL, rowsCl, List.map_append, List.length_map, List.length_append, List.length_set, List.map_replicate, rowG, List.getElem?_cons_zero, List.getElem?_cons_succ, List.getElem?_nil, List.append_nil, List.nil_append, List.cons_append, ghosts, St.gh, Option.some.injEq, implies_true, setT, AV.ren, AC.ren, AV.cl, AC.cl, List.replicate_succ, List.replicate_zero, List.nodup_nil, List.length_nil, List.length_cons, List.getD_cons_zero, List.getD_cons_succ, ↓reduceIte, retP, nest_nil, mems_nil]
    simp [CowC, famOk]
end Go.Eng.T
