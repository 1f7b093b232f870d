/- cow: CowFork as the reference does it. -/
import Derived.Test.YtjdppjomhkbljaaFn16
set_option linter.unusedVariables false
set_option linter.unusedSimpArgs false
set_option linter.unusedSectionVars false
namespace Go.Eng.T
open Go.Proofs
open Cel (enc dec)
set_option maxRecDepth 100000
set_option maxHeartbeats 4000000
def c_spec_CowFork : Contract := ⟨26, fun args M => match args with
  | [.agg [.sl a1 n1 _, .sl a2 n2 c2, .sl a3 n3 _], .c (.int .i64 a), .c (.int .i64 b)] => .eff ((Row2Ok Int a1 n1 M ∧ RowOk Int a2 n2 (M a2.r) ∧ Row2Ok Int a3 n3 M) ∧ n2 ≤ c2) (Nat × List (Nat × List Int) × Nat × Nat × List (Nat × List Int)) (fun p => CowC (forkO (row2 Int a1 n1 M) (row Int a2 n2 (M a2.r)) (row2 Int a3 n3 M) a b).1.1 (forkO (row2 Int a1 n1 M) (row Int a2 n2 (M a2.r)) (row2 Int a3 n3 M) a b).1.2.1 (forkO (row2 Int a1 n1 M) (row Int a2 n2 (M a2.r)) (row2 Int a3 n3 M) a b).1.2.2 p) (fun p => .tup [(true, [.sl ⟨.loc 0, 0, 0, 0⟩ (forkO (row2 Int a1 n1 M) (row Int a2 n2 (M a2.r)) (row2 Int a3 n3 M) a b).1.1.length p.1, .sl ⟨.loc 2, 0, 0, 0⟩ (forkO (row2 Int a1 n1 M) (row Int a2 n2 (M a2.r)) (row2 Int a3 n3 M) a b).1.2.1.length p.2.2.1, .sl ⟨.loc 3, 0, 0, 0⟩ (forkO (row2 Int a1 n1 M) (row Int a2 n2 (M a2.r)) (row2 Int a3 n3 M) a b).1.2.2.length p.2.2.2.1]), (false, [.bool (forkO (row2 Int a1 n1 M) (row Int a2 n2 (M a2.r)) (row2 Int a3 n3 M) a b).2])]) (fun p => [.rows true 23 1 [(p.1, nestC (.loc 1) p.2.1)], .rows true 3 1 (mems p.2.1), rowG true 3 p.2.2.1 (forkO (row2 Int a1 n1 M) (row Int a2 n2 (M a2.r)) (row2 Int a3 n3 M) a b).1.2.1, .rows true 23 1 [(p.2.2.2.1, nestC (.loc 4) p.2.2.2.2)], .rows true 3 1 (mems p.2.2.2.2)]) (fun _ => [])
  | _ => .bad⟩
theorem ok_spec_CowFork : fnP Try.prog c_spec_CowFork.f = true ∧ ∀ args M, (c_spec_CowFork.sp args M).OK Try.prog c_spec_CowFork.f args M := by
  refine ⟨fp_26, fun args M => ?_⟩
  unfold c_spec_CowFork
  dsimp only
  split
  case h_2 => trivial
  rename_i a1 n1 c1 a2 n2 c2 a3 n3 c3 a b
  rintro ⟨⟨h1, h2, h3⟩, hc2⟩
  obtain ⟨s1, X, hX, rfl, t1⟩ := h1.x
  obtain ⟨s2, R, hR, rfl, t2⟩ := h2.x
  obtain ⟨s3, Z, hZ, rfl, t3⟩ := h3.x
  rw [hX, hR, hZ]
  refine goInX hf_26 rfl (nt := 79) rfl (rs := [.cell 6 25, .tmp 7]) rfl (C := [c_spec_CowOk, c_spec_l29Copy, c_spec_l29Space]) ⟨(by first | exact .inl ok_spec_CowOk | exact ok_spec_CowOk), (by first | exact .inl ok_spec_l29Copy | exact ok_spec_l29Copy), (by first | exact .inl ok_spec_l29Space | exact ok_spec_l29Space), trivial⟩ (q := fun f => [].contains f) ⟨fun h => absurd h (by decide), fun h => absurd h (by decide), fun h => absurd h (by decide), trivial⟩ mixed (O := ots [(10, otl [0, 1, 2, 3, 4, 5, 6, 7, 8, 9, 10, 11, 12, 13, 14, 15, 16] .nil)]) (by kernel_rfl) ?_
  by_cases hok : cowOk X R Z
  · have hok' := hok
    obtain ⟨⟨l1, l2, l3⟩, k1, k2, k3⟩ := hok'
    by_cases ha : 0 ≤ a ∧ a ≤ 3
    · by_cases hb : 0 ≤ b ∧ b ≤ 3
      · simp only [↓WP, ↓grdD, ↓grdT, ↓un_dead, ↓binVC, ↓buildVC, ↓sliceVC, WQ, WN, Int.reduceToNat, renl, cll, rent, clt, ↓reduceIte, Nat.reduceLeDiff, Nat.reduceEqDiff, Nat.reduceLT, reduceCtorEq, List.append_nil, Nat.reduceAdd, Nat.reduceSub, Nat.reduceBEq, forall_const, implies_true, cond_true, cond_false, AV.ren, AC.ren, AV.cl, AC.cl, eq_self, List.all_cons, List.all_nil, AV.eqv, AC.eqv, eqvl, eqvt, Sl.eqv, List.map_append, List.length_map, List.length_append, List.length_replicate, List.length_set, List.map_replicate, nilVC, zr_25, sz_25, fs_25, fl_25_2, sz_22, el_22, sz_23, sd_23, el_23, zr_3, fl_25_1, sz_3, c_spec_CowOk, c_spec_l29Copy, c_spec_l29Space, Row2Ok_upE h1, row2_upE h1, hX, Row2Ok_upE h3, row2_upE h3, hZ, hR, decide_eq_true hok, decide_eq_true ha, decide_eq_true hb]
        refine ⟨h2, ⟨h2, l2⟩, fun p hp => ?_⟩
        obtain ⟨pF, F, pR, pZ, G⟩ := p
        obtain ⟨⟨u1, hF, hFo⟩, u2, u3, u4, u5, u6, hG, hGo⟩ := hp
        dsimp only at u1 hF hFo u2 u3 u4 u5 u6 hG hGo
        have hGl : G.length = Z.length := by rw [← hG]; simp
        have hFl : F.length = X.length := by rw [← hF]; simp
        have hbl : b.toNat < Z.length := by omega
        have hal : a.toNat < Z.length := by omega
        obtain ⟨gc, w1, w2, w3, w4, w5⟩ := fam_at hG hGo hbl
        obtain ⟨gd, v1, v2, v3, v4, v5⟩ := fam_at hG hGo hal
        obtain ⟨Y, hY⟩ : ∃ Y, Z.getD a.toNat default = Y := ⟨_, rfl⟩
        by_cases hmay : (Z.getD a.toNat default).length ≠ 0 ∧ (Z.getD b.toNat default).length = 0
        · have hO : forkO X R Z a b = ((X, refs (Z.set b.toNat (Z.getD a.toNat default)).flatten, Z.set b.toNat (Z.getD a.toNat default)), true) := by rw [forkO, if_pos hok, if_pos ⟨ha, hb, hmay⟩]
          have hrf := refs_fork (Y := Z.getD a.toNat default) hbl hmay.2
          rw [hO, ← hrf]
          have hsp := k1 a.toNat (by omega)
          rw [hY] at v1 v2 v3 v5 hmay hsp ⊢
          have hYs : Y.length ≤ 4294967296 := v3
          have hZf : Z.flatten.length ≤ 16 := by
            have := (sp_all (Z := Z) fun k hk => k1 k (by omega)).2
            rw [← flat_len] at this
            omega
          have hcd : (decide ((Y.length : Int) = 0) || decide ((0 : Int) < ((Z.getD b.toNat default).length : Int))) = false := by simp only [WB, eq_self]; omega
          have hfY : (List.map enc Y).length = Y.length := by simp
          have hwn : win (fun k => (List.map enc Y).getD (0 + k) []) Y.length = List.map enc Y := by simp only [Nat.zero_add]; exact win_whole hfY
          simp only [↓WP, ↓grdD, ↓grdT, ↓un_dead, ↓binVC, ↓buildVC, ↓sliceVC, WQ, WN, Int.reduceToNat, renl, cll, rent, clt, ↓reduceIte, Nat.reduceLeDiff, Nat.reduceEqDiff, Nat.reduceLT, reduceCtorEq, List.append_nil, Nat.reduceAdd, Nat.reduceSub, Nat.reduceBEq, forall_const, implies_true, cond_true, cond_false, AV.ren, AC.ren, AV.cl, AC.cl, eq_self, List.all_cons, List.all_nil, AV.eqv, AC.eqv, eqvl, eqvt, Sl.eqv, List.map_append, List.length_map, List.length_append, List.length_replicate, List.length_set, List.map_replicate, nilVC, zr_25, sz_25, fs_25, fl_25_2, sz_22, el_22, sz_23, sd_23, el_23, zr_3, fl_25_1, sz_3, c_spec_CowOk, c_spec_l29Copy, c_spec_l29Space, hcd, v1, v5, w1, w5, u6, hGl, hwn]
          repeat' (first | with_reducible refine And.intro ?_ ?_ | intro _)
          all_goals try omega
          all_goals try exact .inl trivial
          all_goals try exact .inr trivial
          all_goals try rfl
          rename_i k hk _
          refine loopI (J := {j : Nat // j ≤ Y.length}) (fun j => ⟨slots 79 [(2, I b), (6, .c (.ptr ⟨.loc 1, 0, 0, 0⟩)), (8, .c (.ptr ⟨.loc 7, 0, 0, 0⟩)), (9, .c (.sl ⟨.loc 8, 0, 0, 0⟩ Y.length k)), (10, I j.1)], M, [], [.box 25 [.sl a1.up X.length c1, .sl a2.up R.length c2, .sl a3.up Z.length c3], .box 25 [.sl ⟨.nil, 0, 0, 0⟩ 0 0, .sl ⟨.nil, 0, 0, 0⟩ 0 0, .sl ⟨.nil, 0, 0, 0⟩ 0 0], .rows true 23 1 [(pF, nestC (.loc 3) F)], .rows true 3 1 (mems F), .rows true 3 1 [(pR, List.map enc (refs (Z.flatten ++ Y.take j.1)))], .rows true 23 1 [(pZ, nestC (.loc 6) G)], .rows true 3 1 (mems G), .box 25 [.sl ⟨.loc 2, 0, 0, 0⟩ X.length pF, .sl ⟨.loc 4, 0, 0, 0⟩ R.length pR, .sl ⟨.loc 5, 0, 0, 0⟩ Z.length pZ], .rows true 3 1 [(k, List.map enc Y)]]⟩) (fun j => Y.length - j.1) ⟨0, by omega⟩ (Le_intro [0, 1, 2, 3, 4, 5, 6, 7, 8] (by simp only [WL, WNL, swA_new, swA_ne, nest_sw_ne, mapLL, List.mem_cons, Nat.reduceAdd, Nat.reduceLT, Nat.reduceLeDiff, Nat.reduceEqDiff, okU, List.nodup_cons, List.not_mem_nil, toT, toL, toO, keysO, renl, rent, cll, clt, eq_self, AV.eqv, AC.eqv, eqvl, eqvt, Sl.eqv, rowsLe, mapLL, rowsCl, List.map_append, List.length_map, List.length_append, List.length_set, List.map_replicate, rowG, List.getElem?_cons_zero, List.getElem?_cons_succ, List.getElem?_nil, List.append_nil, List.nil_append, List.cons_append, ghosts, St.gh, Option.some.injEq, implies_true, setT, AV.ren, AC.ren, AV.cl, AC.cl, List.replicate_succ, List.replicate_zero, List.nodup_nil, List.length_nil, List.length_cons, List.getD_cons_zero, List.getD_cons_succ, ↓reduceIte, k3, List.take_zero, List.append_nil]; simp [rowsLe_self])) ?_
          rintro ⟨j, hj⟩
          have hwj := wS (i := j) (by omega)
          rcases Nat.lt_or_ge j Y.length with hjlt | hjge
          · obtain ⟨y0, y1⟩ := hsp.2 _ (getD_mem hjlt)
            obtain ⟨L, hL⟩ : ∃ L, Z.flatten ++ Y.take j = L := ⟨_, rfl⟩
            have hst := refs_step L y0 y1
            have hgt := refs_get L (i := (Y.getD j default).toNat) (by omega)
            have hLl : L.length ≤ 4294967296 := by
              have h1 := congrArg List.length hL
              rw [List.length_append, List.length_take] at h1
              have := hsp.1
              omega
            have hct := List.count_le_length (a := (((Y.getD j default).toNat : Nat) : Int)) (l := L)
            have hgeY : (List.map enc Y).getD j [] = enc (Y.getD j default) := getD_enc _ _ hjlt
            have hge1 : (List.map enc (refs L)).getD (Y.getD j default).toNat [] = enc ((refs L).getD (Y.getD j default).toNat default) := getD_enc _ _ (by rw [refs_length]; omega)
            have hw1 : IntKind.i64.wrap ((refs L).getD (Y.getD j default).toNat default + 1) = (refs L).getD (Y.getD j default).toNat default + 1 := by rw [hgt, w64 (by omega) (by omega)]
            simp only [↓WP, ↓grdD, ↓grdT, ↓un_dead, ↓binVC, ↓buildVC, ↓sliceVC, WQ, WN, Int.reduceToNat, renl, cll, rent, clt, ↓reduceIte, Nat.reduceLeDiff, Nat.reduceEqDiff, Nat.reduceLT, reduceCtorEq, List.append_nil, Nat.reduceAdd, Nat.reduceSub, Nat.reduceBEq, forall_const, implies_true, cond_true, cond_false, AV.ren, AC.ren, AV.cl, AC.cl, eq_self, List.all_cons, List.all_nil, AV.eqv, AC.eqv, eqvl, eqvt, Sl.eqv, List.map_append, List.length_map, List.length_append, List.length_replicate, List.length_set, List.map_replicate, nilVC, zr_25, sz_25, fs_25, fl_25_2, sz_22, el_22, sz_23, sd_23, el_23, zr_3, fl_25_1, sz_3, c_spec_CowOk, c_spec_l29Copy, c_spec_l29Space, dlt hjlt, hwj, hL, hgeY, hge1, hw1, refs_length, l2]
            repeat refine ⟨by omega, ?_⟩
            refine ⟨⟨j + 1, hjlt⟩, Le_intro [0, 1, 2, 3, 4, 5, 6, 7, 8] ?_, by show Y.length - (j + 1) < Y.length - j; omega⟩
            have hL2 : Z.flatten ++ Y.take (j + 1) = L ++ [Y.getD j default] := by rw [← hL, List.append_assoc, take_step Y j default hjlt]
            have hme : (List.map enc (refs L)).set (Y.getD j default).toNat [AC.int .i64 ((refs L).getD (Y.getD j default).toNat default + 1)] = List.map enc (refs (L ++ [Y.getD j default])) := by rw [← hst, List.map_set]; rfl
            simp only [WL, WNL, swA_new, swA_ne, nest_sw_ne, mapLL, List.mem_cons, Nat.reduceAdd, Nat.reduceLT, Nat.reduceLeDiff, Nat.reduceEqDiff, okU, List.nodup_cons, List.not_mem_nil, toT, toL, toO, keysO, renl, rent, cll, clt, eq_self, AV.eqv, AC.eqv, eqvl, eqvt, Sl.eqv, rowsLe, mapLL, rowsCl, List.map_append, List.length_map, List.length_append, List.length_set, List.map_replicate, rowG, List.getElem?_cons_zero, List.getElem?_cons_succ, List.getElem?_nil, List.append_nil, List.nil_append, List.cons_append, ghosts, St.gh, Option.some.injEq, implies_true, setT, AV.ren, AC.ren, AV.cl, AC.cl, List.replicate_succ, List.replicate_zero, List.nodup_nil, List.length_nil, List.length_cons, List.getD_cons_zero, List.getD_cons_succ, ↓reduceIte, hL2, hme, l2]
            try simp [rowsLe_self]
          · obtain rfl : j = Y.length := by omega
            simp only [↓WP, ↓grdD, ↓grdT, ↓un_dead, ↓binVC, ↓buildVC, ↓sliceVC, WQ, WN, Int.reduceToNat, renl, cll, rent, clt, ↓reduceIte, Nat.reduceLeDiff, Nat.reduceEqDiff, Nat.reduceLT, reduceCtorEq, List.append_nil, Nat.reduceAdd, Nat.reduceSub, Nat.reduceBEq, forall_const, implies_true, cond_true, cond_false, AV.ren, AC.ren, AV.cl, AC.cl, eq_self, List.all_cons, List.all_nil, AV.eqv, AC.eqv, eqvl, eqvt, Sl.eqv, List.map_append, List.length_map, List.length_append, List.length_replicate, List.length_set, List.map_replicate, nilVC, zr_25, sz_25, fs_25, fl_25_2, sz_22, el_22, sz_23, sd_23, el_23, zr_3, fl_25_1, sz_3, c_spec_CowOk, c_spec_l29Copy, c_spec_l29Space, dge hjge, hwj, List.take_length, hGl, hb]
            repeat' (first | with_reducible refine And.intro ?_ ?_ | intro _)
            all_goals try omega
            refine endX_ret ?_
            simp only [↓WP, ↓grdD, ↓grdT, ↓un_dead, ↓binVC, ↓buildVC, ↓sliceVC, WQ, WN, Int.reduceToNat, renl, cll, rent, clt, ↓reduceIte, Nat.reduceLeDiff, Nat.reduceEqDiff, Nat.reduceLT, reduceCtorEq, List.append_nil, Nat.reduceAdd, Nat.reduceSub, Nat.reduceBEq, forall_const, implies_true, cond_true, cond_false, AV.ren, AC.ren, AV.cl, AC.cl, eq_self, List.all_cons, List.all_nil, AV.eqv, AC.eqv, eqvl, eqvt, Sl.eqv, List.map_append, List.length_map, List.length_append, List.length_replicate, List.length_set, List.map_replicate, nilVC, zr_25, sz_25, fs_25, fl_25_2, sz_22, el_22, sz_23, sd_23, el_23, zr_3, fl_25_1, sz_3, c_spec_CowOk, c_spec_l29Copy, c_spec_l29Space]
            refine ⟨_, _, LeV_swap (j := 6) (j2 := 8) (i0 := b.toNat) true 3 1 (mems G) (by decide) rfl rfl (by rw [mems_len]; exact w4), (pF, F, pR, pZ, G.set b.toNat (k, Y)), [], [2, 3, 4, 5, 6], ?_⟩
            simp only [WL, WNL, swA_new, swA_ne, nest_sw_ne, mapLL, List.mem_cons, Nat.reduceAdd, Nat.reduceLT, Nat.reduceLeDiff, Nat.reduceEqDiff, okU, List.nodup_cons, List.not_mem_nil, toT, toL, toO, keysO, renl, rent, cll, clt, eq_self, AV.eqv, AC.eqv, eqvl, eqvt, Sl.eqv, rowsLe, mapLL, rowsCl, List.map_append, List.length_map, List.length_append, List.length_set, List.map_replicate, rowG, List.getElem?_cons_zero, List.getElem?_cons_succ, List.getElem?_nil, List.append_nil, List.nil_append, List.cons_append, ghosts, St.gh, Option.some.injEq, implies_true, setT, AV.ren, AC.ren, AV.cl, AC.cl, List.replicate_succ, List.replicate_zero, List.nodup_nil, List.length_nil, List.length_cons, List.getD_cons_zero, List.getD_cons_succ, ↓reduceIte, retP, nest_sw_set (j := 6) (j2 := 8) (X := Y) (by decide) rfl, nest_sw_ne (j := 6) (j2 := 8) (q := 3) (by decide) (by decide)]
            simp [CowC, u1, hF, hFo, u2, u3, u4, u5, u6, hG, hGo, refs_length, ← l2, snd_set hG, famOk_set hGo hYs hk, rowsLe_self]
        · have hO : forkO X R Z a b = ((X, R, Z), false) := by rw [forkO, if_pos hok, if_neg fun h => hmay h.2.2]
          rw [hO]
          rw [hY] at v1 v2 v3 v5 hmay
          have hcd : (decide ((Y.length : Int) = 0) || decide ((0 : Int) < ((Z.getD b.toNat default).length : Int))) = true := by simp only [WB, eq_self]; omega
          simp only [↓WP, ↓grdD, ↓grdT, ↓un_dead, ↓binVC, ↓buildVC, ↓sliceVC, WQ, WN, Int.reduceToNat, renl, cll, rent, clt, ↓reduceIte, Nat.reduceLeDiff, Nat.reduceEqDiff, Nat.reduceLT, reduceCtorEq, List.append_nil, Nat.reduceAdd, Nat.reduceSub, Nat.reduceBEq, forall_const, implies_true, cond_true, cond_false, AV.ren, AC.ren, AV.cl, AC.cl, eq_self, List.all_cons, List.all_nil, AV.eqv, AC.eqv, eqvl, eqvt, Sl.eqv, List.map_append, List.length_map, List.length_append, List.length_replicate, List.length_set, List.map_replicate, nilVC, zr_25, sz_25, fs_25, fl_25_2, sz_22, el_22, sz_23, sd_23, el_23, zr_3, fl_25_1, sz_3, c_spec_CowOk, c_spec_l29Copy, c_spec_l29Space, hcd, v1, v5, w1, w5, u6, hGl]
          repeat' (first | with_reducible refine And.intro ?_ ?_ | intro _)
          all_goals try omega
          refine endX_ret ?_
          simp only [↓WP, ↓grdD, ↓grdT, ↓un_dead, ↓binVC, ↓buildVC, ↓sliceVC, WQ, WN, Int.reduceToNat, renl, cll, rent, clt, ↓reduceIte, Nat.reduceLeDiff, Nat.reduceEqDiff, Nat.reduceLT, reduceCtorEq, List.append_nil, Nat.reduceAdd, Nat.reduceSub, Nat.reduceBEq, forall_const, implies_true, cond_true, cond_false, AV.ren, AC.ren, AV.cl, AC.cl, eq_self, List.all_cons, List.all_nil, AV.eqv, AC.eqv, eqvl, eqvt, Sl.eqv, List.map_append, List.length_map, List.length_append, List.length_replicate, List.length_set, List.map_replicate, nilVC, zr_25, sz_25, fs_25, fl_25_2, sz_22, el_22, sz_23, sd_23, el_23, zr_3, fl_25_1, sz_3, c_spec_CowOk, c_spec_l29Copy, c_spec_l29Space]
          refine ⟨_, _, LeV.refl _ _, (pF, F, pR, pZ, G), [], [2, 3, 4, 5, 6], ?_⟩
          simp only [WL, WNL, swA_new, swA_ne, nest_sw_ne, mapLL, List.mem_cons, Nat.reduceAdd, Nat.reduceLT, Nat.reduceLeDiff, Nat.reduceEqDiff, okU, List.nodup_cons, List.not_mem_nil, toT, toL, toO, keysO, renl, rent, cll, clt, eq_self, AV.eqv, AC.eqv, eqvl, eqvt, Sl.eqv, rowsLe, mapLL, rowsCl, List.map_append, List.length_map, List.length_append, List.length_set, List.map_replicate, rowG, List.getElem?_cons_zero, List.getElem?_cons_succ, List.getElem?_nil, List.append_nil, List.nil_append, List.cons_append, ghosts, St.gh, Option.some.injEq, implies_true, setT, AV.ren, AC.ren, AV.cl, AC.cl, List.replicate_succ, List.replicate_zero, List.nodup_nil, List.length_nil, List.length_cons, List.getD_cons_zero, List.getD_cons_succ, ↓reduceIte, retP]
          simp [CowC, u1, hF, hFo, u2, u3, u4, u5, u6, hG, hGo, rowsLe_self]
      · have hO : forkO X R Z a b = ((X, R, Z), false) := by rw [forkO, if_pos hok, if_neg fun h => hb h.2.1]
        rw [hO]
        simp only [↓WP, ↓grdD, ↓grdT, ↓un_dead, ↓binVC, ↓buildVC, ↓sliceVC, WQ, WN, Int.reduceToNat, renl, cll, rent, clt, ↓reduceIte, Nat.reduceLeDiff, Nat.reduceEqDiff, Nat.reduceLT, reduceCtorEq, List.append_nil, Nat.reduceAdd, Nat.reduceSub, Nat.reduceBEq, forall_const, implies_true, cond_true, cond_false, AV.ren, AC.ren, AV.cl, AC.cl, eq_self, List.all_cons, List.all_nil, AV.eqv, AC.eqv, eqvl, eqvt, Sl.eqv, List.map_append, List.length_map, List.length_append, List.length_replicate, List.length_set, List.map_replicate, nilVC, zr_25, sz_25, fs_25, fl_25_2, sz_22, el_22, sz_23, sd_23, el_23, zr_3, fl_25_1, sz_3, c_spec_CowOk, c_spec_l29Copy, c_spec_l29Space, Row2Ok_upE h1, row2_upE h1, hX, Row2Ok_upE h3, row2_upE h3, hZ, hR, decide_eq_true hok, decide_eq_true ha, decide_eq_false hb]
        refine ⟨h2, ⟨h2, l2⟩, fun p hp => ?_⟩
        obtain ⟨pF, F, pR, pZ, G⟩ := p
        obtain ⟨⟨u1, hF, hFo⟩, u2, u3, u4, u5, u6, hG, hGo⟩ := hp
        dsimp only at u1 hF hFo u2 u3 u4 u5 u6 hG hGo
        have hGl : G.length = Z.length := by rw [← hG]; simp
        have hFl : F.length = X.length := by rw [← hF]; simp
        obtain ⟨y, hy⟩ : ∃ y, ((nestC (.loc 6) G).getD b.toNat []).getD 0 dfl = y := ⟨_, rfl⟩
        obtain ⟨x, hx⟩ : ∃ x, ((nestC (.loc 6) G).getD a.toNat []).getD 0 dfl = x := ⟨_, rfl⟩
        simp only [↓WP, ↓grdD, ↓grdT, ↓un_dead, ↓binVC, ↓buildVC, ↓sliceVC, WQ, WN, Int.reduceToNat, renl, cll, rent, clt, ↓reduceIte, Nat.reduceLeDiff, Nat.reduceEqDiff, Nat.reduceLT, reduceCtorEq, List.append_nil, Nat.reduceAdd, Nat.reduceSub, Nat.reduceBEq, forall_const, implies_true, cond_true, cond_false, AV.ren, AC.ren, AV.cl, AC.cl, eq_self, List.all_cons, List.all_nil, AV.eqv, AC.eqv, eqvl, eqvt, Sl.eqv, List.map_append, List.length_map, List.length_append, List.length_replicate, List.length_set, List.map_replicate, nilVC, zr_25, sz_25, fs_25, fl_25_2, sz_22, el_22, sz_23, sd_23, el_23, zr_3, fl_25_1, sz_3, c_spec_CowOk, c_spec_l29Copy, c_spec_l29Space, hx, hy]
        refine len_dead sd_23 fun n => ?_
        simp only [↓WP, ↓grdD, ↓grdT, ↓un_dead, ↓binVC, ↓buildVC, ↓sliceVC, WQ, WN, Int.reduceToNat, renl, cll, rent, clt, ↓reduceIte, Nat.reduceLeDiff, Nat.reduceEqDiff, Nat.reduceLT, reduceCtorEq, List.append_nil, Nat.reduceAdd, Nat.reduceSub, Nat.reduceBEq, forall_const, implies_true, cond_true, cond_false, AV.ren, AC.ren, AV.cl, AC.cl, eq_self, List.all_cons, List.all_nil, AV.eqv, AC.eqv, eqvl, eqvt, Sl.eqv, List.map_append, List.length_map, List.length_append, List.length_replicate, List.length_set, List.map_replicate, nilVC, zr_25, sz_25, fs_25, fl_25_2, sz_22, el_22, sz_23, sd_23, el_23, zr_3, fl_25_1, sz_3, c_spec_CowOk, c_spec_l29Copy, c_spec_l29Space, hy]
        refine len_dead sd_23 fun m => ?_
        simp only [↓WP, ↓grdD, ↓grdT, ↓un_dead, ↓binVC, ↓buildVC, ↓sliceVC, WQ, WN, Int.reduceToNat, renl, cll, rent, clt, ↓reduceIte, Nat.reduceLeDiff, Nat.reduceEqDiff, Nat.reduceLT, reduceCtorEq, List.append_nil, Nat.reduceAdd, Nat.reduceSub, Nat.reduceBEq, forall_const, implies_true, cond_true, cond_false, AV.ren, AC.ren, AV.cl, AC.cl, eq_self, List.all_cons, List.all_nil, AV.eqv, AC.eqv, eqvl, eqvt, Sl.eqv, List.map_append, List.length_map, List.length_append, List.length_replicate, List.length_set, List.map_replicate, nilVC, zr_25, sz_25, fs_25, fl_25_2, sz_22, el_22, sz_23, sd_23, el_23, zr_3, fl_25_1, sz_3, c_spec_CowOk, c_spec_l29Copy, c_spec_l29Space]
        refine endX_ret ?_
        simp only [↓WP, ↓grdD, ↓grdT, ↓un_dead, ↓binVC, ↓buildVC, ↓sliceVC, WQ, WN, Int.reduceToNat, renl, cll, rent, clt, ↓reduceIte, Nat.reduceLeDiff, Nat.reduceEqDiff, Nat.reduceLT, reduceCtorEq, List.append_nil, Nat.reduceAdd, Nat.reduceSub, Nat.reduceBEq, forall_const, implies_true, cond_true, cond_false, AV.ren, AC.ren, AV.cl, AC.cl, eq_self, List.all_cons, List.all_nil, AV.eqv, AC.eqv, eqvl, eqvt, Sl.eqv, List.map_append, List.length_map, List.length_append, List.length_replicate, List.length_set, List.map_replicate, nilVC, zr_25, sz_25, fs_25, fl_25_2, sz_22, el_22, sz_23, sd_23, el_23, zr_3, fl_25_1, sz_3, c_spec_CowOk, c_spec_l29Copy, c_spec_l29Space]
        refine ⟨_, _, LeV.refl _ _, (pF, F, pR, pZ, G), [], [2, 3, 4, 5, 6], ?_⟩
        simp only [WL, WNL, swA_new, swA_ne, nest_sw_ne, mapLL, List.mem_cons, Nat.reduceAdd, Nat.reduceLT, Nat.reduceLeDiff, Nat.reduceEqDiff, okU, List.nodup_cons, List.not_mem_nil, toT, toL, toO, keysO, renl, rent, cll, clt, eq_self, AV.eqv, AC.eqv, eqvl, eqvt, Sl.eqv, rowsLe, mapLL, rowsCl, List.map_append, List.length_map, List.length_append, List.length_set, List.map_replicate, rowG, List.getElem?_cons_zero, List.getElem?_cons_succ, List.getElem?_nil, List.append_nil, List.nil_append, List.cons_append, ghosts, St.gh, Option.some.injEq, implies_true, setT, AV.ren, AC.ren, AV.cl, AC.cl, List.replicate_succ, List.replicate_zero, List.nodup_nil, List.length_nil, List.length_cons, List.getD_cons_zero, List.getD_cons_succ, ↓reduceIte, retP]
        simp [CowC, u1, hF, hFo, u2, u3, u4, u5, u6, hG, hGo, rowsLe_self]
    · have hO : forkO X R Z a b = ((X, R, Z), false) := by rw [forkO, if_pos hok, if_neg fun h => ha h.1]
      rw [hO]
      simp only [↓WP, ↓grdD, ↓grdT, ↓un_dead, ↓binVC, ↓buildVC, ↓sliceVC, WQ, WN, Int.reduceToNat, renl, cll, rent, clt, ↓reduceIte, Nat.reduceLeDiff, Nat.reduceEqDiff, Nat.reduceLT, reduceCtorEq, List.append_nil, Nat.reduceAdd, Nat.reduceSub, Nat.reduceBEq, forall_const, implies_true, cond_true, cond_false, AV.ren, AC.ren, AV.cl, AC.cl, eq_self, List.all_cons, List.all_nil, AV.eqv, AC.eqv, eqvl, eqvt, Sl.eqv, List.map_append, List.length_map, List.length_append, List.length_replicate, List.length_set, List.map_replicate, nilVC, zr_25, sz_25, fs_25, fl_25_2, sz_22, el_22, sz_23, sd_23, el_23, zr_3, fl_25_1, sz_3, c_spec_CowOk, c_spec_l29Copy, c_spec_l29Space, Row2Ok_upE h1, row2_upE h1, hX, Row2Ok_upE h3, row2_upE h3, hZ, hR, decide_eq_true hok, decide_eq_false ha]
      refine ⟨h2, ⟨h2, l2⟩, fun p hp => ?_⟩
      obtain ⟨pF, F, pR, pZ, G⟩ := p
      obtain ⟨⟨u1, hF, hFo⟩, u2, u3, u4, u5, u6, hG, hGo⟩ := hp
      dsimp only at u1 hF hFo u2 u3 u4 u5 u6 hG hGo
      have hGl : G.length = Z.length := by rw [← hG]; simp
      have hFl : F.length = X.length := by rw [← hF]; simp
      obtain ⟨y, hy⟩ : ∃ y, ((nestC (.loc 6) G).getD b.toNat []).getD 0 dfl = y := ⟨_, rfl⟩
      obtain ⟨x, hx⟩ : ∃ x, ((nestC (.loc 6) G).getD a.toNat []).getD 0 dfl = x := ⟨_, rfl⟩
      simp only [↓WP, ↓grdD, ↓grdT, ↓un_dead, ↓binVC, ↓buildVC, ↓sliceVC, WQ, WN, Int.reduceToNat, renl, cll, rent, clt, ↓reduceIte, Nat.reduceLeDiff, Nat.reduceEqDiff, Nat.reduceLT, reduceCtorEq, List.append_nil, Nat.reduceAdd, Nat.reduceSub, Nat.reduceBEq, forall_const, implies_true, cond_true, cond_false, AV.ren, AC.ren, AV.cl, AC.cl, eq_self, List.all_cons, List.all_nil, AV.eqv, AC.eqv, eqvl, eqvt, Sl.eqv, List.map_append, List.length_map, List.length_append, List.length_replicate, List.length_set, List.map_replicate, nilVC, zr_25, sz_25, fs_25, fl_25_2, sz_22, el_22, sz_23, sd_23, el_23, zr_3, fl_25_1, sz_3, c_spec_CowOk, c_spec_l29Copy, c_spec_l29Space, hx, hy]
      refine len_dead sd_23 fun n => ?_
      simp only [↓WP, ↓grdD, ↓grdT, ↓un_dead, ↓binVC, ↓buildVC, ↓sliceVC, WQ, WN, Int.reduceToNat, renl, cll, rent, clt, ↓reduceIte, Nat.reduceLeDiff, Nat.reduceEqDiff, Nat.reduceLT, reduceCtorEq, List.append_nil, Nat.reduceAdd, Nat.reduceSub, Nat.reduceBEq, forall_const, implies_true, cond_true, cond_false, AV.ren, AC.ren, AV.cl, AC.cl, eq_self, List.all_cons, List.all_nil, AV.eqv, AC.eqv, eqvl, eqvt, Sl.eqv, List.map_append, List.length_map, List.length_append, List.length_replicate, List.length_set, List.map_replicate, nilVC, zr_25, sz_25, fs_25, fl_25_2, sz_22, el_22, sz_23, sd_23, el_23, zr_3, fl_25_1, sz_3, c_spec_CowOk, c_spec_l29Copy, c_spec_l29Space, hy]
      refine len_dead sd_23 fun m => ?_
      simp only [↓WP, ↓grdD, ↓grdT, ↓un_dead, ↓binVC, ↓buildVC, ↓sliceVC, WQ, WN, Int.reduceToNat, renl, cll, rent, clt, ↓reduceIte, Nat.reduceLeDiff, Nat.reduceEqDiff, Nat.reduceLT, reduceCtorEq, List.append_nil, Nat.reduceAdd, Nat.reduceSub, Nat.reduceBEq, forall_const, implies_true, cond_true, cond_false, AV.ren, AC.ren, AV.cl, AC.cl, eq_self, List.all_cons, List.all_nil, AV.eqv, AC.eqv, eqvl, eqvt, Sl.eqv, List.map_append, List.length_map, List.length_append, List.length_replicate, List.length_set, List.map_replicate, nilVC, zr_25, sz_25, fs_25, fl_25_2, sz_22, el_22, sz_23, sd_23, el_23, zr_3, fl_25_1, sz_3, c_spec_CowOk, c_spec_l29Copy, c_spec_l29Space]
      refine endX_ret ?_
      simp only [↓WP, ↓grdD, ↓grdT, ↓un_dead, ↓binVC, ↓buildVC, ↓sliceVC, WQ, WN, Int.reduceToNat, renl, cll, rent, clt, ↓reduceIte, Nat.reduceLeDiff, Nat.reduceEqDiff, Nat.reduceLT, reduceCtorEq, List.append_nil, Nat.reduceAdd, Nat.reduceSub, Nat.reduceBEq, forall_const, implies_true, cond_true, cond_false, AV.ren, AC.ren, AV.cl, AC.cl, eq_self, List.all_cons, List.all_nil, AV.eqv, AC.eqv, eqvl, eqvt, Sl.eqv, List.map_append, List.length_map, List.length_append, List.length_replicate, List.length_set, List.map_replicate, nilVC, zr_25, sz_25, fs_25, fl_25_2, sz_22, el_22, sz_23, sd_23, el_23, zr_3, fl_25_1, sz_3, c_spec_CowOk, c_spec_l29Copy, c_spec_l29Space]
      refine ⟨_, _, LeV.refl _ _, (pF, F, pR, pZ, G), [], [2, 3, 4, 5, 6], ?_⟩
      simp only [WL, WNL, swA_new, swA_ne, nest_sw_ne, mapLL, List.mem_cons, Nat.reduceAdd, Nat.reduceLT, Nat.reduceLeDiff, Nat.reduceEqDiff, okU, List.nodup_cons, List.not_mem_nil, toT, toL, toO, keysO, renl, rent, cll, clt, eq_self, AV.eqv, AC.eqv, eqvl, eqvt, Sl.eqv, rowsLe, mapLL, rowsCl, List.map_append, List.length_map, List.length_append, List.length_set, List.map_replicate, rowG, List.getElem?_cons_zero, List.getElem?_cons_succ, List.getElem?_nil, List.append_nil, List.nil_append, List.cons_append, ghosts, St.gh, Option.some.injEq, implies_true, setT, AV.ren, AC.ren, AV.cl, AC.cl, List.replicate_succ, List.replicate_zero, List.nodup_nil, List.length_nil, List.length_cons, List.getD_cons_zero, List.getD_cons_succ, ↓reduceIte, retP]
      simp [CowC, u1, hF, hFo, u2, u3, u4, u5, u6, hG, hGo, rowsLe_self]
  · have hO : forkO X R Z a b = (([], [], []), false) := if_neg hok
    rw [hO]
    simp only [↓WP, ↓grdD, ↓grdT, ↓un_dead, ↓binVC, ↓buildVC, ↓sliceVC, WQ, WN, Int.reduceToNat, renl, cll, rent, clt, ↓reduceIte, Nat.reduceLeDiff, Nat.reduceEqDiff, Nat.reduceLT, reduceCtorEq, List.append_nil, Nat.reduceAdd, Nat.reduceSub, Nat.reduceBEq, forall_const, implies_true, cond_true, cond_false, AV.ren, AC.ren, AV.cl, AC.cl, eq_self, List.all_cons, List.all_nil, AV.eqv, AC.eqv, eqvl, eqvt, Sl.eqv, List.map_append, List.length_map, List.length_append, List.length_replicate, List.length_set, List.map_replicate, nilVC, zr_25, sz_25, fs_25, fl_25_2, sz_22, el_22, sz_23, sd_23, el_23, zr_3, fl_25_1, sz_3, c_spec_CowOk, c_spec_l29Copy, c_spec_l29Space, Row2Ok_upE h1, row2_upE h1, hX, Row2Ok_upE h3, row2_upE h3, hZ, hR, decide_eq_false hok]
    refine ⟨h2, endX_ret ?_⟩
    simp only [↓WP, ↓grdD, ↓grdT, ↓un_dead, ↓binVC, ↓buildVC, ↓sliceVC, WQ, WN, Int.reduceToNat, renl, cll, rent, clt, ↓reduceIte, Nat.reduceLeDiff, Nat.reduceEqDiff, Nat.reduceLT, reduceCtorEq, List.append_nil, Nat.reduceAdd, Nat.reduceSub, Nat.reduceBEq, forall_const, implies_true, cond_true, cond_false, AV.ren, AC.ren, AV.cl, AC.cl, eq_self, List.all_cons, List.all_nil, AV.eqv, AC.eqv, eqvl, eqvt, Sl.eqv, List.map_append, List.length_map, List.length_append, List.length_replicate, List.length_set, List.map_replicate, nilVC, zr_25, sz_25, fs_25, fl_25_2, sz_22, el_22, sz_23, sd_23, el_23, zr_3, fl_25_1, sz_3, c_spec_CowOk, c_spec_l29Copy, c_spec_l29Space]
    refine ⟨_, _, LeV.refl _ _, (0, [], 0, 0, []), [(23, 1), (3, 1), (3, 1), (23, 1), (3, 1)], [2, 3, 4, 5, 6], ?_⟩
    simp only [WL, WNL, swA_new, swA_ne, nest_sw_ne, mapLL, List.mem_cons, Nat.reduceAdd, Nat.reduceLT, Nat.reduceLeDiff, Nat.reduceEqDiff, okU, List.nodup_cons, List.not_mem_nil, toT, toL, toO, keysO, renl, rent, cll, clt, eq_self, AV.eqv, AC.eqv, eqvl, eqvt, Sl.eqv, rowsLe, mapLL, rowsCl, List.map_append, List.length_map, List.length_append, List.length_set, List.map_replicate, rowG, List.getElem?_cons_zero, List.getElem?_cons_succ, List.getElem?_nil, List.append_nil, List.nil_append, List.cons_append, ghosts, St.gh, Option.some.injEq, implies_true, setT, AV.ren, AC.ren, AV.cl, AC.cl, List.replicate_succ, List.replicate_zero, List.nodup_nil, List.length_nil, List.length_cons, List.getD_cons_zero, List.getD_cons_succ, ↓reduceIte, retP, nest_nil, mems_nil]
    simp [CowC, famOk]
end Go.Eng.T
