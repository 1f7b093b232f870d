/- cow: CowGrow. -/
import Derived.Test.YtjdppjomhkbljaaFn13
set_option linter.unusedVariables false
set_option linter.unusedSimpArgs false
set_option linter.unusedSectionVars false
namespace Go.Eng
open Cel (enc dec)
abbrev CO := List (List Int) × List Int × List (List Int)
def fr0 (R : List Int) : Int := idx (fun x => decide (x = 0)) R
def growO (X : List (List Int)) (R : List Int) (Z : List (List Int)) (s : Int) : CO × Bool :=
  if cowOk X R Z then (if (0 ≤ s ∧ s ≤ 3) ∧ (Z.getD s.toNat default).length < 4 ∧ 0 ≤ fr0 R then ((X, R.set (fr0 R).toNat 1, Z.set s.toNat (Z.getD s.toNat default ++ [fr0 R])), true) else ((X, R, Z), false)) else (([], [], []), false)
theorem fam_at {G : List (Nat × List Int)} {Z : List (List Int)} (hG : G.map (·.2) = Z) (hGo : famOk G) {i : Nat} (hi : i < Z.length) :
    ∃ c, G.getD i (0, []) = (c, Z.getD i default) ∧ (Z.getD i default).length ≤ c ∧ (Z.getD i default).length ≤ 4294967296 ∧ i < G.length ∧ ∀ q : RId, (nestC q G).getD i [] = [.sl ⟨q, i, 0, 0⟩ (Z.getD i default).length c] := by
  subst hG
  have hl : i < G.length := by simpa using hi
  have e : (G.map (·.2)).getD i default = (G.getD i default).2 := getD_map (f := fun p : Nat × List Int => p.2) hl
  obtain ⟨h1, h2⟩ := hGo.2 _ (getD_mem hl)
  refine ⟨(G.getD i default).1, ?_, by rw [e]; exact h2, by rw [e]; exact h1, hl, fun q => ?_⟩
  · rw [e, getD_lt G i (0, []) default hl]
  · rw [e, nest_get q hl]
theorem snd_set {G : List (Nat × List Int)} {Z : List (List Int)} (hG : G.map (·.2) = Z) {i c : Nat} {Y : List Int} : (G.set i (c, Y)).map (·.2) = Z.set i Y := by rw [List.map_set, hG]
theorem famOk_set {G : List (Nat × List Int)} (h : famOk G) {i c : Nat} {Y : List Int} (h1 : Y.length ≤ 4294967296) (h2 : Y.length ≤ c) : famOk (G.set i (c, Y)) := by
  refine ⟨by rw [List.length_set]; exact h.1, fun p hp => ?_⟩
  rcases List.mem_or_eq_of_mem_set hp with h3 | h3
  · exact h.2 p h3
  · subst h3; exact ⟨h1, h2⟩
theorem enc_app1 {Y : List Int} {x : Int} : putAt (List.map enc Y) Y.length [[AC.int .i64 x]] = List.map enc (Y ++ [x]) := by
  rw [putAt_end (by simp), List.map_append]; rfl
theorem enc_set1 {Y : List Int} {i : Nat} {x : Int} : (List.map enc Y).set i [AC.int .i64 x] = List.map enc (Y.set i x) := by
  rw [List.map_set]; rfl
theorem cow_pos {X : List (List Int)} {R : List Int} {Z : List (List Int)} (h : cowOk X R Z) {s : Int} (hs : 0 ≤ s ∧ s ≤ 3) : s.toNat < Z.length := by
  have := h.1.2.2; omega
end Go.Eng
namespace Go.Eng.T
open Go.Proofs
open Cel (enc dec)
set_option maxRecDepth 100000
set_option maxHeartbeats 4000000
def c_impl_CowGrow : Contract := ⟨31, fun args M => match args with
  | [.agg [.sl a1 n1 _, .sl a2 n2 c2, .sl a3 n3 _], .c (.int .i64 s)] => .eff ((Row2Ok Int a1 n1 M ∧ RowOk Int a2 n2 (M a2.r) ∧ Row2Ok Int a3 n3 M) ∧ n2 ≤ c2) (Nat × List (Nat × List Int) × Nat × Nat × List (Nat × List Int)) (fun p => CowC (growO (row2 Int a1 n1 M) (row Int a2 n2 (M a2.r)) (row2 Int a3 n3 M) s).1.1 (growO (row2 Int a1 n1 M) (row Int a2 n2 (M a2.r)) (row2 Int a3 n3 M) s).1.2.1 (growO (row2 Int a1 n1 M) (row Int a2 n2 (M a2.r)) (row2 Int a3 n3 M) s).1.2.2 p) (fun p => .tup [(true, [.sl ⟨.loc 0, 0, 0, 0⟩ (growO (row2 Int a1 n1 M) (row Int a2 n2 (M a2.r)) (row2 Int a3 n3 M) s).1.1.length p.1, .sl ⟨.loc 2, 0, 0, 0⟩ (growO (row2 Int a1 n1 M) (row Int a2 n2 (M a2.r)) (row2 Int a3 n3 M) s).1.2.1.length p.2.2.1, .sl ⟨.loc 3, 0, 0, 0⟩ (growO (row2 Int a1 n1 M) (row Int a2 n2 (M a2.r)) (row2 Int a3 n3 M) s).1.2.2.length p.2.2.2.1]), (false, [.bool (growO (row2 Int a1 n1 M) (row Int a2 n2 (M a2.r)) (row2 Int a3 n3 M) s).2])]) (fun p => [.rows true 23 1 [(p.1, nestC (.loc 1) p.2.1)], .rows true 3 1 (mems p.2.1), rowG true 3 p.2.2.1 (growO (row2 Int a1 n1 M) (row Int a2 n2 (M a2.r)) (row2 Int a3 n3 M) s).1.2.1, .rows true 23 1 [(p.2.2.2.1, nestC (.loc 4) p.2.2.2.2)], .rows true 3 1 (mems p.2.2.2.2)]) (fun _ => [])
  | _ => .bad⟩
theorem ok_impl_CowGrow : fnP Try.prog c_impl_CowGrow.f = true ∧ ∀ args M, (c_impl_CowGrow.sp args M).OK Try.prog c_impl_CowGrow.f args M := by
  refine ⟨fp_31, fun args M => ?_⟩
  unfold c_impl_CowGrow
  dsimp only
  split
  case h_2 => trivial
  rename_i a1 n1 c1 a2 n2 c2 a3 n3 c3 s
  rintro ⟨⟨h1, h2, h3⟩, hc2⟩
  obtain ⟨s1, X, hX, rfl, t1⟩ := h1.x
  obtain ⟨s2, R, hR, rfl, t2⟩ := h2.x
  obtain ⟨s3, Z, hZ, rfl, t3⟩ := h3.x
  rw [hX, hR, hZ]
  refine goInX hf_31 rfl (nt := 51) rfl (rs := [.cell 4 25, .tmp 5]) rfl (C := [c_impl_CowOk, c_impl_cloneCow, c_slices_Index_int, c_impl_isSpace]) ⟨(by first | exact .inl ok_impl_CowOk | exact ok_impl_CowOk), (by first | exact .inl ok_impl_cloneCow | exact ok_impl_cloneCow), (by first | exact .inl ok_slices_Index_int | exact ok_slices_Index_int), (by first | exact .inl ok_impl_isSpace | exact ok_impl_isSpace), trivial⟩ (q := fun f => [].contains f) ⟨fun h => absurd h (by decide), fun h => absurd h (by decide), fun h => absurd h (by decide), fun h => absurd h (by decide), trivial⟩ mixed (O := ots [(8, otl [0, 2, 3, 5, 8] (.gob 1 (otl [] (.gob 4 (otl [] (.alt 6 (otl [7, 9, 10, 11, 12] .nil) (otl [9, 6, 7, 10, 11, 12] .nil)))))))]) (by kernel_rfl) ?_
  by_cases hok : cowOk X R Z
  · have hok' := hok
    obtain ⟨⟨l1, l2, l3⟩, k1, k2, k3⟩ := hok'
    obtain ⟨own3, ty3, cnt3, cap3, len3, get3, b3, cc3, hM3, hf3, hic3, hkn3, hget3⟩ := t3 (by omega)
    by_cases hs : 0 ≤ s ∧ s ≤ 3
    · obtain ⟨g1, g2, g3, g4⟩ := hget3 s.toNat (by omega)
      by_cases hmay : (Z.getD s.toNat default).length < 4 ∧ 0 ≤ fr0 R
      · have hO : growO X R Z s = ((X, R.set (fr0 R).toNat 1, Z.set s.toNat (Z.getD s.toNat default ++ [fr0 R])), true) := by rw [growO, if_pos hok, if_pos ⟨hs, hmay⟩]
        rw [hO]
        have hcd : (decide ((4 : Int) ≤ ((Z.getD s.toNat default).length : Int)) || decide (fr0 R < 0)) = false := by simp only [WB, eq_self]; omega
        have hfr : idx (fun x => decide (x = 0)) R = fr0 R := rfl
        obtain ⟨f, e1, e2, e3, e4⟩ := idx_nonneg (p := fun x : Int => decide (x = 0)) hmay.2
        rw [hfr] at e1
        simp only [↓WP, ↓grdD, ↓grdT, ↓un_dead, ↓binVC, ↓buildVC, ↓sliceVC, WQ, WN, Int.reduceToNat, renl, cll, rent, clt, ↓reduceIte, Nat.reduceLeDiff, Nat.reduceEqDiff, Nat.reduceLT, reduceCtorEq, List.append_nil, Nat.reduceAdd, Nat.reduceSub, Nat.reduceBEq, forall_const, implies_true, cond_true, cond_false, AV.ren, AC.ren, AV.cl, AC.cl, eq_self, List.all_cons, List.all_nil, AV.eqv, AC.eqv, eqvl, eqvt, Sl.eqv, List.map_append, List.length_map, List.length_append, List.length_replicate, List.length_set, List.map_replicate, nilVC, zr_25, sz_25, fs_25, fl_25_1, sz_23, fl_25_2, sz_22, el_22, sd_23, el_23, sz_3, zr_3, c_impl_CowOk, c_impl_cloneCow, c_slices_Index_int, c_impl_isSpace, Row2Ok_upE h1, row2_upE h1, hX, Row2Ok_upE h3, row2_upE h3, hZ, hR, decide_eq_true hok, decide_eq_true hs, hM3, hf3, g1, hfr, hcd]
        refine ⟨h2, ⟨h2, hc2⟩, fun p hp => ⟨h2, by omega, by omega, ?_⟩⟩
        obtain ⟨pF, F, pR, pZ, G⟩ := p
        obtain ⟨⟨u1, hF, hFo⟩, u2, u3, u4, u5, u6, hG, hGo⟩ := hp
        dsimp only at u1 hF hFo u2 u3 u4 u5 u6 hG hGo
        obtain ⟨gc, w1, w2, w3, w4, w5⟩ := fam_at hG hGo (cow_pos hok hs)
        obtain ⟨Y, hY⟩ : ∃ Y, Z.getD s.toNat default = Y := ⟨_, rfl⟩
        have hGl : G.length = Z.length := by rw [← hG]; simp
        rw [hY] at w1 w2 w3 w5 hmay ⊢
        obtain ⟨Y2, hY2⟩ : ∃ Y2, Y2 = Y ++ [fr0 R] := ⟨_, rfl⟩
        have hY2l : Y2.length = Y.length + 1 := by rw [hY2]; simp
        have hap : List.map enc Y ++ [[AC.int .i64 (fr0 R)]] = List.map enc Y2 := by rw [hY2, List.map_append]; rfl
        have hns : (nestC (.loc 6) G).set s.toNat [.sl ⟨.loc 6, s.toNat, 0, 0⟩ (Y.length + 1) gc] = nestC (.loc 6) (G.set s.toNat (gc, Y2)) := by rw [← nest_set, hY2l]
        rw [← hY2]
        simp only [↓WP, ↓grdD, ↓grdT, ↓un_dead, ↓binVC, ↓buildVC, ↓sliceVC, WQ, WN, Int.reduceToNat, renl, cll, rent, clt, ↓reduceIte, Nat.reduceLeDiff, Nat.reduceEqDiff, Nat.reduceLT, reduceCtorEq, List.append_nil, Nat.reduceAdd, Nat.reduceSub, Nat.reduceBEq, forall_const, implies_true, cond_true, cond_false, AV.ren, AC.ren, AV.cl, AC.cl, eq_self, List.all_cons, List.all_nil, AV.eqv, AC.eqv, eqvl, eqvt, Sl.eqv, List.map_append, List.length_map, List.length_append, List.length_replicate, List.length_set, List.map_replicate, nilVC, zr_25, sz_25, fs_25, fl_25_1, sz_23, fl_25_2, sz_22, el_22, sd_23, el_23, sz_3, zr_3, c_impl_CowOk, c_impl_cloneCow, c_slices_Index_int, c_impl_isSpace, hcd, hY, w1, w5, u6, hGl, hns, hap, enc_set1, hs]
        repeat' (first | with_reducible refine And.intro ?_ ?_ | intro _)
        all_goals try omega
        all_goals try exact .inr (by omega)
        all_goals
          first
          | (rename_i hin
             refine endX_ret ?_
             simp only [↓WP, ↓grdD, ↓grdT, ↓un_dead, ↓binVC, ↓buildVC, ↓sliceVC, WQ, WN, Int.reduceToNat, renl, cll, rent, clt, ↓reduceIte, Nat.reduceLeDiff, Nat.reduceEqDiff, Nat.reduceLT, reduceCtorEq, List.append_nil, Nat.reduceAdd, Nat.reduceSub, Nat.reduceBEq, forall_const, implies_true, cond_true, cond_false, AV.ren, AC.ren, AV.cl, AC.cl, eq_self, List.all_cons, List.all_nil, AV.eqv, AC.eqv, eqvl, eqvt, Sl.eqv, List.map_append, List.length_map, List.length_append, List.length_replicate, List.length_set, List.map_replicate, nilVC, zr_25, sz_25, fs_25, fl_25_1, sz_23, fl_25_2, sz_22, el_22, sd_23, el_23, sz_3, zr_3, c_impl_CowOk, c_impl_cloneCow, c_slices_Index_int, c_impl_isSpace]
             refine ⟨_, _, LeV.refl _ _, (pF, F, pR, pZ, G.set s.toNat (gc, Y2)), [], [2, 3, 4, 5, 6], ?_⟩
             simp only [WL, WNL, swA_new, swA_ne, nest_sw_ne, mapLL, List.mem_cons, Nat.reduceAdd, Nat.reduceLT, Nat.reduceLeDiff, Nat.reduceEqDiff, okU, List.nodup_cons, List.not_mem_nil, toT, toL, toO, keysO, renl, rent, cll, clt, eq_self, AV.eqv, AC.eqv, eqvl, eqvt, Sl.eqv, rowsLe, mapLL, rowsCl, List.map_append, List.length_map, List.length_append, List.length_set, List.map_replicate, rowG, List.getElem?_cons_zero, List.getElem?_cons_succ, List.getElem?_nil, List.append_nil, List.nil_append, List.cons_append, ghosts, St.gh, Option.some.injEq, implies_true, setT, AV.ren, AC.ren, AV.cl, AC.cl, List.replicate_succ, List.replicate_zero, List.nodup_nil, List.length_nil, List.length_cons, List.getD_cons_zero, List.getD_cons_succ, ↓reduceIte, retP]
             simp [CowC, u1, hF, hFo, u2, u3, u4, u5, u6, snd_set hG, famOk_set hGo (show Y2.length ≤ 4294967296 by omega) (show Y2.length ≤ gc by omega), rowsLe_self]
             done)
          | (rename_i c hc _
             refine endX_ret ?_
             simp only [↓WP, ↓grdD, ↓grdT, ↓un_dead, ↓binVC, ↓buildVC, ↓sliceVC, WQ, WN, Int.reduceToNat, renl, cll, rent, clt, ↓reduceIte, Nat.reduceLeDiff, Nat.reduceEqDiff, Nat.reduceLT, reduceCtorEq, List.append_nil, Nat.reduceAdd, Nat.reduceSub, Nat.reduceBEq, forall_const, implies_true, cond_true, cond_false, AV.ren, AC.ren, AV.cl, AC.cl, eq_self, List.all_cons, List.all_nil, AV.eqv, AC.eqv, eqvl, eqvt, Sl.eqv, List.map_append, List.length_map, List.length_append, List.length_replicate, List.length_set, List.map_replicate, nilVC, zr_25, sz_25, fs_25, fl_25_1, sz_23, fl_25_2, sz_22, el_22, sd_23, el_23, sz_3, zr_3, c_impl_CowOk, c_impl_cloneCow, c_slices_Index_int, c_impl_isSpace]
             refine ⟨_, _, LeV_swap (j := 6) (j2 := 9) (i0 := s.toNat) true 3 1 (mems G) (by decide) rfl rfl (by rw [mems_len]; exact w4), (pF, F, pR, pZ, G.set s.toNat (c, Y2)), [], [2, 3, 4, 5, 6], ?_⟩
             simp only [WL, WNL, swA_new, swA_ne, nest_sw_ne, mapLL, List.mem_cons, Nat.reduceAdd, Nat.reduceLT, Nat.reduceLeDiff, Nat.reduceEqDiff, okU, List.nodup_cons, List.not_mem_nil, toT, toL, toO, keysO, renl, rent, cll, clt, eq_self, AV.eqv, AC.eqv, eqvl, eqvt, Sl.eqv, rowsLe, mapLL, rowsCl, List.map_append, List.length_map, List.length_append, List.length_set, List.map_replicate, rowG, List.getElem?_cons_zero, List.getElem?_cons_succ, List.getElem?_nil, List.append_nil, List.nil_append, List.cons_append, ghosts, St.gh, Option.some.injEq, implies_true, setT, AV.ren, AC.ren, AV.cl, AC.cl, List.replicate_succ, List.replicate_zero, List.nodup_nil, List.length_nil, List.length_cons, List.getD_cons_zero, List.getD_cons_succ, ↓reduceIte, retP, nest_sw_set (j := 6) (j2 := 9) (X := Y2) (by decide) hY2l, nest_sw_ne (j := 6) (j2 := 9) (q := 3) (by decide) (by decide)]
             simp [CowC, u1, hF, hFo, u2, u3, u4, u5, u6, snd_set hG, famOk_set hGo (show Y2.length ≤ 4294967296 by omega) (show Y2.length ≤ c by omega), rowsLe_self]
             done)
      · have hO : growO X R Z s = ((X, R, Z), false) := by rw [growO, if_pos hok, if_neg fun h => hmay h.2]
        have hcd : (decide ((4 : Int) ≤ ((Z.getD s.toNat default).length : Int)) || decide (fr0 R < 0)) = true := by simp only [WB, eq_self]; omega
        have hfr : idx (fun x => decide (x = 0)) R = fr0 R := rfl
        rw [hO]
        simp only [↓WP, ↓grdD, ↓grdT, ↓un_dead, ↓binVC, ↓buildVC, ↓sliceVC, WQ, WN, Int.reduceToNat, renl, cll, rent, clt, ↓reduceIte, Nat.reduceLeDiff, Nat.reduceEqDiff, Nat.reduceLT, reduceCtorEq, List.append_nil, Nat.reduceAdd, Nat.reduceSub, Nat.reduceBEq, forall_const, implies_true, cond_true, cond_false, AV.ren, AC.ren, AV.cl, AC.cl, eq_self, List.all_cons, List.all_nil, AV.eqv, AC.eqv, eqvl, eqvt, Sl.eqv, List.map_append, List.length_map, List.length_append, List.length_replicate, List.length_set, List.map_replicate, nilVC, zr_25, sz_25, fs_25, fl_25_1, sz_23, fl_25_2, sz_22, el_22, sd_23, el_23, sz_3, zr_3, c_impl_CowOk, c_impl_cloneCow, c_slices_Index_int, c_impl_isSpace, Row2Ok_upE h1, row2_upE h1, hX, Row2Ok_upE h3, row2_upE h3, hZ, hR, decide_eq_true hok, decide_eq_true hs, hM3, hf3, g1, hfr, hcd]
        refine ⟨h2, ⟨h2, hc2⟩, fun p hp => ⟨h2, by omega, by omega, ?_⟩⟩
        obtain ⟨pF, F, pR, pZ, G⟩ := p
        refine endX_ret ?_
        simp only [↓WP, ↓grdD, ↓grdT, ↓un_dead, ↓binVC, ↓buildVC, ↓sliceVC, WQ, WN, Int.reduceToNat, renl, cll, rent, clt, ↓reduceIte, Nat.reduceLeDiff, Nat.reduceEqDiff, Nat.reduceLT, reduceCtorEq, List.append_nil, Nat.reduceAdd, Nat.reduceSub, Nat.reduceBEq, forall_const, implies_true, cond_true, cond_false, AV.ren, AC.ren, AV.cl, AC.cl, eq_self, List.all_cons, List.all_nil, AV.eqv, AC.eqv, eqvl, eqvt, Sl.eqv, List.map_append, List.length_map, List.length_append, List.length_replicate, List.length_set, List.map_replicate, nilVC, zr_25, sz_25, fs_25, fl_25_1, sz_23, fl_25_2, sz_22, el_22, sd_23, el_23, sz_3, zr_3, c_impl_CowOk, c_impl_cloneCow, c_slices_Index_int, c_impl_isSpace]
        refine ⟨_, _, LeV.refl _ _, (pF, F, pR, pZ, G), [], [2, 3, 4, 5, 6], ?_⟩
        simp only [WL, WNL, swA_new, swA_ne, nest_sw_ne, mapLL, List.mem_cons, Nat.reduceAdd, Nat.reduceLT, Nat.reduceLeDiff, Nat.reduceEqDiff, okU, List.nodup_cons, List.not_mem_nil, toT, toL, toO, keysO, renl, rent, cll, clt, eq_self, AV.eqv, AC.eqv, eqvl, eqvt, Sl.eqv, rowsLe, mapLL, rowsCl, List.map_append, List.length_map, List.length_append, List.length_set, List.map_replicate, rowG, List.getElem?_cons_zero, List.getElem?_cons_succ, List.getElem?_nil, List.append_nil, List.nil_append, List.cons_append, ghosts, St.gh, Option.some.injEq, implies_true, setT, AV.ren, AC.ren, AV.cl, AC.cl, List.replicate_succ, List.replicate_zero, List.nodup_nil, List.length_nil, List.length_cons, List.getD_cons_zero, List.getD_cons_succ, ↓reduceIte, retP]
        simp [hp, rowsLe_self]
    · have hO : growO X R Z s = ((X, R, Z), false) := by rw [growO, if_pos hok, if_neg fun h => hs h.1]
      obtain ⟨x, hx⟩ : ∃ x, (List.map AC.up (get3 a3.i (a3.k + s.toNat))).getD 0 dfl = x := ⟨_, rfl⟩
      rw [hO]
      simp only [↓WP, ↓grdD, ↓grdT, ↓un_dead, ↓binVC, ↓buildVC, ↓sliceVC, WQ, WN, Int.reduceToNat, renl, cll, rent, clt, ↓reduceIte, Nat.reduceLeDiff, Nat.reduceEqDiff, Nat.reduceLT, reduceCtorEq, List.append_nil, Nat.reduceAdd, Nat.reduceSub, Nat.reduceBEq, forall_const, implies_true, cond_true, cond_false, AV.ren, AC.ren, AV.cl, AC.cl, eq_self, List.all_cons, List.all_nil, AV.eqv, AC.eqv, eqvl, eqvt, Sl.eqv, List.map_append, List.length_map, List.length_append, List.length_replicate, List.length_set, List.map_replicate, nilVC, zr_25, sz_25, fs_25, fl_25_1, sz_23, fl_25_2, sz_22, el_22, sd_23, el_23, sz_3, zr_3, c_impl_CowOk, c_impl_cloneCow, c_slices_Index_int, c_impl_isSpace, Row2Ok_upE h1, row2_upE h1, hX, Row2Ok_upE h3, row2_upE h3, hZ, hR, decide_eq_true hok, decide_eq_false hs, hM3, hf3, hx]
      refine ⟨h2, ⟨h2, hc2⟩, fun p hp => ⟨h2, ?_⟩⟩
      obtain ⟨pF, F, pR, pZ, G⟩ := p
      cases x <;> simp only [↓WP, ↓grdD, ↓grdT, ↓un_dead, ↓binVC, ↓buildVC, ↓sliceVC, WQ, WN, Int.reduceToNat, renl, cll, rent, clt, ↓reduceIte, Nat.reduceLeDiff, Nat.reduceEqDiff, Nat.reduceLT, reduceCtorEq, List.append_nil, Nat.reduceAdd, Nat.reduceSub, Nat.reduceBEq, forall_const, implies_true, cond_true, cond_false, AV.ren, AC.ren, AV.cl, AC.cl, eq_self, List.all_cons, List.all_nil, AV.eqv, AC.eqv, eqvl, eqvt, Sl.eqv, List.map_append, List.length_map, List.length_append, List.length_replicate, List.length_set, List.map_replicate, nilVC, zr_25, sz_25, fs_25, fl_25_1, sz_23, fl_25_2, sz_22, el_22, sd_23, el_23, sz_3, zr_3, c_impl_CowOk, c_impl_cloneCow, c_slices_Index_int, c_impl_isSpace]
      all_goals
        refine endX_ret ?_
        simp only [↓WP, ↓grdD, ↓grdT, ↓un_dead, ↓binVC, ↓buildVC, ↓sliceVC, WQ, WN, Int.reduceToNat, renl, cll, rent, clt, ↓reduceIte, Nat.reduceLeDiff, Nat.reduceEqDiff, Nat.reduceLT, reduceCtorEq, List.append_nil, Nat.reduceAdd, Nat.reduceSub, Nat.reduceBEq, forall_const, implies_true, cond_true, cond_false, AV.ren, AC.ren, AV.cl, AC.cl, eq_self, List.all_cons, List.all_nil, AV.eqv, AC.eqv, eqvl, eqvt, Sl.eqv, List.map_append, List.length_map, List.length_append, List.length_replicate, List.length_set, List.map_replicate, nilVC, zr_25, sz_25, fs_25, fl_25_1, sz_23, fl_25_2, sz_22, el_22, sd_23, el_23, sz_3, zr_3, c_impl_CowOk, c_impl_cloneCow, c_slices_Index_int, c_impl_isSpace]
        refine ⟨_, _, LeV.refl _ _, (pF, F, pR, pZ, G), [], [2, 3, 4, 5, 6], ?_⟩
        simp only [WL, WNL, swA_new, swA_ne, nest_sw_ne, mapLL, List.mem_cons, Nat.reduceAdd, Nat.reduceLT, Nat.reduceLeDiff, Nat.reduceEqDiff, okU, List.nodup_cons, List.not_mem_nil, toT, toL, toO, keysO, renl, rent, cll, clt, eq_self, AV.eqv, AC.eqv, eqvl, eqvt, Sl.eqv, rowsLe, mapLL, rowsCl, List.map_append, List.length_map, List.length_append, List.length_set, List.map_replicate, rowG, List.getElem?_cons_zero, List.getElem?_cons_succ, List.getElem?_nil, List.append_nil, List.nil_append, List.cons_append, ghosts, St.gh, Option.some.injEq, implies_true, setT, AV.ren, AC.ren, AV.cl, AC.cl, List.replicate_succ, List.replicate_zero, List.nodup_nil, List.length_nil, List.length_cons, List.getD_cons_zero, List.getD_cons_succ, ↓reduceIte, retP]
        simp [hp, rowsLe_self]
  · have hO : growO X R Z s = (([], [], []), false) := if_neg hok
    rw [hO]
    simp only [↓WP, ↓grdD, ↓grdT, ↓un_dead, ↓binVC, ↓buildVC, ↓sliceVC, WQ, WN, Int.reduceToNat, renl, cll, rent, clt, ↓reduceIte, Nat.reduceLeDiff, Nat.reduceEqDiff, Nat.reduceLT, reduceCtorEq, List.append_nil, Nat.reduceAdd, Nat.reduceSub, Nat.reduceBEq, forall_const, implies_true, cond_true, cond_false, AV.ren, AC.ren, AV.cl, AC.cl, eq_self, List.all_cons, List.all_nil, AV.eqv, AC.eqv, eqvl, eqvt, Sl.eqv, List.map_append, List.length_map, List.length_append, List.length_replicate, List.length_set, List.map_replicate, nilVC, zr_25, sz_25, fs_25, fl_25_1, sz_23, fl_25_2, sz_22, el_22, sd_23, el_23, sz_3, zr_3, c_impl_CowOk, c_impl_cloneCow, c_slices_Index_int, c_impl_isSpace, Row2Ok_upE h1, row2_upE h1, hX, Row2Ok_upE h3, row2_upE h3, hZ, hR, decide_eq_false hok]
    refine ⟨h2, endX_ret ?_⟩
    simp only [↓WP, ↓grdD, ↓grdT, ↓un_dead, ↓binVC, ↓buildVC, ↓sliceVC, WQ, WN, Int.reduceToNat, renl, cll, rent, clt, ↓reduceIte, Nat.reduceLeDiff, Nat.reduceEqDiff, Nat.reduceLT, reduceCtorEq, List.append_nil, Nat.reduceAdd, Nat.reduceSub, Nat.reduceBEq, forall_const, implies_true, cond_true, cond_false, AV.ren, AC.ren, AV.cl, AC.cl, eq_self, List.all_cons, List.all_nil, AV.eqv, AC.eqv, eqvl, eqvt, Sl.eqv, List.map_append, List.length_map, List.length_append, List.length_replicate, List.length_set, List.map_replicate, nilVC, zr_25, sz_25, fs_25, fl_25_1, sz_23, fl_25_2, sz_22, el_22, sd_23, el_23, sz_3, zr_3, c_impl_CowOk, c_impl_cloneCow, c_slices_Index_int, c_impl_isSpace]
    refine ⟨_, _, LeV.refl _ _, (0, [], 0, 0, []), [(23, 1), (3, 1), (3, 1), (23, 1), (3, 1)], [2, 3, 4, 5, 6], ?_⟩
    simp only [WL, WNL, swA_new, swA_ne, nest_sw_ne, mapLL, List.mem_cons, Nat.reduceAdd, Nat.reduceLT, Nat.reduceLeDiff, Nat.reduceEqDiff, okU, List.nodup_cons, List.not_mem_nil, toT, toL, toO, keysO, renl, rent, cll, clt, eq_self, AV.eqv, AC.eqv, eqvl, eqvt, Sl.eqv, rowsLe, mapLL, rowsCl, List.map_append, List.length_map, List.length_append, List.length_set, List.map_replicate, rowG, List.getElem?_cons_zero, List.getElem?_cons_succ, List.getElem?_nil, List.append_nil, List.nil_append, List.cons_append, ghosts, St.gh, Option.some.injEq, implies_true, setT, AV.ren, AC.ren, AV.cl, AC.cl, List.replicate_succ, List.replicate_zero, List.nodup_nil, List.length_nil, List.length_cons, List.getD_cons_zero, List.getD_cons_succ, ↓reduceIte, retP, nest_nil, mems_nil]
    simp [CowC, famOk]
end Go.Eng.T
