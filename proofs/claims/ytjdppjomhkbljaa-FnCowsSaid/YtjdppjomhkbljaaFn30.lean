/- cow: a Cow that is drawn. -/
import Derived.Test.YtjdppjomhkbljaaFn29
set_option linter.unusedVariables false
set_option linter.unusedSimpArgs false
set_option linter.unusedSectionVars false
namespace Go.Eng.T
open Go.Proofs
open Cel (enc dec)
set_option maxRecDepth 100000
set_option maxHeartbeats 8000000
theorem new_ok : cowOk (newF.map (·.2)) zr12 (newZ.map (·.2)) := by decide
theorem rowsLe_cut {F : List (Nat × List Int)} {k c : Nat} {V W : List Int} (hk : k < F.length) (h : F.getD k (0, []) = (c, W)) (hV : V <+: W) : rowsLe (mems (F.set k (c, V))) (mems F) = True := by
  refine eq_true (rowsLe_iff.2 ⟨by rw [mems_len, mems_len, List.length_set]; exact Nat.le_refl _, fun i hi => ?_⟩)
  rw [mems_getD, mems_getD]
  by_cases e : k = i
  · subst e
    rw [getD_set_self hk, h]
    exact ⟨rfl, hV.map _⟩
  · rw [getD_set_ne e]
    exact ⟨rfl, List.prefix_refl _⟩
def c_spec_l29Some : Contract := ⟨71, fun args M => match args with
  | [.c (.ptr a), .c (.int .i64 most)] => curK a (M a.r) fun r t b n c p _ => .eff (CurOk b n p (M b.r) ∧ most ≤ 1000) (CowV × CowF × Int × Int) (fun q => ((q.1.1.length = 12 ∧ q.1.2.1.length = 12 ∧ q.1.2.2.length = 4) ∧ CowC q.1.1 q.1.2.1 q.1.2.2 q.2.1) ∧ 0 ≤ q.2.2.1 ∧ q.2.2.1 ≤ n) (fun q => .agg (cowA q.1 q.2.1)) (fun q => cowG q.1 q.2.1) (fun q => [(r, .box t [.sl b.up n c, .int .i64 q.2.2.1, .int .i64 q.2.2.2])])
  | _ => .bad⟩
theorem ok_spec_l29Some : fnP Try.prog c_spec_l29Some.f = true ∧ ∀ args M, (c_spec_l29Some.sp args M).OK Try.prog c_spec_l29Some.f args M := by
  refine ⟨fp_71, fun args M => ?_⟩
  unfold c_spec_l29Some
  dsimp only
  split
  case h_2 => trivial
  rename_i a most
  refine curK_cases ?_
  rintro r t b n c p h rfl hr
  rintro ⟨⟨hb, hp0, hpn⟩, hm⟩
  dsimp only at hr
  have hal := cur_alias hb hr
  refine goInX hf_71 rfl (nt := 65) rfl (rs := [.cell 4 25]) rfl (C := [c_spec_CowNew, c_spec_l1Below, c_spec_l29Act, c_spec_l1Once]) ⟨(by first | exact .inl ok_spec_CowNew | exact ok_spec_CowNew), (by first | exact .inl ok_spec_l1Below | exact ok_spec_l1Below), (by first | exact .inl ok_spec_l29Act | exact ok_spec_l29Act), (by first | exact .inl ok_spec_l1Once | exact ok_spec_l1Once), trivial⟩ (q := fun f => [].contains f) ⟨fun h => absurd h (by decide), fun h => absurd h (by decide), fun h => absurd h (by decide), fun h => absurd h (by decide), trivial⟩ mixed (O := ots [(11, otl [0, 2, 3] (.alt 1 (otl [4, 5, 6] .nil) (otl [4, 1, 5, 6] .nil))), (13, otl [0, 2, 3, 5] (.alt 1 (otl [4, 6, 7, 8, 9, 10] .nil) (otl [4] (.alt 1 (otl [6, 7, 8, 9, 10] .nil) (otl [6, 1, 7, 8, 9, 10] .nil))))), (15, otl [0, 2, 4] (.alt 1 (otl [] (.alt 3 (otl [5, 6, 7] .nil) (otl [5, 3, 6, 7] .nil))) (otl [] (.alt 3 (otl [1, 5, 6, 7] .nil) (otl [5] (.alt 1 (otl [3, 6, 7] .nil) (otl [3, 1, 6, 7] .nil))))))), (9, otl [0, 1, 2, 3, 4, 5, 6, 7, 8, 9, 10] .nil)]) (by kernel_rfl) ?_
  simp only [↓WP, ↓grdD, ↓grdT, ↓un_dead, ↓binVC, ↓buildVC, ↓sliceVC, WQ, WN, Int.reduceToNat, renl, cll, rent, clt, ↓reduceIte, Nat.reduceLeDiff, Nat.reduceEqDiff, Nat.reduceLT, reduceCtorEq, List.append_nil, Nat.reduceAdd, Nat.reduceSub, Nat.reduceBEq, forall_const, implies_true, cond_true, cond_false, AV.ren, AC.ren, AV.cl, AC.cl, eq_self, List.all_cons, List.all_nil, AV.eqv, AC.eqv, eqvl, eqvt, Sl.eqv, List.map_append, List.length_map, List.length_append, List.length_replicate, List.length_set, List.map_replicate, nilVC, zr_25, sz_25, fl_25_1, sz_23, el_23, sz_3, fl_25_0, sz_22, zr_3, el_22, fl_25_2, c_spec_CowNew, c_spec_l1Below, c_spec_l29Act, c_spec_l1Once, hr, hb, hal]
  intro pc hpc
  refine ⟨⟨hp0, hpn⟩, ?_⟩
  rintro ⟨x, p1, z1⟩ ⟨⟨hx0, hx1⟩, f1⟩
  dsimp only at hx0 hx1 f1 ⊢
  have hnF : (newF.map (·.2)).length = 12 := by rw [List.length_map, newF_len]
  have hnZ : (newZ.map (·.2)).length = 4 := by rw [List.length_map, newZ_len]
  have hnR : zr12.length = 12 := rfl
  refine loopI (J := {q : Int × CowV × CowF × Int × Int // (0 ≤ q.1 ∧ q.1 ≤ 1000) ∧ cowOk q.2.1.1 q.2.1.2.1 q.2.1.2.2 ∧ CowC q.2.1.1 q.2.1.2.1 q.2.1.2.2 q.2.2.1 ∧ 0 ≤ q.2.2.2.1 ∧ q.2.2.2.1 ≤ n}) (fun q => ⟨slots 65 [(0, .c (.ptr ⟨r.out, 0, 0, 0⟩)), (4, .c (.ptr ⟨.loc 0, 0, 0, 0⟩)), (5, .c (.ptr ⟨.loc 6, 0, 0, 0⟩)), (6, I q.1.1)], M, [(r, .box t [.sl b.up n c, .int .i64 q.1.2.2.2.1, .int .i64 q.1.2.2.2.2])], [.box 25 [.sl ⟨.nil, 0, 0, 0⟩ 0 0, .sl ⟨.nil, 0, 0, 0⟩ 0 0, .sl ⟨.nil, 0, 0, 0⟩ 0 0], .rows true 23 1 [(q.1.2.2.1.1, nestC (.loc 2) q.1.2.2.1.2.1)], .rows true 3 1 (mems q.1.2.2.1.2.1), rowG true 3 q.1.2.2.1.2.2.1 q.1.2.1.2.1, .rows true 23 1 [(q.1.2.2.1.2.2.2.1, nestC (.loc 5) q.1.2.2.1.2.2.2.2)], .rows true 3 1 (mems q.1.2.2.1.2.2.2.2), .box 25 [.sl ⟨.loc 1, 0, 0, 0⟩ q.1.2.1.1.length q.1.2.2.1.1, .sl ⟨.loc 3, 0, 0, 0⟩ q.1.2.1.2.1.length q.1.2.2.1.2.2.1, .sl ⟨.loc 4, 0, 0, 0⟩ q.1.2.1.2.2.length q.1.2.2.1.2.2.2.1]]⟩) (fun q => q.1.1.toNat)
    ⟨(x, (newF.map (·.2), zr12, newZ.map (·.2)), (pc, newF, 12, 4, newZ), p1, z1), by dsimp only; omega, new_ok, ⟨⟨by rw [hnF]; exact hpc, rfl, newF_ok⟩, by show zr12.length ≤ 12; rw [hnR]; exact Nat.le_refl _, by rw [hnF]; omega, by show zr12.length ≤ 4294967296; rw [hnR]; omega, by rw [hnZ]; omega, by rw [hnZ]; exact Nat.le_refl _, rfl, newZ_ok⟩, f1.1, f1.2⟩ (Le_intro [0, 1, 2, 3, 4, 5, 6] (by simp only [WL, WNL, swA_new, swA_ne, nest_sw_ne, mapLL, List.mem_cons, Nat.reduceAdd, Nat.reduceLT, Nat.reduceLeDiff, Nat.reduceEqDiff, okU, List.nodup_cons, List.not_mem_nil, toT, toL, toO, keysO, renl, rent, cll, clt, eq_self, AV.eqv, AC.eqv, eqvl, eqvt, Sl.eqv, rowsLe, mapLL, rowsCl, List.map_append, List.length_map, List.length_append, List.length_set, List.map_replicate, rowG, List.getElem?_cons_zero, List.getElem?_cons_succ, List.getElem?_nil, List.append_nil, List.nil_append, List.cons_append, ghosts, St.gh, Option.some.injEq, implies_true, setT, AV.ren, AC.ren, AV.cl, AC.cl, List.replicate_succ, List.replicate_zero, List.nodup_nil, List.length_nil, List.length_cons, List.getD_cons_zero, List.getD_cons_succ, ↓reduceIte, hnF, hnZ, hnR]; try simp [rowsLe_self])) ?_
  rintro ⟨⟨x, ⟨X, R, Z⟩, ⟨pF, F, pR, pZ, G⟩, p2, z2⟩, ⟨hx, hx9⟩, hok, ⟨⟨u1, hF, hFo⟩, u2, u3, u4, u5, u6, hG, hGo⟩, hq0, hqn⟩
  dsimp only at hx hx9 hok u1 hF hFo u2 u3 u4 u5 u6 hG hGo hq0 hqn ⊢
  have hFl : F.length = X.length := by rw [← hF]; simp
  have hGl : G.length = Z.length := by rw [← hG]; simp
  obtain ⟨⟨l1, l2, l3⟩, k1, k2, k3⟩ := id hok
  rcases Int.lt_or_le 0 x with hlt | hge
  · have hl : decide (x > 0) = true := decide_eq_true hlt
    have hwx : IntKind.i64.wrap (x - 1) = x - 1 := w64 (by omega) (by omega)
    simp only [↓WP, ↓grdD, ↓grdT, ↓un_dead, ↓binVC, ↓buildVC, ↓sliceVC, WQ, WN, Int.reduceToNat, renl, cll, rent, clt, ↓reduceIte, Nat.reduceLeDiff, Nat.reduceEqDiff, Nat.reduceLT, reduceCtorEq, List.append_nil, Nat.reduceAdd, Nat.reduceSub, Nat.reduceBEq, forall_const, implies_true, cond_true, cond_false, AV.ren, AC.ren, AV.cl, AC.cl, eq_self, List.all_cons, List.all_nil, AV.eqv, AC.eqv, eqvl, eqvt, Sl.eqv, List.map_append, List.length_map, List.length_append, List.length_replicate, List.length_set, List.map_replicate, nilVC, zr_25, sz_25, fl_25_1, sz_23, el_23, sz_3, fl_25_0, sz_22, zr_3, el_22, fl_25_2, c_spec_CowNew, c_spec_l1Below, c_spec_l29Act, c_spec_l1Once, hl, hr, hb, hal, hwx, row2_fam 1 2 F hFo, Row2Ok_fam 1 2 F hFo, row2_fam 4 5 G hGo, Row2Ok_fam 4 5 G hGo, hF, hG, hFl, hGl]
    refine ⟨⟨⟨hq0, hqn⟩, ⟨⟨by omega, .inr trivial⟩, u2⟩, hok⟩, ?_⟩
    rintro ⟨⟨X', R', Z'⟩, ⟨pF', F', pR', pZ', G'⟩, p3, z3⟩ ⟨⟨hok', hC'⟩, f3⟩
    exact ⟨⟨(x - 1, (X', R', Z'), (pF', F', pR', pZ', G'), p3, z3), by dsimp only; omega, hok', hC', f3.1, f3.2⟩, Le_intro [0, 7, 8, 9, 10, 11, 6] (by simp only [WL, WNL, swA_new, swA_ne, nest_sw_ne, mapLL, List.mem_cons, Nat.reduceAdd, Nat.reduceLT, Nat.reduceLeDiff, Nat.reduceEqDiff, okU, List.nodup_cons, List.not_mem_nil, toT, toL, toO, keysO, renl, rent, cll, clt, eq_self, AV.eqv, AC.eqv, eqvl, eqvt, Sl.eqv, rowsLe, mapLL, rowsCl, List.map_append, List.length_map, List.length_append, List.length_set, List.map_replicate, rowG, List.getElem?_cons_zero, List.getElem?_cons_succ, List.getElem?_nil, List.append_nil, List.nil_append, List.cons_append, ghosts, St.gh, Option.some.injEq, implies_true, setT, AV.ren, AC.ren, AV.cl, AC.cl, List.replicate_succ, List.replicate_zero, List.nodup_nil, List.length_nil, List.length_cons, List.getD_cons_zero, List.getD_cons_succ, ↓reduceIte]; try simp [rowsLe_self]), by show (x - 1).toNat < x.toNat; omega⟩
  · obtain rfl : x = 0 := by omega
    have hl : decide ((0 : Int) > 0) = false := by decide
    simp only [↓WP, ↓grdD, ↓grdT, ↓un_dead, ↓binVC, ↓buildVC, ↓sliceVC, WQ, WN, Int.reduceToNat, renl, cll, rent, clt, ↓reduceIte, Nat.reduceLeDiff, Nat.reduceEqDiff, Nat.reduceLT, reduceCtorEq, List.append_nil, Nat.reduceAdd, Nat.reduceSub, Nat.reduceBEq, forall_const, implies_true, cond_true, cond_false, AV.ren, AC.ren, AV.cl, AC.cl, eq_self, List.all_cons, List.all_nil, AV.eqv, AC.eqv, eqvl, eqvt, Sl.eqv, List.map_append, List.length_map, List.length_append, List.length_replicate, List.length_set, List.map_replicate, nilVC, zr_25, sz_25, fl_25_1, sz_23, el_23, sz_3, fl_25_0, sz_22, zr_3, el_22, fl_25_2, c_spec_CowNew, c_spec_l1Below, c_spec_l29Act, c_spec_l1Once, hl, hr, hb, hal]
    refine ⟨⟨hq0, hqn⟩, ?_⟩
    rintro ⟨o, p3, z3⟩ f3
    refine ⟨fun ho => ⟨f3, ?_⟩, fun ho => ?_⟩
    · rintro ⟨k, p4, z4⟩ ⟨⟨_, hk⟩, f4⟩
      refine ⟨f4, ?_⟩
      rintro ⟨m, p5, z5⟩ ⟨⟨_, hm⟩, f5⟩
      dsimp only at hk f4 hm f5 ⊢
      have hk := hk (by omega)
      obtain ⟨k, rfl⟩ : ∃ i : Nat, k = i := ⟨k.toNat, by omega⟩
      have hkX : k < X.length := by omega
      obtain ⟨fc, w1, w2, w3, w4, w5⟩ := fam_at hF hFo hkX
      have hk4 : (X.getD k default).length = 4 := (k2 k (by omega)).1
      have hfc : 4 ≤ fc := by omega
      simp only [↓WP, ↓grdD, ↓grdT, ↓un_dead, ↓binVC, ↓buildVC, ↓sliceVC, WQ, WN, Int.reduceToNat, renl, cll, rent, clt, ↓reduceIte, Nat.reduceLeDiff, Nat.reduceEqDiff, Nat.reduceLT, reduceCtorEq, List.append_nil, Nat.reduceAdd, Nat.reduceSub, Nat.reduceBEq, forall_const, implies_true, cond_true, cond_false, AV.ren, AC.ren, AV.cl, AC.cl, eq_self, List.all_cons, List.all_nil, AV.eqv, AC.eqv, eqvl, eqvt, Sl.eqv, List.map_append, List.length_map, List.length_append, List.length_replicate, List.length_set, List.map_replicate, nilVC, zr_25, sz_25, fl_25_1, sz_23, el_23, sz_3, fl_25_0, sz_22, zr_3, el_22, fl_25_2, c_spec_CowNew, c_spec_l1Below, c_spec_l29Act, c_spec_l1Once, w1, w5, hFl, hGl, hr, hb, hal]
      repeat' (first | with_reducible refine And.intro ?_ ?_ | intro _)
      all_goals try omega
      all_goals try exact .inl trivial
      all_goals try exact .inr trivial
      all_goals first
        | (rename_i d hd
           obtain ⟨R3, hR3⟩ : ∃ R3, R3 = R.set k d.1 := ⟨_, rfl⟩
           have hset : (List.map enc R).set k [AC.int .i64 d.1] = List.map enc R3 := by { rw [hR3, List.map_set]; rfl }
           have hR3l : R3.length = 12 := by { rw [hR3, List.length_set]; exact l2 }
           rw [hset]
           refine endX_ret ?_
           simp only [↓WP, ↓grdD, ↓grdT, ↓un_dead, ↓binVC, ↓buildVC, ↓sliceVC, WQ, WN, Int.reduceToNat, renl, cll, rent, clt, ↓reduceIte, Nat.reduceLeDiff, Nat.reduceEqDiff, Nat.reduceLT, reduceCtorEq, List.append_nil, Nat.reduceAdd, Nat.reduceSub, Nat.reduceBEq, forall_const, implies_true, cond_true, cond_false, AV.ren, AC.ren, AV.cl, AC.cl, eq_self, List.all_cons, List.all_nil, AV.eqv, AC.eqv, eqvl, eqvt, Sl.eqv, List.map_append, List.length_map, List.length_append, List.length_replicate, List.length_set, List.map_replicate, nilVC, zr_25, sz_25, fl_25_1, sz_23, el_23, sz_3, fl_25_0, sz_22, zr_3, el_22, fl_25_2, c_spec_CowNew, c_spec_l1Below, c_spec_l29Act, c_spec_l1Once]
           refine ⟨_, _, LeV.refl _ _, ((X, R3, Z), (pF, F, pR, pZ, G), d.2.1, d.2.2), [], [1, 2, 3, 4, 5], ?_⟩
           simp only [WL, WNL, swA_new, swA_ne, nest_sw_ne, mapLL, List.mem_cons, Nat.reduceAdd, Nat.reduceLT, Nat.reduceLeDiff, Nat.reduceEqDiff, okU, List.nodup_cons, List.not_mem_nil, toT, toL, toO, keysO, renl, rent, cll, clt, eq_self, AV.eqv, AC.eqv, eqvl, eqvt, Sl.eqv, rowsLe, mapLL, rowsCl, List.map_append, List.length_map, List.length_append, List.length_set, List.map_replicate, rowG, List.getElem?_cons_zero, List.getElem?_cons_succ, List.getElem?_nil, List.append_nil, List.nil_append, List.cons_append, ghosts, St.gh, Option.some.injEq, implies_true, setT, AV.ren, AC.ren, AV.cl, AC.cl, List.replicate_succ, List.replicate_zero, List.nodup_nil, List.length_nil, List.length_cons, List.getD_cons_zero, List.getD_cons_succ, ↓reduceIte, retP, hr, l2, hR3l]
           simp [okU, hr, CowC, hF, hFo, hG, hGo, l1, l2, l3, hR3l, hd.2.1, hd.2.2, rowsLe_self]
           omega)
        | (rename_i d hd e he
           obtain ⟨V, hV, hVl⟩ : ∃ V : List Int, [[AC.int .i64 d.1], [AC.int .i64 0], [AC.int .i64 0], [AC.int .i64 (IntKind.i64.wrap (1000000 + e.1))]] = List.map enc V ∧ V.length = 4 := ⟨[d.1, 0, 0, IntKind.i64.wrap (1000000 + e.1)], rfl, rfl⟩
           rw [hV]
           refine endX_ret ?_
           simp only [↓WP, ↓grdD, ↓grdT, ↓un_dead, ↓binVC, ↓buildVC, ↓sliceVC, WQ, WN, Int.reduceToNat, renl, cll, rent, clt, ↓reduceIte, Nat.reduceLeDiff, Nat.reduceEqDiff, Nat.reduceLT, reduceCtorEq, List.append_nil, Nat.reduceAdd, Nat.reduceSub, Nat.reduceBEq, forall_const, implies_true, cond_true, cond_false, AV.ren, AC.ren, AV.cl, AC.cl, eq_self, List.all_cons, List.all_nil, AV.eqv, AC.eqv, eqvl, eqvt, Sl.eqv, List.map_append, List.length_map, List.length_append, List.length_replicate, List.length_set, List.map_replicate, nilVC, zr_25, sz_25, fl_25_1, sz_23, el_23, sz_3, fl_25_0, sz_22, zr_3, el_22, fl_25_2, c_spec_CowNew, c_spec_l1Below, c_spec_l29Act, c_spec_l1Once]
           refine ⟨_, _, LeV_swap (j := 2) (j2 := 7) (i0 := k) true 3 1 (mems F) (by decide) rfl rfl (by rw [mems_len]; exact w4), ((X.set k V, R, Z), (pF, F.set k (4, V), pR, pZ, G), e.2.1, e.2.2), [], [1, 2, 3, 4, 5], ?_⟩
           simp only [WL, WNL, swA_new, swA_ne, nest_sw_ne, mapLL, List.mem_cons, Nat.reduceAdd, Nat.reduceLT, Nat.reduceLeDiff, Nat.reduceEqDiff, okU, List.nodup_cons, List.not_mem_nil, toT, toL, toO, keysO, renl, rent, cll, clt, eq_self, AV.eqv, AC.eqv, eqvl, eqvt, Sl.eqv, rowsLe, mapLL, rowsCl, List.map_append, List.length_map, List.length_append, List.length_set, List.map_replicate, rowG, List.getElem?_cons_zero, List.getElem?_cons_succ, List.getElem?_nil, List.append_nil, List.nil_append, List.cons_append, ghosts, St.gh, Option.some.injEq, implies_true, setT, AV.ren, AC.ren, AV.cl, AC.cl, List.replicate_succ, List.replicate_zero, List.nodup_nil, List.length_nil, List.length_cons, List.getD_cons_zero, List.getD_cons_succ, ↓reduceIte, retP, hr, nest_sw_set (j := 2) (j2 := 7) (X := V) (by decide) hVl, nest_sw_ne (j := 2) (j2 := 7) (q := 5) (by decide) (by decide)]
           simp [okU, hr, CowC, hF, hFo, hG, hGo, l1, l2, l3, he.2.1, he.2.2, snd_set hF, famOk_set hFo (by omega : V.length ≤ 4294967296) (by omega : V.length ≤ 4), rowsLe_self]
           omega)
        | (rename_i d hd
           obtain ⟨V, hV, hVl⟩ : ∃ V : List Int, [[AC.int .i64 (k : Int)]] = List.map enc V ∧ V.length = 1 := ⟨[(k : Int)], rfl, rfl⟩
           rw [hV]
           refine endX_ret ?_
           simp only [↓WP, ↓grdD, ↓grdT, ↓un_dead, ↓binVC, ↓buildVC, ↓sliceVC, WQ, WN, Int.reduceToNat, renl, cll, rent, clt, ↓reduceIte, Nat.reduceLeDiff, Nat.reduceEqDiff, Nat.reduceLT, reduceCtorEq, List.append_nil, Nat.reduceAdd, Nat.reduceSub, Nat.reduceBEq, forall_const, implies_true, cond_true, cond_false, AV.ren, AC.ren, AV.cl, AC.cl, eq_self, List.all_cons, List.all_nil, AV.eqv, AC.eqv, eqvl, eqvt, Sl.eqv, List.map_append, List.length_map, List.length_append, List.length_replicate, List.length_set, List.map_replicate, nilVC, zr_25, sz_25, fl_25_1, sz_23, el_23, sz_3, fl_25_0, sz_22, zr_3, el_22, fl_25_2, c_spec_CowNew, c_spec_l1Below, c_spec_l29Act, c_spec_l1Once]
           refine ⟨_, _, LeV_swap (j := 5) (j2 := 7) (i0 := d.1.toNat) true 3 1 (mems G) (by decide) rfl rfl (by rw [mems_len]; omega), ((X, R, Z.set d.1.toNat V), (pF, F, pR, pZ, G.set d.1.toNat (1, V)), d.2.1, d.2.2), [], [1, 2, 3, 4, 5], ?_⟩
           simp only [WL, WNL, swA_new, swA_ne, nest_sw_ne, mapLL, List.mem_cons, Nat.reduceAdd, Nat.reduceLT, Nat.reduceLeDiff, Nat.reduceEqDiff, okU, List.nodup_cons, List.not_mem_nil, toT, toL, toO, keysO, renl, rent, cll, clt, eq_self, AV.eqv, AC.eqv, eqvl, eqvt, Sl.eqv, rowsLe, mapLL, rowsCl, List.map_append, List.length_map, List.length_append, List.length_set, List.map_replicate, rowG, List.getElem?_cons_zero, List.getElem?_cons_succ, List.getElem?_nil, List.append_nil, List.nil_append, List.cons_append, ghosts, St.gh, Option.some.injEq, implies_true, setT, AV.ren, AC.ren, AV.cl, AC.cl, List.replicate_succ, List.replicate_zero, List.nodup_nil, List.length_nil, List.length_cons, List.getD_cons_zero, List.getD_cons_succ, ↓reduceIte, retP, hr, nest_sw_set (j := 5) (j2 := 7) (X := V) (by decide) hVl, nest_sw_ne (j := 5) (j2 := 7) (q := 2) (by decide) (by decide)]
           simp [okU, hr, CowC, hF, hFo, hG, hGo, l1, l2, l3, hd.2.1, hd.2.2, snd_set hG, famOk_set hGo (by omega : V.length ≤ 4294967296) (by omega : V.length ≤ 1), rowsLe_self]
           omega)
        | (obtain ⟨V, hV⟩ : ∃ V, V = (X.getD k default).take 3 := ⟨_, rfl⟩
           have hVl : V.length = 3 := by { rw [hV, List.length_take]; omega }
           have hVp : V <+: X.getD k default := hV ▸ List.take_prefix _ _
           refine endX_ret ?_
           simp only [↓WP, ↓grdD, ↓grdT, ↓un_dead, ↓binVC, ↓buildVC, ↓sliceVC, WQ, WN, Int.reduceToNat, renl, cll, rent, clt, ↓reduceIte, Nat.reduceLeDiff, Nat.reduceEqDiff, Nat.reduceLT, reduceCtorEq, List.append_nil, Nat.reduceAdd, Nat.reduceSub, Nat.reduceBEq, forall_const, implies_true, cond_true, cond_false, AV.ren, AC.ren, AV.cl, AC.cl, eq_self, List.all_cons, List.all_nil, AV.eqv, AC.eqv, eqvl, eqvt, Sl.eqv, List.map_append, List.length_map, List.length_append, List.length_replicate, List.length_set, List.map_replicate, nilVC, zr_25, sz_25, fl_25_1, sz_23, el_23, sz_3, fl_25_0, sz_22, zr_3, el_22, fl_25_2, c_spec_CowNew, c_spec_l1Below, c_spec_l29Act, c_spec_l1Once]
           refine ⟨_, _, LeV.refl _ _, ((X.set k V, R, Z), (pF, F.set k (fc, V), pR, pZ, G), p5, z5), [], [1, 2, 3, 4, 5], ?_⟩
           have hns : (nestC (.loc 2) F).set k [.sl ⟨.loc 2, k, 0, 0⟩ 3 fc] = nestC (.loc 2) (F.set k (fc, V)) := by { rw [← hVl]; exact nest_set _ }
           simp only [WL, WNL, swA_new, swA_ne, nest_sw_ne, mapLL, List.mem_cons, Nat.reduceAdd, Nat.reduceLT, Nat.reduceLeDiff, Nat.reduceEqDiff, okU, List.nodup_cons, List.not_mem_nil, toT, toL, toO, keysO, renl, rent, cll, clt, eq_self, AV.eqv, AC.eqv, eqvl, eqvt, Sl.eqv, rowsLe, mapLL, rowsCl, List.map_append, List.length_map, List.length_append, List.length_set, List.map_replicate, rowG, List.getElem?_cons_zero, List.getElem?_cons_succ, List.getElem?_nil, List.append_nil, List.nil_append, List.cons_append, ghosts, St.gh, Option.some.injEq, implies_true, setT, AV.ren, AC.ren, AV.cl, AC.cl, List.replicate_succ, List.replicate_zero, List.nodup_nil, List.length_nil, List.length_cons, List.getD_cons_zero, List.getD_cons_succ, ↓reduceIte, retP, hr, hns]
           simp [okU, hr, CowC, hF, hFo, hG, hGo, l1, l2, l3, f5.1, f5.2, snd_set hF, famOk_set hFo (by omega : V.length ≤ 4294967296) (by omega : V.length ≤ fc), rowsLe_self, rowsLe_cut w4 w1 hVp]
           refine ⟨⟨by omega, by omega, by omega⟩, ?_⟩
           rw [hns]
           exact List.prefix_refl _)
    · refine endX_ret ?_
      simp only [↓WP, ↓grdD, ↓grdT, ↓un_dead, ↓binVC, ↓buildVC, ↓sliceVC, WQ, WN, Int.reduceToNat, renl, cll, rent, clt, ↓reduceIte, Nat.reduceLeDiff, Nat.reduceEqDiff, Nat.reduceLT, reduceCtorEq, List.append_nil, Nat.reduceAdd, Nat.reduceSub, Nat.reduceBEq, forall_const, implies_true, cond_true, cond_false, AV.ren, AC.ren, AV.cl, AC.cl, eq_self, List.all_cons, List.all_nil, AV.eqv, AC.eqv, eqvl, eqvt, Sl.eqv, List.map_append, List.length_map, List.length_append, List.length_replicate, List.length_set, List.map_replicate, nilVC, zr_25, sz_25, fl_25_1, sz_23, el_23, sz_3, fl_25_0, sz_22, zr_3, el_22, fl_25_2, c_spec_CowNew, c_spec_l1Below, c_spec_l29Act, c_spec_l1Once]
      refine ⟨_, _, LeV.refl _ _, ((X, R, Z), (pF, F, pR, pZ, G), p3, z3), [], [1, 2, 3, 4, 5], ?_⟩
      simp only [WL, WNL, swA_new, swA_ne, nest_sw_ne, mapLL, List.mem_cons, Nat.reduceAdd, Nat.reduceLT, Nat.reduceLeDiff, Nat.reduceEqDiff, okU, List.nodup_cons, List.not_mem_nil, toT, toL, toO, keysO, renl, rent, cll, clt, eq_self, AV.eqv, AC.eqv, eqvl, eqvt, Sl.eqv, rowsLe, mapLL, rowsCl, List.map_append, List.length_map, List.length_append, List.length_set, List.map_replicate, rowG, List.getElem?_cons_zero, List.getElem?_cons_succ, List.getElem?_nil, List.append_nil, List.nil_append, List.cons_append, ghosts, St.gh, Option.some.injEq, implies_true, setT, AV.ren, AC.ren, AV.cl, AC.cl, List.replicate_succ, List.replicate_zero, List.nodup_nil, List.length_nil, List.length_cons, List.getD_cons_zero, List.getD_cons_succ, ↓reduceIte, retP, hr]
      simp [okU, hr, CowC, hF, hFo, hG, hGo, l1, l2, l3, f3.1, f3.2, rowsLe_self]
      omega
end Go.Eng.T
