/- cow: CowWrite. -/
import Derived.Test.YtjdppjomhkbljaaFn19
set_option linter.unusedVariables false
set_option linter.unusedSimpArgs false
set_option linter.unusedSectionVars false
namespace Go.Eng
open Cel (enc dec)
def writeO (X : List (List Int)) (R : List Int) (Z : List (List Int)) (s ad w : Int) : CO × Bool :=
  if cowOk X R Z then (if inR Z s ad ∧ (-1000000 ≤ w ∧ w ≤ 1000000) then
    (if 1 < R.getD (frameOf Z s ad).toNat default then
      (if 0 ≤ fr0 R then ((X.set (fr0 R).toNat ((X.getD (frameOf Z s ad).toNat default).set (ad.toNat % 4) w), (R.set (frameOf Z s ad).toNat (R.getD (frameOf Z s ad).toNat default - 1)).set (fr0 R).toNat 1, Z.set s.toNat ((Z.getD s.toNat default).set (ad.toNat / 4) (fr0 R))), true) else ((X, R, Z), false))
    else ((X.set (frameOf Z s ad).toNat ((X.getD (frameOf Z s ad).toNat default).set (ad.toNat % 4) w), R, Z), true))
  else ((X, R, Z), false)) else (([], [], []), false)
theorem nest_same {q : RId} {G : List (Nat × List Int)} {i c : Nat} {Y Y2 : List Int} (hi : i < G.length) (h : G.getD i (0, []) = (c, Y)) (hl : Y2.length = Y.length) : nestC q (G.set i (c, Y2)) = nestC q G := by
  rw [← nest_set, hl]
  have e : (nestC q G).getD i [] = [AC.sl ⟨q, i, 0, 0⟩ Y.length c] := by
    rw [nest_get q hi, ← getD_lt G i (0, []) default hi, h]
  rw [← e, set_getD_self]
theorem ref_pos {X : List (List Int)} {R : List Int} {Z : List (List Int)} {s ad : Int} (h : cowOk X R Z) (hi : inR Z s ad) : 1 ≤ R.getD (frameOf Z s ad).toNat default ∧ R.getD (frameOf Z s ad).toNat default ≤ 16 := by
  obtain ⟨f0, f1, f2, f3, f4⟩ := frame_ok h hi
  have hZf : Z.flatten.length ≤ 16 := by
    have := (sp_all (Z := Z) fun k hk => h.2.1 k (by have := h.1.2.2; omega)).2
    rw [← flat_len] at this
    have := h.1.2.2
    omega
  have hm : frameOf Z s ad ∈ Z.flatten := by
    refine List.mem_flatten.2 ⟨Z.getD s.toNat default, getD_mem f2, ?_⟩
    exact getD_mem f3
  have e : R.getD (frameOf Z s ad).toNat default = ((Z.flatten.count (frameOf Z s ad) : Nat) : Int) := by
    rw [h.2.2.2, refs_get _ (by omega), Int.toNat_of_nonneg f0]
  have h1 := List.count_pos_iff.2 hm
  have h2 := List.count_le_length (a := frameOf Z s ad) (l := Z.flatten)
  rw [e]
  omega
end Go.Eng
namespace Go.Eng.T
open Go.Proofs
open Cel (enc dec)
set_option maxRecDepth 100000
set_option maxHeartbeats 4000000
def c_impl_CowWrite : Contract := ⟨33, fun args M => match args with
  | [.agg [.sl a1 n1 _, .sl a2 n2 c2, .sl a3 n3 _], .c (.int .i64 s), .c (.int .i64 ad), .c (.int .i64 w)] => .eff ((Row2Ok Int a1 n1 M ∧ RowOk Int a2 n2 (M a2.r) ∧ Row2Ok Int a3 n3 M) ∧ n2 ≤ c2) (Nat × List (Nat × List Int) × Nat × Nat × List (Nat × List Int)) (fun p => CowC (writeO (row2 Int a1 n1 M) (row Int a2 n2 (M a2.r)) (row2 Int a3 n3 M) s ad w).1.1 (writeO (row2 Int a1 n1 M) (row Int a2 n2 (M a2.r)) (row2 Int a3 n3 M) s ad w).1.2.1 (writeO (row2 Int a1 n1 M) (row Int a2 n2 (M a2.r)) (row2 Int a3 n3 M) s ad w).1.2.2 p) (fun p => .tup [(true, [.sl ⟨.loc 0, 0, 0, 0⟩ (writeO (row2 Int a1 n1 M) (row Int a2 n2 (M a2.r)) (row2 Int a3 n3 M) s ad w).1.1.length p.1, .sl ⟨.loc 2, 0, 0, 0⟩ (writeO (row2 Int a1 n1 M) (row Int a2 n2 (M a2.r)) (row2 Int a3 n3 M) s ad w).1.2.1.length p.2.2.1, .sl ⟨.loc 3, 0, 0, 0⟩ (writeO (row2 Int a1 n1 M) (row Int a2 n2 (M a2.r)) (row2 Int a3 n3 M) s ad w).1.2.2.length p.2.2.2.1]), (false, [.bool (writeO (row2 Int a1 n1 M) (row Int a2 n2 (M a2.r)) (row2 Int a3 n3 M) s ad w).2])]) (fun p => [.rows true 23 1 [(p.1, nestC (.loc 1) p.2.1)], .rows true 3 1 (mems p.2.1), rowG true 3 p.2.2.1 (writeO (row2 Int a1 n1 M) (row Int a2 n2 (M a2.r)) (row2 Int a3 n3 M) s ad w).1.2.1, .rows true 23 1 [(p.2.2.2.1, nestC (.loc 4) p.2.2.2.2)], .rows true 3 1 (mems p.2.2.2.2)]) (fun _ => [])
  | _ => .bad⟩
theorem ok_impl_CowWrite : fnP Try.prog c_impl_CowWrite.f = true ∧ ∀ args M, (c_impl_CowWrite.sp args M).OK Try.prog c_impl_CowWrite.f args M := by
  refine ⟨fp_33, fun args M => ?_⟩
  unfold c_impl_CowWrite
  dsimp only
  split
  case h_2 => trivial
  rename_i a1 n1 c1 a2 n2 c2 a3 n3 c3 s ad w
  rintro ⟨⟨h1, h2, h3⟩, hc2⟩
  obtain ⟨s1, X, hX, rfl, t1⟩ := h1.x
  obtain ⟨s2, R, hR, rfl, t2⟩ := h2.x
  obtain ⟨s3, Z, hZ, rfl, t3⟩ := h3.x
  rw [hX, hR, hZ]
  refine goInX hf_33 rfl (nt := 92) rfl (rs := [.cell 8 25, .tmp 9]) rfl (C := [c_impl_CowOk, c_impl_cloneCow, c_impl_cowAt, c_impl_isWord, c_slices_Index_int, c_slices_Clone_int]) ⟨(by first | exact .inl ok_impl_CowOk | exact ok_impl_CowOk), (by first | exact .inl ok_impl_cloneCow | exact ok_impl_cloneCow), (by first | exact .inl ok_impl_cowAt | exact ok_impl_cowAt), (by first | exact .inl ok_impl_isWord | exact ok_impl_isWord), (by first | exact .inl ok_slices_Index_int | exact ok_slices_Index_int), (by first | exact .inl ok_slices_Clone_int | exact ok_slices_Clone_int), trivial⟩ (q := fun f => [64].contains f) ⟨fun h => absurd h (by decide), fun h => absurd h (by decide), fun h => absurd h (by decide), fun h => absurd h (by decide), fun h => absurd h (by decide), fun _ => q_slices_Clone_int, trivial⟩ mixed (O := ots [(11, otl [0, 1, 2, 3, 4, 5, 6, 7, 8, 9, 10] .nil)]) (by kernel_rfl) ?_
  by_cases hok : cowOk X R Z
  · have hok' := hok
    obtain ⟨⟨l1, l2, l3⟩, k1, k2, k3⟩ := hok'
    have hl4 : ∀ k, k < 4 → (Z.getD k default).length ≤ 4 := fun k hk => (k1 k hk).1
    by_cases hi : inR Z s ad
    · by_cases hwd : -1000000 ≤ w ∧ w ≤ 1000000
      · have hO0 : writeO X R Z s ad w = _ := (if_pos hok).trans (if_pos ⟨hi, hwd⟩)
        obtain ⟨f0, f1, f2, f3, f4⟩ := frame_ok hok hi
        obtain ⟨rp1, rp2⟩ := ref_pos hok hi
        have hi2 := hi.2
        have hi1 := hi.1
        obtain ⟨p, rfl⟩ : ∃ p : Nat, s = p := ⟨s.toNat, by omega⟩
        obtain ⟨m, rfl⟩ : ∃ m : Nat, ad = m := ⟨ad.toNat, by omega⟩
        obtain ⟨fr, hfr⟩ : ∃ fr : Nat, frameOf Z (p : Int) (m : Int) = fr := ⟨(frameOf Z p m).toNat, by omega⟩
        rw [hfr] at f0 f1 f4 rp1 rp2
        have hfr2 : (Z.getD p default).getD (m / 4) default = fr := hfr
        simp only [Int.toNat_natCast] at f2 f3 f4 hi2 rp1 rp2
        have d1 : (m : Int).tdiv 4 = ((m / 4 : Nat) : Int) := tdiv_nat m 4
        have d2 : (m : Int).tmod 4 = ((m % 4 : Nat) : Int) := tmod_nat m 4
        have hmx : m / 4 < 4 := by have := (k1 p (by omega)).1; omega
        have wd : IntKind.i64.wrap ((m / 4 : Nat) : Int) = ((m / 4 : Nat) : Int) := w64 (by omega) (by omega)
        rw [hfr] at hO0
        simp only [Int.toNat_natCast] at hO0
        obtain ⟨own, ty, cnt, cap, len, get, b, c, hM, hf, hic, hkn, hget⟩ := t3 (by omega)
        obtain ⟨own1, ty1, cnt1, cap1, len1, get1, b1, c1', hM1, hf1, hic1, hkn1, hget1⟩ := t1 (by omega)
        obtain ⟨own2, ty2, cnt2, cap2, len2, get2, hM2, hf2, hic2, hkn2, hget2⟩ := t2 (by omega)
        obtain ⟨g1, g2, g3, g4⟩ := hget p f2
        obtain ⟨e1, e2, e3, e4⟩ := hget1 fr (by omega)
        obtain ⟨gs, Y, hY, hYl, hbt⟩ := g3.x
        rw [g4] at hY
        obtain ⟨V, hV⟩ : ∃ V, X.getD fr default = V := ⟨_, rfl⟩
        rw [hY] at g1 gs hbt f3 hfr2
        rw [hV] at e1 e2 e3 e4 f4
        obtain ⟨own', ty', cnt', cap', len', get', hM', hf', hic', hkn', hget'⟩ := hbt (by omega)
        have ru : row Int a2.up R.length (some (Rg.arr own2 ty2 1 cnt2 cap2 len2 fun i k => List.map AC.up (get2 i k))) = R := row_arrU hM2 hR
        have rk : RowOk Int a2.up R.length (some (Rg.arr own2 ty2 1 cnt2 cap2 len2 fun i k => List.map AC.up (get2 i k))) = True := RowOk_arrU hM2 h2
        have hfrI : idx (fun x => decide (x = 0)) R = fr0 R := rfl
        by_cases h1R : 1 < R.getD fr default
        · by_cases hg : 0 ≤ fr0 R
          · have hO : writeO X R Z p m w = ((X.set (fr0 R).toNat (V.set (m % 4) w), (R.set fr (R.getD fr default - 1)).set (fr0 R).toNat 1, Z.set p (Y.set (m / 4) (fr0 R))), true) := by rw [hO0, if_pos h1R, if_pos hg, hV, hY]
            obtain ⟨g, x1, x2, x3, x4⟩ := idx_nonneg (p := fun x : Int => decide (x = 0)) hg
            rw [hfrI] at x1
            rw [hO]
            have hdn : decide (fr0 R < 0) = false := by simp only [decide_eq_false_iff_not]; omega
            have hw1 : IntKind.i64.wrap (R.getD fr default - 1) = R.getD fr default - 1 := w64 (by omega) (by omega)
            have hge : (List.map enc R).getD fr [] = enc (R.getD fr default) := getD_enc _ _ (by omega)
            simp only [↓WP, ↓grdD, ↓grdT, ↓un_dead, ↓binVC, ↓buildVC, ↓sliceVC, WQ, WN, Int.reduceToNat, renl, cll, rent, clt, ↓reduceIte, Nat.reduceLeDiff, Nat.reduceEqDiff, Nat.reduceLT, reduceCtorEq, List.append_nil, Nat.reduceAdd, Nat.reduceSub, Nat.reduceBEq, forall_const, implies_true, cond_true, cond_false, AV.ren, AC.ren, AV.cl, AC.cl, eq_self, List.all_cons, List.all_nil, AV.eqv, AC.eqv, eqvl, eqvt, Sl.eqv, List.map_append, List.length_map, List.length_append, List.length_replicate, List.length_set, List.map_replicate, nilVC, zr_25, sz_25, fs_25, fl_25_2, sz_22, el_22, sz_23, el_23, sz_3, fl_25_1, fl_25_0, c_impl_CowOk, c_impl_cloneCow, c_impl_cowAt, c_impl_isWord, c_slices_Index_int, c_slices_Clone_int, Row2Ok_upE h1, row2_upE h1, hX, Row2Ok_upE h3, row2_upE h3, hZ, hR, decide_eq_true hok, decide_eq_true hi, decide_eq_true hwd, hM, hf, g1, d1, d2, wd, hM', hf', hget' (m / 4) f3, hfr2, hM2, hf2, hget2 fr (by omega), decide_eq_true h1R, ru, rk, hfrI, hdn, hM1, hf1, e1, e3, e4, hge, hw1]
            refine ⟨hc2, fun u hp => ?_⟩
            obtain ⟨pF, F, pR, pZ, G⟩ := u
            obtain ⟨⟨u1, hF, hFo⟩, u2, u3, u4, u5, u6, hG, hGo⟩ := hp
            dsimp only at u1 hF hFo u2 u3 u4 u5 u6 hG hGo
            have hGl : G.length = Z.length := by rw [← hG]; simp
            have hFl : F.length = X.length := by rw [← hF]; simp
            obtain ⟨gc, v1, v2, v3, v4, v5⟩ := fam_at hG hGo f2
            rw [hY] at v1 v2 v3 v5
            repeat' (first | with_reducible refine And.intro ?_ ?_ | intro _)
            all_goals try omega
            all_goals try exact hl4 _ (by assumption)
            all_goals try (dsimp only; omega)
            rename_i kk hkk
            obtain ⟨V2, hV2⟩ : ∃ V2, V2 = V.set (m % 4) w := ⟨_, rfl⟩
            have hV2l : V2.length = V.length := by rw [hV2]; simp
            have hev : (List.map enc V).set (m % 4) [AC.int .i64 w] = List.map enc V2 := by rw [hV2, List.map_set]; rfl
            obtain ⟨Y2, hY2⟩ : ∃ Y2, Y2 = Y.set (m / 4) (fr0 R) := ⟨_, rfl⟩
            have hY2l : Y2.length = Y.length := by rw [hY2]; simp
            have hey : (List.map enc Y).set (m / 4) [AC.int .i64 (fr0 R)] = List.map enc Y2 := by rw [hY2, List.map_set]; rfl
            have hgs : ((nestC (.loc 3) F).set (fr0 R).toNat [AC.sl ⟨.loc 8, 0, 0, 0⟩ V.length kk]).getD (fr0 R).toNat [] = [AC.sl ⟨.loc 8, 0, 0, 0⟩ V.length kk] := getD_set_self (by rw [nest_len]; omega)
            have hns := nest_same (q := .loc 6) v4 v1 hY2l
            rw [← hV2, ← hY2]
            simp only [↓WP, ↓grdD, ↓grdT, ↓un_dead, ↓binVC, ↓buildVC, ↓sliceVC, WQ, WN, Int.reduceToNat, renl, cll, rent, clt, ↓reduceIte, Nat.reduceLeDiff, Nat.reduceEqDiff, Nat.reduceLT, reduceCtorEq, List.append_nil, Nat.reduceAdd, Nat.reduceSub, Nat.reduceBEq, forall_const, implies_true, cond_true, cond_false, AV.ren, AC.ren, AV.cl, AC.cl, eq_self, List.all_cons, List.all_nil, AV.eqv, AC.eqv, eqvl, eqvt, Sl.eqv, List.map_append, List.length_map, List.length_append, List.length_replicate, List.length_set, List.map_replicate, nilVC, zr_25, sz_25, fs_25, fl_25_2, sz_22, el_22, sz_23, el_23, sz_3, fl_25_1, fl_25_0, c_impl_CowOk, c_impl_cloneCow, c_impl_cowAt, c_impl_isWord, c_slices_Index_int, c_slices_Clone_int, v1, v5, hgs, hev, hey, enc_set1, f3, hY2l, d1, d2, wd, hGl]
            repeat' (first | with_reducible refine And.intro ?_ ?_ | intro _)
            all_goals try omega
            all_goals try (dsimp only; omega)
            refine endX_ret ?_
            simp only [↓WP, ↓grdD, ↓grdT, ↓un_dead, ↓binVC, ↓buildVC, ↓sliceVC, WQ, WN, Int.reduceToNat, renl, cll, rent, clt, ↓reduceIte, Nat.reduceLeDiff, Nat.reduceEqDiff, Nat.reduceLT, reduceCtorEq, List.append_nil, Nat.reduceAdd, Nat.reduceSub, Nat.reduceBEq, forall_const, implies_true, cond_true, cond_false, AV.ren, AC.ren, AV.cl, AC.cl, eq_self, List.all_cons, List.all_nil, AV.eqv, AC.eqv, eqvl, eqvt, Sl.eqv, List.map_append, List.length_map, List.length_append, List.length_replicate, List.length_set, List.map_replicate, nilVC, zr_25, sz_25, fs_25, fl_25_2, sz_22, el_22, sz_23, el_23, sz_3, fl_25_1, fl_25_0, c_impl_CowOk, c_impl_cloneCow, c_impl_cowAt, c_impl_isWord, c_slices_Index_int, c_slices_Clone_int]
            refine ⟨_, _, LeV_swap (j := 3) (j2 := 8) (i0 := (fr0 R).toNat) true 3 1 (mems F) (by decide) rfl rfl (by rw [mems_len]; omega), (pF, F.set (fr0 R).toNat (kk, V2), pR, pZ, G.set p (gc, Y2)), [], [2, 3, 4, 5, 6], ?_⟩
            simp only [WL, WNL, swA_new, swA_ne, nest_sw_ne, mapLL, List.mem_cons, Nat.reduceAdd, Nat.reduceLT, Nat.reduceLeDiff, Nat.reduceEqDiff, okU, List.nodup_cons, List.not_mem_nil, toT, toL, toO, keysO, renl, rent, cll, clt, eq_self, AV.eqv, AC.eqv, eqvl, eqvt, Sl.eqv, rowsLe, mapLL, rowsCl, List.map_append, List.length_map, List.length_append, List.length_set, List.map_replicate, rowG, List.getElem?_cons_zero, List.getElem?_cons_succ, List.getElem?_nil, List.append_nil, List.nil_append, List.cons_append, ghosts, St.gh, Option.some.injEq, implies_true, setT, AV.ren, AC.ren, AV.cl, AC.cl, List.replicate_succ, List.replicate_zero, List.nodup_nil, List.length_nil, List.length_cons, List.getD_cons_zero, List.getD_cons_succ, ↓reduceIte, retP, nest_sw_set (j := 3) (j2 := 8) (X := V2) (by decide) hV2l, nest_sw_ne (j := 3) (j2 := 8) (q := 6) (by decide) (by decide), hns]
            simp [CowC, u1, hF, hFo, u2, u3, u4, u5, u6, hG, hGo, snd_set hF, famOk_set hFo (show V2.length ≤ 4294967296 by omega) (show V2.length ≤ kk by omega), snd_set hG, famOk_set hGo (show Y2.length ≤ 4294967296 by omega) (show Y2.length ≤ gc by omega), rowsLe_self]
          · have hO : writeO X R Z p m w = ((X, R, Z), false) := by rw [hO0, if_pos h1R, if_neg hg]
            rw [hO]
            have hdn : decide (fr0 R < 0) = true := by simp only [decide_eq_true_iff]; omega
            simp only [↓WP, ↓grdD, ↓grdT, ↓un_dead, ↓binVC, ↓buildVC, ↓sliceVC, WQ, WN, Int.reduceToNat, renl, cll, rent, clt, ↓reduceIte, Nat.reduceLeDiff, Nat.reduceEqDiff, Nat.reduceLT, reduceCtorEq, List.append_nil, Nat.reduceAdd, Nat.reduceSub, Nat.reduceBEq, forall_const, implies_true, cond_true, cond_false, AV.ren, AC.ren, AV.cl, AC.cl, eq_self, List.all_cons, List.all_nil, AV.eqv, AC.eqv, eqvl, eqvt, Sl.eqv, List.map_append, List.length_map, List.length_append, List.length_replicate, List.length_set, List.map_replicate, nilVC, zr_25, sz_25, fs_25, fl_25_2, sz_22, el_22, sz_23, el_23, sz_3, fl_25_1, fl_25_0, c_impl_CowOk, c_impl_cloneCow, c_impl_cowAt, c_impl_isWord, c_slices_Index_int, c_slices_Clone_int, Row2Ok_upE h1, row2_upE h1, hX, Row2Ok_upE h3, row2_upE h3, hZ, hR, decide_eq_true hok, decide_eq_true hi, decide_eq_true hwd, hM, hf, g1, d1, d2, wd, hM', hf', hget' (m / 4) f3, hfr2, hM2, hf2, hget2 fr (by omega), decide_eq_true h1R, ru, rk, hfrI, hdn]
            refine ⟨hc2, fun u hp => ?_⟩
            obtain ⟨pF, F, pR, pZ, G⟩ := u
            obtain ⟨⟨u1, hF, hFo⟩, u2, u3, u4, u5, u6, hG, hGo⟩ := hp
            dsimp only at u1 hF hFo u2 u3 u4 u5 u6 hG hGo
            have hGl : G.length = Z.length := by rw [← hG]; simp
            have hFl : F.length = X.length := by rw [← hF]; simp
            repeat' (first | with_reducible refine And.intro ?_ ?_ | intro _)
            all_goals try omega
            all_goals try exact hl4 _ (by assumption)
            all_goals try (dsimp only; omega)
            refine endX_ret ?_
            simp only [↓WP, ↓grdD, ↓grdT, ↓un_dead, ↓binVC, ↓buildVC, ↓sliceVC, WQ, WN, Int.reduceToNat, renl, cll, rent, clt, ↓reduceIte, Nat.reduceLeDiff, Nat.reduceEqDiff, Nat.reduceLT, reduceCtorEq, List.append_nil, Nat.reduceAdd, Nat.reduceSub, Nat.reduceBEq, forall_const, implies_true, cond_true, cond_false, AV.ren, AC.ren, AV.cl, AC.cl, eq_self, List.all_cons, List.all_nil, AV.eqv, AC.eqv, eqvl, eqvt, Sl.eqv, List.map_append, List.length_map, List.length_append, List.length_replicate, List.length_set, List.map_replicate, nilVC, zr_25, sz_25, fs_25, fl_25_2, sz_22, el_22, sz_23, el_23, sz_3, fl_25_1, fl_25_0, c_impl_CowOk, c_impl_cloneCow, c_impl_cowAt, c_impl_isWord, c_slices_Index_int, c_slices_Clone_int]
            refine ⟨_, _, LeV.refl _ _, (pF, F, pR, pZ, G), [], [2, 3, 4, 5, 6], ?_⟩
            simp only [WL, WNL, swA_new, swA_ne, nest_sw_ne, mapLL, List.mem_cons, Nat.reduceAdd, Nat.reduceLT, Nat.reduceLeDiff, Nat.reduceEqDiff, okU, List.nodup_cons, List.not_mem_nil, toT, toL, toO, keysO, renl, rent, cll, clt, eq_self, AV.eqv, AC.eqv, eqvl, eqvt, Sl.eqv, rowsLe, mapLL, rowsCl, List.map_append, List.length_map, List.length_append, List.length_set, List.map_replicate, rowG, List.getElem?_cons_zero, List.getElem?_cons_succ, List.getElem?_nil, List.append_nil, List.nil_append, List.cons_append, ghosts, St.gh, Option.some.injEq, implies_true, setT, AV.ren, AC.ren, AV.cl, AC.cl, List.replicate_succ, List.replicate_zero, List.nodup_nil, List.length_nil, List.length_cons, List.getD_cons_zero, List.getD_cons_succ, ↓reduceIte, retP]
            simp [CowC, u1, hF, hFo, u2, u3, u4, u5, u6, hG, hGo, rowsLe_self]
        · have hO : writeO X R Z p m w = ((X.set fr (V.set (m % 4) w), R, Z), true) := by rw [hO0, if_neg h1R, hV]
          rw [hO]
          simp only [↓WP, ↓grdD, ↓grdT, ↓un_dead, ↓binVC, ↓buildVC, ↓sliceVC, WQ, WN, Int.reduceToNat, renl, cll, rent, clt, ↓reduceIte, Nat.reduceLeDiff, Nat.reduceEqDiff, Nat.reduceLT, reduceCtorEq, List.append_nil, Nat.reduceAdd, Nat.reduceSub, Nat.reduceBEq, forall_const, implies_true, cond_true, cond_false, AV.ren, AC.ren, AV.cl, AC.cl, eq_self, List.all_cons, List.all_nil, AV.eqv, AC.eqv, eqvl, eqvt, Sl.eqv, List.map_append, List.length_map, List.length_append, List.length_replicate, List.length_set, List.map_replicate, nilVC, zr_25, sz_25, fs_25, fl_25_2, sz_22, el_22, sz_23, el_23, sz_3, fl_25_1, fl_25_0, c_impl_CowOk, c_impl_cloneCow, c_impl_cowAt, c_impl_isWord, c_slices_Index_int, c_slices_Clone_int, Row2Ok_upE h1, row2_upE h1, hX, Row2Ok_upE h3, row2_upE h3, hZ, hR, decide_eq_true hok, decide_eq_true hi, decide_eq_true hwd, hM, hf, g1, d1, d2, wd, hM', hf', hget' (m / 4) f3, hfr2, hM2, hf2, hget2 fr (by omega), decide_eq_false h1R, ru, rk]
          refine ⟨hc2, fun u hp => ?_⟩
          obtain ⟨pF, F, pR, pZ, G⟩ := u
          obtain ⟨⟨u1, hF, hFo⟩, u2, u3, u4, u5, u6, hG, hGo⟩ := hp
          dsimp only at u1 hF hFo u2 u3 u4 u5 u6 hG hGo
          have hGl : G.length = Z.length := by rw [← hG]; simp
          have hFl : F.length = X.length := by rw [← hF]; simp
          obtain ⟨fc, v1, v2, v3, v4, v5⟩ := fam_at hF hFo (i := fr) (by omega)
          rw [hV] at v1 v2 v3 v5
          obtain ⟨V2, hV2⟩ : ∃ V2, V2 = V.set (m % 4) w := ⟨_, rfl⟩
          have hV2l : V2.length = V.length := by rw [hV2]; simp
          have hev : (List.map enc V).set (m % 4) [AC.int .i64 w] = List.map enc V2 := by rw [hV2, List.map_set]; rfl
          have hns := nest_same (q := .loc 3) v4 v1 hV2l
          rw [← hV2]
          simp only [↓WP, ↓grdD, ↓grdT, ↓un_dead, ↓binVC, ↓buildVC, ↓sliceVC, WQ, WN, Int.reduceToNat, renl, cll, rent, clt, ↓reduceIte, Nat.reduceLeDiff, Nat.reduceEqDiff, Nat.reduceLT, reduceCtorEq, List.append_nil, Nat.reduceAdd, Nat.reduceSub, Nat.reduceBEq, forall_const, implies_true, cond_true, cond_false, AV.ren, AC.ren, AV.cl, AC.cl, eq_self, List.all_cons, List.all_nil, AV.eqv, AC.eqv, eqvl, eqvt, Sl.eqv, List.map_append, List.length_map, List.length_append, List.length_replicate, List.length_set, List.map_replicate, nilVC, zr_25, sz_25, fs_25, fl_25_2, sz_22, el_22, sz_23, el_23, sz_3, fl_25_1, fl_25_0, c_impl_CowOk, c_impl_cloneCow, c_impl_cowAt, c_impl_isWord, c_slices_Index_int, c_slices_Clone_int, v1, v5, hev, d1, d2, wd, hFl]
          repeat' (first | with_reducible refine And.intro ?_ ?_ | intro _)
          all_goals try omega
          all_goals try exact hl4 _ (by assumption)
          all_goals try (dsimp only; omega)
          refine endX_ret ?_
          simp only [↓WP, ↓grdD, ↓grdT, ↓un_dead, ↓binVC, ↓buildVC, ↓sliceVC, WQ, WN, Int.reduceToNat, renl, cll, rent, clt, ↓reduceIte, Nat.reduceLeDiff, Nat.reduceEqDiff, Nat.reduceLT, reduceCtorEq, List.append_nil, Nat.reduceAdd, Nat.reduceSub, Nat.reduceBEq, forall_const, implies_true, cond_true, cond_false, AV.ren, AC.ren, AV.cl, AC.cl, eq_self, List.all_cons, List.all_nil, AV.eqv, AC.eqv, eqvl, eqvt, Sl.eqv, List.map_append, List.length_map, List.length_append, List.length_replicate, List.length_set, List.map_replicate, nilVC, zr_25, sz_25, fs_25, fl_25_2, sz_22, el_22, sz_23, el_23, sz_3, fl_25_1, fl_25_0, c_impl_CowOk, c_impl_cloneCow, c_impl_cowAt, c_impl_isWord, c_slices_Index_int, c_slices_Clone_int]
          refine ⟨_, _, LeV.refl _ _, (pF, F.set fr (fc, V2), pR, pZ, G), [], [2, 3, 4, 5, 6], ?_⟩
          simp only [WL, WNL, swA_new, swA_ne, nest_sw_ne, mapLL, List.mem_cons, Nat.reduceAdd, Nat.reduceLT, Nat.reduceLeDiff, Nat.reduceEqDiff, okU, List.nodup_cons, List.not_mem_nil, toT, toL, toO, keysO, renl, rent, cll, clt, eq_self, AV.eqv, AC.eqv, eqvl, eqvt, Sl.eqv, rowsLe, mapLL, rowsCl, List.map_append, List.length_map, List.length_append, List.length_set, List.map_replicate, rowG, List.getElem?_cons_zero, List.getElem?_cons_succ, List.getElem?_nil, List.append_nil, List.nil_append, List.cons_append, ghosts, St.gh, Option.some.injEq, implies_true, setT, AV.ren, AC.ren, AV.cl, AC.cl, List.replicate_succ, List.replicate_zero, List.nodup_nil, List.length_nil, List.length_cons, List.getD_cons_zero, List.getD_cons_succ, ↓reduceIte, retP, hns]
          simp [CowC, u1, hF, hFo, u2, u3, u4, u5, u6, hG, hGo, snd_set hF, famOk_set hFo (show V2.length ≤ 4294967296 by omega) (show V2.length ≤ fc by omega), rowsLe_self]
      · have hO : writeO X R Z s ad w = ((X, R, Z), false) := by rw [writeO, if_pos hok, if_neg fun h => hwd h.2]
        rw [hO]
        simp only [↓WP, ↓grdD, ↓grdT, ↓un_dead, ↓binVC, ↓buildVC, ↓sliceVC, WQ, WN, Int.reduceToNat, renl, cll, rent, clt, ↓reduceIte, Nat.reduceLeDiff, Nat.reduceEqDiff, Nat.reduceLT, reduceCtorEq, List.append_nil, Nat.reduceAdd, Nat.reduceSub, Nat.reduceBEq, forall_const, implies_true, cond_true, cond_false, AV.ren, AC.ren, AV.cl, AC.cl, eq_self, List.all_cons, List.all_nil, AV.eqv, AC.eqv, eqvl, eqvt, Sl.eqv, List.map_append, List.length_map, List.length_append, List.length_replicate, List.length_set, List.map_replicate, nilVC, zr_25, sz_25, fs_25, fl_25_2, sz_22, el_22, sz_23, el_23, sz_3, fl_25_1, fl_25_0, c_impl_CowOk, c_impl_cloneCow, c_impl_cowAt, c_impl_isWord, c_slices_Index_int, c_slices_Clone_int, Row2Ok_upE h1, row2_upE h1, hX, Row2Ok_upE h3, row2_upE h3, hZ, hR, decide_eq_true hok, decide_eq_true hi, decide_eq_false hwd]
        refine ⟨h2, ⟨h2, hc2⟩, fun u hp => ?_⟩
        obtain ⟨pF, F, pR, pZ, G⟩ := u
        obtain ⟨⟨u1, hF, hFo⟩, u2, u3, u4, u5, u6, hG, hGo⟩ := hp
        dsimp only at u1 hF hFo u2 u3 u4 u5 u6 hG hGo
        have hGl : G.length = Z.length := by rw [← hG]; simp
        have hFl : F.length = X.length := by rw [← hF]; simp
        repeat' (first | with_reducible refine And.intro ?_ ?_ | intro _)
        all_goals try omega
        all_goals try exact hl4 _ (by assumption)
        refine endX_ret ?_
        simp only [↓WP, ↓grdD, ↓grdT, ↓un_dead, ↓binVC, ↓buildVC, ↓sliceVC, WQ, WN, Int.reduceToNat, renl, cll, rent, clt, ↓reduceIte, Nat.reduceLeDiff, Nat.reduceEqDiff, Nat.reduceLT, reduceCtorEq, List.append_nil, Nat.reduceAdd, Nat.reduceSub, Nat.reduceBEq, forall_const, implies_true, cond_true, cond_false, AV.ren, AC.ren, AV.cl, AC.cl, eq_self, List.all_cons, List.all_nil, AV.eqv, AC.eqv, eqvl, eqvt, Sl.eqv, List.map_append, List.length_map, List.length_append, List.length_replicate, List.length_set, List.map_replicate, nilVC, zr_25, sz_25, fs_25, fl_25_2, sz_22, el_22, sz_23, el_23, sz_3, fl_25_1, fl_25_0, c_impl_CowOk, c_impl_cloneCow, c_impl_cowAt, c_impl_isWord, c_slices_Index_int, c_slices_Clone_int]
        refine ⟨_, _, LeV.refl _ _, (pF, F, pR, pZ, G), [], [2, 3, 4, 5, 6], ?_⟩
        simp only [WL, WNL, swA_new, swA_ne, nest_sw_ne, mapLL, List.mem_cons, Nat.reduceAdd, Nat.reduceLT, Nat.reduceLeDiff, Nat.reduceEqDiff, okU, List.nodup_cons, List.not_mem_nil, toT, toL, toO, keysO, renl, rent, cll, clt, eq_self, AV.eqv, AC.eqv, eqvl, eqvt, Sl.eqv, rowsLe, mapLL, rowsCl, List.map_append, List.length_map, List.length_append, List.length_set, List.map_replicate, rowG, List.getElem?_cons_zero, List.getElem?_cons_succ, List.getElem?_nil, List.append_nil, List.nil_append, List.cons_append, ghosts, St.gh, Option.some.injEq, implies_true, setT, AV.ren, AC.ren, AV.cl, AC.cl, List.replicate_succ, List.replicate_zero, List.nodup_nil, List.length_nil, List.length_cons, List.getD_cons_zero, List.getD_cons_succ, ↓reduceIte, retP]
        simp [CowC, u1, hF, hFo, u2, u3, u4, u5, u6, hG, hGo, rowsLe_self]
    · have hO : writeO X R Z s ad w = ((X, R, Z), false) := by rw [writeO, if_pos hok, if_neg fun h => hi h.1]
      rw [hO]
      simp only [↓WP, ↓grdD, ↓grdT, ↓un_dead, ↓binVC, ↓buildVC, ↓sliceVC, WQ, WN, Int.reduceToNat, renl, cll, rent, clt, ↓reduceIte, Nat.reduceLeDiff, Nat.reduceEqDiff, Nat.reduceLT, reduceCtorEq, List.append_nil, Nat.reduceAdd, Nat.reduceSub, Nat.reduceBEq, forall_const, implies_true, cond_true, cond_false, AV.ren, AC.ren, AV.cl, AC.cl, eq_self, List.all_cons, List.all_nil, AV.eqv, AC.eqv, eqvl, eqvt, Sl.eqv, List.map_append, List.length_map, List.length_append, List.length_replicate, List.length_set, List.map_replicate, nilVC, zr_25, sz_25, fs_25, fl_25_2, sz_22, el_22, sz_23, el_23, sz_3, fl_25_1, fl_25_0, c_impl_CowOk, c_impl_cloneCow, c_impl_cowAt, c_impl_isWord, c_slices_Index_int, c_slices_Clone_int, Row2Ok_upE h1, row2_upE h1, hX, Row2Ok_upE h3, row2_upE h3, hZ, hR, decide_eq_true hok, decide_eq_false hi]
      refine ⟨h2, ⟨h2, hc2⟩, fun u hp => ?_⟩
      obtain ⟨pF, F, pR, pZ, G⟩ := u
      obtain ⟨⟨u1, hF, hFo⟩, u2, u3, u4, u5, u6, hG, hGo⟩ := hp
      dsimp only at u1 hF hFo u2 u3 u4 u5 u6 hG hGo
      have hGl : G.length = Z.length := by rw [← hG]; simp
      have hFl : F.length = X.length := by rw [← hF]; simp
      repeat' (first | with_reducible refine And.intro ?_ ?_ | intro _)
      all_goals try omega
      all_goals try exact hl4 _ (by assumption)
      refine endX_ret ?_
      simp only [↓WP, ↓grdD, ↓grdT, ↓un_dead, ↓binVC, ↓buildVC, ↓sliceVC, WQ, WN, Int.reduceToNat, renl, cll, rent, clt, ↓reduceIte, Nat.reduceLeDiff, Nat.reduceEqDiff, Nat.reduceLT, reduceCtorEq, List.append_nil, Nat.reduceAdd, Nat.reduceSub, Nat.reduceBEq, forall_const, implies_true, cond_true, cond_false, AV.ren, AC.ren, AV.cl, AC.cl, eq_self, List.all_cons, List.all_nil, AV.eqv, AC.eqv, eqvl, eqvt, Sl.eqv, List.map_append, List.length_map, List.length_append, List.length_replicate, List.length_set, List.map_replicate, nilVC, zr_25, sz_25, fs_25, fl_25_2, sz_22, el_22, sz_23, el_23, sz_3, fl_25_1, fl_25_0, c_impl_CowOk, c_impl_cloneCow, c_impl_cowAt, c_impl_isWord, c_slices_Index_int, c_slices_Clone_int]
      refine ⟨_, _, LeV.refl _ _, (pF, F, pR, pZ, G), [], [2, 3, 4, 5, 6], ?_⟩
      simp only [WL, WNL, swA_new, swA_ne, nest_sw_ne, mapLL, List.mem_cons, Nat.reduceAdd, Nat.reduceLT, Nat.reduceLeDiff, Nat.reduceEqDiff, okU, List.nodup_cons, List.not_mem_nil, toT, toL, toO, keysO, renl, rent, cll, clt, eq_self, AV.eqv, AC.eqv, eqvl, eqvt, Sl.eqv, rowsLe, mapLL, rowsCl, List.map_append, List.length_map, List.length_append, List.length_set, List.map_replicate, rowG, List.getElem?_cons_zero, List.getElem?_cons_succ, List.getElem?_nil, List.append_nil, List.nil_append, List.cons_append, ghosts, St.gh, Option.some.injEq, implies_true, setT, AV.ren, AC.ren, AV.cl, AC.cl, List.replicate_succ, List.replicate_zero, List.nodup_nil, List.length_nil, List.length_cons, List.getD_cons_zero, List.getD_cons_succ, ↓reduceIte, retP]
      simp [CowC, u1, hF, hFo, u2, u3, u4, u5, u6, hG, hGo, rowsLe_self]
  · have hO : writeO X R Z s ad w = (([], [], []), false) := if_neg hok
    rw [hO]
    simp only [↓WP, ↓grdD, ↓grdT, ↓un_dead, ↓binVC, ↓buildVC, ↓sliceVC, WQ, WN, Int.reduceToNat, renl, cll, rent, clt, ↓reduceIte, Nat.reduceLeDiff, Nat.reduceEqDiff, Nat.reduceLT, reduceCtorEq, List.append_nil, Nat.reduceAdd, Nat.reduceSub, Nat.reduceBEq, forall_const, implies_true, cond_true, cond_false, AV.ren, AC.ren, AV.cl, AC.cl, eq_self, List.all_cons, List.all_nil, AV.eqv, AC.eqv, eqvl, eqvt, Sl.eqv, List.map_append, List.length_map, List.length_append, List.length_replicate, List.length_set, List.map_replicate, nilVC, zr_25, sz_25, fs_25, fl_25_2, sz_22, el_22, sz_23, el_23, sz_3, fl_25_1, fl_25_0, c_impl_CowOk, c_impl_cloneCow, c_impl_cowAt, c_impl_isWord, c_slices_Index_int, c_slices_Clone_int, Row2Ok_upE h1, row2_upE h1, hX, Row2Ok_upE h3, row2_upE h3, hZ, hR, decide_eq_false hok]
    refine ⟨h2, endX_ret ?_⟩
    simp only [↓WP, ↓grdD, ↓grdT, ↓un_dead, ↓binVC, ↓buildVC, ↓sliceVC, WQ, WN, Int.reduceToNat, renl, cll, rent, clt, ↓reduceIte, Nat.reduceLeDiff, Nat.reduceEqDiff, Nat.reduceLT, reduceCtorEq, List.append_nil, Nat.reduceAdd, Nat.reduceSub, Nat.reduceBEq, forall_const, implies_true, cond_true, cond_false, AV.ren, AC.ren, AV.cl, AC.cl, eq_self, List.all_cons, List.all_nil, AV.eqv, AC.eqv, eqvl, eqvt, Sl.eqv, List.map_append, List.length_map, List.length_append, List.length_replicate, List.length_set, List.map_replicate, nilVC, zr_25, sz_25, fs_25, fl_25_2, sz_22, el_22, sz_23, el_23, sz_3, fl_25_1, fl_25_0, c_impl_CowOk, c_impl_cloneCow, c_impl_cowAt, c_impl_isWord, c_slices_Index_int, c_slices_Clone_int]
    refine ⟨_, _, LeV.refl _ _, (0, [], 0, 0, []), [(23, 1), (3, 1), (3, 1), (23, 1), (3, 1)], [2, 3, 4, 5, 6], ?_⟩
    simp only [WL, WNL, swA_new, swA_ne, nest_sw_ne, mapLL, List.mem_cons, Nat.reduceAdd, Nat.reduceLT, Nat.reduceLeDiff, Nat.reduceEqDiff, okU, List.nodup_cons, List.not_mem_nil, toT, toL, toO, keysO, renl, rent, cll, clt, eq_self, AV.eqv, AC.eqv, eqvl, eqvt, Sl.eqv, rowsLe, mapLL, rowsCl, List.map_append, List.length_map, List.length_append, List.length_set, List.map_replicate, rowG, List.getElem?_cons_zero, List.getElem?_cons_succ, List.getElem?_nil, List.append_nil, List.nil_append, List.cons_append, ghosts, St.gh, Option.some.injEq, implies_true, setT, AV.ren, AC.ren, AV.cl, AC.cl, List.replicate_succ, List.replicate_zero, List.nodup_nil, List.length_nil, List.length_cons, List.getD_cons_zero, List.getD_cons_succ, ↓reduceIte, retP, nest_nil, mems_nil]
    simp [CowC, famOk]
end Go.Eng.T
