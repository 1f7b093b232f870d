/- cow: CowFree. -/
import Derived.Test.YtjdppjomhkbljaaFn17
set_option linter.unusedVariables false
set_option linter.unusedSimpArgs false
set_option linter.unusedSectionVars false
namespace Go.Eng
open Cel (enc dec)
/-- frames that nobody names are cleared -/
def clr (R : List Int) (X : List (List Int)) : List (List Int) := (List.range 12).map fun i => if R.getD i default = 0 then zr4 else X.getD i default
def clrTo (R : List Int) (X : List (List Int)) (n : Nat) : List (List Int) := (List.range 12).map fun i => if i < n ∧ R.getD i default = 0 then zr4 else X.getD i default
theorem clr_len (R : List Int) (X : List (List Int)) : (clr R X).length = 12 := by simp [clr]
theorem clrTo_len (R : List Int) (X : List (List Int)) (n : Nat) : (clrTo R X n).length = 12 := by simp [clrTo]
theorem clrTo_zero {R : List Int} {X : List (List Int)} (h : X.length = 12) : clrTo R X 0 = X := by
  refine List.ext_getElem (by rw [clrTo_len, h]) fun i hi hi' => ?_
  simp only [clrTo, List.getElem_map, List.getElem_range, Nat.not_lt_zero, false_and, if_false]
  rw [getD_of_lt hi']
theorem clrTo_all (R : List Int) (X : List (List Int)) : clrTo R X 12 = clr R X := by
  refine List.map_congr_left fun i hi => ?_
  have : i < 12 := by simpa using hi
  simp [this]
theorem clrTo_hit {R : List Int} {X : List (List Int)} {i : Nat} (hi : i < 12) (h : R.getD i default = 0) : (clrTo R X i).set i zr4 = clrTo R X (i + 1) := by
  refine List.ext_getElem (by simp [clrTo]) fun k hk hk' => ?_
  rw [List.getElem_set]
  simp only [clrTo, List.getElem_map, List.getElem_range]
  by_cases e : i = k
  · subst e; simp only [if_true]; rw [if_pos ⟨by omega, h⟩]
  · rw [if_neg e]
    have : (k < i ∧ R.getD k default = 0) ↔ (k < i + 1 ∧ R.getD k default = 0) := by
      constructor <;> rintro ⟨h1, h2⟩ <;> exact ⟨by omega, h2⟩
    simp only [this]
theorem clrTo_miss {R : List Int} {X : List (List Int)} {i : Nat} (h : ¬ R.getD i default = 0) : clrTo R X i = clrTo R X (i + 1) := by
  refine List.map_congr_left fun k _ => ?_
  have : (k < i ∧ R.getD k default = 0) ↔ (k < i + 1 ∧ R.getD k default = 0) := by
    constructor
    · rintro ⟨h1, h2⟩; exact ⟨by omega, h2⟩
    · rintro ⟨h1, h2⟩
      refine ⟨?_, h2⟩
      have : k ≠ i := fun e => h (e ▸ h2)
      omega
  simp only [this]
def freeO (X : List (List Int)) (R : List Int) (Z : List (List Int)) (s : Int) : CO × Bool :=
  if cowOk X R Z then (if (0 ≤ s ∧ s ≤ 3) ∧ (Z.getD s.toNat default).length ≠ 0 then ((clr (refs (Z.set s.toNat []).flatten) X, refs (Z.set s.toNat []).flatten, Z.set s.toNat []), true) else ((X, R, Z), false)) else (([], [], []), false)
theorem zr4_len : zr4.length = 4 := rfl
theorem sp_nil : spOk [] := ⟨by simp, fun f hf => by cases hf⟩
end Go.Eng
namespace Go.Eng.T
open Go.Proofs
open Cel (enc dec)
set_option maxRecDepth 100000
set_option maxHeartbeats 4000000
def c_impl_CowFree : Contract := ⟨29, fun args M => match args with
  | [.agg [.sl a1 n1 _, .sl a2 n2 c2, .sl a3 n3 _], .c (.int .i64 s)] => .eff ((Row2Ok Int a1 n1 M ∧ RowOk Int a2 n2 (M a2.r) ∧ Row2Ok Int a3 n3 M) ∧ n2 ≤ c2) (Nat × List (Nat × List Int) × Nat × Nat × List (Nat × List Int)) (fun p => CowC (freeO (row2 Int a1 n1 M) (row Int a2 n2 (M a2.r)) (row2 Int a3 n3 M) s).1.1 (freeO (row2 Int a1 n1 M) (row Int a2 n2 (M a2.r)) (row2 Int a3 n3 M) s).1.2.1 (freeO (row2 Int a1 n1 M) (row Int a2 n2 (M a2.r)) (row2 Int a3 n3 M) s).1.2.2 p) (fun p => .tup [(true, [.sl ⟨.loc 0, 0, 0, 0⟩ (freeO (row2 Int a1 n1 M) (row Int a2 n2 (M a2.r)) (row2 Int a3 n3 M) s).1.1.length p.1, .sl ⟨.loc 2, 0, 0, 0⟩ (freeO (row2 Int a1 n1 M) (row Int a2 n2 (M a2.r)) (row2 Int a3 n3 M) s).1.2.1.length p.2.2.1, .sl ⟨.loc 3, 0, 0, 0⟩ (freeO (row2 Int a1 n1 M) (row Int a2 n2 (M a2.r)) (row2 Int a3 n3 M) s).1.2.2.length p.2.2.2.1]), (false, [.bool (freeO (row2 Int a1 n1 M) (row Int a2 n2 (M a2.r)) (row2 Int a3 n3 M) s).2])]) (fun p => [.rows true 23 1 [(p.1, nestC (.loc 1) p.2.1)], .rows true 3 1 (mems p.2.1), rowG true 3 p.2.2.1 (freeO (row2 Int a1 n1 M) (row Int a2 n2 (M a2.r)) (row2 Int a3 n3 M) s).1.2.1, .rows true 23 1 [(p.2.2.2.1, nestC (.loc 4) p.2.2.2.2)], .rows true 3 1 (mems p.2.2.2.2)]) (fun _ => [])
  | _ => .bad⟩
theorem ok_impl_CowFree : fnP Try.prog c_impl_CowFree.f = true ∧ ∀ args M, (c_impl_CowFree.sp args M).OK Try.prog c_impl_CowFree.f args M := by
  refine ⟨fp_29, fun args M => ?_⟩
  unfold c_impl_CowFree
  dsimp only
  split
  case h_2 => trivial
  rename_i a1 n1 c1 a2 n2 c2 a3 n3 c3 s
  rintro ⟨⟨h1, h2, h3⟩, hc2⟩
  obtain ⟨s1, X, hX, rfl, t1⟩ := h1.x
  obtain ⟨s2, R, hR, rfl, t2⟩ := h2.x
  obtain ⟨s3, Z, hZ, rfl, t3⟩ := h3.x
  rw [hX, hR, hZ]
  refine goInX hf_29 rfl (nt := 53) rfl (rs := [.cell 4 25, .tmp 5]) rfl (C := [c_impl_CowOk, c_impl_cloneCow, c_impl_isSpace, c_impl_cowRefs]) ⟨(by first | exact .inl ok_impl_CowOk | exact ok_impl_CowOk), (by first | exact .inl ok_impl_cloneCow | exact ok_impl_cloneCow), (by first | exact .inl ok_impl_isSpace | exact ok_impl_isSpace), (by first | exact .inl ok_impl_cowRefs | exact ok_impl_cowRefs), trivial⟩ (q := fun f => [].contains f) ⟨fun h => absurd h (by decide), fun h => absurd h (by decide), fun h => absurd h (by decide), fun h => absurd h (by decide), trivial⟩ mixed (O := ots [(12, otl [0, 1, 2, 3, 4, 5] .nil)]) (by kernel_rfl) ?_
  by_cases hok : cowOk X R Z
  · have hok' := hok
    obtain ⟨⟨l1, l2, l3⟩, k1, k2, k3⟩ := hok'
    obtain ⟨own3, ty3, cnt3, cap3, len3, get3, b3, cc3, hM3, hf3, hic3, hkn3, hget3⟩ := t3 (by omega)
    by_cases hs : 0 ≤ s ∧ s ≤ 3
    · obtain ⟨g1, g2, g3, g4⟩ := hget3 s.toNat (by omega)
      have hsl : s.toNat < Z.length := by omega
      by_cases hmay : (Z.getD s.toNat default).length ≠ 0
      · have hO : freeO X R Z s = ((clr (refs (Z.set s.toNat []).flatten) X, refs (Z.set s.toNat []).flatten, Z.set s.toNat []), true) := by rw [freeO, if_pos hok, if_pos ⟨hs, hmay⟩]
        rw [hO]
        have hcd : decide (((Z.getD s.toNat default).length : Int) = 0) = false := by simp only [decide_eq_false_iff_not]; omega
        obtain ⟨q1, q2⟩ := set_sp (Z := Z) (b := s.toNat) (Y := []) (fun k hk => k1 k (by omega)) sp_nil
        simp only [↓WP, ↓grdD, ↓grdT, ↓un_dead, ↓binVC, ↓buildVC, ↓sliceVC, WQ, WN, Int.reduceToNat, renl, cll, rent, clt, ↓reduceIte, Nat.reduceLeDiff, Nat.reduceEqDiff, Nat.reduceLT, reduceCtorEq, List.append_nil, Nat.reduceAdd, Nat.reduceSub, Nat.reduceBEq, forall_const, implies_true, cond_true, cond_false, AV.ren, AC.ren, AV.cl, AC.cl, eq_self, List.all_cons, List.all_nil, AV.eqv, AC.eqv, eqvl, eqvt, Sl.eqv, List.map_append, List.length_map, List.length_append, List.length_replicate, List.length_set, List.map_replicate, nilVC, zr_25, sz_25, fs_25, fl_25_2, sz_22, el_22, sz_23, sd_23, fl_25_1, el_23, sz_3, fl_25_0, zr_3, c_impl_CowOk, c_impl_cloneCow, c_impl_isSpace, c_impl_cowRefs, Row2Ok_upE h1, row2_upE h1, hX, Row2Ok_upE h3, row2_upE h3, hZ, hR, decide_eq_true hok, decide_eq_true hs, hM3, hf3, g1, hcd]
        refine ⟨h2, ⟨h2, hc2⟩, fun p hp => ?_⟩
        obtain ⟨pF, F, pR, pZ, G⟩ := p
        obtain ⟨⟨u1, hF, hFo⟩, u2, u3, u4, u5, u6, hG, hGo⟩ := hp
        dsimp only at u1 hF hFo u2 u3 u4 u5 u6 hG hGo
        have hGl : G.length = Z.length := by rw [← hG]; simp
        have hFl : F.length = X.length := by rw [← hF]; simp
        obtain ⟨gc, w1, w2, w3, w4, w5⟩ := fam_at hG hGo hsl
        have hq3 : tot (Z.set s.toNat []) ≤ 4294967296 := by omega
        refine ⟨by omega, by omega, by omega, by omega, ?_⟩
        obtain ⟨Rn, hRn⟩ : ∃ Rn, Rn = refs (Z.set s.toNat []).flatten := ⟨_, rfl⟩
        have hRnl : Rn.length = 12 := by rw [hRn, refs_length]
        rw [← hRn]
        simp only [↓WP, ↓grdD, ↓grdT, ↓un_dead, ↓binVC, ↓buildVC, ↓sliceVC, WQ, WN, Int.reduceToNat, renl, cll, rent, clt, ↓reduceIte, Nat.reduceLeDiff, Nat.reduceEqDiff, Nat.reduceLT, reduceCtorEq, List.append_nil, Nat.reduceAdd, Nat.reduceSub, Nat.reduceBEq, forall_const, implies_true, cond_true, cond_false, AV.ren, AC.ren, AV.cl, AC.cl, eq_self, List.all_cons, List.all_nil, AV.eqv, AC.eqv, eqvl, eqvt, Sl.eqv, List.map_append, List.length_map, List.length_append, List.length_replicate, List.length_set, List.map_replicate, nilVC, zr_25, sz_25, fs_25, fl_25_2, sz_22, el_22, sz_23, sd_23, fl_25_1, el_23, sz_3, fl_25_0, zr_3, c_impl_CowOk, c_impl_cloneCow, c_impl_isSpace, c_impl_cowRefs, Row2Ok_set 5 6 .nil G hGo s.toNat 0 [] (Nat.zero_le _) (Nat.le_refl _), row2_set 5 6 .nil G hGo s.toNat 0 [] (Nat.zero_le _) (Nat.le_refl _), setAt_rows, hG, hGl, hq3, or_true, true_or, ← hRn]
        refine ⟨q1, ?_⟩
        refine loopI (J := {q : Nat × List (Nat × List Int) // q.1 ≤ 12 ∧ q.2.map (·.2) = clrTo Rn X q.1 ∧ famOk q.2}) (fun q => ⟨slots 53 [(4, .c (.ptr ⟨.loc 1, 0, 0, 0⟩)), (6, .c (.ptr ⟨.loc 7, 0, 0, 0⟩)), (37, .c (.sl ⟨.loc 4, 0, 0, 0⟩ 12 12)), (38, I 12), (39, I q.1.1)], M, [], [.box 25 [.sl a1.up X.length c1, .sl a2.up R.length c2, .sl a3.up Z.length c3], .box 25 [.sl ⟨.nil, 0, 0, 0⟩ 0 0, .sl ⟨.nil, 0, 0, 0⟩ 0 0, .sl ⟨.nil, 0, 0, 0⟩ 0 0], .rows true 23 1 [(pF, nestC (.loc 3) q.1.2)], .rows true 3 1 (mems q.1.2), .rows true 3 1 [(12, List.map enc Rn)], .rows true 23 1 [(pZ, nestC (.loc 6) (G.set s.toNat (0, [])))], .rows true 3 1 (mems (G.set s.toNat (0, []))), .box 25 [.sl ⟨.loc 2, 0, 0, 0⟩ X.length pF, .sl ⟨.loc 4, 0, 0, 0⟩ 12 12, .sl ⟨.loc 5, 0, 0, 0⟩ Z.length pZ]]⟩) (fun q => 12 - q.1.1) ⟨(0, F), by omega, by rw [clrTo_zero l1]; exact hF, hFo⟩
          (Le.trans (Le_gh _ [(3, 1)]) (Le.trans (Le_eqv (j := 5) true 23 1 ((nestC (.loc 6) G).set s.toNat [.sl ⟨.loc 9, 0, 0, 0⟩ 0 0]) rfl (eqvL_set ⟨⟨rfl, rfl, .inl rfl⟩, trivial⟩)) (Le.trans (Le_swap (j := 6) (j2 := 9) (i0 := s.toNat) true 3 1 (mems G) (by decide) rfl rfl (by rw [mems_len]; exact w4)) (Le_intro [0, 1, 2, 3, 8, 5, 6, 7] ?_)))) ?_
        · simp only [WL, WNL, swA_new, swA_ne, nest_sw_ne, mapLL, List.mem_cons, Nat.reduceAdd, Nat.reduceLT, Nat.reduceLeDiff, Nat.reduceEqDiff, okU, List.nodup_cons, List.not_mem_nil, toT, toL, toO, keysO, renl, rent, cll, clt, eq_self, AV.eqv, AC.eqv, eqvl, eqvt, Sl.eqv, rowsLe, mapLL, rowsCl, List.map_append, List.length_map, List.length_append, List.length_set, List.map_replicate, rowG, List.getElem?_cons_zero, List.getElem?_cons_succ, List.getElem?_nil, List.append_nil, List.nil_append, List.cons_append, ghosts, St.gh, Option.some.injEq, implies_true, setT, AV.ren, AC.ren, AV.cl, AC.cl, List.replicate_succ, List.replicate_zero, List.nodup_nil, List.length_nil, List.length_cons, List.getD_cons_zero, List.getD_cons_succ, ↓reduceIte, nest_sw_set (j := 6) (j2 := 9) (F := G) (i0 := s.toNat) (l := 0) (c := 0) (X := []) (by decide) rfl, nest_sw_ne (j := 6) (j2 := 9) (q := 3) (by decide) (by decide)]
          have hm0 : (mems G).set s.toNat (0, []) = mems (G.set s.toNat (0, [])) := mems_set (X := [])
          simp [hm0, mems_sw, rowsLe_self]
        · rintro ⟨⟨i, F2⟩, hi, hF2, hFo2⟩
          dsimp only at hi hF2 hFo2
          have hw := wS (i := i) (by omega)
          rcases Nat.lt_or_ge i 12 with hlt | hge
          · have hd : decide ((i : Int) < 12) = true := by simp only [decide_eq_true_iff]; omega
            have hgR : (List.map enc Rn).getD i [] = enc (Rn.getD i default) := getD_enc _ _ (by omega)
            have hF2l : F2.length = 12 := by have := congrArg List.length hF2; simpa [clrTo_len] using this
            have he4 : [[AC.int .i64 0], [AC.int .i64 0], [AC.int .i64 0], [AC.int .i64 0]] = List.map enc zr4 := rfl
            by_cases hz : Rn.getD i default = 0
            · simp only [↓WP, ↓grdD, ↓grdT, ↓un_dead, ↓binVC, ↓buildVC, ↓sliceVC, WQ, WN, Int.reduceToNat, renl, cll, rent, clt, ↓reduceIte, Nat.reduceLeDiff, Nat.reduceEqDiff, Nat.reduceLT, reduceCtorEq, List.append_nil, Nat.reduceAdd, Nat.reduceSub, Nat.reduceBEq, forall_const, implies_true, cond_true, cond_false, AV.ren, AC.ren, AV.cl, AC.cl, eq_self, List.all_cons, List.all_nil, AV.eqv, AC.eqv, eqvl, eqvt, Sl.eqv, List.map_append, List.length_map, List.length_append, List.length_replicate, List.length_set, List.map_replicate, nilVC, zr_25, sz_25, fs_25, fl_25_2, sz_22, el_22, sz_23, sd_23, fl_25_1, el_23, sz_3, fl_25_0, zr_3, c_impl_CowOk, c_impl_cloneCow, c_impl_isSpace, c_impl_cowRefs, hd, hw, hgR, decide_eq_true hz, hRnl, he4]
              repeat' (first | with_reducible refine And.intro ?_ ?_ | intro _)
              all_goals try omega
              all_goals try rfl
              all_goals
                refine ⟨⟨(i + 1, F2.set i (4, zr4)), hlt, by rw [snd_set hF2]; exact clrTo_hit hlt hz, famOk_set hFo2 (by rw [zr4_len]; omega) (by rw [zr4_len]; omega)⟩, Le.trans (Le_swap (j := 3) (j2 := 8) (i0 := i) true 3 1 (mems F2) (by decide) rfl rfl (by rw [mems_len]; omega)) (Le_intro [0, 1, 2, 3, 4, 5, 6, 7] ?_), by show 12 - (i + 1) < 12 - i; omega⟩
                simp only [WL, WNL, swA_new, swA_ne, nest_sw_ne, mapLL, List.mem_cons, Nat.reduceAdd, Nat.reduceLT, Nat.reduceLeDiff, Nat.reduceEqDiff, okU, List.nodup_cons, List.not_mem_nil, toT, toL, toO, keysO, renl, rent, cll, clt, eq_self, AV.eqv, AC.eqv, eqvl, eqvt, Sl.eqv, rowsLe, mapLL, rowsCl, List.map_append, List.length_map, List.length_append, List.length_set, List.map_replicate, rowG, List.getElem?_cons_zero, List.getElem?_cons_succ, List.getElem?_nil, List.append_nil, List.nil_append, List.cons_append, ghosts, St.gh, Option.some.injEq, implies_true, setT, AV.ren, AC.ren, AV.cl, AC.cl, List.replicate_succ, List.replicate_zero, List.nodup_nil, List.length_nil, List.length_cons, List.getD_cons_zero, List.getD_cons_succ, ↓reduceIte, nest_sw_set (j := 3) (j2 := 8) (l := 4) (X := zr4) (by decide) rfl, nest_sw_ne (j := 3) (j2 := 8) (q := 6) (by decide) (by decide)]
                try simp [rowsLe_self]
            · simp only [↓WP, ↓grdD, ↓grdT, ↓un_dead, ↓binVC, ↓buildVC, ↓sliceVC, WQ, WN, Int.reduceToNat, renl, cll, rent, clt, ↓reduceIte, Nat.reduceLeDiff, Nat.reduceEqDiff, Nat.reduceLT, reduceCtorEq, List.append_nil, Nat.reduceAdd, Nat.reduceSub, Nat.reduceBEq, forall_const, implies_true, cond_true, cond_false, AV.ren, AC.ren, AV.cl, AC.cl, eq_self, List.all_cons, List.all_nil, AV.eqv, AC.eqv, eqvl, eqvt, Sl.eqv, List.map_append, List.length_map, List.length_append, List.length_replicate, List.length_set, List.map_replicate, nilVC, zr_25, sz_25, fs_25, fl_25_2, sz_22, el_22, sz_23, sd_23, fl_25_1, el_23, sz_3, fl_25_0, zr_3, c_impl_CowOk, c_impl_cloneCow, c_impl_isSpace, c_impl_cowRefs, hd, hw, hgR, decide_eq_false hz, hRnl]
              repeat refine ⟨by omega, ?_⟩
              exact ⟨⟨(i + 1, F2), hlt, by rw [hF2]; exact clrTo_miss hz, hFo2⟩, Le_intro [0, 1, 2, 3, 4, 5, 6, 7] (by simp only [WL, WNL, swA_new, swA_ne, nest_sw_ne, mapLL, List.mem_cons, Nat.reduceAdd, Nat.reduceLT, Nat.reduceLeDiff, Nat.reduceEqDiff, okU, List.nodup_cons, List.not_mem_nil, toT, toL, toO, keysO, renl, rent, cll, clt, eq_self, AV.eqv, AC.eqv, eqvl, eqvt, Sl.eqv, rowsLe, mapLL, rowsCl, List.map_append, List.length_map, List.length_append, List.length_set, List.map_replicate, rowG, List.getElem?_cons_zero, List.getElem?_cons_succ, List.getElem?_nil, List.append_nil, List.nil_append, List.cons_append, ghosts, St.gh, Option.some.injEq, implies_true, setT, AV.ren, AC.ren, AV.cl, AC.cl, List.replicate_succ, List.replicate_zero, List.nodup_nil, List.length_nil, List.length_cons, List.getD_cons_zero, List.getD_cons_succ, ↓reduceIte]; try simp [rowsLe_self]), by show 12 - (i + 1) < 12 - i; omega⟩
          · obtain rfl : i = 12 := by omega
            have hd : decide (((12 : Nat) : Int) < 12) = false := by decide
            rw [clrTo_all] at hF2
            simp only [↓WP, ↓grdD, ↓grdT, ↓un_dead, ↓binVC, ↓buildVC, ↓sliceVC, WQ, WN, Int.reduceToNat, renl, cll, rent, clt, ↓reduceIte, Nat.reduceLeDiff, Nat.reduceEqDiff, Nat.reduceLT, reduceCtorEq, List.append_nil, Nat.reduceAdd, Nat.reduceSub, Nat.reduceBEq, forall_const, implies_true, cond_true, cond_false, AV.ren, AC.ren, AV.cl, AC.cl, eq_self, List.all_cons, List.all_nil, AV.eqv, AC.eqv, eqvl, eqvt, Sl.eqv, List.map_append, List.length_map, List.length_append, List.length_replicate, List.length_set, List.map_replicate, nilVC, zr_25, sz_25, fs_25, fl_25_2, sz_22, el_22, sz_23, sd_23, fl_25_1, el_23, sz_3, fl_25_0, zr_3, c_impl_CowOk, c_impl_cloneCow, c_impl_isSpace, c_impl_cowRefs, hd, hw]
            refine endX_ret ?_
            simp only [↓WP, ↓grdD, ↓grdT, ↓un_dead, ↓binVC, ↓buildVC, ↓sliceVC, WQ, WN, Int.reduceToNat, renl, cll, rent, clt, ↓reduceIte, Nat.reduceLeDiff, Nat.reduceEqDiff, Nat.reduceLT, reduceCtorEq, List.append_nil, Nat.reduceAdd, Nat.reduceSub, Nat.reduceBEq, forall_const, implies_true, cond_true, cond_false, AV.ren, AC.ren, AV.cl, AC.cl, eq_self, List.all_cons, List.all_nil, AV.eqv, AC.eqv, eqvl, eqvt, Sl.eqv, List.map_append, List.length_map, List.length_append, List.length_replicate, List.length_set, List.map_replicate, nilVC, zr_25, sz_25, fs_25, fl_25_2, sz_22, el_22, sz_23, sd_23, fl_25_1, el_23, sz_3, fl_25_0, zr_3, c_impl_CowOk, c_impl_cloneCow, c_impl_isSpace, c_impl_cowRefs]
            refine ⟨_, _, LeV.refl _ _, (pF, F2, 12, pZ, G.set s.toNat (0, [])), [], [2, 3, 4, 5, 6], ?_⟩
            simp only [WL, WNL, swA_new, swA_ne, nest_sw_ne, mapLL, List.mem_cons, Nat.reduceAdd, Nat.reduceLT, Nat.reduceLeDiff, Nat.reduceEqDiff, okU, List.nodup_cons, List.not_mem_nil, toT, toL, toO, keysO, renl, rent, cll, clt, eq_self, AV.eqv, AC.eqv, eqvl, eqvt, Sl.eqv, rowsLe, mapLL, rowsCl, List.map_append, List.length_map, List.length_append, List.length_set, List.map_replicate, rowG, List.getElem?_cons_zero, List.getElem?_cons_succ, List.getElem?_nil, List.append_nil, List.nil_append, List.cons_append, ghosts, St.gh, Option.some.injEq, implies_true, setT, AV.ren, AC.ren, AV.cl, AC.cl, List.replicate_succ, List.replicate_zero, List.nodup_nil, List.length_nil, List.length_cons, List.getD_cons_zero, List.getD_cons_succ, ↓reduceIte, retP]
            simp [CowC, u1, show 12 ≤ pF by omega, hF2, hFo2, clr_len, l1, hRnl, u3, u5, u6, snd_set hG, famOk_set hGo (c := 0) (Y := []) (i := s.toNat) (Nat.zero_le _) (Nat.le_refl _), rowsLe_self]
      · have hO : freeO X R Z s = ((X, R, Z), false) := by rw [freeO, if_pos hok, if_neg fun h => hmay h.2]
        have hcd : decide (((Z.getD s.toNat default).length : Int) = 0) = true := by simp only [decide_eq_true_iff]; omega
        rw [hO]
        simp only [↓WP, ↓grdD, ↓grdT, ↓un_dead, ↓binVC, ↓buildVC, ↓sliceVC, WQ, WN, Int.reduceToNat, renl, cll, rent, clt, ↓reduceIte, Nat.reduceLeDiff, Nat.reduceEqDiff, Nat.reduceLT, reduceCtorEq, List.append_nil, Nat.reduceAdd, Nat.reduceSub, Nat.reduceBEq, forall_const, implies_true, cond_true, cond_false, AV.ren, AC.ren, AV.cl, AC.cl, eq_self, List.all_cons, List.all_nil, AV.eqv, AC.eqv, eqvl, eqvt, Sl.eqv, List.map_append, List.length_map, List.length_append, List.length_replicate, List.length_set, List.map_replicate, nilVC, zr_25, sz_25, fs_25, fl_25_2, sz_22, el_22, sz_23, sd_23, fl_25_1, el_23, sz_3, fl_25_0, zr_3, c_impl_CowOk, c_impl_cloneCow, c_impl_isSpace, c_impl_cowRefs, Row2Ok_upE h1, row2_upE h1, hX, Row2Ok_upE h3, row2_upE h3, hZ, hR, decide_eq_true hok, decide_eq_true hs, hM3, hf3, g1, hcd]
        refine ⟨h2, ⟨h2, hc2⟩, fun p hp => ?_⟩
        obtain ⟨pF, F, pR, pZ, G⟩ := p
        obtain ⟨⟨u1, hF, hFo⟩, u2, u3, u4, u5, u6, hG, hGo⟩ := hp
        dsimp only at u1 hF hFo u2 u3 u4 u5 u6 hG hGo
        have hGl : G.length = Z.length := by rw [← hG]; simp
        have hFl : F.length = X.length := by rw [← hF]; simp
        repeat' (first | with_reducible refine And.intro ?_ ?_ | intro _)
        all_goals try omega
        refine endX_ret ?_
        simp only [↓WP, ↓grdD, ↓grdT, ↓un_dead, ↓binVC, ↓buildVC, ↓sliceVC, WQ, WN, Int.reduceToNat, renl, cll, rent, clt, ↓reduceIte, Nat.reduceLeDiff, Nat.reduceEqDiff, Nat.reduceLT, reduceCtorEq, List.append_nil, Nat.reduceAdd, Nat.reduceSub, Nat.reduceBEq, forall_const, implies_true, cond_true, cond_false, AV.ren, AC.ren, AV.cl, AC.cl, eq_self, List.all_cons, List.all_nil, AV.eqv, AC.eqv, eqvl, eqvt, Sl.eqv, List.map_append, List.length_map, List.length_append, List.length_replicate, List.length_set, List.map_replicate, nilVC, zr_25, sz_25, fs_25, fl_25_2, sz_22, el_22, sz_23, sd_23, fl_25_1, el_23, sz_3, fl_25_0, zr_3, c_impl_CowOk, c_impl_cloneCow, c_impl_isSpace, c_impl_cowRefs]
        refine ⟨_, _, LeV.refl _ _, (pF, F, pR, pZ, G), [], [2, 3, 4, 5, 6], ?_⟩
        simp only [WL, WNL, swA_new, swA_ne, nest_sw_ne, mapLL, List.mem_cons, Nat.reduceAdd, Nat.reduceLT, Nat.reduceLeDiff, Nat.reduceEqDiff, okU, List.nodup_cons, List.not_mem_nil, toT, toL, toO, keysO, renl, rent, cll, clt, eq_self, AV.eqv, AC.eqv, eqvl, eqvt, Sl.eqv, rowsLe, mapLL, rowsCl, List.map_append, List.length_map, List.length_append, List.length_set, List.map_replicate, rowG, List.getElem?_cons_zero, List.getElem?_cons_succ, List.getElem?_nil, List.append_nil, List.nil_append, List.cons_append, ghosts, St.gh, Option.some.injEq, implies_true, setT, AV.ren, AC.ren, AV.cl, AC.cl, List.replicate_succ, List.replicate_zero, List.nodup_nil, List.length_nil, List.length_cons, List.getD_cons_zero, List.getD_cons_succ, ↓reduceIte, retP]
        simp [CowC, u1, hF, hFo, u2, u3, u4, u5, u6, hG, hGo, rowsLe_self]
    · have hO : freeO X R Z s = ((X, R, Z), false) := by rw [freeO, if_pos hok, if_neg fun h => hs h.1]
      obtain ⟨x, hx⟩ : ∃ x, (List.map AC.up (get3 a3.i (a3.k + s.toNat))).getD 0 dfl = x := ⟨_, rfl⟩
      rw [hO]
      simp only [↓WP, ↓grdD, ↓grdT, ↓un_dead, ↓binVC, ↓buildVC, ↓sliceVC, WQ, WN, Int.reduceToNat, renl, cll, rent, clt, ↓reduceIte, Nat.reduceLeDiff, Nat.reduceEqDiff, Nat.reduceLT, reduceCtorEq, List.append_nil, Nat.reduceAdd, Nat.reduceSub, Nat.reduceBEq, forall_const, implies_true, cond_true, cond_false, AV.ren, AC.ren, AV.cl, AC.cl, eq_self, List.all_cons, List.all_nil, AV.eqv, AC.eqv, eqvl, eqvt, Sl.eqv, List.map_append, List.length_map, List.length_append, List.length_replicate, List.length_set, List.map_replicate, nilVC, zr_25, sz_25, fs_25, fl_25_2, sz_22, el_22, sz_23, sd_23, fl_25_1, el_23, sz_3, fl_25_0, zr_3, c_impl_CowOk, c_impl_cloneCow, c_impl_isSpace, c_impl_cowRefs, Row2Ok_upE h1, row2_upE h1, hX, Row2Ok_upE h3, row2_upE h3, hZ, hR, decide_eq_true hok, decide_eq_false hs, hM3, hf3, hx]
      refine ⟨h2, ⟨h2, hc2⟩, fun p hp => ?_⟩
      obtain ⟨pF, F, pR, pZ, G⟩ := p
      obtain ⟨⟨u1, hF, hFo⟩, u2, u3, u4, u5, u6, hG, hGo⟩ := hp
      dsimp only at u1 hF hFo u2 u3 u4 u5 u6 hG hGo
      have hGl : G.length = Z.length := by rw [← hG]; simp
      have hFl : F.length = X.length := by rw [← hF]; simp
      refine len_dead sd_23 fun n => ?_
      simp only [↓WP, ↓grdD, ↓grdT, ↓un_dead, ↓binVC, ↓buildVC, ↓sliceVC, WQ, WN, Int.reduceToNat, renl, cll, rent, clt, ↓reduceIte, Nat.reduceLeDiff, Nat.reduceEqDiff, Nat.reduceLT, reduceCtorEq, List.append_nil, Nat.reduceAdd, Nat.reduceSub, Nat.reduceBEq, forall_const, implies_true, cond_true, cond_false, AV.ren, AC.ren, AV.cl, AC.cl, eq_self, List.all_cons, List.all_nil, AV.eqv, AC.eqv, eqvl, eqvt, Sl.eqv, List.map_append, List.length_map, List.length_append, List.length_replicate, List.length_set, List.map_replicate, nilVC, zr_25, sz_25, fs_25, fl_25_2, sz_22, el_22, sz_23, sd_23, fl_25_1, el_23, sz_3, fl_25_0, zr_3, c_impl_CowOk, c_impl_cloneCow, c_impl_isSpace, c_impl_cowRefs]
      refine endX_ret ?_
      simp only [↓WP, ↓grdD, ↓grdT, ↓un_dead, ↓binVC, ↓buildVC, ↓sliceVC, WQ, WN, Int.reduceToNat, renl, cll, rent, clt, ↓reduceIte, Nat.reduceLeDiff, Nat.reduceEqDiff, Nat.reduceLT, reduceCtorEq, List.append_nil, Nat.reduceAdd, Nat.reduceSub, Nat.reduceBEq, forall_const, implies_true, cond_true, cond_false, AV.ren, AC.ren, AV.cl, AC.cl, eq_self, List.all_cons, List.all_nil, AV.eqv, AC.eqv, eqvl, eqvt, Sl.eqv, List.map_append, List.length_map, List.length_append, List.length_replicate, List.length_set, List.map_replicate, nilVC, zr_25, sz_25, fs_25, fl_25_2, sz_22, el_22, sz_23, sd_23, fl_25_1, el_23, sz_3, fl_25_0, zr_3, c_impl_CowOk, c_impl_cloneCow, c_impl_isSpace, c_impl_cowRefs]
      refine ⟨_, _, LeV.refl _ _, (pF, F, pR, pZ, G), [], [2, 3, 4, 5, 6], ?_⟩
      simp only [WL, WNL, swA_new, swA_ne, nest_sw_ne, mapLL, List.mem_cons, Nat.reduceAdd, Nat.reduceLT, Nat.reduceLeDiff, Nat.reduceEqDiff, okU, List.nodup_cons, List.not_mem_nil, toT, toL, toO, keysO, renl, rent, cll, clt, eq_self, AV.eqv, AC.eqv, eqvl, eqvt, Sl.eqv, rowsLe, mapLL, rowsCl, List.map_append, List.length_map, List.length_append, List.length_set, List.map_replicate, rowG, List.getElem?_cons_zero, List.getElem?_cons_succ, List.getElem?_nil, List.append_nil, List.nil_append, List.cons_append, ghosts, St.gh, Option.some.injEq, implies_true, setT, AV.ren, AC.ren, AV.cl, AC.cl, List.replicate_succ, List.replicate_zero, List.nodup_nil, List.length_nil, List.length_cons, List.getD_cons_zero, List.getD_cons_succ, ↓reduceIte, retP]
      simp [CowC, u1, hF, hFo, u2, u3, u4, u5, u6, hG, hGo, rowsLe_self]
  · have hO : freeO X R Z s = (([], [], []), false) := if_neg hok
    rw [hO]
    simp only [↓WP, ↓grdD, ↓grdT, ↓un_dead, ↓binVC, ↓buildVC, ↓sliceVC, WQ, WN, Int.reduceToNat, renl, cll, rent, clt, ↓reduceIte, Nat.reduceLeDiff, Nat.reduceEqDiff, Nat.reduceLT, reduceCtorEq, List.append_nil, Nat.reduceAdd, Nat.reduceSub, Nat.reduceBEq, forall_const, implies_true, cond_true, cond_false, AV.ren, AC.ren, AV.cl, AC.cl, eq_self, List.all_cons, List.all_nil, AV.eqv, AC.eqv, eqvl, eqvt, Sl.eqv, List.map_append, List.length_map, List.length_append, List.length_replicate, List.length_set, List.map_replicate, nilVC, zr_25, sz_25, fs_25, fl_25_2, sz_22, el_22, sz_23, sd_23, fl_25_1, el_23, sz_3, fl_25_0, zr_3, c_impl_CowOk, c_impl_cloneCow, c_impl_isSpace, c_impl_cowRefs, Row2Ok_upE h1, row2_upE h1, hX, Row2Ok_upE h3, row2_upE h3, hZ, hR, decide_eq_false hok]
    refine ⟨h2, endX_ret ?_⟩
    simp only [↓WP, ↓grdD, ↓grdT, ↓un_dead, ↓binVC, ↓buildVC, ↓sliceVC, WQ, WN, Int.reduceToNat, renl, cll, rent, clt, ↓reduceIte, Nat.reduceLeDiff, Nat.reduceEqDiff, Nat.reduceLT, reduceCtorEq, List.append_nil, Nat.reduceAdd, Nat.reduceSub, Nat.reduceBEq, forall_const, implies_true, cond_true, cond_false, AV.ren, AC.ren, AV.cl, AC.cl, eq_self, List.all_cons, List.all_nil, AV.eqv, AC.eqv, eqvl, eqvt, Sl.eqv, List.map_append, List.length_map, List.length_append, List.length_replicate, List.length_set, List.map_replicate, nilVC, zr_25, sz_25, fs_25, fl_25_2, sz_22, el_22, sz_23, sd_23, fl_25_1, el_23, sz_3, fl_25_0, zr_3, c_impl_CowOk, c_impl_cloneCow, c_impl_isSpace, c_impl_cowRefs]
    refine ⟨_, _, LeV.refl _ _, (0, [], 0, 0, []), [(23, 1), (3, 1), (3, 1), (23, 1), (3, 1)], [2, 3, 4, 5, 6], ?_⟩
    simp only [WL, WNL, swA_new, swA_ne, nest_sw_ne, mapLL, List.mem_cons, Nat.reduceAdd, Nat.reduceLT, Nat.reduceLeDiff, Nat.reduceEqDiff, okU, List.nodup_cons, List.not_mem_nil, toT, toL, toO, keysO, renl, rent, cll, clt, eq_self, AV.eqv, AC.eqv, eqvl, eqvt, Sl.eqv, rowsLe, mapLL, rowsCl, List.map_append, List.length_map, List.length_append, List.length_set, List.map_replicate, rowG, List.getElem?_cons_zero, List.getElem?_cons_succ, List.getElem?_nil, List.append_nil, List.nil_append, List.cons_append, ghosts, St.gh, Option.some.injEq, implies_true, setT, AV.ren, AC.ren, AV.cl, AC.cl, List.replicate_succ, List.replicate_zero, List.nodup_nil, List.length_nil, List.length_cons, List.getD_cons_zero, List.getD_cons_succ, ↓reduceIte, retP, nest_nil, mems_nil]
    simp [CowC, famOk]
end Go.Eng.T
