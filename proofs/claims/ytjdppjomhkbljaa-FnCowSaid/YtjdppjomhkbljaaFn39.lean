/- cow: the law FnCow, an act that frees. -/
import Derived.Test.YtjdppjomhkbljaaFn35
set_option linter.unusedVariables false
set_option linter.unusedSimpArgs false
set_option linter.unusedSectionVars false
namespace Go.Eng.T
open Go.Proofs
open Cel (enc dec)
open Cel (enc dec)
set_option maxRecDepth 100000
set_option maxHeartbeats 8000000
theorem cow_free {Q : Exit → St → Prop} {c : Code} (hc : (loopsOf (Try.f11.body.getD .skip)).getD 0 .skip = c) {M : RId → Option Rg} {a : AA} {n ca : Nat} {L : List UInt8} (hL : L = row UInt8 a n (M a.r)) (ha : RowOk UInt8 a n (M a.r)) {i : Nat} (hlt : i < 70) {X : List (List Int)} {R : List Int} {Z : List (List Int)} {pF : Nat} {F : List (Nat × List Int)} {pR pZ : Nat} {G H : List (Nat × List Int)}
    (hok : cowOk X R Z) (hCC : CowC X R Z (pF, F, pR, pZ, G)) (hrel : relW X Z (H.map (·.2))) (hHo : famOk H) {m : Nat} (hm : (atO L ((i + 3 : Nat) : Int)).tmod 9 = m) (hmc : m = 8)
    (hQ : ∀ S' X' R' Z' pF' F' pR' pZ' G' H', cowOk X' R' Z' → CowC X' R' Z' (pF', F', pR', pZ', G') → relW X' Z' (H'.map (·.2)) → famOk H' → Le S' ⟨slots 195 [(0, .c (.sl a.up n ca)), (3, .c (.ptr ⟨.loc 5, 0, 0, 0⟩)), (4, .c (.sl ⟨.loc 6, 0, 0, 0⟩ 4 4)), (5, I (i + 1 : Nat))], M, [], [.rows true 23 1 [(pF', nestC (.loc 1) F')], .rows true 3 1 (mems F'), rowG true 3 pR' R', .rows true 23 1 [(pZ', nestC (.loc 4) G')], .rows true 3 1 (mems G'), .box 25 [.sl ⟨.loc 0, 0, 0, 0⟩ X'.length pF', .sl ⟨.loc 2, 0, 0, 0⟩ R'.length pR', .sl ⟨.loc 3, 0, 0, 0⟩ Z'.length pZ'], .rows true 23 1 [(4, nestC (.loc 7) H')], .rows true 3 1 (mems H')]⟩ → Q .normal S') :
    vc Try.prog [c_laws_big, c_impl_CowNew, c_laws_at, c_impl_CowGrow, c_impl_CowWrite, c_impl_CowUsed, c_impl_CowFork, c_impl_CowFree, c_spec_CowOk, c_impl_CowOk, c_impl_CowRead] (fun _ => .nil) c Q ⟨slots 195 [(0, .c (.sl a.up n ca)), (3, .c (.ptr ⟨.loc 5, 0, 0, 0⟩)), (4, .c (.sl ⟨.loc 6, 0, 0, 0⟩ 4 4)), (5, I i)], M, [], [.rows true 23 1 [(pF, nestC (.loc 1) F)], .rows true 3 1 (mems F), rowG true 3 pR R, .rows true 23 1 [(pZ, nestC (.loc 4) G)], .rows true 3 1 (mems G), .box 25 [.sl ⟨.loc 0, 0, 0, 0⟩ X.length pF, .sl ⟨.loc 2, 0, 0, 0⟩ R.length pR, .sl ⟨.loc 3, 0, 0, 0⟩ Z.length pZ], .rows true 23 1 [(4, nestC (.loc 7) H)], .rows true 3 1 (mems H)]⟩ := by
  subst hc
  conv => arg 4; whnf
  obtain ⟨⟨u1, hF, hFo⟩, u2, u3, u4, u5, u6, hG, hGo⟩ := hCC
  dsimp only at u1 hF hFo u2 u3 u4 u5 u6 hG hGo
  have hFl : F.length = X.length := by rw [← hF]; simp
  have hGl : G.length = Z.length := by rw [← hG]; simp
  obtain ⟨⟨l1, l2, l3⟩, k1, k2, k3⟩ := id hok
  obtain ⟨W, hW⟩ : ∃ W, H.map (·.2) = W := ⟨_, rfl⟩
  rw [hW] at hrel
  have hWl := hrel.1
  have hHl : H.length = 4 := by rw [← hWl, ← hW]; simp
  have hw := wS (i := i) (by omega)
  have hid : decide ((i : Int) < 70) = true := decide_eq_true (by omega)
  obtain ⟨s, hs', hs4⟩ : ∃ b : Nat, (atO L (i : Int)).tmod 4 = b ∧ b < 4 := by
    have := atO_mod L (i := (i : Int)) (k := 4) (by omega) (by omega)
    exact ⟨((atO L (i : Int)).tmod 4).toNat, by omega, by omega⟩
  obtain ⟨ad, had, had16⟩ : ∃ b : Nat, (atO L ((i + 1 : Nat) : Int)).tmod 16 = b ∧ b < 16 := by
    have := atO_mod L (i := ((i + 1 : Nat) : Int)) (k := 16) (by omega) (by omega)
    exact ⟨((atO L ((i + 1 : Nat) : Int)).tmod 16).toNat, by omega, by omega⟩
  obtain ⟨v, hv⟩ : ∃ v, atO L ((i + 2 : Nat) : Int) = v := ⟨_, rfl⟩
  have w2 : IntKind.i64.wrap ((i : Int) + 2) = ((i + 2 : Nat) : Int) := by rw [w64 (by omega) (by omega)]; omega
  have w3 : IntKind.i64.wrap ((i : Int) + 3) = ((i + 3 : Nat) : Int) := by rw [w64 (by omega) (by omega)]; omega
  have hsW : s < W.length := by omega
  obtain ⟨wc, z1, z2, z3, z4, z5⟩ := fam_at hW hHo hsW
  have hWs : (W.getD s default).length ≤ 16 := by
    have e1 := (hrel.2 s hs4).1
    have e2 := (k1 s hs4).1
    omega
  obtain ⟨bb, hbb, hbb4⟩ : ∃ b : Nat, ((ad : Nat) : Int).tmod 4 = b ∧ b < 4 := by
    have := Int.emod_nonneg (ad : Int) (b := 4) (by omega)
    have := Int.emod_lt_of_pos (ad : Int) (b := 4) (by omega)
    rw [Int.tmod_eq_emod_of_nonneg (by omega)]
    exact ⟨((ad : Int) % 4).toNat, by omega, by omega⟩
  have c1 := hmc
  have c2 : m = 8 := c1
  have E0 : decide ((m : Int) = 0) = false := decide_eq_false (by omega)
  have E1 : decide ((m : Int) = 1) = false := decide_eq_false (by omega)
  have E2 : decide ((m : Int) = 2) = false := decide_eq_false (by omega)
  have E3 : decide ((m : Int) = 3) = false := decide_eq_false (by omega)
  have E4 : decide ((m : Int) = 4) = false := decide_eq_false (by omega)
  have E5 : decide ((m : Int) = 5) = false := decide_eq_false (by omega)
  have E6 : decide ((m : Int) = 6) = false := decide_eq_false (by omega)
  have E7 : decide ((m : Int) = 7) = false := decide_eq_false (by omega)
  obtain ⟨O, hO⟩ : ∃ O, O = freeO X R Z (s : Int) := ⟨_, rfl⟩
  have hok' := free_ok hok (s : Int)
  have hrg := fun h => rel_free hok hrel (s := (s : Int)) h
  have hrn := fun h => free_no hok (s := (s : Int)) h
  rw [← hO] at hok' hrg hrn
  obtain ⟨⟨A, B, C⟩, is⟩ := O
  dsimp only at hok' hrg hrn
  have hBl' : B.length = 12 := hok'.1.2.1
  obtain ⟨Y, hY⟩ : ∃ Y, Y = ([] : List Int) := ⟨_, rfl⟩
  cases is
  all_goals simp (config := { maxSteps := 1000000 }) only [↓WP, ↓grdD, ↓grdT, ↓un_dead, ↓binVC, ↓buildVC, ↓sliceVC, WQ, WN, Int.reduceToNat, renl, cll, rent, clt, ↓reduceIte, Nat.reduceLeDiff, Nat.reduceEqDiff, Nat.reduceLT, reduceCtorEq, List.append_nil, Nat.reduceAdd, Nat.reduceSub, Nat.reduceBEq, forall_const, implies_true, cond_true, cond_false, AV.ren, AC.ren, AV.cl, AC.cl, eq_self, List.all_cons, List.all_nil, AV.eqv, AC.eqv, eqvl, eqvt, Sl.eqv, List.map_append, List.length_map, List.length_append, List.length_replicate, List.length_set, List.map_replicate, nilVC, zr_25, sz_25, el_22, zr_23, el_23, zr_3, sz_23, id_3, sz_3, sd_23, bt_4, c_laws_big, c_impl_CowNew, c_laws_at, c_impl_CowGrow, c_impl_CowWrite, c_impl_CowUsed, c_impl_CowFork, c_impl_CowFree, c_spec_CowOk, c_impl_CowOk, c_impl_CowRead, hid, ha, ← hL, hs', had, hv, hm, hw, w2, w3, row2_fam 0 1 F hFo, Row2Ok_fam 0 1 F hFo, row2_fam 3 4 G hGo, Row2Ok_fam 3 4 G hGo, hF, hG, hFl, hGl, l2, hbb, ← hO, E0, E1, E2, E3, E4, E5, E6, E7]
  all_goals repeat' (refine And.intro (by first | omega | decide | exact .inr trivial | exact .inl trivial | exact ⟨by omega, by omega⟩ | exact ⟨.inr trivial, by omega⟩ | exact ⟨⟨by omega, .inr trivial⟩, by omega⟩ | exact ⟨by omega, .inr trivial⟩) ?_)
  all_goals
    rintro ⟨pF', F', pR', pZ', G'⟩ ⟨⟨y1, hF', hFo'⟩, y2, y3, y4, y5, y6, hG', hGo'⟩
    dsimp only at y1 hF' hFo' y2 y3 y4 y5 y6 hG' hGo'
    have hFl' : F'.length = A.length := by rw [← hF']; simp
    have hGl' : G'.length = C.length := by rw [← hG']; simp
  all_goals simp (config := { maxSteps := 1000000 }) only [↓WP, ↓grdD, ↓grdT, ↓un_dead, ↓binVC, ↓buildVC, ↓sliceVC, WQ, WN, Int.reduceToNat, renl, cll, rent, clt, ↓reduceIte, Nat.reduceLeDiff, Nat.reduceEqDiff, Nat.reduceLT, reduceCtorEq, List.append_nil, Nat.reduceAdd, Nat.reduceSub, Nat.reduceBEq, forall_const, implies_true, cond_true, cond_false, AV.ren, AC.ren, AV.cl, AC.cl, eq_self, List.all_cons, List.all_nil, AV.eqv, AC.eqv, eqvl, eqvt, Sl.eqv, List.map_append, List.length_map, List.length_append, List.length_replicate, List.length_set, List.map_replicate, nilVC, zr_25, sz_25, el_22, zr_23, el_23, zr_3, sz_23, id_3, sz_3, sd_23, bt_4, c_laws_big, c_impl_CowNew, c_laws_at, c_impl_CowGrow, c_impl_CowWrite, c_impl_CowUsed, c_impl_CowFork, c_impl_CowFree, c_spec_CowOk, c_impl_CowOk, c_impl_CowRead, hid, ha, ← hL, hs', had, hv, hm, hw, w2, w3, row2_fam 0 1 F hFo, Row2Ok_fam 0 1 F hFo, row2_fam 3 4 G hGo, Row2Ok_fam 3 4 G hGo, hF, hG, hFl, hGl, l2, hbb, E0, E1, E2, E3, E4, E5, E6, E7, row2_fam 9 10 F' hFo', Row2Ok_fam 9 10 F' hFo', row2_fam 12 13 G' hGo', Row2Ok_fam 12 13 G' hGo', hF', hG', hFl', hGl', decide_eq_true hok']
  all_goals repeat' (first | with_reducible refine And.intro ?_ ?_ | intro _)
  all_goals try omega
  all_goals try exact .inl trivial
  all_goals try exact .inr trivial
  all_goals try rfl
  all_goals first
    | (have hsame := hrn rfl
       injection hsame with j1 j2
       injection j2 with j2 j3
       subst j1 j2 j3
       have hW' := hW
       have hHo' := hHo
       have hrel' := hrel
       have hWl' : W.length = 4 := hWl
       obtain ⟨H', hH'⟩ : ∃ H', H' = H := ⟨_, rfl⟩
       obtain ⟨W', hW2⟩ : ∃ W', W' = W := ⟨_, rfl⟩
       rw [← hH', ← hW2] at hW'
       rw [← hH'] at hHo'
       rw [← hW2] at hrel' hWl'
       rw [← hH']
       refine cow_read (M := M) (a := a) (n := n) (ca := ca) (i := i) rfl hok' hF' hG' hFo' hGo' y1 y2 y3 y4 y5 y6 hW' hHo' hWl' hrel' ?_ ?_
       · refine Le_intro [9, 10, 11, 12, 13, 5, 6, 7] ?_
         simp only [WL, WNL, swA_new, swA_ne, nest_sw_ne, mapLL, List.mem_cons, Nat.reduceAdd, Nat.reduceLT, Nat.reduceLeDiff, Nat.reduceEqDiff, okU, List.nodup_cons, List.not_mem_nil, toT, toL, toO, keysO, renl, rent, cll, clt, eq_self, AV.eqv, AC.eqv, eqvl, eqvt, Sl.eqv, rowsLe, mapLL, rowsCl, List.map_append, List.length_map, List.length_append, List.length_set, List.map_replicate, rowG, List.getElem?_cons_zero, List.getElem?_cons_succ, List.getElem?_nil, List.append_nil, List.nil_append, List.cons_append, ghosts, St.gh, Option.some.injEq, implies_true, setT, AV.ren, AC.ren, AV.cl, AC.cl, List.replicate_succ, List.replicate_zero, List.nodup_nil, List.length_nil, List.length_cons, List.getD_cons_zero, List.getD_cons_succ, ↓reduceIte]
         try simp [rowsLe_self, hBl']
       · simp only [↓WP, ↓grdD, ↓grdT, ↓un_dead, ↓binVC, ↓buildVC, ↓sliceVC, WQ, WN, Int.reduceToNat, renl, cll, rent, clt, ↓reduceIte, Nat.reduceLeDiff, Nat.reduceEqDiff, Nat.reduceLT, reduceCtorEq, List.append_nil, Nat.reduceAdd, Nat.reduceSub, Nat.reduceBEq, forall_const, implies_true, cond_true, cond_false, AV.ren, AC.ren, AV.cl, AC.cl, eq_self, List.all_cons, List.all_nil, AV.eqv, AC.eqv, eqvl, eqvt, Sl.eqv, List.map_append, List.length_map, List.length_append, List.length_replicate, List.length_set, List.map_replicate, nilVC, zr_25, sz_25, el_22, zr_23, el_23, zr_3, sz_23, id_3, sz_3, sd_23, bt_4, c_laws_big, c_impl_CowNew, c_laws_at, c_impl_CowGrow, c_impl_CowWrite, c_impl_CowUsed, c_impl_CowFork, c_impl_CowFree, c_spec_CowOk, c_impl_CowOk, c_impl_CowRead, hw]
         exact hQ _ A B C pF' F' pR' pZ' G' H' hok' ⟨⟨y1, hF', hFo'⟩, y2, y3, y4, y5, y6, hG', hGo'⟩ (by rw [hW']; exact hrel') hHo' (Le_intro [0, 1, 2, 3, 4, 5, 6, 7] (by simp only [WL, WNL, swA_new, swA_ne, nest_sw_ne, mapLL, List.mem_cons, Nat.reduceAdd, Nat.reduceLT, Nat.reduceLeDiff, Nat.reduceEqDiff, okU, List.nodup_cons, List.not_mem_nil, toT, toL, toO, keysO, renl, rent, cll, clt, eq_self, AV.eqv, AC.eqv, eqvl, eqvt, Sl.eqv, rowsLe, mapLL, rowsCl, List.map_append, List.length_map, List.length_append, List.length_set, List.map_replicate, rowG, List.getElem?_cons_zero, List.getElem?_cons_succ, List.getElem?_nil, List.append_nil, List.nil_append, List.cons_append, ghosts, St.gh, Option.some.injEq, implies_true, setT, AV.ren, AC.ren, AV.cl, AC.cl, List.replicate_succ, List.replicate_zero, List.nodup_nil, List.length_nil, List.length_cons, List.getD_cons_zero, List.getD_cons_succ, ↓reduceIte]; try simp [rowsLe_self])))
    | (have hrelY := hrg rfl
       rw [Int.toNat_natCast, ← hY] at hrelY
       subst hY
       have hYl0 : ([] : List Int).length = 0 := rfl
       have hW' : (H.set s (0, [])).map (·.2) = W.set s [] := snd_set hW
       have hHo' : famOk (H.set s (0, [])) := famOk_set hHo (by simp) (by simp)
       have hWl' : (W.set s []).length = 4 := by rw [List.length_set]; exact hWl
       obtain ⟨H', hH'⟩ : ∃ H', H' = H.set s (0, []) := ⟨_, rfl⟩
       obtain ⟨W', hW2⟩ : ∃ W', W' = W.set s [] := ⟨_, rfl⟩
       have hrel' : relW A C W' := hW2 ▸ hrelY
       rw [← hH', ← hW2] at hW'
       rw [← hH'] at hHo'
       rw [← hW2] at hWl'
       refine cow_read (M := M) (a := a) (n := n) (ca := ca) (i := i) rfl hok' hF' hG' hFo' hGo' y1 y2 y3 y4 y5 y6 hW' hHo' hWl' hrel' ?_ ?_
       · have hm0 : (mems H).set s (0, []) = mems (H.set s (0, [])) := mems_set (X := ([] : List Int))
         have hn0 : ((nestC (.loc 7) H).set s [.sl ⟨.loc 14, 0, 0, 0⟩ 0 0]).map (swl 7 s 14) = nestC (.loc 7) (H.set s (0, [])) := nest_sw_set (X := ([] : List Int)) (by decide) rfl
         refine Le.trans (Le_fam 3 1 1) (Le.trans (Le_eqv (j := 6) true 23 1 ((nestC (.loc 7) H).set s [.sl ⟨.loc 14, 0, 0, 0⟩ 0 0]) rfl (eqvL_set ⟨⟨rfl, rfl, .inl rfl⟩, trivial⟩)) (Le.trans (Le_swap (j := 7) (j2 := 14) (i0 := s) true 3 1 (mems H) (by decide) rfl rfl (by rw [mems_len]; omega)) (Le_intro [9, 10, 11, 12, 13, 5, 6, 7] ?_)))
         simp only [WL, WNL, swA_new, swA_ne, nest_sw_ne, mapLL, List.mem_cons, Nat.reduceAdd, Nat.reduceLT, Nat.reduceLeDiff, Nat.reduceEqDiff, okU, List.nodup_cons, List.not_mem_nil, toT, toL, toO, keysO, renl, rent, cll, clt, eq_self, AV.eqv, AC.eqv, eqvl, eqvt, Sl.eqv, rowsLe, mapLL, rowsCl, List.map_append, List.length_map, List.length_append, List.length_set, List.map_replicate, rowG, List.getElem?_cons_zero, List.getElem?_cons_succ, List.getElem?_nil, List.append_nil, List.nil_append, List.cons_append, ghosts, St.gh, Option.some.injEq, implies_true, setT, AV.ren, AC.ren, AV.cl, AC.cl, List.replicate_succ, List.replicate_zero, List.nodup_nil, List.length_nil, List.length_cons, List.getD_cons_zero, List.getD_cons_succ, ↓reduceIte, hn0, hm0, nest_sw_ne (j := 7) (j2 := 14) (q := 10) (by decide) (by decide), nest_sw_ne (j := 7) (j2 := 14) (q := 13) (by decide) (by decide), ← hH']
         try simp [rowsLe_self, hBl']
       · simp only [↓WP, ↓grdD, ↓grdT, ↓un_dead, ↓binVC, ↓buildVC, ↓sliceVC, WQ, WN, Int.reduceToNat, renl, cll, rent, clt, ↓reduceIte, Nat.reduceLeDiff, Nat.reduceEqDiff, Nat.reduceLT, reduceCtorEq, List.append_nil, Nat.reduceAdd, Nat.reduceSub, Nat.reduceBEq, forall_const, implies_true, cond_true, cond_false, AV.ren, AC.ren, AV.cl, AC.cl, eq_self, List.all_cons, List.all_nil, AV.eqv, AC.eqv, eqvl, eqvt, Sl.eqv, List.map_append, List.length_map, List.length_append, List.length_replicate, List.length_set, List.map_replicate, nilVC, zr_25, sz_25, el_22, zr_23, el_23, zr_3, sz_23, id_3, sz_3, sd_23, bt_4, c_laws_big, c_impl_CowNew, c_laws_at, c_impl_CowGrow, c_impl_CowWrite, c_impl_CowUsed, c_impl_CowFork, c_impl_CowFree, c_spec_CowOk, c_impl_CowOk, c_impl_CowRead, hw]
         exact hQ _ A B C pF' F' pR' pZ' G' H' hok' ⟨⟨y1, hF', hFo'⟩, y2, y3, y4, y5, y6, hG', hGo'⟩ (by rw [hW']; exact hrel') hHo' (Le_intro [0, 1, 2, 3, 4, 5, 6, 7] (by simp only [WL, WNL, swA_new, swA_ne, nest_sw_ne, mapLL, List.mem_cons, Nat.reduceAdd, Nat.reduceLT, Nat.reduceLeDiff, Nat.reduceEqDiff, okU, List.nodup_cons, List.not_mem_nil, toT, toL, toO, keysO, renl, rent, cll, clt, eq_self, AV.eqv, AC.eqv, eqvl, eqvt, Sl.eqv, rowsLe, mapLL, rowsCl, List.map_append, List.length_map, List.length_append, List.length_set, List.map_replicate, rowG, List.getElem?_cons_zero, List.getElem?_cons_succ, List.getElem?_nil, List.append_nil, List.nil_append, List.cons_append, ghosts, St.gh, Option.some.injEq, implies_true, setT, AV.ren, AC.ren, AV.cl, AC.cl, List.replicate_succ, List.replicate_zero, List.nodup_nil, List.length_nil, List.length_cons, List.getD_cons_zero, List.getD_cons_succ, ↓reduceIte]; try simp [rowsLe_self])))
end Go.Eng.T
