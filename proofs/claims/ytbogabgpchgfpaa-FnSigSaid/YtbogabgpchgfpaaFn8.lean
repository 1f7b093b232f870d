/- sig: SigMask, SigSend, SigSet. -/
import Derived.Test.YtbogabgpchgfpaaFn7
set_option linter.unusedVariables false
set_option linter.unusedSimpArgs false
set_option linter.unusedSectionVars false
namespace Go.Eng.T
open Go.Proofs
open Cel (enc dec)
set_option maxRecDepth 100000
set_option maxHeartbeats 4000000
abbrev SO := List Bool × List Bool × List Int × List Int × Int
def maskO (P K : List Bool) (D I : List Int) (u n : Int) (on : Bool) : SO × Bool :=
  if sigOk P K D I u then (if (1 ≤ n ∧ n ≤ 16) ∧ n ≠ 9 ∧ u = 0 then ((P, K.set (n - 1).toNat on, D, I, u), true) else ((P, K, D, I, u), false)) else (([], [], [], [], 0), false)
def sendO (P K : List Bool) (D I : List Int) (u n : Int) : SO × Bool :=
  if sigOk P K D I u then (if (1 ≤ n ∧ n ≤ 16) ∧ u = 0 then (if D.getD (n - 1).toNat default = 1 then ((P, K, D, I, u), true) else ((P.set (n - 1).toNat true, K, D, I, u), true)) else ((P, K, D, I, u), false)) else (([], [], [], [], 0), false)
def setO (P K : List Bool) (D I : List Int) (u n d : Int) : SO × Bool :=
  if sigOk P K D I u then (if (1 ≤ n ∧ n ≤ 16) ∧ n ≠ 9 ∧ (0 ≤ d ∧ d ≤ 2) ∧ u = 0 then (if d = 1 then ((P.set (n - 1).toNat false, K, D.set (n - 1).toNat d, I, u), true) else ((P, K, D.set (n - 1).toNat d, I, u), true)) else ((P, K, D, I, u), false)) else (([], [], [], [], 0), false)
def c_impl_SigMask : Contract := ⟨22, fun args M => match args with
  | [.agg [.sl a1 n1 c1, .sl a2 n2 c2, .sl a3 n3 c3, .sl a4 n4 c4, .int .i64 u], .c (.int .i64 n), .c (.bool on)] => .eff ((RowOk Bool a1 n1 (M a1.r) ∧ RowOk Bool a2 n2 (M a2.r) ∧ RowOk Int a3 n3 (M a3.r) ∧ RowOk Int a4 n4 (M a4.r)) ∧ (n1 ≤ c1 ∧ n2 ≤ c2 ∧ n3 ≤ c3 ∧ n4 ≤ c4)) (Nat × Nat × Nat × Nat) (fun p => (maskO (row Bool a1 n1 (M a1.r)) (row Bool a2 n2 (M a2.r)) (row Int a3 n3 (M a3.r)) (row Int a4 n4 (M a4.r)) u n on).1.1.length ≤ p.1 ∧ (maskO (row Bool a1 n1 (M a1.r)) (row Bool a2 n2 (M a2.r)) (row Int a3 n3 (M a3.r)) (row Int a4 n4 (M a4.r)) u n on).1.2.1.length ≤ p.2.1 ∧ (maskO (row Bool a1 n1 (M a1.r)) (row Bool a2 n2 (M a2.r)) (row Int a3 n3 (M a3.r)) (row Int a4 n4 (M a4.r)) u n on).1.2.2.1.length ≤ p.2.2.1 ∧ (maskO (row Bool a1 n1 (M a1.r)) (row Bool a2 n2 (M a2.r)) (row Int a3 n3 (M a3.r)) (row Int a4 n4 (M a4.r)) u n on).1.2.2.2.1.length ≤ p.2.2.2) (fun p => .tup [(true, [.sl ⟨.loc 0, 0, 0, 0⟩ (maskO (row Bool a1 n1 (M a1.r)) (row Bool a2 n2 (M a2.r)) (row Int a3 n3 (M a3.r)) (row Int a4 n4 (M a4.r)) u n on).1.1.length p.1, .sl ⟨.loc 1, 0, 0, 0⟩ (maskO (row Bool a1 n1 (M a1.r)) (row Bool a2 n2 (M a2.r)) (row Int a3 n3 (M a3.r)) (row Int a4 n4 (M a4.r)) u n on).1.2.1.length p.2.1, .sl ⟨.loc 2, 0, 0, 0⟩ (maskO (row Bool a1 n1 (M a1.r)) (row Bool a2 n2 (M a2.r)) (row Int a3 n3 (M a3.r)) (row Int a4 n4 (M a4.r)) u n on).1.2.2.1.length p.2.2.1, .sl ⟨.loc 3, 0, 0, 0⟩ (maskO (row Bool a1 n1 (M a1.r)) (row Bool a2 n2 (M a2.r)) (row Int a3 n3 (M a3.r)) (row Int a4 n4 (M a4.r)) u n on).1.2.2.2.1.length p.2.2.2, .int .i64 (maskO (row Bool a1 n1 (M a1.r)) (row Bool a2 n2 (M a2.r)) (row Int a3 n3 (M a3.r)) (row Int a4 n4 (M a4.r)) u n on).1.2.2.2.2]), (false, [.bool (maskO (row Bool a1 n1 (M a1.r)) (row Bool a2 n2 (M a2.r)) (row Int a3 n3 (M a3.r)) (row Int a4 n4 (M a4.r)) u n on).2])]) (fun p => [rowG true 4 p.1 (maskO (row Bool a1 n1 (M a1.r)) (row Bool a2 n2 (M a2.r)) (row Int a3 n3 (M a3.r)) (row Int a4 n4 (M a4.r)) u n on).1.1, rowG true 4 p.2.1 (maskO (row Bool a1 n1 (M a1.r)) (row Bool a2 n2 (M a2.r)) (row Int a3 n3 (M a3.r)) (row Int a4 n4 (M a4.r)) u n on).1.2.1, rowG true 3 p.2.2.1 (maskO (row Bool a1 n1 (M a1.r)) (row Bool a2 n2 (M a2.r)) (row Int a3 n3 (M a3.r)) (row Int a4 n4 (M a4.r)) u n on).1.2.2.1, rowG true 3 p.2.2.2 (maskO (row Bool a1 n1 (M a1.r)) (row Bool a2 n2 (M a2.r)) (row Int a3 n3 (M a3.r)) (row Int a4 n4 (M a4.r)) u n on).1.2.2.2.1]) (fun _ => [])
  | _ => .bad⟩
theorem ok_impl_SigMask : fnP Try.prog c_impl_SigMask.f = true ∧ ∀ args M, (c_impl_SigMask.sp args M).OK Try.prog c_impl_SigMask.f args M := by
  refine ⟨fp_22, fun args M => ?_⟩
  unfold c_impl_SigMask
  dsimp only
  split
  case h_2 => trivial
  rename_i a1 n1 c1 a2 n2 c2 a3 n3 c3 a4 n4 c4 u n on
  rintro ⟨⟨h1, h2, h3, h4⟩, ⟨k1, k2, k3, k4⟩⟩
  obtain ⟨s1, P, hP, rfl, t1⟩ := h1.x
  obtain ⟨s2, K, hK, rfl, t2⟩ := h2.x
  obtain ⟨s3, D, hD, rfl, t3⟩ := h3.x
  obtain ⟨s4, I, hI, rfl, t4⟩ := h4.x
  rw [hP, hK, hD, hI]
  refine goIn hf_22 rfl (nt := 35) rfl (rs := [.cell 6 25, .tmp 7]) rfl (C := [c_impl_SigOk, c_impl_cloneSig, c_impl_isSig]) ⟨(by first | exact .inl ok_impl_SigOk | exact ok_impl_SigOk), (by first | exact .inl ok_impl_cloneSig | exact ok_impl_cloneSig), (by first | exact .inl ok_impl_isSig | exact ok_impl_isSig), trivial⟩ (q := fun _ => false) okQ_none mixed (O := fun _ => .nil) (by kernel_rfl) ?_
  by_cases hok : sigOk P K D I u
  · obtain ⟨l1, l2, l3, l4, _⟩ := hok.1
    obtain ⟨own3, ty3, cnt3, cap3, len3, get3, hM3, hf3, hic3, hkn3, hget3⟩ := t3 (by omega)
    by_cases hmay : (1 ≤ n ∧ n ≤ 16) ∧ n ≠ 9 ∧ u = 0
    · have hw : IntKind.i64.wrap (n - 1) = n - 1 := w64 (by omega) (by omega)
      have hgD : (List.map enc D).getD (n - 1).toNat [] = enc (D.getD (n - 1).toNat default) := getD_enc _ _ (by omega)
      have hgA : get3 a3.i (a3.k + (n - 1).toNat) = enc (D.getD (n - 1).toNat default) := hget3 _ (by omega)
      have f3 := hD
      rw [hM3] at f3
      have r3 := h3
      rw [hM3] at r3
      have q3 : row Int a3.up D.length (some (Rg.arr own3 ty3 1 cnt3 cap3 len3 fun i k => List.map AC.up (get3 i k))) = D := (row_up (α := Int) (a := a3) (n := D.length) (o := some (.arr own3 ty3 (Cel.sz Int) cnt3 cap3 len3 get3))).trans f3
      have q3' : RowOk Int a3.up D.length (some (Rg.arr own3 ty3 1 cnt3 cap3 len3 fun i k => List.map AC.up (get3 i k))) := (RowOk_up (α := Int) (a := a3) (n := D.length) (o := some (.arr own3 ty3 (Cel.sz Int) cnt3 cap3 len3 get3))).mpr r3
      have hc : (!decide (1 ≤ n ∧ n ≤ 16) || decide (n = 9) || !decide (u = 0)) = false := by simp only [WB, eq_self]; omega
      · have hO : (maskO P K D I u n on) = ((P, K.set (n - 1).toNat on, D, I, u), true) := by rw [maskO, if_pos hok, if_pos hmay]
        rw [hO]
        simp only [↓WP, ↓grdD, ↓grdT, ↓un_dead, ↓binVC, ↓buildVC, ↓sliceVC, WQ, WN, Int.reduceToNat, renl, cll, rent, clt, ↓reduceIte, Nat.reduceLeDiff, Nat.reduceEqDiff, Nat.reduceLT, reduceCtorEq, List.append_nil, Nat.reduceAdd, Nat.reduceSub, Nat.reduceBEq, forall_const, implies_true, cond_true, cond_false, AV.ren, AC.ren, AV.cl, AC.cl, eq_self, List.all_cons, List.all_nil, AV.eqv, AC.eqv, eqvl, eqvt, Sl.eqv, List.map_append, List.length_map, List.length_append, List.length_replicate, List.length_set, List.map_replicate, nilVC, zr_25, sz_25, fs_25, fl_25_4, sz_3, fl_25_1, sz_22, el_22, sz_4, c_impl_SigOk, c_impl_cloneSig, c_impl_isSig, hP, hK, hD, hI, decide_eq_true hok, hc, hw]
        repeat' (first | with_reducible refine And.intro ?_ ?_ | intro _)
        all_goals try omega
        all_goals try assumption
        all_goals
          rename_i p hp
          obtain ⟨p1, p2, p3, p4⟩ := p
          refine end_ret ?_
          simp only [↓WP, ↓grdD, ↓grdT, ↓un_dead, ↓binVC, ↓buildVC, ↓sliceVC, WQ, WN, Int.reduceToNat, renl, cll, rent, clt, ↓reduceIte, Nat.reduceLeDiff, Nat.reduceEqDiff, Nat.reduceLT, reduceCtorEq, List.append_nil, Nat.reduceAdd, Nat.reduceSub, Nat.reduceBEq, forall_const, implies_true, cond_true, cond_false, AV.ren, AC.ren, AV.cl, AC.cl, eq_self, List.all_cons, List.all_nil, AV.eqv, AC.eqv, eqvl, eqvt, Sl.eqv, List.map_append, List.length_map, List.length_append, List.length_replicate, List.length_set, List.map_replicate, nilVC, zr_25, sz_25, fs_25, fl_25_4, sz_3, fl_25_1, sz_22, el_22, sz_4, c_impl_SigOk, c_impl_cloneSig, c_impl_isSig]
          refine ⟨(p1, p2, p3, p4), [], [2, 3, 4, 5], ?_⟩
          simp only [WL, WNL, swA_new, swA_ne, nest_sw_ne, mapLL, List.mem_cons, Nat.reduceAdd, Nat.reduceLT, Nat.reduceLeDiff, Nat.reduceEqDiff, okU, List.nodup_cons, List.not_mem_nil, toT, toL, toO, keysO, renl, rent, cll, clt, eq_self, AV.eqv, AC.eqv, eqvl, eqvt, Sl.eqv, rowsLe, mapLL, rowsCl, List.map_append, List.length_map, List.length_append, List.length_set, List.map_replicate, rowG, List.getElem?_cons_zero, List.getElem?_cons_succ, List.getElem?_nil, List.append_nil, List.nil_append, List.cons_append, ghosts, St.gh, Option.some.injEq, implies_true, setT, AV.ren, AC.ren, AV.cl, AC.cl, List.replicate_succ, List.replicate_zero, List.nodup_nil, List.length_nil, List.length_cons, List.getD_cons_zero, List.getD_cons_succ, ↓reduceIte, retP, List.map_set, List.length_set]
          simp at hp ⊢
          exact hp
    · have hO : (maskO P K D I u n on) = ((P, K, D, I, u), false) := by rw [maskO, if_pos hok, if_neg hmay]
      have hc : (!decide (1 ≤ n ∧ n ≤ 16) || decide (n = 9) || !decide (u = 0)) = true := by simp only [WB, eq_self]; omega
      rw [hO]
      simp only [↓WP, ↓grdD, ↓grdT, ↓un_dead, ↓binVC, ↓buildVC, ↓sliceVC, WQ, WN, Int.reduceToNat, renl, cll, rent, clt, ↓reduceIte, Nat.reduceLeDiff, Nat.reduceEqDiff, Nat.reduceLT, reduceCtorEq, List.append_nil, Nat.reduceAdd, Nat.reduceSub, Nat.reduceBEq, forall_const, implies_true, cond_true, cond_false, AV.ren, AC.ren, AV.cl, AC.cl, eq_self, List.all_cons, List.all_nil, AV.eqv, AC.eqv, eqvl, eqvt, Sl.eqv, List.map_append, List.length_map, List.length_append, List.length_replicate, List.length_set, List.map_replicate, nilVC, zr_25, sz_25, fs_25, fl_25_4, sz_3, fl_25_1, sz_22, el_22, sz_4, c_impl_SigOk, c_impl_cloneSig, c_impl_isSig, hP, hK, hD, hI, decide_eq_true hok, hc]
      repeat' (first | with_reducible refine And.intro ?_ ?_ | intro _)
      all_goals try omega
      all_goals try assumption
      all_goals
        rename_i p hp
        obtain ⟨p1, p2, p3, p4⟩ := p
        refine end_ret ?_
        simp only [↓WP, ↓grdD, ↓grdT, ↓un_dead, ↓binVC, ↓buildVC, ↓sliceVC, WQ, WN, Int.reduceToNat, renl, cll, rent, clt, ↓reduceIte, Nat.reduceLeDiff, Nat.reduceEqDiff, Nat.reduceLT, reduceCtorEq, List.append_nil, Nat.reduceAdd, Nat.reduceSub, Nat.reduceBEq, forall_const, implies_true, cond_true, cond_false, AV.ren, AC.ren, AV.cl, AC.cl, eq_self, List.all_cons, List.all_nil, AV.eqv, AC.eqv, eqvl, eqvt, Sl.eqv, List.map_append, List.length_map, List.length_append, List.length_replicate, List.length_set, List.map_replicate, nilVC, zr_25, sz_25, fs_25, fl_25_4, sz_3, fl_25_1, sz_22, el_22, sz_4, c_impl_SigOk, c_impl_cloneSig, c_impl_isSig]
        refine ⟨(p1, p2, p3, p4), [], [2, 3, 4, 5], ?_⟩
        simp only [WL, WNL, swA_new, swA_ne, nest_sw_ne, mapLL, List.mem_cons, Nat.reduceAdd, Nat.reduceLT, Nat.reduceLeDiff, Nat.reduceEqDiff, okU, List.nodup_cons, List.not_mem_nil, toT, toL, toO, keysO, renl, rent, cll, clt, eq_self, AV.eqv, AC.eqv, eqvl, eqvt, Sl.eqv, rowsLe, mapLL, rowsCl, List.map_append, List.length_map, List.length_append, List.length_set, List.map_replicate, rowG, List.getElem?_cons_zero, List.getElem?_cons_succ, List.getElem?_nil, List.append_nil, List.nil_append, List.cons_append, ghosts, St.gh, Option.some.injEq, implies_true, setT, AV.ren, AC.ren, AV.cl, AC.cl, List.replicate_succ, List.replicate_zero, List.nodup_nil, List.length_nil, List.length_cons, List.getD_cons_zero, List.getD_cons_succ, ↓reduceIte, retP, List.map_set, List.length_set]
        simp at hp ⊢
        exact hp
  · have hO : (maskO P K D I u n on) = (([], [], [], [], 0), false) := if_neg hok
    rw [hO]
    simp only [↓WP, ↓grdD, ↓grdT, ↓un_dead, ↓binVC, ↓buildVC, ↓sliceVC, WQ, WN, Int.reduceToNat, renl, cll, rent, clt, ↓reduceIte, Nat.reduceLeDiff, Nat.reduceEqDiff, Nat.reduceLT, reduceCtorEq, List.append_nil, Nat.reduceAdd, Nat.reduceSub, Nat.reduceBEq, forall_const, implies_true, cond_true, cond_false, AV.ren, AC.ren, AV.cl, AC.cl, eq_self, List.all_cons, List.all_nil, AV.eqv, AC.eqv, eqvl, eqvt, Sl.eqv, List.map_append, List.length_map, List.length_append, List.length_replicate, List.length_set, List.map_replicate, nilVC, zr_25, sz_25, fs_25, fl_25_4, sz_3, fl_25_1, sz_22, el_22, sz_4, c_impl_SigOk, c_impl_cloneSig, c_impl_isSig, hP, hK, hD, hI, decide_eq_false hok]
    refine ⟨by first | exact ⟨h1, h2, h3, h4, k4⟩ | exact ⟨⟨h1, h2, h3, h4, k4⟩, x2, x3⟩, end_ret ?_⟩
    simp only [↓WP, ↓grdD, ↓grdT, ↓un_dead, ↓binVC, ↓buildVC, ↓sliceVC, WQ, WN, Int.reduceToNat, renl, cll, rent, clt, ↓reduceIte, Nat.reduceLeDiff, Nat.reduceEqDiff, Nat.reduceLT, reduceCtorEq, List.append_nil, Nat.reduceAdd, Nat.reduceSub, Nat.reduceBEq, forall_const, implies_true, cond_true, cond_false, AV.ren, AC.ren, AV.cl, AC.cl, eq_self, List.all_cons, List.all_nil, AV.eqv, AC.eqv, eqvl, eqvt, Sl.eqv, List.map_append, List.length_map, List.length_append, List.length_replicate, List.length_set, List.map_replicate, nilVC, zr_25, sz_25, fs_25, fl_25_4, sz_3, fl_25_1, sz_22, el_22, sz_4, c_impl_SigOk, c_impl_cloneSig, c_impl_isSig]
    refine ⟨(0, 0, 0, 0), [(4, 1), (4, 1), (3, 1), (3, 1)], [2, 3, 4, 5], ?_⟩
    simp [WL, WNL, swA_new, swA_ne, nest_sw_ne, mapLL, List.mem_cons, Nat.reduceAdd, Nat.reduceLT, Nat.reduceLeDiff, Nat.reduceEqDiff, okU, List.nodup_cons, List.not_mem_nil, toT, toL, toO, keysO, renl, rent, cll, clt, eq_self, AV.eqv, AC.eqv, eqvl, eqvt, Sl.eqv, rowsLe, mapLL, rowsCl, List.map_append, List.length_map, List.length_append, List.length_set, List.map_replicate, rowG, List.getElem?_cons_zero, List.getElem?_cons_succ, List.getElem?_nil, List.append_nil, List.nil_append, List.cons_append, ghosts, St.gh, Option.some.injEq, implies_true, setT, AV.ren, AC.ren, AV.cl, AC.cl, List.replicate_succ, List.replicate_zero, List.nodup_nil, List.length_nil, List.length_cons, List.getD_cons_zero, List.getD_cons_succ, ↓reduceIte, retP]
def c_impl_SigSend : Contract := ⟨26, fun args M => match args with
  | [.agg [.sl a1 n1 c1, .sl a2 n2 c2, .sl a3 n3 c3, .sl a4 n4 c4, .int .i64 u], .c (.int .i64 n)] => .eff ((RowOk Bool a1 n1 (M a1.r) ∧ RowOk Bool a2 n2 (M a2.r) ∧ RowOk Int a3 n3 (M a3.r) ∧ RowOk Int a4 n4 (M a4.r)) ∧ (n1 ≤ c1 ∧ n2 ≤ c2 ∧ n3 ≤ c3 ∧ n4 ≤ c4)) (Nat × Nat × Nat × Nat) (fun p => (sendO (row Bool a1 n1 (M a1.r)) (row Bool a2 n2 (M a2.r)) (row Int a3 n3 (M a3.r)) (row Int a4 n4 (M a4.r)) u n).1.1.length ≤ p.1 ∧ (sendO (row Bool a1 n1 (M a1.r)) (row Bool a2 n2 (M a2.r)) (row Int a3 n3 (M a3.r)) (row Int a4 n4 (M a4.r)) u n).1.2.1.length ≤ p.2.1 ∧ (sendO (row Bool a1 n1 (M a1.r)) (row Bool a2 n2 (M a2.r)) (row Int a3 n3 (M a3.r)) (row Int a4 n4 (M a4.r)) u n).1.2.2.1.length ≤ p.2.2.1 ∧ (sendO (row Bool a1 n1 (M a1.r)) (row Bool a2 n2 (M a2.r)) (row Int a3 n3 (M a3.r)) (row Int a4 n4 (M a4.r)) u n).1.2.2.2.1.length ≤ p.2.2.2) (fun p => .tup [(true, [.sl ⟨.loc 0, 0, 0, 0⟩ (sendO (row Bool a1 n1 (M a1.r)) (row Bool a2 n2 (M a2.r)) (row Int a3 n3 (M a3.r)) (row Int a4 n4 (M a4.r)) u n).1.1.length p.1, .sl ⟨.loc 1, 0, 0, 0⟩ (sendO (row Bool a1 n1 (M a1.r)) (row Bool a2 n2 (M a2.r)) (row Int a3 n3 (M a3.r)) (row Int a4 n4 (M a4.r)) u n).1.2.1.length p.2.1, .sl ⟨.loc 2, 0, 0, 0⟩ (sendO (row Bool a1 n1 (M a1.r)) (row Bool a2 n2 (M a2.r)) (row Int a3 n3 (M a3.r)) (row Int a4 n4 (M a4.r)) u n).1.2.2.1.length p.2.2.1, .sl ⟨.loc 3, 0, 0, 0⟩ (sendO (row Bool a1 n1 (M a1.r)) (row Bool a2 n2 (M a2.r)) (row Int a3 n3 (M a3.r)) (row Int a4 n4 (M a4.r)) u n).1.2.2.2.1.length p.2.2.2, .int .i64 (sendO (row Bool a1 n1 (M a1.r)) (row Bool a2 n2 (M a2.r)) (row Int a3 n3 (M a3.r)) (row Int a4 n4 (M a4.r)) u n).1.2.2.2.2]), (false, [.bool (sendO (row Bool a1 n1 (M a1.r)) (row Bool a2 n2 (M a2.r)) (row Int a3 n3 (M a3.r)) (row Int a4 n4 (M a4.r)) u n).2])]) (fun p => [rowG true 4 p.1 (sendO (row Bool a1 n1 (M a1.r)) (row Bool a2 n2 (M a2.r)) (row Int a3 n3 (M a3.r)) (row Int a4 n4 (M a4.r)) u n).1.1, rowG true 4 p.2.1 (sendO (row Bool a1 n1 (M a1.r)) (row Bool a2 n2 (M a2.r)) (row Int a3 n3 (M a3.r)) (row Int a4 n4 (M a4.r)) u n).1.2.1, rowG true 3 p.2.2.1 (sendO (row Bool a1 n1 (M a1.r)) (row Bool a2 n2 (M a2.r)) (row Int a3 n3 (M a3.r)) (row Int a4 n4 (M a4.r)) u n).1.2.2.1, rowG true 3 p.2.2.2 (sendO (row Bool a1 n1 (M a1.r)) (row Bool a2 n2 (M a2.r)) (row Int a3 n3 (M a3.r)) (row Int a4 n4 (M a4.r)) u n).1.2.2.2.1]) (fun _ => [])
  | _ => .bad⟩
theorem ok_impl_SigSend : fnP Try.prog c_impl_SigSend.f = true ∧ ∀ args M, (c_impl_SigSend.sp args M).OK Try.prog c_impl_SigSend.f args M := by
  refine ⟨fp_26, fun args M => ?_⟩
  unfold c_impl_SigSend
  dsimp only
  split
  case h_2 => trivial
  rename_i a1 n1 c1 a2 n2 c2 a3 n3 c3 a4 n4 c4 u n
  rintro ⟨⟨h1, h2, h3, h4⟩, ⟨k1, k2, k3, k4⟩⟩
  obtain ⟨s1, P, hP, rfl, t1⟩ := h1.x
  obtain ⟨s2, K, hK, rfl, t2⟩ := h2.x
  obtain ⟨s3, D, hD, rfl, t3⟩ := h3.x
  obtain ⟨s4, I, hI, rfl, t4⟩ := h4.x
  rw [hP, hK, hD, hI]
  refine goIn hf_26 rfl (nt := 35) rfl (rs := [.cell 4 25, .tmp 5]) rfl (C := [c_impl_SigOk, c_impl_cloneSig, c_impl_isSig]) ⟨(by first | exact .inl ok_impl_SigOk | exact ok_impl_SigOk), (by first | exact .inl ok_impl_cloneSig | exact ok_impl_cloneSig), (by first | exact .inl ok_impl_isSig | exact ok_impl_isSig), trivial⟩ (q := fun _ => false) okQ_none mixed (O := fun _ => .nil) (by kernel_rfl) ?_
  by_cases hok : sigOk P K D I u
  · obtain ⟨l1, l2, l3, l4, _⟩ := hok.1
    obtain ⟨own3, ty3, cnt3, cap3, len3, get3, hM3, hf3, hic3, hkn3, hget3⟩ := t3 (by omega)
    by_cases hmay : (1 ≤ n ∧ n ≤ 16) ∧ u = 0
    · have hw : IntKind.i64.wrap (n - 1) = n - 1 := w64 (by omega) (by omega)
      have hgD : (List.map enc D).getD (n - 1).toNat [] = enc (D.getD (n - 1).toNat default) := getD_enc _ _ (by omega)
      have hgA : get3 a3.i (a3.k + (n - 1).toNat) = enc (D.getD (n - 1).toNat default) := hget3 _ (by omega)
      have f3 := hD
      rw [hM3] at f3
      have r3 := h3
      rw [hM3] at r3
      have q3 : row Int a3.up D.length (some (Rg.arr own3 ty3 1 cnt3 cap3 len3 fun i k => List.map AC.up (get3 i k))) = D := (row_up (α := Int) (a := a3) (n := D.length) (o := some (.arr own3 ty3 (Cel.sz Int) cnt3 cap3 len3 get3))).trans f3
      have q3' : RowOk Int a3.up D.length (some (Rg.arr own3 ty3 1 cnt3 cap3 len3 fun i k => List.map AC.up (get3 i k))) := (RowOk_up (α := Int) (a := a3) (n := D.length) (o := some (.arr own3 ty3 (Cel.sz Int) cnt3 cap3 len3 get3))).mpr r3
      have hc : (!decide (1 ≤ n ∧ n ≤ 16) || !decide (u = 0)) = false := by simp only [WB, eq_self]; omega
      by_cases hb : D.getD (n - 1).toNat default = 1
      · have hO : (sendO P K D I u n) = ((P, K, D, I, u), true) := by rw [sendO, if_pos hok, if_pos hmay, if_pos hb]
        have hbd : decide (D.getD (n - 1).toNat default = 1) = true := decide_eq_true hb
        rw [hO]
        simp only [↓WP, ↓grdD, ↓grdT, ↓un_dead, ↓binVC, ↓buildVC, ↓sliceVC, WQ, WN, Int.reduceToNat, renl, cll, rent, clt, ↓reduceIte, Nat.reduceLeDiff, Nat.reduceEqDiff, Nat.reduceLT, reduceCtorEq, List.append_nil, Nat.reduceAdd, Nat.reduceSub, Nat.reduceBEq, forall_const, implies_true, cond_true, cond_false, AV.ren, AC.ren, AV.cl, AC.cl, eq_self, List.all_cons, List.all_nil, AV.eqv, AC.eqv, eqvl, eqvt, Sl.eqv, List.map_append, List.length_map, List.length_append, List.length_replicate, List.length_set, List.map_replicate, nilVC, zr_25, sz_25, fs_25, fl_25_4, sz_3, fl_25_2, sz_23, el_23, fl_25_0, sz_22, el_22, sz_4, c_impl_SigOk, c_impl_cloneSig, c_impl_isSig, hP, hK, hD, hI, decide_eq_true hok, hc, hw, hgD, hM3, hf3, hgA, q3, q3', hbd]
        repeat' (first | with_reducible refine And.intro ?_ ?_ | intro _)
        all_goals try omega
        all_goals try assumption
        all_goals
          rename_i p hp
          obtain ⟨p1, p2, p3, p4⟩ := p
          refine end_ret ?_
          simp only [↓WP, ↓grdD, ↓grdT, ↓un_dead, ↓binVC, ↓buildVC, ↓sliceVC, WQ, WN, Int.reduceToNat, renl, cll, rent, clt, ↓reduceIte, Nat.reduceLeDiff, Nat.reduceEqDiff, Nat.reduceLT, reduceCtorEq, List.append_nil, Nat.reduceAdd, Nat.reduceSub, Nat.reduceBEq, forall_const, implies_true, cond_true, cond_false, AV.ren, AC.ren, AV.cl, AC.cl, eq_self, List.all_cons, List.all_nil, AV.eqv, AC.eqv, eqvl, eqvt, Sl.eqv, List.map_append, List.length_map, List.length_append, List.length_replicate, List.length_set, List.map_replicate, nilVC, zr_25, sz_25, fs_25, fl_25_4, sz_3, fl_25_2, sz_23, el_23, fl_25_0, sz_22, el_22, sz_4, c_impl_SigOk, c_impl_cloneSig, c_impl_isSig]
          refine ⟨(p1, p2, p3, p4), [], [2, 3, 4, 5], ?_⟩
          simp only [WL, WNL, swA_new, swA_ne, nest_sw_ne, mapLL, List.mem_cons, Nat.reduceAdd, Nat.reduceLT, Nat.reduceLeDiff, Nat.reduceEqDiff, okU, List.nodup_cons, List.not_mem_nil, toT, toL, toO, keysO, renl, rent, cll, clt, eq_self, AV.eqv, AC.eqv, eqvl, eqvt, Sl.eqv, rowsLe, mapLL, rowsCl, List.map_append, List.length_map, List.length_append, List.length_set, List.map_replicate, rowG, List.getElem?_cons_zero, List.getElem?_cons_succ, List.getElem?_nil, List.append_nil, List.nil_append, List.cons_append, ghosts, St.gh, Option.some.injEq, implies_true, setT, AV.ren, AC.ren, AV.cl, AC.cl, List.replicate_succ, List.replicate_zero, List.nodup_nil, List.length_nil, List.length_cons, List.getD_cons_zero, List.getD_cons_succ, ↓reduceIte, retP, List.map_set, List.length_set]
          simp at hp ⊢
          exact hp
      · have hO : (sendO P K D I u n) = ((P.set (n - 1).toNat true, K, D, I, u), true) := by rw [sendO, if_pos hok, if_pos hmay, if_neg hb]
        have hbd : decide (D.getD (n - 1).toNat default = 1) = false := decide_eq_false hb
        rw [hO]
        simp only [↓WP, ↓grdD, ↓grdT, ↓un_dead, ↓binVC, ↓buildVC, ↓sliceVC, WQ, WN, Int.reduceToNat, renl, cll, rent, clt, ↓reduceIte, Nat.reduceLeDiff, Nat.reduceEqDiff, Nat.reduceLT, reduceCtorEq, List.append_nil, Nat.reduceAdd, Nat.reduceSub, Nat.reduceBEq, forall_const, implies_true, cond_true, cond_false, AV.ren, AC.ren, AV.cl, AC.cl, eq_self, List.all_cons, List.all_nil, AV.eqv, AC.eqv, eqvl, eqvt, Sl.eqv, List.map_append, List.length_map, List.length_append, List.length_replicate, List.length_set, List.map_replicate, nilVC, zr_25, sz_25, fs_25, fl_25_4, sz_3, fl_25_2, sz_23, el_23, fl_25_0, sz_22, el_22, sz_4, c_impl_SigOk, c_impl_cloneSig, c_impl_isSig, hP, hK, hD, hI, decide_eq_true hok, hc, hw, hgD, hM3, hf3, hgA, q3, q3', hbd]
        repeat' (first | with_reducible refine And.intro ?_ ?_ | intro _)
        all_goals try omega
        all_goals try assumption
        all_goals
          rename_i p hp
          obtain ⟨p1, p2, p3, p4⟩ := p
          refine end_ret ?_
          simp only [↓WP, ↓grdD, ↓grdT, ↓un_dead, ↓binVC, ↓buildVC, ↓sliceVC, WQ, WN, Int.reduceToNat, renl, cll, rent, clt, ↓reduceIte, Nat.reduceLeDiff, Nat.reduceEqDiff, Nat.reduceLT, reduceCtorEq, List.append_nil, Nat.reduceAdd, Nat.reduceSub, Nat.reduceBEq, forall_const, implies_true, cond_true, cond_false, AV.ren, AC.ren, AV.cl, AC.cl, eq_self, List.all_cons, List.all_nil, AV.eqv, AC.eqv, eqvl, eqvt, Sl.eqv, List.map_append, List.length_map, List.length_append, List.length_replicate, List.length_set, List.map_replicate, nilVC, zr_25, sz_25, fs_25, fl_25_4, sz_3, fl_25_2, sz_23, el_23, fl_25_0, sz_22, el_22, sz_4, c_impl_SigOk, c_impl_cloneSig, c_impl_isSig]
          refine ⟨(p1, p2, p3, p4), [], [2, 3, 4, 5], ?_⟩
          simp only [WL, WNL, swA_new, swA_ne, nest_sw_ne, mapLL, List.mem_cons, Nat.reduceAdd, Nat.reduceLT, Nat.reduceLeDiff, Nat.reduceEqDiff, okU, List.nodup_cons, List.not_mem_nil, toT, toL, toO, keysO, renl, rent, cll, clt, eq_self, AV.eqv, AC.eqv, eqvl, eqvt, Sl.eqv, rowsLe, mapLL, rowsCl, List.map_append, List.length_map, List.length_append, List.length_set, List.map_replicate, rowG, List.getElem?_cons_zero, List.getElem?_cons_succ, List.getElem?_nil, List.append_nil, List.nil_append, List.cons_append, ghosts, St.gh, Option.some.injEq, implies_true, setT, AV.ren, AC.ren, AV.cl, AC.cl, List.replicate_succ, List.replicate_zero, List.nodup_nil, List.length_nil, List.length_cons, List.getD_cons_zero, List.getD_cons_succ, ↓reduceIte, retP, List.map_set, List.length_set]
          simp at hp ⊢
          exact hp
    · have hO : (sendO P K D I u n) = ((P, K, D, I, u), false) := by rw [sendO, if_pos hok, if_neg hmay]
      have hc : (!decide (1 ≤ n ∧ n ≤ 16) || !decide (u = 0)) = true := by simp only [WB, eq_self]; omega
      rw [hO]
      simp only [↓WP, ↓grdD, ↓grdT, ↓un_dead, ↓binVC, ↓buildVC, ↓sliceVC, WQ, WN, Int.reduceToNat, renl, cll, rent, clt, ↓reduceIte, Nat.reduceLeDiff, Nat.reduceEqDiff, Nat.reduceLT, reduceCtorEq, List.append_nil, Nat.reduceAdd, Nat.reduceSub, Nat.reduceBEq, forall_const, implies_true, cond_true, cond_false, AV.ren, AC.ren, AV.cl, AC.cl, eq_self, List.all_cons, List.all_nil, AV.eqv, AC.eqv, eqvl, eqvt, Sl.eqv, List.map_append, List.length_map, List.length_append, List.length_replicate, List.length_set, List.map_replicate, nilVC, zr_25, sz_25, fs_25, fl_25_4, sz_3, fl_25_2, sz_23, el_23, fl_25_0, sz_22, el_22, sz_4, c_impl_SigOk, c_impl_cloneSig, c_impl_isSig, hP, hK, hD, hI, decide_eq_true hok, hc]
      repeat' (first | with_reducible refine And.intro ?_ ?_ | intro _)
      all_goals try omega
      all_goals try assumption
      all_goals
        rename_i p hp
        obtain ⟨p1, p2, p3, p4⟩ := p
        refine end_ret ?_
        simp only [↓WP, ↓grdD, ↓grdT, ↓un_dead, ↓binVC, ↓buildVC, ↓sliceVC, WQ, WN, Int.reduceToNat, renl, cll, rent, clt, ↓reduceIte, Nat.reduceLeDiff, Nat.reduceEqDiff, Nat.reduceLT, reduceCtorEq, List.append_nil, Nat.reduceAdd, Nat.reduceSub, Nat.reduceBEq, forall_const, implies_true, cond_true, cond_false, AV.ren, AC.ren, AV.cl, AC.cl, eq_self, List.all_cons, List.all_nil, AV.eqv, AC.eqv, eqvl, eqvt, Sl.eqv, List.map_append, List.length_map, List.length_append, List.length_replicate, List.length_set, List.map_replicate, nilVC, zr_25, sz_25, fs_25, fl_25_4, sz_3, fl_25_2, sz_23, el_23, fl_25_0, sz_22, el_22, sz_4, c_impl_SigOk, c_impl_cloneSig, c_impl_isSig]
        refine ⟨(p1, p2, p3, p4), [], [2, 3, 4, 5], ?_⟩
        simp only [WL, WNL, swA_new, swA_ne, nest_sw_ne, mapLL, List.mem_cons, Nat.reduceAdd, Nat.reduceLT, Nat.reduceLeDiff, Nat.reduceEqDiff, okU, List.nodup_cons, List.not_mem_nil, toT, toL, toO, keysO, renl, rent, cll, clt, eq_self, AV.eqv, AC.eqv, eqvl, eqvt, Sl.eqv, rowsLe, mapLL, rowsCl, List.map_append, List.length_map, List.length_append, List.length_set, List.map_replicate, rowG, List.getElem?_cons_zero, List.getElem?_cons_succ, List.getElem?_nil, List.append_nil, List.nil_append, List.cons_append, ghosts, St.gh, Option.some.injEq, implies_true, setT, AV.ren, AC.ren, AV.cl, AC.cl, List.replicate_succ, List.replicate_zero, List.nodup_nil, List.length_nil, List.length_cons, List.getD_cons_zero, List.getD_cons_succ, ↓reduceIte, retP, List.map_set, List.length_set]
        simp at hp ⊢
        exact hp
  · have hO : (sendO P K D I u n) = (([], [], [], [], 0), false) := if_neg hok
    rw [hO]
    simp only [↓WP, ↓grdD, ↓grdT, ↓un_dead, ↓binVC, ↓buildVC, ↓sliceVC, WQ, WN, Int.reduceToNat, renl, cll, rent, clt, ↓reduceIte, Nat.reduceLeDiff, Nat.reduceEqDiff, Nat.reduceLT, reduceCtorEq, List.append_nil, Nat.reduceAdd, Nat.reduceSub, Nat.reduceBEq, forall_const, implies_true, cond_true, cond_false, AV.ren, AC.ren, AV.cl, AC.cl, eq_self, List.all_cons, List.all_nil, AV.eqv, AC.eqv, eqvl, eqvt, Sl.eqv, List.map_append, List.length_map, List.length_append, List.length_replicate, List.length_set, List.map_replicate, nilVC, zr_25, sz_25, fs_25, fl_25_4, sz_3, fl_25_2, sz_23, el_23, fl_25_0, sz_22, el_22, sz_4, c_impl_SigOk, c_impl_cloneSig, c_impl_isSig, hP, hK, hD, hI, decide_eq_false hok]
    refine ⟨by first | exact ⟨h1, h2, h3, h4, k4⟩ | exact ⟨⟨h1, h2, h3, h4, k4⟩, x2, x3⟩, end_ret ?_⟩
    simp only [↓WP, ↓grdD, ↓grdT, ↓un_dead, ↓binVC, ↓buildVC, ↓sliceVC, WQ, WN, Int.reduceToNat, renl, cll, rent, clt, ↓reduceIte, Nat.reduceLeDiff, Nat.reduceEqDiff, Nat.reduceLT, reduceCtorEq, List.append_nil, Nat.reduceAdd, Nat.reduceSub, Nat.reduceBEq, forall_const, implies_true, cond_true, cond_false, AV.ren, AC.ren, AV.cl, AC.cl, eq_self, List.all_cons, List.all_nil, AV.eqv, AC.eqv, eqvl, eqvt, Sl.eqv, List.map_append, List.length_map, List.length_append, List.length_replicate, List.length_set, List.map_replicate, nilVC, zr_25, sz_25, fs_25, fl_25_4, sz_3, fl_25_2, sz_23, el_23, fl_25_0, sz_22, el_22, sz_4, c_impl_SigOk, c_impl_cloneSig, c_impl_isSig]
    refine ⟨(0, 0, 0, 0), [(4, 1), (4, 1), (3, 1), (3, 1)], [2, 3, 4, 5], ?_⟩
    simp [WL, WNL, swA_new, swA_ne, nest_sw_ne, mapLL, List.mem_cons, Nat.reduceAdd, Nat.reduceLT, Nat.reduceLeDiff, Nat.reduceEqDiff, okU, List.nodup_cons, List.not_mem_nil, toT, toL, toO, keysO, renl, rent, cll, clt, eq_self, AV.eqv, AC.eqv, eqvl, eqvt, Sl.eqv, rowsLe, mapLL, rowsCl, List.map_append, List.length_map, List.length_append, List.length_set, List.map_replicate, rowG, List.getElem?_cons_zero, List.getElem?_cons_succ, List.getElem?_nil, List.append_nil, List.nil_append, List.cons_append, ghosts, St.gh, Option.some.injEq, implies_true, setT, AV.ren, AC.ren, AV.cl, AC.cl, List.replicate_succ, List.replicate_zero, List.nodup_nil, List.length_nil, List.length_cons, List.getD_cons_zero, List.getD_cons_succ, ↓reduceIte, retP]
def c_impl_SigSet : Contract := ⟨28, fun args M => match args with
  | [.agg [.sl a1 n1 c1, .sl a2 n2 c2, .sl a3 n3 c3, .sl a4 n4 c4, .int .i64 u], .c (.int .i64 n), .c (.int .i64 d)] => .eff ((RowOk Bool a1 n1 (M a1.r) ∧ RowOk Bool a2 n2 (M a2.r) ∧ RowOk Int a3 n3 (M a3.r) ∧ RowOk Int a4 n4 (M a4.r)) ∧ (n1 ≤ c1 ∧ n2 ≤ c2 ∧ n3 ≤ c3 ∧ n4 ≤ c4)) (Nat × Nat × Nat × Nat) (fun p => (setO (row Bool a1 n1 (M a1.r)) (row Bool a2 n2 (M a2.r)) (row Int a3 n3 (M a3.r)) (row Int a4 n4 (M a4.r)) u n d).1.1.length ≤ p.1 ∧ (setO (row Bool a1 n1 (M a1.r)) (row Bool a2 n2 (M a2.r)) (row Int a3 n3 (M a3.r)) (row Int a4 n4 (M a4.r)) u n d).1.2.1.length ≤ p.2.1 ∧ (setO (row Bool a1 n1 (M a1.r)) (row Bool a2 n2 (M a2.r)) (row Int a3 n3 (M a3.r)) (row Int a4 n4 (M a4.r)) u n d).1.2.2.1.length ≤ p.2.2.1 ∧ (setO (row Bool a1 n1 (M a1.r)) (row Bool a2 n2 (M a2.r)) (row Int a3 n3 (M a3.r)) (row Int a4 n4 (M a4.r)) u n d).1.2.2.2.1.length ≤ p.2.2.2) (fun p => .tup [(true, [.sl ⟨.loc 0, 0, 0, 0⟩ (setO (row Bool a1 n1 (M a1.r)) (row Bool a2 n2 (M a2.r)) (row Int a3 n3 (M a3.r)) (row Int a4 n4 (M a4.r)) u n d).1.1.length p.1, .sl ⟨.loc 1, 0, 0, 0⟩ (setO (row Bool a1 n1 (M a1.r)) (row Bool a2 n2 (M a2.r)) (row Int a3 n3 (M a3.r)) (row Int a4 n4 (M a4.r)) u n d).1.2.1.length p.2.1, .sl ⟨.loc 2, 0, 0, 0⟩ (setO (row Bool a1 n1 (M a1.r)) (row Bool a2 n2 (M a2.r)) (row Int a3 n3 (M a3.r)) (row Int a4 n4 (M a4.r)) u n d).1.2.2.1.length p.2.2.1, .sl ⟨.loc 3, 0, 0, 0⟩ (setO (row Bool a1 n1 (M a1.r)) (row Bool a2 n2 (M a2.r)) (row Int a3 n3 (M a3.r)) (row Int a4 n4 (M a4.r)) u n d).1.2.2.2.1.length p.2.2.2, .int .i64 (setO (row Bool a1 n1 (M a1.r)) (row Bool a2 n2 (M a2.r)) (row Int a3 n3 (M a3.r)) (row Int a4 n4 (M a4.r)) u n d).1.2.2.2.2]), (false, [.bool (setO (row Bool a1 n1 (M a1.r)) (row Bool a2 n2 (M a2.r)) (row Int a3 n3 (M a3.r)) (row Int a4 n4 (M a4.r)) u n d).2])]) (fun p => [rowG true 4 p.1 (setO (row Bool a1 n1 (M a1.r)) (row Bool a2 n2 (M a2.r)) (row Int a3 n3 (M a3.r)) (row Int a4 n4 (M a4.r)) u n d).1.1, rowG true 4 p.2.1 (setO (row Bool a1 n1 (M a1.r)) (row Bool a2 n2 (M a2.r)) (row Int a3 n3 (M a3.r)) (row Int a4 n4 (M a4.r)) u n d).1.2.1, rowG true 3 p.2.2.1 (setO (row Bool a1 n1 (M a1.r)) (row Bool a2 n2 (M a2.r)) (row Int a3 n3 (M a3.r)) (row Int a4 n4 (M a4.r)) u n d).1.2.2.1, rowG true 3 p.2.2.2 (setO (row Bool a1 n1 (M a1.r)) (row Bool a2 n2 (M a2.r)) (row Int a3 n3 (M a3.r)) (row Int a4 n4 (M a4.r)) u n d).1.2.2.2.1]) (fun _ => [])
  | _ => .bad⟩
theorem ok_impl_SigSet : fnP Try.prog c_impl_SigSet.f = true ∧ ∀ args M, (c_impl_SigSet.sp args M).OK Try.prog c_impl_SigSet.f args M := by
  refine ⟨fp_28, fun args M => ?_⟩
  unfold c_impl_SigSet
  dsimp only
  split
  case h_2 => trivial
  rename_i a1 n1 c1 a2 n2 c2 a3 n3 c3 a4 n4 c4 u n d
  rintro ⟨⟨h1, h2, h3, h4⟩, ⟨k1, k2, k3, k4⟩⟩
  obtain ⟨s1, P, hP, rfl, t1⟩ := h1.x
  obtain ⟨s2, K, hK, rfl, t2⟩ := h2.x
  obtain ⟨s3, D, hD, rfl, t3⟩ := h3.x
  obtain ⟨s4, I, hI, rfl, t4⟩ := h4.x
  rw [hP, hK, hD, hI]
  refine goIn hf_28 rfl (nt := 47) rfl (rs := [.cell 6 25, .tmp 7]) rfl (C := [c_impl_SigOk, c_impl_cloneSig, c_impl_isSig, c_impl_in]) ⟨(by first | exact .inl ok_impl_SigOk | exact ok_impl_SigOk), (by first | exact .inl ok_impl_cloneSig | exact ok_impl_cloneSig), (by first | exact .inl ok_impl_isSig | exact ok_impl_isSig), (by first | exact .inl ok_impl_in | exact ok_impl_in), trivial⟩ (q := fun _ => false) okQ_none mixed (O := fun _ => .nil) (by kernel_rfl) ?_
  by_cases hok : sigOk P K D I u
  · obtain ⟨l1, l2, l3, l4, _⟩ := hok.1
    obtain ⟨own3, ty3, cnt3, cap3, len3, get3, hM3, hf3, hic3, hkn3, hget3⟩ := t3 (by omega)
    by_cases hmay : (1 ≤ n ∧ n ≤ 16) ∧ n ≠ 9 ∧ (0 ≤ d ∧ d ≤ 2) ∧ u = 0
    · have hw : IntKind.i64.wrap (n - 1) = n - 1 := w64 (by omega) (by omega)
      have hgD : (List.map enc D).getD (n - 1).toNat [] = enc (D.getD (n - 1).toNat default) := getD_enc _ _ (by omega)
      have hgA : get3 a3.i (a3.k + (n - 1).toNat) = enc (D.getD (n - 1).toNat default) := hget3 _ (by omega)
      have f3 := hD
      rw [hM3] at f3
      have r3 := h3
      rw [hM3] at r3
      have q3 : row Int a3.up D.length (some (Rg.arr own3 ty3 1 cnt3 cap3 len3 fun i k => List.map AC.up (get3 i k))) = D := (row_up (α := Int) (a := a3) (n := D.length) (o := some (.arr own3 ty3 (Cel.sz Int) cnt3 cap3 len3 get3))).trans f3
      have q3' : RowOk Int a3.up D.length (some (Rg.arr own3 ty3 1 cnt3 cap3 len3 fun i k => List.map AC.up (get3 i k))) := (RowOk_up (α := Int) (a := a3) (n := D.length) (o := some (.arr own3 ty3 (Cel.sz Int) cnt3 cap3 len3 get3))).mpr r3
      have hc : (!decide (1 ≤ n ∧ n ≤ 16) || decide (n = 9) || !decide (0 ≤ d ∧ d ≤ 2) || !decide (u = 0)) = false := by simp only [WB, eq_self]; omega
      by_cases hb : d = 1
      · have hO : (setO P K D I u n d) = ((P.set (n - 1).toNat false, K, D.set (n - 1).toNat d, I, u), true) := by rw [setO, if_pos hok, if_pos hmay, if_pos hb]
        have hbd : decide (d = 1) = true := decide_eq_true hb
        rw [hO]
        simp only [↓WP, ↓grdD, ↓grdT, ↓un_dead, ↓binVC, ↓buildVC, ↓sliceVC, WQ, WN, Int.reduceToNat, renl, cll, rent, clt, ↓reduceIte, Nat.reduceLeDiff, Nat.reduceEqDiff, Nat.reduceLT, reduceCtorEq, List.append_nil, Nat.reduceAdd, Nat.reduceSub, Nat.reduceBEq, forall_const, implies_true, cond_true, cond_false, AV.ren, AC.ren, AV.cl, AC.cl, eq_self, List.all_cons, List.all_nil, AV.eqv, AC.eqv, eqvl, eqvt, Sl.eqv, List.map_append, List.length_map, List.length_append, List.length_replicate, List.length_set, List.map_replicate, nilVC, zr_25, sz_25, fs_25, fl_25_4, sz_3, fl_25_2, sz_23, el_23, fl_25_0, sz_22, el_22, sz_4, c_impl_SigOk, c_impl_cloneSig, c_impl_isSig, c_impl_in, hP, hK, hD, hI, decide_eq_true hok, hc, hw, hgD, hw, hbd]
        repeat' (first | with_reducible refine And.intro ?_ ?_ | intro _)
        all_goals try omega
        all_goals try assumption
        all_goals
          rename_i p hp
          obtain ⟨p1, p2, p3, p4⟩ := p
          refine end_ret ?_
          simp only [↓WP, ↓grdD, ↓grdT, ↓un_dead, ↓binVC, ↓buildVC, ↓sliceVC, WQ, WN, Int.reduceToNat, renl, cll, rent, clt, ↓reduceIte, Nat.reduceLeDiff, Nat.reduceEqDiff, Nat.reduceLT, reduceCtorEq, List.append_nil, Nat.reduceAdd, Nat.reduceSub, Nat.reduceBEq, forall_const, implies_true, cond_true, cond_false, AV.ren, AC.ren, AV.cl, AC.cl, eq_self, List.all_cons, List.all_nil, AV.eqv, AC.eqv, eqvl, eqvt, Sl.eqv, List.map_append, List.length_map, List.length_append, List.length_replicate, List.length_set, List.map_replicate, nilVC, zr_25, sz_25, fs_25, fl_25_4, sz_3, fl_25_2, sz_23, el_23, fl_25_0, sz_22, el_22, sz_4, c_impl_SigOk, c_impl_cloneSig, c_impl_isSig, c_impl_in]
          refine ⟨(p1, p2, p3, p4), [], [2, 3, 4, 5], ?_⟩
          simp only [WL, WNL, swA_new, swA_ne, nest_sw_ne, mapLL, List.mem_cons, Nat.reduceAdd, Nat.reduceLT, Nat.reduceLeDiff, Nat.reduceEqDiff, okU, List.nodup_cons, List.not_mem_nil, toT, toL, toO, keysO, renl, rent, cll, clt, eq_self, AV.eqv, AC.eqv, eqvl, eqvt, Sl.eqv, rowsLe, mapLL, rowsCl, List.map_append, List.length_map, List.length_append, List.length_set, List.map_replicate, rowG, List.getElem?_cons_zero, List.getElem?_cons_succ, List.getElem?_nil, List.append_nil, List.nil_append, List.cons_append, ghosts, St.gh, Option.some.injEq, implies_true, setT, AV.ren, AC.ren, AV.cl, AC.cl, List.replicate_succ, List.replicate_zero, List.nodup_nil, List.length_nil, List.length_cons, List.getD_cons_zero, List.getD_cons_succ, ↓reduceIte, retP, List.map_set, List.length_set]
          simp at hp ⊢
          exact hp
      · have hO : (setO P K D I u n d) = ((P, K, D.set (n - 1).toNat d, I, u), true) := by rw [setO, if_pos hok, if_pos hmay, if_neg hb]
        have hbd : decide (d = 1) = false := decide_eq_false hb
        rw [hO]
        simp only [↓WP, ↓grdD, ↓grdT, ↓un_dead, ↓binVC, ↓buildVC, ↓sliceVC, WQ, WN, Int.reduceToNat, renl, cll, rent, clt, ↓reduceIte, Nat.reduceLeDiff, Nat.reduceEqDiff, Nat.reduceLT, reduceCtorEq, List.append_nil, Nat.reduceAdd, Nat.reduceSub, Nat.reduceBEq, forall_const, implies_true, cond_true, cond_false, AV.ren, AC.ren, AV.cl, AC.cl, eq_self, List.all_cons, List.all_nil, AV.eqv, AC.eqv, eqvl, eqvt, Sl.eqv, List.map_append, List.length_map, List.length_append, List.length_replicate, List.length_set, List.map_replicate, nilVC, zr_25, sz_25, fs_25, fl_25_4, sz_3, fl_25_2, sz_23, el_23, fl_25_0, sz_22, el_22, sz_4, c_impl_SigOk, c_impl_cloneSig, c_impl_isSig, c_impl_in, hP, hK, hD, hI, decide_eq_true hok, hc, hw, hgD, hw, hbd]
        repeat' (first | with_reducible refine And.intro ?_ ?_ | intro _)
        all_goals try omega
        all_goals try assumption
        all_goals
          rename_i p hp
          obtain ⟨p1, p2, p3, p4⟩ := p
          refine end_ret ?_
          simp only [↓WP, ↓grdD, ↓grdT, ↓un_dead, ↓binVC, ↓buildVC, ↓sliceVC, WQ, WN, Int.reduceToNat, renl, cll, rent, clt, ↓reduceIte, Nat.reduceLeDiff, Nat.reduceEqDiff, Nat.reduceLT, reduceCtorEq, List.append_nil, Nat.reduceAdd, Nat.reduceSub, Nat.reduceBEq, forall_const, implies_true, cond_true, cond_false, AV.ren, AC.ren, AV.cl, AC.cl, eq_self, List.all_cons, List.all_nil, AV.eqv, AC.eqv, eqvl, eqvt, Sl.eqv, List.map_append, List.length_map, List.length_append, List.length_replicate, List.length_set, List.map_replicate, nilVC, zr_25, sz_25, fs_25, fl_25_4, sz_3, fl_25_2, sz_23, el_23, fl_25_0, sz_22, el_22, sz_4, c_impl_SigOk, c_impl_cloneSig, c_impl_isSig, c_impl_in]
          refine ⟨(p1, p2, p3, p4), [], [2, 3, 4, 5], ?_⟩
          simp only [WL, WNL, swA_new, swA_ne, nest_sw_ne, mapLL, List.mem_cons, Nat.reduceAdd, Nat.reduceLT, Nat.reduceLeDiff, Nat.reduceEqDiff, okU, List.nodup_cons, List.not_mem_nil, toT, toL, toO, keysO, renl, rent, cll, clt, eq_self, AV.eqv, AC.eqv, eqvl, eqvt, Sl.eqv, rowsLe, mapLL, rowsCl, List.map_append, List.length_map, List.length_append, List.length_set, List.map_replicate, rowG, List.getElem?_cons_zero, List.getElem?_cons_succ, List.getElem?_nil, List.append_nil, List.nil_append, List.cons_append, ghosts, St.gh, Option.some.injEq, implies_true, setT, AV.ren, AC.ren, AV.cl, AC.cl, List.replicate_succ, List.replicate_zero, List.nodup_nil, List.length_nil, List.length_cons, List.getD_cons_zero, List.getD_cons_succ, ↓reduceIte, retP, List.map_set, List.length_set]
          simp at hp ⊢
          exact hp
    · have hO : (setO P K D I u n d) = ((P, K, D, I, u), false) := by rw [setO, if_pos hok, if_neg hmay]
      have hc : (!decide (1 ≤ n ∧ n ≤ 16) || decide (n = 9) || !decide (0 ≤ d ∧ d ≤ 2) || !decide (u = 0)) = true := by simp only [WB, eq_self]; omega
      rw [hO]
      simp only [↓WP, ↓grdD, ↓grdT, ↓un_dead, ↓binVC, ↓buildVC, ↓sliceVC, WQ, WN, Int.reduceToNat, renl, cll, rent, clt, ↓reduceIte, Nat.reduceLeDiff, Nat.reduceEqDiff, Nat.reduceLT, reduceCtorEq, List.append_nil, Nat.reduceAdd, Nat.reduceSub, Nat.reduceBEq, forall_const, implies_true, cond_true, cond_false, AV.ren, AC.ren, AV.cl, AC.cl, eq_self, List.all_cons, List.all_nil, AV.eqv, AC.eqv, eqvl, eqvt, Sl.eqv, List.map_append, List.length_map, List.length_append, List.length_replicate, List.length_set, List.map_replicate, nilVC, zr_25, sz_25, fs_25, fl_25_4, sz_3, fl_25_2, sz_23, el_23, fl_25_0, sz_22, el_22, sz_4, c_impl_SigOk, c_impl_cloneSig, c_impl_isSig, c_impl_in, hP, hK, hD, hI, decide_eq_true hok, hc]
      repeat' (first | with_reducible refine And.intro ?_ ?_ | intro _)
      all_goals try omega
      all_goals try assumption
      all_goals
        rename_i p hp
        obtain ⟨p1, p2, p3, p4⟩ := p
        refine end_ret ?_
        simp only [↓WP, ↓grdD, ↓grdT, ↓un_dead, ↓binVC, ↓buildVC, ↓sliceVC, WQ, WN, Int.reduceToNat, renl, cll, rent, clt, ↓reduceIte, Nat.reduceLeDiff, Nat.reduceEqDiff, Nat.reduceLT, reduceCtorEq, List.append_nil, Nat.reduceAdd, Nat.reduceSub, Nat.reduceBEq, forall_const, implies_true, cond_true, cond_false, AV.ren, AC.ren, AV.cl, AC.cl, eq_self, List.all_cons, List.all_nil, AV.eqv, AC.eqv, eqvl, eqvt, Sl.eqv, List.map_append, List.length_map, List.length_append, List.length_replicate, List.length_set, List.map_replicate, nilVC, zr_25, sz_25, fs_25, fl_25_4, sz_3, fl_25_2, sz_23, el_23, fl_25_0, sz_22, el_22, sz_4, c_impl_SigOk, c_impl_cloneSig, c_impl_isSig, c_impl_in]
        refine ⟨(p1, p2, p3, p4), [], [2, 3, 4, 5], ?_⟩
        simp only [WL, WNL, swA_new, swA_ne, nest_sw_ne, mapLL, List.mem_cons, Nat.reduceAdd, Nat.reduceLT, Nat.reduceLeDiff, Nat.reduceEqDiff, okU, List.nodup_cons, List.not_mem_nil, toT, toL, toO, keysO, renl, rent, cll, clt, eq_self, AV.eqv, AC.eqv, eqvl, eqvt, Sl.eqv, rowsLe, mapLL, rowsCl, List.map_append, List.length_map, List.length_append, List.length_set, List.map_replicate, rowG, List.getElem?_cons_zero, List.getElem?_cons_succ, List.getElem?_nil, List.append_nil, List.nil_append, List.cons_append, ghosts, St.gh, Option.some.injEq, implies_true, setT, AV.ren, AC.ren, AV.cl, AC.cl, List.replicate_succ, List.replicate_zero, List.nodup_nil, List.length_nil, List.length_cons, List.getD_cons_zero, List.getD_cons_succ, ↓reduceIte, retP, List.map_set, List.length_set]
        simp at hp ⊢
        exact hp
  · have hO : (setO P K D I u n d) = (([], [], [], [], 0), false) := if_neg hok
    rw [hO]
    simp only [↓WP, ↓grdD, ↓grdT, ↓un_dead, ↓binVC, ↓buildVC, ↓sliceVC, WQ, WN, Int.reduceToNat, renl, cll, rent, clt, ↓reduceIte, Nat.reduceLeDiff, Nat.reduceEqDiff, Nat.reduceLT, reduceCtorEq, List.append_nil, Nat.reduceAdd, Nat.reduceSub, Nat.reduceBEq, forall_const, implies_true, cond_true, cond_false, AV.ren, AC.ren, AV.cl, AC.cl, eq_self, List.all_cons, List.all_nil, AV.eqv, AC.eqv, eqvl, eqvt, Sl.eqv, List.map_append, List.length_map, List.length_append, List.length_replicate, List.length_set, List.map_replicate, nilVC, zr_25, sz_25, fs_25, fl_25_4, sz_3, fl_25_2, sz_23, el_23, fl_25_0, sz_22, el_22, sz_4, c_impl_SigOk, c_impl_cloneSig, c_impl_isSig, c_impl_in, hP, hK, hD, hI, decide_eq_false hok]
    refine ⟨by first | exact ⟨h1, h2, h3, h4, k4⟩ | exact ⟨⟨h1, h2, h3, h4, k4⟩, x2, x3⟩, end_ret ?_⟩
    simp only [↓WP, ↓grdD, ↓grdT, ↓un_dead, ↓binVC, ↓buildVC, ↓sliceVC, WQ, WN, Int.reduceToNat, renl, cll, rent, clt, ↓reduceIte, Nat.reduceLeDiff, Nat.reduceEqDiff, Nat.reduceLT, reduceCtorEq, List.append_nil, Nat.reduceAdd, Nat.reduceSub, Nat.reduceBEq, forall_const, implies_true, cond_true, cond_false, AV.ren, AC.ren, AV.cl, AC.cl, eq_self, List.all_cons, List.all_nil, AV.eqv, AC.eqv, eqvl, eqvt, Sl.eqv, List.map_append, List.length_map, List.length_append, List.length_replicate, List.length_set, List.map_replicate, nilVC, zr_25, sz_25, fs_25, fl_25_4, sz_3, fl_25_2, sz_23, el_23, fl_25_0, sz_22, el_22, sz_4, c_impl_SigOk, c_impl_cloneSig, c_impl_isSig, c_impl_in]
    refine ⟨(0, 0, 0, 0), [(4, 1), (4, 1), (3, 1), (3, 1)], [2, 3, 4, 5], ?_⟩
    simp [WL, WNL, swA_new, swA_ne, nest_sw_ne, mapLL, List.mem_cons, Nat.reduceAdd, Nat.reduceLT, Nat.reduceLeDiff, Nat.reduceEqDiff, okU, List.nodup_cons, List.not_mem_nil, toT, toL, toO, keysO, renl, rent, cll, clt, eq_self, AV.eqv, AC.eqv, eqvl, eqvt, Sl.eqv, rowsLe, mapLL, rowsCl, List.map_append, List.length_map, List.length_append, List.length_set, List.map_replicate, rowG, List.getElem?_cons_zero, List.getElem?_cons_succ, List.getElem?_nil, List.append_nil, List.nil_append, List.cons_append, ghosts, St.gh, Option.some.injEq, implies_true, setT, AV.ren, AC.ren, AV.cl, AC.cl, List.replicate_succ, List.replicate_zero, List.nodup_nil, List.length_nil, List.length_cons, List.getD_cons_zero, List.getD_cons_succ, ↓reduceIte, retP]
def c_spec_SigMask : Contract := ⟨21, fun args M => match args with
  | [.agg [.sl a1 n1 c1, .sl a2 n2 c2, .sl a3 n3 c3, .sl a4 n4 c4, .int .i64 u], .c (.int .i64 n), .c (.bool on)] => .eff ((RowOk Bool a1 n1 (M a1.r) ∧ RowOk Bool a2 n2 (M a2.r) ∧ RowOk Int a3 n3 (M a3.r) ∧ RowOk Int a4 n4 (M a4.r)) ∧ (n1 ≤ c1 ∧ n2 ≤ c2 ∧ n3 ≤ c3 ∧ n4 ≤ c4) ∧ hasRow Bool a2 (M a2.r) ∧ hasRow Int a3 (M a3.r)) (Nat × Nat × Nat × Nat) (fun p => (maskO (row Bool a1 n1 (M a1.r)) (row Bool a2 n2 (M a2.r)) (row Int a3 n3 (M a3.r)) (row Int a4 n4 (M a4.r)) u n on).1.1.length ≤ p.1 ∧ (maskO (row Bool a1 n1 (M a1.r)) (row Bool a2 n2 (M a2.r)) (row Int a3 n3 (M a3.r)) (row Int a4 n4 (M a4.r)) u n on).1.2.1.length ≤ p.2.1 ∧ (maskO (row Bool a1 n1 (M a1.r)) (row Bool a2 n2 (M a2.r)) (row Int a3 n3 (M a3.r)) (row Int a4 n4 (M a4.r)) u n on).1.2.2.1.length ≤ p.2.2.1 ∧ (maskO (row Bool a1 n1 (M a1.r)) (row Bool a2 n2 (M a2.r)) (row Int a3 n3 (M a3.r)) (row Int a4 n4 (M a4.r)) u n on).1.2.2.2.1.length ≤ p.2.2.2) (fun p => .tup [(true, [.sl ⟨.loc 0, 0, 0, 0⟩ (maskO (row Bool a1 n1 (M a1.r)) (row Bool a2 n2 (M a2.r)) (row Int a3 n3 (M a3.r)) (row Int a4 n4 (M a4.r)) u n on).1.1.length p.1, .sl ⟨.loc 1, 0, 0, 0⟩ (maskO (row Bool a1 n1 (M a1.r)) (row Bool a2 n2 (M a2.r)) (row Int a3 n3 (M a3.r)) (row Int a4 n4 (M a4.r)) u n on).1.2.1.length p.2.1, .sl ⟨.loc 2, 0, 0, 0⟩ (maskO (row Bool a1 n1 (M a1.r)) (row Bool a2 n2 (M a2.r)) (row Int a3 n3 (M a3.r)) (row Int a4 n4 (M a4.r)) u n on).1.2.2.1.length p.2.2.1, .sl ⟨.loc 3, 0, 0, 0⟩ (maskO (row Bool a1 n1 (M a1.r)) (row Bool a2 n2 (M a2.r)) (row Int a3 n3 (M a3.r)) (row Int a4 n4 (M a4.r)) u n on).1.2.2.2.1.length p.2.2.2, .int .i64 (maskO (row Bool a1 n1 (M a1.r)) (row Bool a2 n2 (M a2.r)) (row Int a3 n3 (M a3.r)) (row Int a4 n4 (M a4.r)) u n on).1.2.2.2.2]), (false, [.bool (maskO (row Bool a1 n1 (M a1.r)) (row Bool a2 n2 (M a2.r)) (row Int a3 n3 (M a3.r)) (row Int a4 n4 (M a4.r)) u n on).2])]) (fun p => [rowG true 4 p.1 (maskO (row Bool a1 n1 (M a1.r)) (row Bool a2 n2 (M a2.r)) (row Int a3 n3 (M a3.r)) (row Int a4 n4 (M a4.r)) u n on).1.1, rowG true 4 p.2.1 (maskO (row Bool a1 n1 (M a1.r)) (row Bool a2 n2 (M a2.r)) (row Int a3 n3 (M a3.r)) (row Int a4 n4 (M a4.r)) u n on).1.2.1, rowG true 3 p.2.2.1 (maskO (row Bool a1 n1 (M a1.r)) (row Bool a2 n2 (M a2.r)) (row Int a3 n3 (M a3.r)) (row Int a4 n4 (M a4.r)) u n on).1.2.2.1, rowG true 3 p.2.2.2 (maskO (row Bool a1 n1 (M a1.r)) (row Bool a2 n2 (M a2.r)) (row Int a3 n3 (M a3.r)) (row Int a4 n4 (M a4.r)) u n on).1.2.2.2.1]) (fun _ => [])
  | _ => .bad⟩
theorem ok_spec_SigMask : fnP Try.prog c_spec_SigMask.f = true ∧ ∀ args M, (c_spec_SigMask.sp args M).OK Try.prog c_spec_SigMask.f args M := by
  refine ⟨fp_21, fun args M => ?_⟩
  unfold c_spec_SigMask
  dsimp only
  split
  case h_2 => trivial
  rename_i a1 n1 c1 a2 n2 c2 a3 n3 c3 a4 n4 c4 u n on
  rintro ⟨⟨h1, h2, h3, h4⟩, ⟨k1, k2, k3, k4⟩, x2, x3⟩
  obtain ⟨s1, P, hP, rfl, t1⟩ := h1.x
  obtain ⟨s2, K, hK, rfl, t2⟩ := h2.x
  obtain ⟨s3, D, hD, rfl, t3⟩ := h3.x
  obtain ⟨s4, I, hI, rfl, t4⟩ := h4.x
  rw [hP, hK, hD, hI]
  refine goIn hf_21 rfl (nt := 35) rfl (rs := [.cell 6 25, .tmp 7]) rfl (C := [c_spec_SigOk, c_spec_l32Copy, c_spec_l32Num]) ⟨(by first | exact .inl ok_spec_SigOk | exact ok_spec_SigOk), (by first | exact .inl ok_spec_l32Copy | exact ok_spec_l32Copy), (by first | exact .inl ok_spec_l32Num | exact ok_spec_l32Num), trivial⟩ (q := fun _ => false) okQ_none mixed (O := fun _ => .nil) (by kernel_rfl) ?_
  by_cases hok : sigOk P K D I u
  · obtain ⟨l1, l2, l3, l4, _⟩ := hok.1
    obtain ⟨own3, ty3, cnt3, cap3, len3, get3, hM3, hf3, hic3, hkn3, hget3⟩ := t3 (by omega)
    by_cases hmay : (1 ≤ n ∧ n ≤ 16) ∧ n ≠ 9 ∧ u = 0
    · have hw : IntKind.i64.wrap (n - 1) = n - 1 := w64 (by omega) (by omega)
      have hgD : (List.map enc D).getD (n - 1).toNat [] = enc (D.getD (n - 1).toNat default) := getD_enc _ _ (by omega)
      have hgA : get3 a3.i (a3.k + (n - 1).toNat) = enc (D.getD (n - 1).toNat default) := hget3 _ (by omega)
      have f3 := hD
      rw [hM3] at f3
      have r3 := h3
      rw [hM3] at r3
      have q3 : row Int a3.up D.length (some (Rg.arr own3 ty3 1 cnt3 cap3 len3 fun i k => List.map AC.up (get3 i k))) = D := (row_up (α := Int) (a := a3) (n := D.length) (o := some (.arr own3 ty3 (Cel.sz Int) cnt3 cap3 len3 get3))).trans f3
      have q3' : RowOk Int a3.up D.length (some (Rg.arr own3 ty3 1 cnt3 cap3 len3 fun i k => List.map AC.up (get3 i k))) := (RowOk_up (α := Int) (a := a3) (n := D.length) (o := some (.arr own3 ty3 (Cel.sz Int) cnt3 cap3 len3 get3))).mpr r3
      have hc : (!decide (1 ≤ n ∧ n ≤ 16) || decide (n = 9) || !decide (u = 0)) = false := by simp only [WB, eq_self]; omega
      · have hO : (maskO P K D I u n on) = ((P, K.set (n - 1).toNat on, D, I, u), true) := by rw [maskO, if_pos hok, if_pos hmay]
        rw [hO]
        simp only [↓WP, ↓grdD, ↓grdT, ↓un_dead, ↓binVC, ↓buildVC, ↓sliceVC, WQ, WN, Int.reduceToNat, renl, cll, rent, clt, ↓reduceIte, Nat.reduceLeDiff, Nat.reduceEqDiff, Nat.reduceLT, reduceCtorEq, List.append_nil, Nat.reduceAdd, Nat.reduceSub, Nat.reduceBEq, forall_const, implies_true, cond_true, cond_false, AV.ren, AC.ren, AV.cl, AC.cl, eq_self, List.all_cons, List.all_nil, AV.eqv, AC.eqv, eqvl, eqvt, Sl.eqv, List.map_append, List.length_map, List.length_append, List.length_replicate, List.length_set, List.map_replicate, nilVC, zr_25, sz_25, fs_25, fl_25_4, sz_3, fl_25_1, sz_22, el_22, sz_4, c_spec_SigOk, c_spec_l32Copy, c_spec_l32Num, hP, hK, hD, hI, decide_eq_true hok, hc, hw, hasRow_up]
        repeat' (first | with_reducible refine And.intro ?_ ?_ | intro _)
        all_goals try omega
        all_goals try assumption
        all_goals
          rename_i p hp
          obtain ⟨p1, p2, p3, p4⟩ := p
          refine end_ret ?_
          simp only [↓WP, ↓grdD, ↓grdT, ↓un_dead, ↓binVC, ↓buildVC, ↓sliceVC, WQ, WN, Int.reduceToNat, renl, cll, rent, clt, ↓reduceIte, Nat.reduceLeDiff, Nat.reduceEqDiff, Nat.reduceLT, reduceCtorEq, List.append_nil, Nat.reduceAdd, Nat.reduceSub, Nat.reduceBEq, forall_const, implies_true, cond_true, cond_false, AV.ren, AC.ren, AV.cl, AC.cl, eq_self, List.all_cons, List.all_nil, AV.eqv, AC.eqv, eqvl, eqvt, Sl.eqv, List.map_append, List.length_map, List.length_append, List.length_replicate, List.length_set, List.map_replicate, nilVC, zr_25, sz_25, fs_25, fl_25_4, sz_3, fl_25_1, sz_22, el_22, sz_4, c_spec_SigOk, c_spec_l32Copy, c_spec_l32Num]
          refine ⟨(p1, p2, p3, p4), [], [2, 3, 4, 5], ?_⟩
          simp only [WL, WNL, swA_new, swA_ne, nest_sw_ne, mapLL, List.mem_cons, Nat.reduceAdd, Nat.reduceLT, Nat.reduceLeDiff, Nat.reduceEqDiff, okU, List.nodup_cons, List.not_mem_nil, toT, toL, toO, keysO, renl, rent, cll, clt, eq_self, AV.eqv, AC.eqv, eqvl, eqvt, Sl.eqv, rowsLe, mapLL, rowsCl, List.map_append, List.length_map, List.length_append, List.length_set, List.map_replicate, rowG, List.getElem?_cons_zero, List.getElem?_cons_succ, List.getElem?_nil, List.append_nil, List.nil_append, List.cons_append, ghosts, St.gh, Option.some.injEq, implies_true, setT, AV.ren, AC.ren, AV.cl, AC.cl, List.replicate_succ, List.replicate_zero, List.nodup_nil, List.length_nil, List.length_cons, List.getD_cons_zero, List.getD_cons_succ, ↓reduceIte, retP, List.map_set, List.length_set]
          simp at hp ⊢
          exact hp
    · have hO : (maskO P K D I u n on) = ((P, K, D, I, u), false) := by rw [maskO, if_pos hok, if_neg hmay]
      have hc : (!decide (1 ≤ n ∧ n ≤ 16) || decide (n = 9) || !decide (u = 0)) = true := by simp only [WB, eq_self]; omega
      rw [hO]
      simp only [↓WP, ↓grdD, ↓grdT, ↓un_dead, ↓binVC, ↓buildVC, ↓sliceVC, WQ, WN, Int.reduceToNat, renl, cll, rent, clt, ↓reduceIte, Nat.reduceLeDiff, Nat.reduceEqDiff, Nat.reduceLT, reduceCtorEq, List.append_nil, Nat.reduceAdd, Nat.reduceSub, Nat.reduceBEq, forall_const, implies_true, cond_true, cond_false, AV.ren, AC.ren, AV.cl, AC.cl, eq_self, List.all_cons, List.all_nil, AV.eqv, AC.eqv, eqvl, eqvt, Sl.eqv, List.map_append, List.length_map, List.length_append, List.length_replicate, List.length_set, List.map_replicate, nilVC, zr_25, sz_25, fs_25, fl_25_4, sz_3, fl_25_1, sz_22, el_22, sz_4, c_spec_SigOk, c_spec_l32Copy, c_spec_l32Num, hP, hK, hD, hI, decide_eq_true hok, hc, hasRow_up]
      repeat' (first | with_reducible refine And.intro ?_ ?_ | intro _)
      all_goals try omega
      all_goals try assumption
      all_goals
        rename_i p hp
        obtain ⟨p1, p2, p3, p4⟩ := p
        refine end_ret ?_
        simp only [↓WP, ↓grdD, ↓grdT, ↓un_dead, ↓binVC, ↓buildVC, ↓sliceVC, WQ, WN, Int.reduceToNat, renl, cll, rent, clt, ↓reduceIte, Nat.reduceLeDiff, Nat.reduceEqDiff, Nat.reduceLT, reduceCtorEq, List.append_nil, Nat.reduceAdd, Nat.reduceSub, Nat.reduceBEq, forall_const, implies_true, cond_true, cond_false, AV.ren, AC.ren, AV.cl, AC.cl, eq_self, List.all_cons, List.all_nil, AV.eqv, AC.eqv, eqvl, eqvt, Sl.eqv, List.map_append, List.length_map, List.length_append, List.length_replicate, List.length_set, List.map_replicate, nilVC, zr_25, sz_25, fs_25, fl_25_4, sz_3, fl_25_1, sz_22, el_22, sz_4, c_spec_SigOk, c_spec_l32Copy, c_spec_l32Num]
        refine ⟨(p1, p2, p3, p4), [], [2, 3, 4, 5], ?_⟩
        simp only [WL, WNL, swA_new, swA_ne, nest_sw_ne, mapLL, List.mem_cons, Nat.reduceAdd, Nat.reduceLT, Nat.reduceLeDiff, Nat.reduceEqDiff, okU, List.nodup_cons, List.not_mem_nil, toT, toL, toO, keysO, renl, rent, cll, clt, eq_self, AV.eqv, AC.eqv, eqvl, eqvt, Sl.eqv, rowsLe, mapLL, rowsCl, List.map_append, List.length_map, List.length_append, List.length_set, List.map_replicate, rowG, List.getElem?_cons_zero, List.getElem?_cons_succ, List.getElem?_nil, List.append_nil, List.nil_append, List.cons_append, ghosts, St.gh, Option.some.injEq, implies_true, setT, AV.ren, AC.ren, AV.cl, AC.cl, List.replicate_succ, List.replicate_zero, List.nodup_nil, List.length_nil, List.length_cons, List.getD_cons_zero, List.getD_cons_succ, ↓reduceIte, retP, List.map_set, List.length_set]
        simp at hp ⊢
        exact hp
  · have hO : (maskO P K D I u n on) = (([], [], [], [], 0), false) := if_neg hok
    rw [hO]
    simp only [↓WP, ↓grdD, ↓grdT, ↓un_dead, ↓binVC, ↓buildVC, ↓sliceVC, WQ, WN, Int.reduceToNat, renl, cll, rent, clt, ↓reduceIte, Nat.reduceLeDiff, Nat.reduceEqDiff, Nat.reduceLT, reduceCtorEq, List.append_nil, Nat.reduceAdd, Nat.reduceSub, Nat.reduceBEq, forall_const, implies_true, cond_true, cond_false, AV.ren, AC.ren, AV.cl, AC.cl, eq_self, List.all_cons, List.all_nil, AV.eqv, AC.eqv, eqvl, eqvt, Sl.eqv, List.map_append, List.length_map, List.length_append, List.length_replicate, List.length_set, List.map_replicate, nilVC, zr_25, sz_25, fs_25, fl_25_4, sz_3, fl_25_1, sz_22, el_22, sz_4, c_spec_SigOk, c_spec_l32Copy, c_spec_l32Num, hP, hK, hD, hI, decide_eq_false hok, hasRow_up]
    refine ⟨by first | exact ⟨h1, h2, h3, h4, k4⟩ | exact ⟨⟨h1, h2, h3, h4, k4⟩, x2, x3⟩, end_ret ?_⟩
    simp only [↓WP, ↓grdD, ↓grdT, ↓un_dead, ↓binVC, ↓buildVC, ↓sliceVC, WQ, WN, Int.reduceToNat, renl, cll, rent, clt, ↓reduceIte, Nat.reduceLeDiff, Nat.reduceEqDiff, Nat.reduceLT, reduceCtorEq, List.append_nil, Nat.reduceAdd, Nat.reduceSub, Nat.reduceBEq, forall_const, implies_true, cond_true, cond_false, AV.ren, AC.ren, AV.cl, AC.cl, eq_self, List.all_cons, List.all_nil, AV.eqv, AC.eqv, eqvl, eqvt, Sl.eqv, List.map_append, List.length_map, List.length_append, List.length_replicate, List.length_set, List.map_replicate, nilVC, zr_25, sz_25, fs_25, fl_25_4, sz_3, fl_25_1, sz_22, el_22, sz_4, c_spec_SigOk, c_spec_l32Copy, c_spec_l32Num]
    refine ⟨(0, 0, 0, 0), [(4, 1), (4, 1), (3, 1), (3, 1)], [2, 3, 4, 5], ?_⟩
    simp [WL, WNL, swA_new, swA_ne, nest_sw_ne, mapLL, List.mem_cons, Nat.reduceAdd, Nat.reduceLT, Nat.reduceLeDiff, Nat.reduceEqDiff, okU, List.nodup_cons, List.not_mem_nil, toT, toL, toO, keysO, renl, rent, cll, clt, eq_self, AV.eqv, AC.eqv, eqvl, eqvt, Sl.eqv, rowsLe, mapLL, rowsCl, List.map_append, List.length_map, List.length_append, List.length_set, List.map_replicate, rowG, List.getElem?_cons_zero, List.getElem?_cons_succ, List.getElem?_nil, List.append_nil, List.nil_append, List.cons_append, ghosts, St.gh, Option.some.injEq, implies_true, setT, AV.ren, AC.ren, AV.cl, AC.cl, List.replicate_succ, List.replicate_zero, List.nodup_nil, List.length_nil, List.length_cons, List.getD_cons_zero, List.getD_cons_succ, ↓reduceIte, retP]
def c_spec_SigSend : Contract := ⟨25, fun args M => match args with
  | [.agg [.sl a1 n1 c1, .sl a2 n2 c2, .sl a3 n3 c3, .sl a4 n4 c4, .int .i64 u], .c (.int .i64 n)] => .eff ((RowOk Bool a1 n1 (M a1.r) ∧ RowOk Bool a2 n2 (M a2.r) ∧ RowOk Int a3 n3 (M a3.r) ∧ RowOk Int a4 n4 (M a4.r)) ∧ (n1 ≤ c1 ∧ n2 ≤ c2 ∧ n3 ≤ c3 ∧ n4 ≤ c4) ∧ hasRow Bool a2 (M a2.r) ∧ hasRow Int a3 (M a3.r)) (Nat × Nat × Nat × Nat) (fun p => (sendO (row Bool a1 n1 (M a1.r)) (row Bool a2 n2 (M a2.r)) (row Int a3 n3 (M a3.r)) (row Int a4 n4 (M a4.r)) u n).1.1.length ≤ p.1 ∧ (sendO (row Bool a1 n1 (M a1.r)) (row Bool a2 n2 (M a2.r)) (row Int a3 n3 (M a3.r)) (row Int a4 n4 (M a4.r)) u n).1.2.1.length ≤ p.2.1 ∧ (sendO (row Bool a1 n1 (M a1.r)) (row Bool a2 n2 (M a2.r)) (row Int a3 n3 (M a3.r)) (row Int a4 n4 (M a4.r)) u n).1.2.2.1.length ≤ p.2.2.1 ∧ (sendO (row Bool a1 n1 (M a1.r)) (row Bool a2 n2 (M a2.r)) (row Int a3 n3 (M a3.r)) (row Int a4 n4 (M a4.r)) u n).1.2.2.2.1.length ≤ p.2.2.2) (fun p => .tup [(true, [.sl ⟨.loc 0, 0, 0, 0⟩ (sendO (row Bool a1 n1 (M a1.r)) (row Bool a2 n2 (M a2.r)) (row Int a3 n3 (M a3.r)) (row Int a4 n4 (M a4.r)) u n).1.1.length p.1, .sl ⟨.loc 1, 0, 0, 0⟩ (sendO (row Bool a1 n1 (M a1.r)) (row Bool a2 n2 (M a2.r)) (row Int a3 n3 (M a3.r)) (row Int a4 n4 (M a4.r)) u n).1.2.1.length p.2.1, .sl ⟨.loc 2, 0, 0, 0⟩ (sendO (row Bool a1 n1 (M a1.r)) (row Bool a2 n2 (M a2.r)) (row Int a3 n3 (M a3.r)) (row Int a4 n4 (M a4.r)) u n).1.2.2.1.length p.2.2.1, .sl ⟨.loc 3, 0, 0, 0⟩ (sendO (row Bool a1 n1 (M a1.r)) (row Bool a2 n2 (M a2.r)) (row Int a3 n3 (M a3.r)) (row Int a4 n4 (M a4.r)) u n).1.2.2.2.1.length p.2.2.2, .int .i64 (sendO (row Bool a1 n1 (M a1.r)) (row Bool a2 n2 (M a2.r)) (row Int a3 n3 (M a3.r)) (row Int a4 n4 (M a4.r)) u n).1.2.2.2.2]), (false, [.bool (sendO (row Bool a1 n1 (M a1.r)) (row Bool a2 n2 (M a2.r)) (row Int a3 n3 (M a3.r)) (row Int a4 n4 (M a4.r)) u n).2])]) (fun p => [rowG true 4 p.1 (sendO (row Bool a1 n1 (M a1.r)) (row Bool a2 n2 (M a2.r)) (row Int a3 n3 (M a3.r)) (row Int a4 n4 (M a4.r)) u n).1.1, rowG true 4 p.2.1 (sendO (row Bool a1 n1 (M a1.r)) (row Bool a2 n2 (M a2.r)) (row Int a3 n3 (M a3.r)) (row Int a4 n4 (M a4.r)) u n).1.2.1, rowG true 3 p.2.2.1 (sendO (row Bool a1 n1 (M a1.r)) (row Bool a2 n2 (M a2.r)) (row Int a3 n3 (M a3.r)) (row Int a4 n4 (M a4.r)) u n).1.2.2.1, rowG true 3 p.2.2.2 (sendO (row Bool a1 n1 (M a1.r)) (row Bool a2 n2 (M a2.r)) (row Int a3 n3 (M a3.r)) (row Int a4 n4 (M a4.r)) u n).1.2.2.2.1]) (fun _ => [])
  | _ => .bad⟩
theorem ok_spec_SigSend : fnP Try.prog c_spec_SigSend.f = true ∧ ∀ args M, (c_spec_SigSend.sp args M).OK Try.prog c_spec_SigSend.f args M := by
  refine ⟨fp_25, fun args M => ?_⟩
  unfold c_spec_SigSend
  dsimp only
  split
  case h_2 => trivial
  rename_i a1 n1 c1 a2 n2 c2 a3 n3 c3 a4 n4 c4 u n
  rintro ⟨⟨h1, h2, h3, h4⟩, ⟨k1, k2, k3, k4⟩, x2, x3⟩
  obtain ⟨s1, P, hP, rfl, t1⟩ := h1.x
  obtain ⟨s2, K, hK, rfl, t2⟩ := h2.x
  obtain ⟨s3, D, hD, rfl, t3⟩ := h3.x
  obtain ⟨s4, I, hI, rfl, t4⟩ := h4.x
  rw [hP, hK, hD, hI]
  refine goIn hf_25 rfl (nt := 35) rfl (rs := [.cell 4 25, .tmp 5]) rfl (C := [c_spec_SigOk, c_spec_l32Copy, c_spec_l32Num]) ⟨(by first | exact .inl ok_spec_SigOk | exact ok_spec_SigOk), (by first | exact .inl ok_spec_l32Copy | exact ok_spec_l32Copy), (by first | exact .inl ok_spec_l32Num | exact ok_spec_l32Num), trivial⟩ (q := fun _ => false) okQ_none mixed (O := fun _ => .nil) (by kernel_rfl) ?_
  by_cases hok : sigOk P K D I u
  · obtain ⟨l1, l2, l3, l4, _⟩ := hok.1
    obtain ⟨own3, ty3, cnt3, cap3, len3, get3, hM3, hf3, hic3, hkn3, hget3⟩ := t3 (by omega)
    by_cases hmay : (1 ≤ n ∧ n ≤ 16) ∧ u = 0
    · have hw : IntKind.i64.wrap (n - 1) = n - 1 := w64 (by omega) (by omega)
      have hgD : (List.map enc D).getD (n - 1).toNat [] = enc (D.getD (n - 1).toNat default) := getD_enc _ _ (by omega)
      have hgA : get3 a3.i (a3.k + (n - 1).toNat) = enc (D.getD (n - 1).toNat default) := hget3 _ (by omega)
      have f3 := hD
      rw [hM3] at f3
      have r3 := h3
      rw [hM3] at r3
      have q3 : row Int a3.up D.length (some (Rg.arr own3 ty3 1 cnt3 cap3 len3 fun i k => List.map AC.up (get3 i k))) = D := (row_up (α := Int) (a := a3) (n := D.length) (o := some (.arr own3 ty3 (Cel.sz Int) cnt3 cap3 len3 get3))).trans f3
      have q3' : RowOk Int a3.up D.length (some (Rg.arr own3 ty3 1 cnt3 cap3 len3 fun i k => List.map AC.up (get3 i k))) := (RowOk_up (α := Int) (a := a3) (n := D.length) (o := some (.arr own3 ty3 (Cel.sz Int) cnt3 cap3 len3 get3))).mpr r3
      have hc : (!decide (1 ≤ n ∧ n ≤ 16) || !decide (u = 0)) = false := by simp only [WB, eq_self]; omega
      by_cases hb : D.getD (n - 1).toNat default = 1
      · have hO : (sendO P K D I u n) = ((P, K, D, I, u), true) := by rw [sendO, if_pos hok, if_pos hmay, if_pos hb]
        have hbd : decide (D.getD (n - 1).toNat default = 1) = true := decide_eq_true hb
        rw [hO]
        simp only [↓WP, ↓grdD, ↓grdT, ↓un_dead, ↓binVC, ↓buildVC, ↓sliceVC, WQ, WN, Int.reduceToNat, renl, cll, rent, clt, ↓reduceIte, Nat.reduceLeDiff, Nat.reduceEqDiff, Nat.reduceLT, reduceCtorEq, List.append_nil, Nat.reduceAdd, Nat.reduceSub, Nat.reduceBEq, forall_const, implies_true, cond_true, cond_false, AV.ren, AC.ren, AV.cl, AC.cl, eq_self, List.all_cons, List.all_nil, AV.eqv, AC.eqv, eqvl, eqvt, Sl.eqv, List.map_append, List.length_map, List.length_append, List.length_replicate, List.length_set, List.map_replicate, nilVC, zr_25, sz_25, fs_25, fl_25_4, sz_3, fl_25_2, sz_23, el_23, fl_25_0, sz_22, el_22, sz_4, c_spec_SigOk, c_spec_l32Copy, c_spec_l32Num, hP, hK, hD, hI, decide_eq_true hok, hc, hw, hgD, hw, hbd, hasRow_up]
        repeat' (first | with_reducible refine And.intro ?_ ?_ | intro _)
        all_goals try omega
        all_goals try assumption
        all_goals
          rename_i p hp
          obtain ⟨p1, p2, p3, p4⟩ := p
          refine end_ret ?_
          simp only [↓WP, ↓grdD, ↓grdT, ↓un_dead, ↓binVC, ↓buildVC, ↓sliceVC, WQ, WN, Int.reduceToNat, renl, cll, rent, clt, ↓reduceIte, Nat.reduceLeDiff, Nat.reduceEqDiff, Nat.reduceLT, reduceCtorEq, List.append_nil, Nat.reduceAdd, Nat.reduceSub, Nat.reduceBEq, forall_const, implies_true, cond_true, cond_false, AV.ren, AC.ren, AV.cl, AC.cl, eq_self, List.all_cons, List.all_nil, AV.eqv, AC.eqv, eqvl, eqvt, Sl.eqv, List.map_append, List.length_map, List.length_append, List.length_replicate, List.length_set, List.map_replicate, nilVC, zr_25, sz_25, fs_25, fl_25_4, sz_3, fl_25_2, sz_23, el_23, fl_25_0, sz_22, el_22, sz_4, c_spec_SigOk, c_spec_l32Copy, c_spec_l32Num]
          refine ⟨(p1, p2, p3, p4), [], [2, 3, 4, 5], ?_⟩
          simp only [WL, WNL, swA_new, swA_ne, nest_sw_ne, mapLL, List.mem_cons, Nat.reduceAdd, Nat.reduceLT, Nat.reduceLeDiff, Nat.reduceEqDiff, okU, List.nodup_cons, List.not_mem_nil, toT, toL, toO, keysO, renl, rent, cll, clt, eq_self, AV.eqv, AC.eqv, eqvl, eqvt, Sl.eqv, rowsLe, mapLL, rowsCl, List.map_append, List.length_map, List.length_append, List.length_set, List.map_replicate, rowG, List.getElem?_cons_zero, List.getElem?_cons_succ, List.getElem?_nil, List.append_nil, List.nil_append, List.cons_append, ghosts, St.gh, Option.some.injEq, implies_true, setT, AV.ren, AC.ren, AV.cl, AC.cl, List.replicate_succ, List.replicate_zero, List.nodup_nil, List.length_nil, List.length_cons, List.getD_cons_zero, List.getD_cons_succ, ↓reduceIte, retP, List.map_set, List.length_set]
          simp at hp ⊢
          exact hp
      · have hO : (sendO P K D I u n) = ((P.set (n - 1).toNat true, K, D, I, u), true) := by rw [sendO, if_pos hok, if_pos hmay, if_neg hb]
        have hbd : decide (D.getD (n - 1).toNat default = 1) = false := decide_eq_false hb
        rw [hO]
        simp only [↓WP, ↓grdD, ↓grdT, ↓un_dead, ↓binVC, ↓buildVC, ↓sliceVC, WQ, WN, Int.reduceToNat, renl, cll, rent, clt, ↓reduceIte, Nat.reduceLeDiff, Nat.reduceEqDiff, Nat.reduceLT, reduceCtorEq, List.append_nil, Nat.reduceAdd, Nat.reduceSub, Nat.reduceBEq, forall_const, implies_true, cond_true, cond_false, AV.ren, AC.ren, AV.cl, AC.cl, eq_self, List.all_cons, List.all_nil, AV.eqv, AC.eqv, eqvl, eqvt, Sl.eqv, List.map_append, List.length_map, List.length_append, List.length_replicate, List.length_set, List.map_replicate, nilVC, zr_25, sz_25, fs_25, fl_25_4, sz_3, fl_25_2, sz_23, el_23, fl_25_0, sz_22, el_22, sz_4, c_spec_SigOk, c_spec_l32Copy, c_spec_l32Num, hP, hK, hD, hI, decide_eq_true hok, hc, hw, hgD, hw, hbd, hasRow_up]
        repeat' (first | with_reducible refine And.intro ?_ ?_ | intro _)
        all_goals try omega
        all_goals try assumption
        all_goals
          rename_i p hp
          obtain ⟨p1, p2, p3, p4⟩ := p
          refine end_ret ?_
          simp only [↓WP, ↓grdD, ↓grdT, ↓un_dead, ↓binVC, ↓buildVC, ↓sliceVC, WQ, WN, Int.reduceToNat, renl, cll, rent, clt, ↓reduceIte, Nat.reduceLeDiff, Nat.reduceEqDiff, Nat.reduceLT, reduceCtorEq, List.append_nil, Nat.reduceAdd, Nat.reduceSub, Nat.reduceBEq, forall_const, implies_true, cond_true, cond_false, AV.ren, AC.ren, AV.cl, AC.cl, eq_self, List.all_cons, List.all_nil, AV.eqv, AC.eqv, eqvl, eqvt, Sl.eqv, List.map_append, List.length_map, List.length_append, List.length_replicate, List.length_set, List.map_replicate, nilVC, zr_25, sz_25, fs_25, fl_25_4, sz_3, fl_25_2, sz_23, el_23, fl_25_0, sz_22, el_22, sz_4, c_spec_SigOk, c_spec_l32Copy, c_spec_l32Num]
          refine ⟨(p1, p2, p3, p4), [], [2, 3, 4, 5], ?_⟩
          simp only [WL, WNL, swA_new, swA_ne, nest_sw_ne, mapLL, List.mem_cons, Nat.reduceAdd, Nat.reduceLT, Nat.reduceLeDiff, Nat.reduceEqDiff, okU, List.nodup_cons, List.not_mem_nil, toT, toL, toO, keysO, renl, rent, cll, clt, eq_self, AV.eqv, AC.eqv, eqvl, eqvt, Sl.eqv, rowsLe, mapLL, rowsCl, List.map_append, List.length_map, List.length_append, List.length_set, List.map_replicate, rowG, List.getElem?_cons_zero, List.getElem?_cons_succ, List.getElem?_nil, List.append_nil, List.nil_append, List.cons_append, ghosts, St.gh, Option.some.injEq, implies_true, setT, AV.ren, AC.ren, AV.cl, AC.cl, List.replicate_succ, List.replicate_zero, List.nodup_nil, List.length_nil, List.length_cons, List.getD_cons_zero, List.getD_cons_succ, ↓reduceIte, retP, List.map_set, List.length_set]
          simp at hp ⊢
          exact hp
    · have hO : (sendO P K D I u n) = ((P, K, D, I, u), false) := by rw [sendO, if_pos hok, if_neg hmay]
      have hc : (!decide (1 ≤ n ∧ n ≤ 16) || !decide (u = 0)) = true := by simp only [WB, eq_self]; omega
      rw [hO]
      simp only [↓WP, ↓grdD, ↓grdT, ↓un_dead, ↓binVC, ↓buildVC, ↓sliceVC, WQ, WN, Int.reduceToNat, renl, cll, rent, clt, ↓reduceIte, Nat.reduceLeDiff, Nat.reduceEqDiff, Nat.reduceLT, reduceCtorEq, List.append_nil, Nat.reduceAdd, Nat.reduceSub, Nat.reduceBEq, forall_const, implies_true, cond_true, cond_false, AV.ren, AC.ren, AV.cl, AC.cl, eq_self, List.all_cons, List.all_nil, AV.eqv, AC.eqv, eqvl, eqvt, Sl.eqv, List.map_append, List.length_map, List.length_append, List.length_replicate, List.length_set, List.map_replicate, nilVC, zr_25, sz_25, fs_25, fl_25_4, sz_3, fl_25_2, sz_23, el_23, fl_25_0, sz_22, el_22, sz_4, c_spec_SigOk, c_spec_l32Copy, c_spec_l32Num, hP, hK, hD, hI, decide_eq_true hok, hc, hasRow_up]
      repeat' (first | with_reducible refine And.intro ?_ ?_ | intro _)
      all_goals try omega
      all_goals try assumption
      all_goals
        rename_i p hp
        obtain ⟨p1, p2, p3, p4⟩ := p
        refine end_ret ?_
        simp only [↓WP, ↓grdD, ↓grdT, ↓un_dead, ↓binVC, ↓buildVC, ↓sliceVC, WQ, WN, Int.reduceToNat, renl, cll, rent, clt, ↓reduceIte, Nat.reduceLeDiff, Nat.reduceEqDiff, Nat.reduceLT, reduceCtorEq, List.append_nil, Nat.reduceAdd, Nat.reduceSub, Nat.reduceBEq, forall_const, implies_true, cond_true, cond_false, AV.ren, AC.ren, AV.cl, AC.cl, eq_self, List.all_cons, List.all_nil, AV.eqv, AC.eqv, eqvl, eqvt, Sl.eqv, List.map_append, List.length_map, List.length_append, List.length_replicate, List.length_set, List.map_replicate, nilVC, zr_25, sz_25, fs_25, fl_25_4, sz_3, fl_25_2, sz_23, el_23, fl_25_0, sz_22, el_22, sz_4, c_spec_SigOk, c_spec_l32Copy, c_spec_l32Num]
        refine ⟨(p1, p2, p3, p4), [], [2, 3, 4, 5], ?_⟩
        simp only [WL, WNL, swA_new, swA_ne, nest_sw_ne, mapLL, List.mem_cons, Nat.reduceAdd, Nat.reduceLT, Nat.reduceLeDiff, Nat.reduceEqDiff, okU, List.nodup_cons, List.not_mem_nil, toT, toL, toO, keysO, renl, rent, cll, clt, eq_self, AV.eqv, AC.eqv, eqvl, eqvt, Sl.eqv, rowsLe, mapLL, rowsCl, List.map_append, List.length_map, List.length_append, List.length_set, List.map_replicate, rowG, List.getElem?_cons_zero, List.getElem?_cons_succ, List.getElem?_nil, List.append_nil, List.nil_append, List.cons_append, ghosts, St.gh, Option.some.injEq, implies_true, setT, AV.ren, AC.ren, AV.cl, AC.cl, List.replicate_succ, List.replicate_zero, List.nodup_nil, List.length_nil, List.length_cons, List.getD_cons_zero, List.getD_cons_succ, ↓reduceIte, retP, List.map_set, List.length_set]
        simp at hp ⊢
        exact hp
  · have hO : (sendO P K D I u n) = (([], [], [], [], 0), false) := if_neg hok
    rw [hO]
    simp only [↓WP, ↓grdD, ↓grdT, ↓un_dead, ↓binVC, ↓buildVC, ↓sliceVC, WQ, WN, Int.reduceToNat, renl, cll, rent, clt, ↓reduceIte, Nat.reduceLeDiff, Nat.reduceEqDiff, Nat.reduceLT, reduceCtorEq, List.append_nil, Nat.reduceAdd, Nat.reduceSub, Nat.reduceBEq, forall_const, implies_true, cond_true, cond_false, AV.ren, AC.ren, AV.cl, AC.cl, eq_self, List.all_cons, List.all_nil, AV.eqv, AC.eqv, eqvl, eqvt, Sl.eqv, List.map_append, List.length_map, List.length_append, List.length_replicate, List.length_set, List.map_replicate, nilVC, zr_25, sz_25, fs_25, fl_25_4, sz_3, fl_25_2, sz_23, el_23, fl_25_0, sz_22, el_22, sz_4, c_spec_SigOk, c_spec_l32Copy, c_spec_l32Num, hP, hK, hD, hI, decide_eq_false hok, hasRow_up]
    refine ⟨by first | exact ⟨h1, h2, h3, h4, k4⟩ | exact ⟨⟨h1, h2, h3, h4, k4⟩, x2, x3⟩, end_ret ?_⟩
    simp only [↓WP, ↓grdD, ↓grdT, ↓un_dead, ↓binVC, ↓buildVC, ↓sliceVC, WQ, WN, Int.reduceToNat, renl, cll, rent, clt, ↓reduceIte, Nat.reduceLeDiff, Nat.reduceEqDiff, Nat.reduceLT, reduceCtorEq, List.append_nil, Nat.reduceAdd, Nat.reduceSub, Nat.reduceBEq, forall_const, implies_true, cond_true, cond_false, AV.ren, AC.ren, AV.cl, AC.cl, eq_self, List.all_cons, List.all_nil, AV.eqv, AC.eqv, eqvl, eqvt, Sl.eqv, List.map_append, List.length_map, List.length_append, List.length_replicate, List.length_set, List.map_replicate, nilVC, zr_25, sz_25, fs_25, fl_25_4, sz_3, fl_25_2, sz_23, el_23, fl_25_0, sz_22, el_22, sz_4, c_spec_SigOk, c_spec_l32Copy, c_spec_l32Num]
    refine ⟨(0, 0, 0, 0), [(4, 1), (4, 1), (3, 1), (3, 1)], [2, 3, 4, 5], ?_⟩
    simp [WL, WNL, swA_new, swA_ne, nest_sw_ne, mapLL, List.mem_cons, Nat.reduceAdd, Nat.reduceLT, Nat.reduceLeDiff, Nat.reduceEqDiff, okU, List.nodup_cons, List.not_mem_nil, toT, toL, toO, keysO, renl, rent, cll, clt, eq_self, AV.eqv, AC.eqv, eqvl, eqvt, Sl.eqv, rowsLe, mapLL, rowsCl, List.map_append, List.length_map, List.length_append, List.length_set, List.map_replicate, rowG, List.getElem?_cons_zero, List.getElem?_cons_succ, List.getElem?_nil, List.append_nil, List.nil_append, List.cons_append, ghosts, St.gh, Option.some.injEq, implies_true, setT, AV.ren, AC.ren, AV.cl, AC.cl, List.replicate_succ, List.replicate_zero, List.nodup_nil, List.length_nil, List.length_cons, List.getD_cons_zero, List.getD_cons_succ, ↓reduceIte, retP]
def c_spec_SigSet : Contract := ⟨27, fun args M => match args with
  | [.agg [.sl a1 n1 c1, .sl a2 n2 c2, .sl a3 n3 c3, .sl a4 n4 c4, .int .i64 u], .c (.int .i64 n), .c (.int .i64 d)] => .eff ((RowOk Bool a1 n1 (M a1.r) ∧ RowOk Bool a2 n2 (M a2.r) ∧ RowOk Int a3 n3 (M a3.r) ∧ RowOk Int a4 n4 (M a4.r)) ∧ (n1 ≤ c1 ∧ n2 ≤ c2 ∧ n3 ≤ c3 ∧ n4 ≤ c4) ∧ hasRow Bool a2 (M a2.r) ∧ hasRow Int a3 (M a3.r)) (Nat × Nat × Nat × Nat) (fun p => (setO (row Bool a1 n1 (M a1.r)) (row Bool a2 n2 (M a2.r)) (row Int a3 n3 (M a3.r)) (row Int a4 n4 (M a4.r)) u n d).1.1.length ≤ p.1 ∧ (setO (row Bool a1 n1 (M a1.r)) (row Bool a2 n2 (M a2.r)) (row Int a3 n3 (M a3.r)) (row Int a4 n4 (M a4.r)) u n d).1.2.1.length ≤ p.2.1 ∧ (setO (row Bool a1 n1 (M a1.r)) (row Bool a2 n2 (M a2.r)) (row Int a3 n3 (M a3.r)) (row Int a4 n4 (M a4.r)) u n d).1.2.2.1.length ≤ p.2.2.1 ∧ (setO (row Bool a1 n1 (M a1.r)) (row Bool a2 n2 (M a2.r)) (row Int a3 n3 (M a3.r)) (row Int a4 n4 (M a4.r)) u n d).1.2.2.2.1.length ≤ p.2.2.2) (fun p => .tup [(true, [.sl ⟨.loc 0, 0, 0, 0⟩ (setO (row Bool a1 n1 (M a1.r)) (row Bool a2 n2 (M a2.r)) (row Int a3 n3 (M a3.r)) (row Int a4 n4 (M a4.r)) u n d).1.1.length p.1, .sl ⟨.loc 1, 0, 0, 0⟩ (setO (row Bool a1 n1 (M a1.r)) (row Bool a2 n2 (M a2.r)) (row Int a3 n3 (M a3.r)) (row Int a4 n4 (M a4.r)) u n d).1.2.1.length p.2.1, .sl ⟨.loc 2, 0, 0, 0⟩ (setO (row Bool a1 n1 (M a1.r)) (row Bool a2 n2 (M a2.r)) (row Int a3 n3 (M a3.r)) (row Int a4 n4 (M a4.r)) u n d).1.2.2.1.length p.2.2.1, .sl ⟨.loc 3, 0, 0, 0⟩ (setO (row Bool a1 n1 (M a1.r)) (row Bool a2 n2 (M a2.r)) (row Int a3 n3 (M a3.r)) (row Int a4 n4 (M a4.r)) u n d).1.2.2.2.1.length p.2.2.2, .int .i64 (setO (row Bool a1 n1 (M a1.r)) (row Bool a2 n2 (M a2.r)) (row Int a3 n3 (M a3.r)) (row Int a4 n4 (M a4.r)) u n d).1.2.2.2.2]), (false, [.bool (setO (row Bool a1 n1 (M a1.r)) (row Bool a2 n2 (M a2.r)) (row Int a3 n3 (M a3.r)) (row Int a4 n4 (M a4.r)) u n d).2])]) (fun p => [rowG true 4 p.1 (setO (row Bool a1 n1 (M a1.r)) (row Bool a2 n2 (M a2.r)) (row Int a3 n3 (M a3.r)) (row Int a4 n4 (M a4.r)) u n d).1.1, rowG true 4 p.2.1 (setO (row Bool a1 n1 (M a1.r)) (row Bool a2 n2 (M a2.r)) (row Int a3 n3 (M a3.r)) (row Int a4 n4 (M a4.r)) u n d).1.2.1, rowG true 3 p.2.2.1 (setO (row Bool a1 n1 (M a1.r)) (row Bool a2 n2 (M a2.r)) (row Int a3 n3 (M a3.r)) (row Int a4 n4 (M a4.r)) u n d).1.2.2.1, rowG true 3 p.2.2.2 (setO (row Bool a1 n1 (M a1.r)) (row Bool a2 n2 (M a2.r)) (row Int a3 n3 (M a3.r)) (row Int a4 n4 (M a4.r)) u n d).1.2.2.2.1]) (fun _ => [])
  | _ => .bad⟩
theorem ok_spec_SigSet : fnP Try.prog c_spec_SigSet.f = true ∧ ∀ args M, (c_spec_SigSet.sp args M).OK Try.prog c_spec_SigSet.f args M := by
  refine ⟨fp_27, fun args M => ?_⟩
  unfold c_spec_SigSet
  dsimp only
  split
  case h_2 => trivial
  rename_i a1 n1 c1 a2 n2 c2 a3 n3 c3 a4 n4 c4 u n d
  rintro ⟨⟨h1, h2, h3, h4⟩, ⟨k1, k2, k3, k4⟩, x2, x3⟩
  obtain ⟨s1, P, hP, rfl, t1⟩ := h1.x
  obtain ⟨s2, K, hK, rfl, t2⟩ := h2.x
  obtain ⟨s3, D, hD, rfl, t3⟩ := h3.x
  obtain ⟨s4, I, hI, rfl, t4⟩ := h4.x
  rw [hP, hK, hD, hI]
  refine goIn hf_27 rfl (nt := 47) rfl (rs := [.cell 6 25, .tmp 7]) rfl (C := [c_spec_SigOk, c_spec_l32Copy, c_spec_l32Num, c_spec_l1In]) ⟨(by first | exact .inl ok_spec_SigOk | exact ok_spec_SigOk), (by first | exact .inl ok_spec_l32Copy | exact ok_spec_l32Copy), (by first | exact .inl ok_spec_l32Num | exact ok_spec_l32Num), (by first | exact .inl ok_spec_l1In | exact ok_spec_l1In), trivial⟩ (q := fun _ => false) okQ_none mixed (O := fun _ => .nil) (by kernel_rfl) ?_
  by_cases hok : sigOk P K D I u
  · obtain ⟨l1, l2, l3, l4, _⟩ := hok.1
    obtain ⟨own3, ty3, cnt3, cap3, len3, get3, hM3, hf3, hic3, hkn3, hget3⟩ := t3 (by omega)
    by_cases hmay : (1 ≤ n ∧ n ≤ 16) ∧ n ≠ 9 ∧ (0 ≤ d ∧ d ≤ 2) ∧ u = 0
    · have hw : IntKind.i64.wrap (n - 1) = n - 1 := w64 (by omega) (by omega)
      have hgD : (List.map enc D).getD (n - 1).toNat [] = enc (D.getD (n - 1).toNat default) := getD_enc _ _ (by omega)
      have hgA : get3 a3.i (a3.k + (n - 1).toNat) = enc (D.getD (n - 1).toNat default) := hget3 _ (by omega)
      have f3 := hD
      rw [hM3] at f3
      have r3 := h3
      rw [hM3] at r3
      have q3 : row Int a3.up D.length (some (Rg.arr own3 ty3 1 cnt3 cap3 len3 fun i k => List.map AC.up (get3 i k))) = D := (row_up (α := Int) (a := a3) (n := D.length) (o := some (.arr own3 ty3 (Cel.sz Int) cnt3 cap3 len3 get3))).trans f3
      have q3' : RowOk Int a3.up D.length (some (Rg.arr own3 ty3 1 cnt3 cap3 len3 fun i k => List.map AC.up (get3 i k))) := (RowOk_up (α := Int) (a := a3) (n := D.length) (o := some (.arr own3 ty3 (Cel.sz Int) cnt3 cap3 len3 get3))).mpr r3
      have hc : (!decide (1 ≤ n ∧ n ≤ 16) || decide (n = 9) || !decide (0 ≤ d ∧ d ≤ 2) || !decide (u = 0)) = false := by simp only [WB, eq_self]; omega
      by_cases hb : d = 1
      · have hO : (setO P K D I u n d) = ((P.set (n - 1).toNat false, K, D.set (n - 1).toNat d, I, u), true) := by rw [setO, if_pos hok, if_pos hmay, if_pos hb]
        have hbd : decide (d = 1) = true := decide_eq_true hb
        rw [hO]
        simp only [↓WP, ↓grdD, ↓grdT, ↓un_dead, ↓binVC, ↓buildVC, ↓sliceVC, WQ, WN, Int.reduceToNat, renl, cll, rent, clt, ↓reduceIte, Nat.reduceLeDiff, Nat.reduceEqDiff, Nat.reduceLT, reduceCtorEq, List.append_nil, Nat.reduceAdd, Nat.reduceSub, Nat.reduceBEq, forall_const, implies_true, cond_true, cond_false, AV.ren, AC.ren, AV.cl, AC.cl, eq_self, List.all_cons, List.all_nil, AV.eqv, AC.eqv, eqvl, eqvt, Sl.eqv, List.map_append, List.length_map, List.length_append, List.length_replicate, List.length_set, List.map_replicate, nilVC, zr_25, sz_25, fs_25, fl_25_4, sz_3, fl_25_2, sz_23, el_23, fl_25_0, sz_22, el_22, sz_4, c_spec_SigOk, c_spec_l32Copy, c_spec_l32Num, c_spec_l1In, hP, hK, hD, hI, decide_eq_true hok, hc, hw, hgD, hw, hbd, hasRow_up]
        repeat' (first | with_reducible refine And.intro ?_ ?_ | intro _)
        all_goals try omega
        all_goals try assumption
        all_goals
          rename_i p hp
          obtain ⟨p1, p2, p3, p4⟩ := p
          refine end_ret ?_
          simp only [↓WP, ↓grdD, ↓grdT, ↓un_dead, ↓binVC, ↓buildVC, ↓sliceVC, WQ, WN, Int.reduceToNat, renl, cll, rent, clt, ↓reduceIte, Nat.reduceLeDiff, Nat.reduceEqDiff, Nat.reduceLT, reduceCtorEq, List.append_nil, Nat.reduceAdd, Nat.reduceSub, Nat.reduceBEq, forall_const, implies_true, cond_true, cond_false, AV.ren, AC.ren, AV.cl, AC.cl, eq_self, List.all_cons, List.all_nil, AV.eqv, AC.eqv, eqvl, eqvt, Sl.eqv, List.map_append, List.length_map, List.length_append, List.length_replicate, List.length_set, List.map_replicate, nilVC, zr_25, sz_25, fs_25, fl_25_4, sz_3, fl_25_2, sz_23, el_23, fl_25_0, sz_22, el_22, sz_4, c_spec_SigOk, c_spec_l32Copy, c_spec_l32Num, c_spec_l1In]
          refine ⟨(p1, p2, p3, p4), [], [2, 3, 4, 5], ?_⟩
          simp only [WL, WNL, swA_new, swA_ne, nest_sw_ne, mapLL, List.mem_cons, Nat.reduceAdd, Nat.reduceLT, Nat.reduceLeDiff, Nat.reduceEqDiff, okU, List.nodup_cons, List.not_mem_nil, toT, toL, toO, keysO, renl, rent, cll, clt, eq_self, AV.eqv, AC.eqv, eqvl, eqvt, Sl.eqv, rowsLe, mapLL, rowsCl, List.map_append, List.length_map, List.length_append, List.length_set, List.map_replicate, rowG, List.getElem?_cons_zero, List.getElem?_cons_succ, List.getElem?_nil, List.append_nil, List.nil_append, List.cons_append, ghosts, St.gh, Option.some.injEq, implies_true, setT, AV.ren, AC.ren, AV.cl, AC.cl, List.replicate_succ, List.replicate_zero, List.nodup_nil, List.length_nil, List.length_cons, List.getD_cons_zero, List.getD_cons_succ, ↓reduceIte, retP, List.map_set, List.length_set]
          simp at hp ⊢
          exact hp
      · have hO : (setO P K D I u n d) = ((P, K, D.set (n - 1).toNat d, I, u), true) := by rw [setO, if_pos hok, if_pos hmay, if_neg hb]
        have hbd : decide (d = 1) = false := decide_eq_false hb
        rw [hO]
        simp only [↓WP, ↓grdD, ↓grdT, ↓un_dead, ↓binVC, ↓buildVC, ↓sliceVC, WQ, WN, Int.reduceToNat, renl, cll, rent, clt, ↓reduceIte, Nat.reduceLeDiff, Nat.reduceEqDiff, Nat.reduceLT, reduceCtorEq, List.append_nil, Nat.reduceAdd, Nat.reduceSub, Nat.reduceBEq, forall_const, implies_true, cond_true, cond_false, AV.ren, AC.ren, AV.cl, AC.cl, eq_self, List.all_cons, List.all_nil, AV.eqv, AC.eqv, eqvl, eqvt, Sl.eqv, List.map_append, List.length_map, List.length_append, List.length_replicate, List.length_set, List.map_replicate, nilVC, zr_25, sz_25, fs_25, fl_25_4, sz_3, fl_25_2, sz_23, el_23, fl_25_0, sz_22, el_22, sz_4, c_spec_SigOk, c_spec_l32Copy, c_spec_l32Num, c_spec_l1In, hP, hK, hD, hI, decide_eq_true hok, hc, hw, hgD, hw, hbd, hasRow_up]
        repeat' (first | with_reducible refine And.intro ?_ ?_ | intro _)
        all_goals try omega
        all_goals try assumption
        all_goals
          rename_i p hp
          obtain ⟨p1, p2, p3, p4⟩ := p
          refine end_ret ?_
          simp only [↓WP, ↓grdD, ↓grdT, ↓un_dead, ↓binVC, ↓buildVC, ↓sliceVC, WQ, WN, Int.reduceToNat, renl, cll, rent, clt, ↓reduceIte, Nat.reduceLeDiff, Nat.reduceEqDiff, Nat.reduceLT, reduceCtorEq, List.append_nil, Nat.reduceAdd, Nat.reduceSub, Nat.reduceBEq, forall_const, implies_true, cond_true, cond_false, AV.ren, AC.ren, AV.cl, AC.cl, eq_self, List.all_cons, List.all_nil, AV.eqv, AC.eqv, eqvl, eqvt, Sl.eqv, List.map_append, List.length_map, List.length_append, List.length_replicate, List.length_set, List.map_replicate, nilVC, zr_25, sz_25, fs_25, fl_25_4, sz_3, fl_25_2, sz_23, el_23, fl_25_0, sz_22, el_22, sz_4, c_spec_SigOk, c_spec_l32Copy, c_spec_l32Num, c_spec_l1In]
          refine ⟨(p1, p2, p3, p4), [], [2, 3, 4, 5], ?_⟩
          simp only [WL, WNL, swA_new, swA_ne, nest_sw_ne, mapLL, List.mem_cons, Nat.reduceAdd, Nat.reduceLT, Nat.reduceLeDiff, Nat.reduceEqDiff, okU, List.nodup_cons, List.not_mem_nil, toT, toL, toO, keysO, renl, rent, cll, clt, eq_self, AV.eqv, AC.eqv, eqvl, eqvt, Sl.eqv, rowsLe, mapLL, rowsCl, List.map_append, List.length_map, List.length_append, List.length_set, List.map_replicate, rowG, List.getElem?_cons_zero, List.getElem?_cons_succ, List.getElem?_nil, List.append_nil, List.nil_append, List.cons_append, ghosts, St.gh, Option.some.injEq, implies_true, setT, AV.ren, AC.ren, AV.cl, AC.cl, List.replicate_succ, List.replicate_zero, List.nodup_nil, List.length_nil, List.length_cons, List.getD_cons_zero, List.getD_cons_succ, ↓reduceIte, retP, List.map_set, List.length_set]
          simp at hp ⊢
          exact hp
    · have hO : (setO P K D I u n d) = ((P, K, D, I, u), false) := by rw [setO, if_pos hok, if_neg hmay]
      have hc : (!decide (1 ≤ n ∧ n ≤ 16) || decide (n = 9) || !decide (0 ≤ d ∧ d ≤ 2) || !decide (u = 0)) = true := by simp only [WB, eq_self]; omega
      rw [hO]
      simp only [↓WP, ↓grdD, ↓grdT, ↓un_dead, ↓binVC, ↓buildVC, ↓sliceVC, WQ, WN, Int.reduceToNat, renl, cll, rent, clt, ↓reduceIte, Nat.reduceLeDiff, Nat.reduceEqDiff, Nat.reduceLT, reduceCtorEq, List.append_nil, Nat.reduceAdd, Nat.reduceSub, Nat.reduceBEq, forall_const, implies_true, cond_true, cond_false, AV.ren, AC.ren, AV.cl, AC.cl, eq_self, List.all_cons, List.all_nil, AV.eqv, AC.eqv, eqvl, eqvt, Sl.eqv, List.map_append, List.length_map, List.length_append, List.length_replicate, List.length_set, List.map_replicate, nilVC, zr_25, sz_25, fs_25, fl_25_4, sz_3, fl_25_2, sz_23, el_23, fl_25_0, sz_22, el_22, sz_4, c_spec_SigOk, c_spec_l32Copy, c_spec_l32Num, c_spec_l1In, hP, hK, hD, hI, decide_eq_true hok, hc, hasRow_up]
      repeat' (first | with_reducible refine And.intro ?_ ?_ | intro _)
      all_goals try omega
      all_goals try assumption
      all_goals
        rename_i p hp
        obtain ⟨p1, p2, p3, p4⟩ := p
        refine end_ret ?_
        simp only [↓WP, ↓grdD, ↓grdT, ↓un_dead, ↓binVC, ↓buildVC, ↓sliceVC, WQ, WN, Int.reduceToNat, renl, cll, rent, clt, ↓reduceIte, Nat.reduceLeDiff, Nat.reduceEqDiff, Nat.reduceLT, reduceCtorEq, List.append_nil, Nat.reduceAdd, Nat.reduceSub, Nat.reduceBEq, forall_const, implies_true, cond_true, cond_false, AV.ren, AC.ren, AV.cl, AC.cl, eq_self, List.all_cons, List.all_nil, AV.eqv, AC.eqv, eqvl, eqvt, Sl.eqv, List.map_append, List.length_map, List.length_append, List.length_replicate, List.length_set, List.map_replicate, nilVC, zr_25, sz_25, fs_25, fl_25_4, sz_3, fl_25_2, sz_23, el_23, fl_25_0, sz_22, el_22, sz_4, c_spec_SigOk, c_spec_l32Copy, c_spec_l32Num, c_spec_l1In]
        refine ⟨(p1, p2, p3, p4), [], [2, 3, 4, 5], ?_⟩
        simp only [WL, WNL, swA_new, swA_ne, nest_sw_ne, mapLL, List.mem_cons, Nat.reduceAdd, Nat.reduceLT, Nat.reduceLeDiff, Nat.reduceEqDiff, okU, List.nodup_cons, List.not_mem_nil, toT, toL, toO, keysO, renl, rent, cll, clt, eq_self, AV.eqv, AC.eqv, eqvl, eqvt, Sl.eqv, rowsLe, mapLL, rowsCl, List.map_append, List.length_map, List.length_append, List.length_set, List.map_replicate, rowG, List.getElem?_cons_zero, List.getElem?_cons_succ, List.getElem?_nil, List.append_nil, List.nil_append, List.cons_append, ghosts, St.gh, Option.some.injEq, implies_true, setT, AV.ren, AC.ren, AV.cl, AC.cl, List.replicate_succ, List.replicate_zero, List.nodup_nil, List.length_nil, List.length_cons, List.getD_cons_zero, List.getD_cons_succ, ↓reduceIte, retP, List.map_set, List.length_set]
        simp at hp ⊢
        exact hp
  · have hO : (setO P K D I u n d) = (([], [], [], [], 0), false) := if_neg hok
    rw [hO]
    simp only [↓WP, ↓grdD, ↓grdT, ↓un_dead, ↓binVC, ↓buildVC, ↓sliceVC, WQ, WN, Int.reduceToNat, renl, cll, rent, clt, ↓reduceIte, Nat.reduceLeDiff, Nat.reduceEqDiff, Nat.reduceLT, reduceCtorEq, List.append_nil, Nat.reduceAdd, Nat.reduceSub, Nat.reduceBEq, forall_const, implies_true, cond_true, cond_false, AV.ren, AC.ren, AV.cl, AC.cl, eq_self, List.all_cons, List.all_nil, AV.eqv, AC.eqv, eqvl, eqvt, Sl.eqv, List.map_append, List.length_map, List.length_append, List.length_replicate, List.length_set, List.map_replicate, nilVC, zr_25, sz_25, fs_25, fl_25_4, sz_3, fl_25_2, sz_23, el_23, fl_25_0, sz_22, el_22, sz_4, c_spec_SigOk, c_spec_l32Copy, c_spec_l32Num, c_spec_l1In, hP, hK, hD, hI, decide_eq_false hok, hasRow_up]
    refine ⟨by first | exact ⟨h1, h2, h3, h4, k4⟩ | exact ⟨⟨h1, h2, h3, h4, k4⟩, x2, x3⟩, end_ret ?_⟩
    simp only [↓WP, ↓grdD, ↓grdT, ↓un_dead, ↓binVC, ↓buildVC, ↓sliceVC, WQ, WN, Int.reduceToNat, renl, cll, rent, clt, ↓reduceIte, Nat.reduceLeDiff, Nat.reduceEqDiff, Nat.reduceLT, reduceCtorEq, List.append_nil, Nat.reduceAdd, Nat.reduceSub, Nat.reduceBEq, forall_const, implies_true, cond_true, cond_false, AV.ren, AC.ren, AV.cl, AC.cl, eq_self, List.all_cons, List.all_nil, AV.eqv, AC.eqv, eqvl, eqvt, Sl.eqv, List.map_append, List.length_map, List.length_append, List.length_replicate, List.length_set, List.map_replicate, nilVC, zr_25, sz_25, fs_25, fl_25_4, sz_3, fl_25_2, sz_23, el_23, fl_25_0, sz_22, el_22, sz_4, c_spec_SigOk, c_spec_l32Copy, c_spec_l32Num, c_spec_l1In]
    refine ⟨(0, 0, 0, 0), [(4, 1), (4, 1), (3, 1), (3, 1)], [2, 3, 4, 5], ?_⟩
    simp [WL, WNL, swA_new, swA_ne, nest_sw_ne, mapLL, List.mem_cons, Nat.reduceAdd, Nat.reduceLT, Nat.reduceLeDiff, Nat.reduceEqDiff, okU, List.nodup_cons, List.not_mem_nil, toT, toL, toO, keysO, renl, rent, cll, clt, eq_self, AV.eqv, AC.eqv, eqvl, eqvt, Sl.eqv, rowsLe, mapLL, rowsCl, List.map_append, List.length_map, List.length_append, List.length_set, List.map_replicate, rowG, List.getElem?_cons_zero, List.getElem?_cons_succ, List.getElem?_nil, List.append_nil, List.nil_append, List.cons_append, ghosts, St.gh, Option.some.injEq, implies_true, setT, AV.ren, AC.ren, AV.cl, AC.cl, List.replicate_succ, List.replicate_zero, List.nodup_nil, List.length_nil, List.length_cons, List.getD_cons_zero, List.getD_cons_succ, ↓reduceIte, retP]
end Go.Eng.T
