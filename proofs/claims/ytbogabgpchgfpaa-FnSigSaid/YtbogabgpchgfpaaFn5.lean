/- sig: SigOk as it is specified. -/
import Derived.Test.YtbogabgpchgfpaaFn4
set_option linter.unusedVariables false
set_option linter.unusedSimpArgs false
set_option linter.unusedSectionVars false
namespace Go.Eng.T
open Go.Proofs
open Cel (enc dec)
set_option maxRecDepth 100000
set_option maxHeartbeats 4000000
/-- there is a row at a, be it empty -/
def hasRow (α : Type) [Cel α] (a : AA) (o : Option Rg) : Prop := RowAt α a 0 o
theorem hasRow_rows {α : Type} [Cel α] {a : AA} {own ty s LL} : hasRow α a (some (.rows own ty s LL)) = (s = Cel.sz α ∧ a.f = 0 ∧ a.i < LL.length ∧ a.k ≤ (LL.getD a.i (0, [])).2.length) := by
  show (s = Cel.sz α ∧ a.f = 0 ∧ a.i < LL.length ∧ a.k + 0 ≤ (LL.getD a.i (0, [])).2.length ∧ allEnc α (win _ 0)) = _
  simp [allEnc, win]
theorem hasRow_up {α : Type} [Cel α] {a : AA} {o : Option Rg} : hasRow α a.up (o.map Rg.up) = hasRow α a o := RowAt_up
theorem hasRow.x {α : Type} [Cel α] {a : AA} {o : Option Rg} (h : hasRow α a o) : ∃ own ty cnt cap len get, o = some (.arr own ty (Cel.sz α) cnt cap len get) ∧ a.f = 0 ∧ a.i < cnt := by
  unfold hasRow RowAt at h
  split at h
  · obtain ⟨rfl, h1, h2, _⟩ := h
    exact ⟨_, _, _, _, _, _, rfl, h1, h2⟩
  · exact h.elim
def c_spec_SigOk : Contract := ⟨18, fun args M => match args with
  | [.agg [.sl a1 n1 _, .sl a2 n2 _, .sl a3 n3 _, .sl a4 n4 c4, .int .i64 u]] => .pure ((RowOk Bool a1 n1 (M a1.r) ∧ RowOk Bool a2 n2 (M a2.r) ∧ RowOk Int a3 n3 (M a3.r) ∧ RowOk Int a4 n4 (M a4.r) ∧ n4 ≤ c4) ∧ hasRow Bool a2 (M a2.r) ∧ hasRow Int a3 (M a3.r)) (Eng.B (decide (sigOk (row Bool a1 n1 (M a1.r)) (row Bool a2 n2 (M a2.r)) (row Int a3 n3 (M a3.r)) (row Int a4 n4 (M a4.r)) u)))
  | _ => .bad⟩
theorem ok_spec_SigOk : fnP Try.prog c_spec_SigOk.f = true ∧ ∀ args M, (c_spec_SigOk.sp args M).OK Try.prog c_spec_SigOk.f args M := by
  refine ⟨fp_18, fun args M => ?_⟩
  unfold c_spec_SigOk
  dsimp only
  split
  case h_2 => trivial
  rename_i a1 n1 c1 a2 n2 c2 a3 n3 c3 a4 n4 c4 u
  rintro ⟨⟨h1, h2, h3, h4, hc4⟩, x2, x3⟩
  obtain ⟨s1, P, hP, rfl, t1⟩ := h1.x
  obtain ⟨s2, K, hK, rfl, t2⟩ := h2.x
  obtain ⟨s3, D, hD, rfl, t3⟩ := h3.x
  obtain ⟨s4, I, hI, rfl, t4⟩ := h4.x
  rw [hP, hK, hD, hI]
  refine goIn hf_18 rfl (nt := 109) rfl (rs := [.tmp 2]) rfl (C := [c_spec_l32Num, c_spec_l1In, c_spec_l31Has]) ⟨(by first | exact .inl ok_spec_l32Num | exact ok_spec_l32Num), (by first | exact .inl ok_spec_l1In | exact ok_spec_l1In), (by first | exact .inl ok_spec_l31Has | exact ok_spec_l31Has), trivial⟩ (q := fun f => [46, 48].contains f) ⟨fun _ => q_spec_l32Num, fun h => absurd h (by decide), fun _ => q_spec_l31Has, trivial⟩ mixed (O := ots [(11, otl [0, 1, 2, 3, 4, 5, 6, 7, 8, 9, 10, 12, 13, 14, 15, 16, 11, 17, 18] .nil)]) (by kernel_rfl) ?_
  by_cases hlen : P.length = 16 ∧ K.length = 16 ∧ D.length = 16
  · obtain ⟨l1, l2, l3⟩ := hlen
    obtain ⟨own1, ty1, cnt1, cap1, len1, get1, hM1, hf1, hic1, hkn1, hget1⟩ := t1 (by omega)
    obtain ⟨own2, ty2, cnt2, cap2, len2, get2, hM2, hf2, hic2, hkn2, hget2⟩ := t2 (by omega)
    obtain ⟨own3, ty3, cnt3, cap3, len3, get3, hM3, hf3, hic3, hkn3, hget3⟩ := t3 (by omega)
    have hg2 := hget2 8 (by omega)
    have hg3 := hget3 8 (by omega)
    simp only [↓WP, ↓grdD, ↓grdT, ↓un_dead, ↓binVC, ↓buildVC, ↓sliceVC, WQ, WN, Int.reduceToNat, renl, cll, rent, clt, ↓reduceIte, Nat.reduceLeDiff, Nat.reduceEqDiff, Nat.reduceLT, reduceCtorEq, List.append_nil, Nat.reduceAdd, Nat.reduceSub, Nat.reduceBEq, forall_const, implies_true, cond_true, cond_false, AV.ren, AC.ren, AV.cl, AC.cl, eq_self, List.all_cons, List.all_nil, AV.eqv, AC.eqv, eqvl, eqvt, Sl.eqv, List.map_append, List.length_map, List.length_append, List.length_replicate, List.length_set, List.map_replicate, nilVC, fl_25_0, sz_22, sd_22, fl_25_1, fl_25_2, sz_23, sd_23, fl_25_3, fl_25_4, sz_3, el_22, sz_4, el_23, c_spec_l32Num, c_spec_l1In, c_spec_l31Has, hM1, hf1, hM2, hf2, hM3, hf3, hg2, hg3]
    simp only [WB, eq_self]
    refine ⟨fun _ => by omega, fun _ => ⟨hic2, by omega⟩, fun _ => by omega, fun _ => ⟨hic3, by omega⟩, fun h5 hc => ?_, fun h5 => ?_⟩
    · obtain ⟨e0, e1, e2, e3, _⟩ := hc
      rcases h5 with (h5 | h5) | h5
      · omega
      · rw [e2] at h5; cases h5
      · exact h5 e3
    obtain ⟨⟨h6, h7⟩, h8⟩ := h5
    have hu : (u = 0 ∨ (1 ≤ u ∧ u ≤ 16)) := by
      by_cases hu0 : u = 0
      · exact .inl hu0
      · exact .inr (by omega)
    refine loopI (J := {i : Nat // i ≤ 16 ∧ ∀ j, j < i → (0 ≤ D.getD j default ∧ D.getD j default ≤ 2) ∧ (u = 0 ∨ P.getD j default = false)}) (fun i => ⟨slots 109 [(1, .c (.ptr ⟨.loc 0, 0, 0, 0⟩)), (3, Eng.I i.1)], M, [], [.box 25 [.sl a1.up P.length c1, .sl a2.up K.length c2, .sl a3.up D.length c3, .sl a4.up I.length c4, .int .i64 u]]⟩) (fun i => 16 - i.1) ⟨0, by omega, all_zero⟩ (Le_intro [0] (by simp [WL, WNL, swA_new, swA_ne, nest_sw_ne, mapLL, List.mem_cons, Nat.reduceAdd, Nat.reduceLT, Nat.reduceLeDiff, Nat.reduceEqDiff, okU, List.nodup_cons, List.not_mem_nil, toT, toL, toO, keysO, renl, rent, cll, clt, eq_self, AV.eqv, AC.eqv, eqvl, eqvt, Sl.eqv, rowsLe, mapLL, rowsCl, List.map_append, List.length_map, List.length_append, List.length_set, List.map_replicate, rowG, List.getElem?_cons_zero, List.getElem?_cons_succ, List.getElem?_nil, List.append_nil, List.nil_append, List.cons_append, ghosts, St.gh, Option.some.injEq, implies_true, setT, AV.ren, AC.ren, AV.cl, AC.cl, List.replicate_succ, List.replicate_zero, List.nodup_nil, List.length_nil, List.length_cons, List.getD_cons_zero, List.getD_cons_succ, ↓reduceIte])) ?_
    rintro ⟨i, hi, he⟩
    have hw := wS (i := i) (by omega)
    rcases Nat.lt_or_ge i 16 with hlt | hge
    · have hd : decide ((i : Int) < 16) = true := by simp only [decide_eq_true_iff]; omega
      simp only [↓WP, ↓grdD, ↓grdT, ↓un_dead, ↓binVC, ↓buildVC, ↓sliceVC, WQ, WN, Int.reduceToNat, renl, cll, rent, clt, ↓reduceIte, Nat.reduceLeDiff, Nat.reduceEqDiff, Nat.reduceLT, reduceCtorEq, List.append_nil, Nat.reduceAdd, Nat.reduceSub, Nat.reduceBEq, forall_const, implies_true, cond_true, cond_false, AV.ren, AC.ren, AV.cl, AC.cl, eq_self, List.all_cons, List.all_nil, AV.eqv, AC.eqv, eqvl, eqvt, Sl.eqv, List.map_append, List.length_map, List.length_append, List.length_replicate, List.length_set, List.map_replicate, nilVC, fl_25_0, sz_22, sd_22, fl_25_1, fl_25_2, sz_23, sd_23, fl_25_3, fl_25_4, sz_3, el_22, sz_4, el_23, c_spec_l32Num, c_spec_l1In, c_spec_l31Has, hd, hw, hM1, hf1, hM3, hf3, hget1 i (by omega), hget3 i (by omega)]
      simp only [WB, eq_self]
      repeat' (first | with_reducible refine And.intro ?_ ?_ | intro _)
      all_goals try omega
      · rename_i h9 hc
        obtain ⟨_, e1, _, _, _, e5⟩ := hc
        rcases h9 with h9 | ⟨h9, h10⟩
        · exact h9 (e1 i hlt)
        · rcases e5 with e5 | e5
          · exact h9 e5
          · rw [e5.2 i hlt] at h10; cases h10
      · rename_i h9
        exact ⟨⟨i + 1, hlt, all_step he h9⟩, Le_intro [0] (by simp [WL, WNL, swA_new, swA_ne, nest_sw_ne, mapLL, List.mem_cons, Nat.reduceAdd, Nat.reduceLT, Nat.reduceLeDiff, Nat.reduceEqDiff, okU, List.nodup_cons, List.not_mem_nil, toT, toL, toO, keysO, renl, rent, cll, clt, eq_self, AV.eqv, AC.eqv, eqvl, eqvt, Sl.eqv, rowsLe, mapLL, rowsCl, List.map_append, List.length_map, List.length_append, List.length_set, List.map_replicate, rowG, List.getElem?_cons_zero, List.getElem?_cons_succ, List.getElem?_nil, List.append_nil, List.nil_append, List.cons_append, ghosts, St.gh, Option.some.injEq, implies_true, setT, AV.ren, AC.ren, AV.cl, AC.cl, List.replicate_succ, List.replicate_zero, List.nodup_nil, List.length_nil, List.length_cons, List.getD_cons_zero, List.getD_cons_succ, ↓reduceIte]), by show 16 - (i + 1) < 16 - i; omega⟩
    · obtain rfl : i = 16 := by omega
      have hd : decide (((16 : Nat) : Int) < 16) = false := by decide
      simp only [↓WP, ↓grdD, ↓grdT, ↓un_dead, ↓binVC, ↓buildVC, ↓sliceVC, WQ, WN, Int.reduceToNat, renl, cll, rent, clt, ↓reduceIte, Nat.reduceLeDiff, Nat.reduceEqDiff, Nat.reduceLT, reduceCtorEq, List.append_nil, Nat.reduceAdd, Nat.reduceSub, Nat.reduceBEq, forall_const, implies_true, cond_true, cond_false, AV.ren, AC.ren, AV.cl, AC.cl, eq_self, List.all_cons, List.all_nil, AV.eqv, AC.eqv, eqvl, eqvt, Sl.eqv, List.map_append, List.length_map, List.length_append, List.length_replicate, List.length_set, List.map_replicate, nilVC, fl_25_0, sz_22, sd_22, fl_25_1, fl_25_2, sz_23, sd_23, fl_25_3, fl_25_4, sz_3, el_22, sz_4, el_23, c_spec_l32Num, c_spec_l1In, c_spec_l31Has, hd, hw]
      refine loopI (J := {i : Nat // i ≤ I.length ∧ ∀ j, j < i → iOk I j}) (fun i => ⟨slots 109 [(1, .c (.ptr ⟨.loc 0, 0, 0, 0⟩)), (4, Eng.I i.1)], M, [], [.box 25 [.sl a1.up P.length c1, .sl a2.up K.length c2, .sl a3.up D.length c3, .sl a4.up I.length c4, .int .i64 u]]⟩) (fun i => I.length - i.1) ⟨0, by omega, all_zero⟩ (Le_intro [0] (by simp [WL, WNL, swA_new, swA_ne, nest_sw_ne, mapLL, List.mem_cons, Nat.reduceAdd, Nat.reduceLT, Nat.reduceLeDiff, Nat.reduceEqDiff, okU, List.nodup_cons, List.not_mem_nil, toT, toL, toO, keysO, renl, rent, cll, clt, eq_self, AV.eqv, AC.eqv, eqvl, eqvt, Sl.eqv, rowsLe, mapLL, rowsCl, List.map_append, List.length_map, List.length_append, List.length_set, List.map_replicate, rowG, List.getElem?_cons_zero, List.getElem?_cons_succ, List.getElem?_nil, List.append_nil, List.nil_append, List.cons_append, ghosts, St.gh, Option.some.injEq, implies_true, setT, AV.ren, AC.ren, AV.cl, AC.cl, List.replicate_succ, List.replicate_zero, List.nodup_nil, List.length_nil, List.length_cons, List.getD_cons_zero, List.getD_cons_succ, ↓reduceIte])) ?_
      rintro ⟨i, hi, he2⟩
      have hw := wS (i := i) (by omega)
      rcases Nat.lt_or_ge i I.length with hlt | hge2
      · obtain ⟨own4, ty4, cnt4, cap4, len4, get4, hM4, hf4, hic4, hkn4, hget4⟩ := t4 (by omega)
        obtain ⟨p1, p2⟩ := h4.pre (m := i) (by omega)
        have ha4 : (⟨a4.r, a4.i, a4.k, 0⟩ : AA) = a4 := by obtain ⟨_, _, _, _⟩ := a4; dsimp only at hf4; rw [hf4]
        rw [hI] at p2
        rw [hM4] at p1 p2
        rw [← ha4] at p1 p2
        have q4 : row Int ⟨a4.r.out, a4.i, a4.k, 0⟩ i (some (Rg.arr own4 ty4 1 cnt4 cap4 len4 fun i k => List.map AC.up (get4 i k))) = I.take i := (row_up (α := Int) (a := ⟨a4.r, a4.i, a4.k, 0⟩) (n := i) (o := some (.arr own4 ty4 (Cel.sz Int) cnt4 cap4 len4 get4))).trans p2
        have q4' : RowOk Int ⟨a4.r.out, a4.i, a4.k, 0⟩ i (some (Rg.arr own4 ty4 1 cnt4 cap4 len4 fun i k => List.map AC.up (get4 i k))) := (RowOk_up (α := Int) (a := ⟨a4.r, a4.i, a4.k, 0⟩) (n := i) (o := some (.arr own4 ty4 (Cel.sz Int) cnt4 cap4 len4 get4))).mpr p1
        simp only [↓WP, ↓grdD, ↓grdT, ↓un_dead, ↓binVC, ↓buildVC, ↓sliceVC, WQ, WN, Int.reduceToNat, renl, cll, rent, clt, ↓reduceIte, Nat.reduceLeDiff, Nat.reduceEqDiff, Nat.reduceLT, reduceCtorEq, List.append_nil, Nat.reduceAdd, Nat.reduceSub, Nat.reduceBEq, forall_const, implies_true, cond_true, cond_false, AV.ren, AC.ren, AV.cl, AC.cl, eq_self, List.all_cons, List.all_nil, AV.eqv, AC.eqv, eqvl, eqvt, Sl.eqv, List.map_append, List.length_map, List.length_append, List.length_replicate, List.length_set, List.map_replicate, nilVC, fl_25_0, sz_22, sd_22, fl_25_1, fl_25_2, sz_23, sd_23, fl_25_3, fl_25_4, sz_3, el_22, sz_4, el_23, c_spec_l32Num, c_spec_l1In, c_spec_l31Has, dlt hlt, hw, hM4, hf4, hget4 i hlt, Nat.sub_zero, q4, q4', any_pre hi]
        simp only [WB, eq_self]
        repeat' (first | with_reducible refine And.intro ?_ ?_ | intro _)
        all_goals try omega
        · rename_i h9 hc
          have := hc.2.2.2.2.1 i hlt
          rcases h9 with h9 | h9
          · exact h9 this.1
          · exact h9 this.2
        · rename_i h9
          obtain ⟨h9, h10⟩ := h9
          exact ⟨⟨i + 1, hlt, all_step he2 ⟨h9, fun j hj => Classical.byContradiction fun hn => h10 fun hh => hn (hh j hj)⟩⟩, Le_intro [0] (by simp [WL, WNL, swA_new, swA_ne, nest_sw_ne, mapLL, List.mem_cons, Nat.reduceAdd, Nat.reduceLT, Nat.reduceLeDiff, Nat.reduceEqDiff, okU, List.nodup_cons, List.not_mem_nil, toT, toL, toO, keysO, renl, rent, cll, clt, eq_self, AV.eqv, AC.eqv, eqvl, eqvt, Sl.eqv, rowsLe, mapLL, rowsCl, List.map_append, List.length_map, List.length_append, List.length_set, List.map_replicate, rowG, List.getElem?_cons_zero, List.getElem?_cons_succ, List.getElem?_nil, List.append_nil, List.nil_append, List.cons_append, ghosts, St.gh, Option.some.injEq, implies_true, setT, AV.ren, AC.ren, AV.cl, AC.cl, List.replicate_succ, List.replicate_zero, List.nodup_nil, List.length_nil, List.length_cons, List.getD_cons_zero, List.getD_cons_succ, ↓reduceIte]), by show I.length - (i + 1) < I.length - i; omega⟩
      · obtain rfl : i = I.length := by omega
        simp only [↓WP, ↓grdD, ↓grdT, ↓un_dead, ↓binVC, ↓buildVC, ↓sliceVC, WQ, WN, Int.reduceToNat, renl, cll, rent, clt, ↓reduceIte, Nat.reduceLeDiff, Nat.reduceEqDiff, Nat.reduceLT, reduceCtorEq, List.append_nil, Nat.reduceAdd, Nat.reduceSub, Nat.reduceBEq, forall_const, implies_true, cond_true, cond_false, AV.ren, AC.ren, AV.cl, AC.cl, eq_self, List.all_cons, List.all_nil, AV.eqv, AC.eqv, eqvl, eqvt, Sl.eqv, List.map_append, List.length_map, List.length_append, List.length_replicate, List.length_set, List.map_replicate, nilVC, fl_25_0, sz_22, sd_22, fl_25_1, fl_25_2, sz_23, sd_23, fl_25_3, fl_25_4, sz_3, el_22, sz_4, el_23, c_spec_l32Num, c_spec_l1In, c_spec_l31Has, dge hge2, hw]
        simp only [WB, eq_self]
        constructor
        · intro h9
          refine ⟨⟨l1, l2, l3, by omega, hu⟩, fun i hi => (he i hi).1, h7, h8, he2, ?_⟩
          rcases h9 with h9 | h9
          · exact .inl h9
          · by_cases hu0 : u = 0
            · exact .inl hu0
            · exact .inr ⟨by omega, fun i hi => ((he i hi).2).resolve_left hu0⟩
        · rintro ⟨_, _, _, _, _, h9 | ⟨h9, h10⟩⟩
          · exact .inl h9
          · exact .inr (by omega)
  · have hno : ¬ sigOk P K D I u := fun hc => hlen ⟨hc.1.1, hc.1.2.1, hc.1.2.2.1⟩
    obtain ⟨own2, ty2, cnt2, cap2, len2, get2, hM2, hf2, hic2⟩ := x2.x
    obtain ⟨own3, ty3, cnt3, cap3, len3, get3, hM3, hf3, hic3⟩ := x3.x
    by_cases l1 : P.length = 16
    · have d1 : decide ((P.length : Int) = 16) = true := by simp only [decide_eq_true_iff]; omega
      by_cases l2 : K.length = 16
      · have d2 : decide ((K.length : Int) = 16) = true := by simp only [decide_eq_true_iff]; omega
        have d3 : decide ((D.length : Int) = 16) = false := by simp only [decide_eq_false_iff_not]; omega
        simp only [↓WP, ↓grdD, ↓grdT, ↓un_dead, ↓binVC, ↓buildVC, ↓sliceVC, WQ, WN, Int.reduceToNat, renl, cll, rent, clt, ↓reduceIte, Nat.reduceLeDiff, Nat.reduceEqDiff, Nat.reduceLT, reduceCtorEq, List.append_nil, Nat.reduceAdd, Nat.reduceSub, Nat.reduceBEq, forall_const, implies_true, cond_true, cond_false, AV.ren, AC.ren, AV.cl, AC.cl, eq_self, List.all_cons, List.all_nil, AV.eqv, AC.eqv, eqvl, eqvt, Sl.eqv, List.map_append, List.length_map, List.length_append, List.length_replicate, List.length_set, List.map_replicate, nilVC, fl_25_0, sz_22, sd_22, fl_25_1, fl_25_2, sz_23, sd_23, fl_25_3, fl_25_4, sz_3, el_22, sz_4, el_23, c_spec_l32Num, c_spec_l1In, c_spec_l31Has, hM2, hf2, hM3, hf3, d1, d2, d3]
        generalize (List.map AC.up (get2 a2.i (a2.k + 8))).getD 0 dfl = z1
        generalize (List.map AC.up (get3 a3.i (a3.k + 8))).getD 0 dfl = z2
        cases z1 <;> cases z2 <;> simp [asBG, hno]
      · have d2 : decide ((K.length : Int) = 16) = false := by simp only [decide_eq_false_iff_not]; omega
        simp only [↓WP, ↓grdD, ↓grdT, ↓un_dead, ↓binVC, ↓buildVC, ↓sliceVC, WQ, WN, Int.reduceToNat, renl, cll, rent, clt, ↓reduceIte, Nat.reduceLeDiff, Nat.reduceEqDiff, Nat.reduceLT, reduceCtorEq, List.append_nil, Nat.reduceAdd, Nat.reduceSub, Nat.reduceBEq, forall_const, implies_true, cond_true, cond_false, AV.ren, AC.ren, AV.cl, AC.cl, eq_self, List.all_cons, List.all_nil, AV.eqv, AC.eqv, eqvl, eqvt, Sl.eqv, List.map_append, List.length_map, List.length_append, List.length_replicate, List.length_set, List.map_replicate, nilVC, fl_25_0, sz_22, sd_22, fl_25_1, fl_25_2, sz_23, sd_23, fl_25_3, fl_25_4, sz_3, el_22, sz_4, el_23, c_spec_l32Num, c_spec_l1In, c_spec_l31Has, hM2, hf2, hM3, hf3, d1, d2]
        generalize (List.map AC.up (get2 a2.i (a2.k + 8))).getD 0 dfl = z1
        generalize (List.map AC.up (get3 a3.i (a3.k + 8))).getD 0 dfl = z2
        cases z1 <;> cases z2 <;> simp [asBG, hno]
    · have d1 : decide ((P.length : Int) = 16) = false := by simp only [decide_eq_false_iff_not]; omega
      simp only [↓WP, ↓grdD, ↓grdT, ↓un_dead, ↓binVC, ↓buildVC, ↓sliceVC, WQ, WN, Int.reduceToNat, renl, cll, rent, clt, ↓reduceIte, Nat.reduceLeDiff, Nat.reduceEqDiff, Nat.reduceLT, reduceCtorEq, List.append_nil, Nat.reduceAdd, Nat.reduceSub, Nat.reduceBEq, forall_const, implies_true, cond_true, cond_false, AV.ren, AC.ren, AV.cl, AC.cl, eq_self, List.all_cons, List.all_nil, AV.eqv, AC.eqv, eqvl, eqvt, Sl.eqv, List.map_append, List.length_map, List.length_append, List.length_replicate, List.length_set, List.map_replicate, nilVC, fl_25_0, sz_22, sd_22, fl_25_1, fl_25_2, sz_23, sd_23, fl_25_3, fl_25_4, sz_3, el_22, sz_4, el_23, c_spec_l32Num, c_spec_l1In, c_spec_l31Has, hM2, hf2, hM3, hf3, d1]
      generalize (List.map AC.up (get2 a2.i (a2.k + 8))).getD 0 dfl = z1
      generalize (List.map AC.up (get3 a3.i (a3.k + 8))).getD 0 dfl = z2
      cases z1 <;> cases z2 <;> simp [asBG, hno]
end Go.Eng.T
