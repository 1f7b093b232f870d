/- sig: SigOk as it is programmed. -/
import Derived.Test.YtbogabgpchgfpaaFn3
set_option linter.unusedVariables false
set_option linter.unusedSimpArgs false
set_option linter.unusedSectionVars false
namespace Go.Eng.T
open Go.Proofs
open Cel (enc dec)
set_option maxRecDepth 100000
set_option maxHeartbeats 4000000
def iOk (I : List Int) (i : Nat) : Prop := (1 ≤ I.getD i default ∧ I.getD i default ≤ 16) ∧ ∀ j, j < i → I.getD j default ≠ I.getD i default
instance (I : List Int) (i : Nat) : Decidable (iOk I i) := by unfold iOk; infer_instance
def sigOk (P K : List Bool) (D I : List Int) (u : Int) : Prop := (P.length = 16 ∧ K.length = 16 ∧ D.length = 16 ∧ I.length ≤ 16 ∧ (u = 0 ∨ (1 ≤ u ∧ u ≤ 16))) ∧ (∀ i, i < 16 → 0 ≤ D.getD i default ∧ D.getD i default ≤ 2) ∧ K.getD 8 default = false ∧ D.getD 8 default = 0 ∧ (∀ i, i < I.length → iOk I i) ∧ (u = 0 ∨ (I.length = 0 ∧ ∀ i, i < 16 → P.getD i default = false))
instance (P K : List Bool) (D I : List Int) (u : Int) : Decidable (sigOk P K D I u) := by unfold sigOk; infer_instance
theorem any_bad2 {X : List Int} : (X.any fun p => decide (¬ (0 ≤ p ∧ p ≤ 2))) = decide (¬ ∀ i, i < X.length → 0 ≤ X.getD i default ∧ X.getD i default ≤ 2) := by
  rw [Bool.eq_iff_iff, List.any_eq_true, decide_eq_true_iff]
  constructor
  · rintro ⟨x, hx, h⟩ hc
    obtain ⟨j, hj, rfl⟩ := List.getElem_of_mem hx
    have := hc j hj
    rw [getD_of_lt hj] at this
    exact of_decide_eq_true h this
  · intro h
    refine Classical.byContradiction fun hn => h fun i hi => ?_
    refine Classical.byContradiction fun hi2 => hn ⟨_, getD_mem hi, decide_eq_true hi2⟩
theorem any_true {X : List Bool} : (X.any fun p : Bool => decide (p = true)) = decide (¬ ∀ i, i < X.length → X.getD i default = false) := by
  rw [Bool.eq_iff_iff, List.any_eq_true, decide_eq_true_iff]
  constructor
  · rintro ⟨x, hx, h⟩ hc
    obtain ⟨j, hj, rfl⟩ := List.getElem_of_mem hx
    have := hc j hj
    rw [getD_of_lt hj] at this
    rw [of_decide_eq_true h] at this
    cases this
  · intro h
    refine Classical.byContradiction fun hn => h fun i hi => ?_
    refine Classical.byContradiction fun hi2 => hn ⟨_, getD_mem hi, decide_eq_true (by cases hx : X.getD i default with | true => rfl | false => exact absurd hx hi2)⟩
theorem any_pre {X : List Int} {i : Nat} {v : Int} (hi : i ≤ X.length) : ((X.take i).any fun x => decide (x = v)) = decide (¬ ∀ j, j < i → X.getD j default ≠ v) := by
  rw [Bool.eq_iff_iff, List.any_eq_true, decide_eq_true_iff]
  constructor
  · rintro ⟨x, hx, h⟩ hc
    obtain ⟨j, hj, rfl⟩ := List.getElem_of_mem hx
    have hj2 : j < i := by simp at hj; omega
    have := hc j hj2
    rw [getD_of_lt (by omega)] at this
    rw [List.getElem_take] at h
    exact this (of_decide_eq_true h)
  · intro h
    refine Classical.byContradiction fun hn => h fun j hj e => ?_
    have hjl : j < (X.take i).length := by simp; omega
    refine hn ⟨_, getD_mem hjl, decide_eq_true ?_⟩
    rw [getD_of_lt hjl, List.getElem_take, ← e, getD_of_lt (by omega)]
def c_impl_SigOk : Contract := ⟨20, fun args M => match args with
  | [.agg [.sl a1 n1 _, .sl a2 n2 _, .sl a3 n3 _, .sl a4 n4 c4, .int .i64 u]] => .pure (RowOk Bool a1 n1 (M a1.r) ∧ RowOk Bool a2 n2 (M a2.r) ∧ RowOk Int a3 n3 (M a3.r) ∧ RowOk Int a4 n4 (M a4.r) ∧ n4 ≤ c4) (Eng.B (decide (sigOk (row Bool a1 n1 (M a1.r)) (row Bool a2 n2 (M a2.r)) (row Int a3 n3 (M a3.r)) (row Int a4 n4 (M a4.r)) u)))
  | _ => .bad⟩
theorem ok_impl_SigOk : fnP Try.prog c_impl_SigOk.f = true ∧ ∀ args M, (c_impl_SigOk.sp args M).OK Try.prog c_impl_SigOk.f args M := by
  refine ⟨fp_20, fun args M => ?_⟩
  unfold c_impl_SigOk
  dsimp only
  split
  case h_2 => trivial
  rename_i a1 n1 c1 a2 n2 c2 a3 n3 c3 a4 n4 c4 u
  rintro ⟨h1, h2, h3, h4, hc4⟩
  obtain ⟨s1, P, hP, rfl, t1⟩ := h1.x
  obtain ⟨s2, K, hK, rfl, t2⟩ := h2.x
  obtain ⟨s3, D, hD, rfl, t3⟩ := h3.x
  obtain ⟨s4, I, hI, rfl, t4⟩ := h4.x
  rw [hP, hK, hD, hI]
  refine goIn hf_20 rfl (nt := 89) rfl (rs := [.tmp 2]) rfl (C := [c_impl_isSig, c_slices_ContainsFunc_int, c_slices_Contains_int, c_slices_Contains_bool]) ⟨(by first | exact .inl ok_impl_isSig | exact ok_impl_isSig), (by first | exact .inl ok_slices_ContainsFunc_int | exact ok_slices_ContainsFunc_int), (by first | exact .inl ok_slices_Contains_int | exact ok_slices_Contains_int), (by first | exact .inl ok_slices_Contains_bool | exact ok_slices_Contains_bool), trivial⟩ (q := fun _ => false) okQ_none mixed (O := fun _ => .nil) (by kernel_rfl) ?_
  by_cases hlen : P.length = 16 ∧ K.length = 16 ∧ D.length = 16
  · obtain ⟨l1, l2, l3⟩ := hlen
    obtain ⟨own1, ty1, cnt1, cap1, len1, get1, hM1, hf1, hic1, hkn1, hget1⟩ := t1 (by omega)
    obtain ⟨own2, ty2, cnt2, cap2, len2, get2, hM2, hf2, hic2, hkn2, hget2⟩ := t2 (by omega)
    obtain ⟨own3, ty3, cnt3, cap3, len3, get3, hM3, hf3, hic3, hkn3, hget3⟩ := t3 (by omega)
    have hg2 := hget2 8 (by omega)
    have hg3 := hget3 8 (by omega)
    have f1 := hP
    have f3 := hD
    rw [hM1] at f1
    rw [hM3] at f3
    have r1 := h1
    have r3 := h3
    rw [hM1] at r1
    rw [hM3] at r3
    have q1 : row Bool a1.up P.length (some (Rg.arr own1 ty1 1 cnt1 cap1 len1 fun i k => List.map AC.up (get1 i k))) = P := (row_up (α := Bool) (a := a1) (n := P.length) (o := some (.arr own1 ty1 (Cel.sz Bool) cnt1 cap1 len1 get1))).trans f1
    have q1' : RowOk Bool a1.up P.length (some (Rg.arr own1 ty1 1 cnt1 cap1 len1 fun i k => List.map AC.up (get1 i k))) := (RowOk_up (α := Bool) (a := a1) (n := P.length) (o := some (.arr own1 ty1 (Cel.sz Bool) cnt1 cap1 len1 get1))).mpr r1
    have q3 : row Int a3.up D.length (some (Rg.arr own3 ty3 1 cnt3 cap3 len3 fun i k => List.map AC.up (get3 i k))) = D := (row_up (α := Int) (a := a3) (n := D.length) (o := some (.arr own3 ty3 (Cel.sz Int) cnt3 cap3 len3 get3))).trans f3
    have q3' : RowOk Int a3.up D.length (some (Rg.arr own3 ty3 1 cnt3 cap3 len3 fun i k => List.map AC.up (get3 i k))) := (RowOk_up (α := Int) (a := a3) (n := D.length) (o := some (.arr own3 ty3 (Cel.sz Int) cnt3 cap3 len3 get3))).mpr r3
    simp only [↓WP, ↓grdD, ↓grdT, ↓un_dead, ↓binVC, ↓buildVC, ↓sliceVC, WQ, WN, Int.reduceToNat, renl, cll, rent, clt, ↓reduceIte, Nat.reduceLeDiff, Nat.reduceEqDiff, Nat.reduceLT, reduceCtorEq, List.append_nil, Nat.reduceAdd, Nat.reduceSub, Nat.reduceBEq, forall_const, implies_true, cond_true, cond_false, AV.ren, AC.ren, AV.cl, AC.cl, eq_self, List.all_cons, List.all_nil, AV.eqv, AC.eqv, eqvl, eqvt, Sl.eqv, List.map_append, List.length_map, List.length_append, List.length_replicate, List.length_set, List.map_replicate, nilVC, fl_25_0, sz_22, sd_22, fl_25_1, fl_25_2, sz_23, sd_23, fl_25_3, fl_25_4, sz_3, el_22, sz_4, el_23, c_impl_isSig, c_slices_ContainsFunc_int, c_slices_Contains_int, c_slices_Contains_bool, hM1, hf1, hM2, hf2, hM3, hf3, hg2, hg3, q1, q1', q3, q3', any_bad2]
    simp only [WB, eq_self]
    refine ⟨fun h hc => ?_, fun h => ?_⟩
    · have := hc.1; omega
    refine ⟨fun _ => by omega, fun _ => ⟨hic2, by omega⟩, fun _ => by omega, fun _ => ⟨hic3, by omega⟩, fun h5 hc => ?_, fun h5 => ?_⟩
    · obtain ⟨_, e1, e2, e3, _⟩ := hc
      rcases h5 with (h5 | h5) | h5
      · exact h5 fun i hi => e1 i (by omega)
      · rw [e2] at h5; cases h5
      · exact h5 e3
    obtain ⟨⟨h6, h7⟩, h8⟩ := h5
    have h6 : ∀ i, i < 16 → 0 ≤ D.getD i default ∧ D.getD i default ≤ 2 := fun i hi => Classical.byContradiction fun hn => h6 fun hh => hn (hh i (by omega))
    refine loopI (J := {i : Nat // i ≤ I.length ∧ ∀ j, j < i → iOk I j}) (fun i => ⟨slots 89 [(1, .c (.ptr ⟨.loc 0, 0, 0, 0⟩)), (55, .c (.sl a4.up I.length c4)), (56, Eng.I I.length), (57, Eng.I i.1)], M, [], [.box 25 [.sl a1.up P.length c1, .sl a2.up K.length c2, .sl a3.up D.length c3, .sl a4.up I.length c4, .int .i64 u]]⟩) (fun i => I.length - i.1) ⟨0, by omega, all_zero⟩ (Le_intro [0] (by simp [WL, WNL, swA_new, swA_ne, nest_sw_ne, mapLL, List.mem_cons, Nat.reduceAdd, Nat.reduceLT, Nat.reduceLeDiff, Nat.reduceEqDiff, okU, List.nodup_cons, List.not_mem_nil, toT, toL, toO, keysO, renl, rent, cll, clt, eq_self, AV.eqv, AC.eqv, eqvl, eqvt, Sl.eqv, rowsLe, mapLL, rowsCl, List.map_append, List.length_map, List.length_append, List.length_set, List.map_replicate, rowG, List.getElem?_cons_zero, List.getElem?_cons_succ, List.getElem?_nil, List.append_nil, List.nil_append, List.cons_append, ghosts, St.gh, Option.some.injEq, implies_true, setT, AV.ren, AC.ren, AV.cl, AC.cl, List.replicate_succ, List.replicate_zero, List.nodup_nil, List.length_nil, List.length_cons, List.getD_cons_zero, List.getD_cons_succ, ↓reduceIte])) ?_
    rintro ⟨i, hi, he⟩
    have hw := wS (i := i) (by omega)
    rcases Nat.lt_or_ge i I.length with hlt | hge
    · obtain ⟨own4, ty4, cnt4, cap4, len4, get4, hM4, hf4, hic4, hkn4, hget4⟩ := t4 (by omega)
      obtain ⟨p1, p2⟩ := h4.pre (m := i) (by omega)
      have ha4 : (⟨a4.r, a4.i, a4.k, 0⟩ : AA) = a4 := by obtain ⟨_, _, _, _⟩ := a4; dsimp only at hf4; rw [hf4]
      rw [hI] at p2
      rw [hM4] at p1 p2
      rw [← ha4] at p1 p2
      have q4 : row Int ⟨a4.r.out, a4.i, a4.k, 0⟩ i (some (Rg.arr own4 ty4 1 cnt4 cap4 len4 fun i k => List.map AC.up (get4 i k))) = I.take i := (row_up (α := Int) (a := ⟨a4.r, a4.i, a4.k, 0⟩) (n := i) (o := some (.arr own4 ty4 (Cel.sz Int) cnt4 cap4 len4 get4))).trans p2
      have q4' : RowOk Int ⟨a4.r.out, a4.i, a4.k, 0⟩ i (some (Rg.arr own4 ty4 1 cnt4 cap4 len4 fun i k => List.map AC.up (get4 i k))) := (RowOk_up (α := Int) (a := ⟨a4.r, a4.i, a4.k, 0⟩) (n := i) (o := some (.arr own4 ty4 (Cel.sz Int) cnt4 cap4 len4 get4))).mpr p1
      simp only [↓WP, ↓grdD, ↓grdT, ↓un_dead, ↓binVC, ↓buildVC, ↓sliceVC, WQ, WN, Int.reduceToNat, renl, cll, rent, clt, ↓reduceIte, Nat.reduceLeDiff, Nat.reduceEqDiff, Nat.reduceLT, reduceCtorEq, List.append_nil, Nat.reduceAdd, Nat.reduceSub, Nat.reduceBEq, forall_const, implies_true, cond_true, cond_false, AV.ren, AC.ren, AV.cl, AC.cl, eq_self, List.all_cons, List.all_nil, AV.eqv, AC.eqv, eqvl, eqvt, Sl.eqv, List.map_append, List.length_map, List.length_append, List.length_replicate, List.length_set, List.map_replicate, nilVC, fl_25_0, sz_22, sd_22, fl_25_1, fl_25_2, sz_23, sd_23, fl_25_3, fl_25_4, sz_3, el_22, sz_4, el_23, c_impl_isSig, c_slices_ContainsFunc_int, c_slices_Contains_int, c_slices_Contains_bool, dlt hlt, hw, hM4, hf4, hget4 i hlt, Nat.sub_zero, q4, q4', any_pre hi]
      simp only [WB, eq_self]
      repeat' (first | with_reducible refine And.intro ?_ ?_ | intro _)
      all_goals try omega
      · rename_i h9 hc
        have := hc.2.2.2.2.1 i hlt
        rcases h9 with h9 | h9
        · exact h9 this.1
        · exact h9 this.2
      · rename_i h9
        obtain ⟨h9, h10⟩ := h9
        exact ⟨⟨i + 1, hlt, all_step he ⟨h9, fun j hj => Classical.byContradiction fun hn => h10 fun hh => hn (hh j hj)⟩⟩, Le_intro [0] (by simp [WL, WNL, swA_new, swA_ne, nest_sw_ne, mapLL, List.mem_cons, Nat.reduceAdd, Nat.reduceLT, Nat.reduceLeDiff, Nat.reduceEqDiff, okU, List.nodup_cons, List.not_mem_nil, toT, toL, toO, keysO, renl, rent, cll, clt, eq_self, AV.eqv, AC.eqv, eqvl, eqvt, Sl.eqv, rowsLe, mapLL, rowsCl, List.map_append, List.length_map, List.length_append, List.length_set, List.map_replicate, rowG, List.getElem?_cons_zero, List.getElem?_cons_succ, List.getElem?_nil, List.append_nil, List.nil_append, List.cons_append, ghosts, St.gh, Option.some.injEq, implies_true, setT, AV.ren, AC.ren, AV.cl, AC.cl, List.replicate_succ, List.replicate_zero, List.nodup_nil, List.length_nil, List.length_cons, List.getD_cons_zero, List.getD_cons_succ, ↓reduceIte]), by show I.length - (i + 1) < I.length - i; omega⟩
    · obtain rfl : i = I.length := by omega
      have hu : (u = 0 ∨ (1 ≤ u ∧ u ≤ 16)) := by
        by_cases hu0 : u = 0
        · exact .inl hu0
        · exact .inr (by omega)
      simp only [↓WP, ↓grdD, ↓grdT, ↓un_dead, ↓binVC, ↓buildVC, ↓sliceVC, WQ, WN, Int.reduceToNat, renl, cll, rent, clt, ↓reduceIte, Nat.reduceLeDiff, Nat.reduceEqDiff, Nat.reduceLT, reduceCtorEq, List.append_nil, Nat.reduceAdd, Nat.reduceSub, Nat.reduceBEq, forall_const, implies_true, cond_true, cond_false, AV.ren, AC.ren, AV.cl, AC.cl, eq_self, List.all_cons, List.all_nil, AV.eqv, AC.eqv, eqvl, eqvt, Sl.eqv, List.map_append, List.length_map, List.length_append, List.length_replicate, List.length_set, List.map_replicate, nilVC, fl_25_0, sz_22, sd_22, fl_25_1, fl_25_2, sz_23, sd_23, fl_25_3, fl_25_4, sz_3, el_22, sz_4, el_23, c_impl_isSig, c_slices_ContainsFunc_int, c_slices_Contains_int, c_slices_Contains_bool, dge hge, hw, hM1, q1, q1', any_true]
      simp only [WB, eq_self]
      constructor
      · intro h9
        refine ⟨⟨l1, l2, l3, by omega, hu⟩, h6, h7, h8, he, ?_⟩
        rcases h9 with h9 | ⟨h9, h10⟩
        · exact .inl h9
        · exact .inr ⟨by omega, fun i hi => Classical.byContradiction fun hn => h10 fun hh => hn (hh i (by omega))⟩
      · rintro ⟨_, _, _, _, _, h9 | ⟨h9, h10⟩⟩
        · exact .inl h9
        · exact .inr ⟨by omega, fun hn => hn fun i hi => h10 i (by omega)⟩
  · simp only [↓WP, ↓grdD, ↓grdT, ↓un_dead, ↓binVC, ↓buildVC, ↓sliceVC, WQ, WN, Int.reduceToNat, renl, cll, rent, clt, ↓reduceIte, Nat.reduceLeDiff, Nat.reduceEqDiff, Nat.reduceLT, reduceCtorEq, List.append_nil, Nat.reduceAdd, Nat.reduceSub, Nat.reduceBEq, forall_const, implies_true, cond_true, cond_false, AV.ren, AC.ren, AV.cl, AC.cl, eq_self, List.all_cons, List.all_nil, AV.eqv, AC.eqv, eqvl, eqvt, Sl.eqv, List.map_append, List.length_map, List.length_append, List.length_replicate, List.length_set, List.map_replicate, nilVC, fl_25_0, sz_22, sd_22, fl_25_1, fl_25_2, sz_23, sd_23, fl_25_3, fl_25_4, sz_3, el_22, sz_4, el_23, c_impl_isSig, c_slices_ContainsFunc_int, c_slices_Contains_int, c_slices_Contains_bool, hP, hK, hD, hI]
    simp only [WB, eq_self]
    refine ⟨fun _ hc => hlen ⟨hc.1.1, hc.1.2.1, hc.1.2.2.1⟩, fun h => ?_⟩
    exfalso
    omega
end Go.Eng.T
