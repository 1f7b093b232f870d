/- cow: CowOk, as the program and as the reference do it. -/
import Derived.Test.YtjdppjomhkbljaaFn6
set_option linter.unusedVariables false
set_option linter.unusedSimpArgs false
set_option linter.unusedSectionVars false
namespace Go.Eng
open Cel (enc dec)
theorem fr_cond (w : List Int) (r : Int) : (!decide ((w.length : Int) = 4) || !decide (∀ x ∈ w, -1000000 ≤ x ∧ x ≤ 1000000) || (decide (r = 0) && !decide (∀ x ∈ w, x = 0))) = !decide (frOk w r) := by
  rw [Bool.eq_iff_iff]
  simp only [Bool.or_eq_true, Bool.and_eq_true, Bool.not_eq_true', decide_eq_false_iff_not, decide_eq_true_iff]
  have e : ((w.length : Int) = 4) ↔ w.length = 4 := by omega
  rw [e]
  constructor
  · rintro ((h | h) | ⟨h0, h⟩) ⟨h1, h2, h3⟩
    · exact h h1
    · exact h h2
    · exact h (h3 h0)
  · intro h
    by_cases h1 : w.length = 4
    · by_cases h2 : ∀ x ∈ w, -1000000 ≤ x ∧ x ≤ 1000000
      · by_cases h3 : r = 0
        · exact .inr ⟨h3, fun h4 => h ⟨h1, h2, fun _ => h4⟩⟩
        · exact absurd ⟨h1, h2, fun h4 => absurd h4 h3⟩ h
      · exact .inl (.inr h2)
    · exact .inl (.inl h1)
theorem lt_step {p : Nat → Prop} {i : Nat} (h : ∀ k, k < i → p k) (k : p i) : ∀ k, k < i + 1 → p k := fun j hj => by
  rcases Nat.lt_or_eq_of_le (Nat.le_of_lt_succ hj) with h1 | h1
  · exact h j h1
  · subst h1; exact k
end Go.Eng
namespace Go.Eng.T
open Go.Proofs
open Cel (enc dec)
set_option maxRecDepth 100000
set_option maxHeartbeats 4000000
theorem q_impl_cowRefs : Quiet c_impl_cowRefs := by
  intro args M
  unfold c_impl_cowRefs
  dsimp only
  split <;> first | trivial | (intro _; rfl)
def c_impl_CowOk : Contract := ⟨21, fun args M => match args with
  | [.agg [.sl a1 n1 _, .sl a2 n2 _, .sl a3 n3 _]] => .pure (Row2Ok Int a1 n1 M ∧ RowOk Int a2 n2 (M a2.r) ∧ Row2Ok Int a3 n3 M) (Eng.B (decide (cowOk (row2 Int a1 n1 M) (row Int a2 n2 (M a2.r)) (row2 Int a3 n3 M))))
  | _ => .bad⟩
theorem ok_impl_CowOk : fnP Try.prog c_impl_CowOk.f = true ∧ ∀ args M, (c_impl_CowOk.sp args M).OK Try.prog c_impl_CowOk.f args M := by
  refine ⟨fp_21, fun args M => ?_⟩
  unfold c_impl_CowOk
  dsimp only
  split
  case h_2 => trivial
  rename_i a1 n1 c1 a2 n2 c2 a3 n3 c3
  rintro ⟨h1, h2, h3⟩
  obtain ⟨s1, X, hX, rfl, t1⟩ := h1.x
  obtain ⟨s2, R, hR, rfl, t2⟩ := h2.x
  obtain ⟨s3, Z, hZ, rfl, t3⟩ := h3.x
  rw [hX, hR, hZ]
  refine goIn hf_21 rfl (nt := 74) rfl (rs := [.tmp 2]) rfl (C := [c_slices_ContainsFunc_int, c_impl_wordsOk, c_impl_allAre, c_impl_cowRefs, c_slices_Equal_int]) ⟨(by first | exact .inl ok_slices_ContainsFunc_int | exact ok_slices_ContainsFunc_int), (by first | exact .inl ok_impl_wordsOk | exact ok_impl_wordsOk), (by first | exact .inl ok_impl_allAre | exact ok_impl_allAre), (by first | exact .inl ok_impl_cowRefs | exact ok_impl_cowRefs), (by first | exact .inl ok_slices_Equal_int | exact ok_slices_Equal_int), trivial⟩ (q := fun f => [57, 56].contains f) ⟨fun h => absurd h (by decide), fun h => absurd h (by decide), fun h => absurd h (by decide), fun _ => q_impl_cowRefs, fun _ => q_slices_Equal_int, trivial⟩ mixed (O := ots [(15, otl [0, 1, 2, 3, 4, 5, 6] .nil)]) (by kernel_rfl) ?_
  by_cases hl : X.length = 12 ∧ R.length = 12 ∧ Z.length = 4
  · obtain ⟨l1, l2, l3⟩ := hl
    have hc : (!decide ((X.length : Int) = 12) || !decide ((R.length : Int) = 12) || !decide ((Z.length : Int) = 4)) = false := by simp only [WB, eq_self]; omega
    simp only [↓WP, ↓grdD, ↓grdT, ↓un_dead, ↓binVC, ↓buildVC, ↓sliceVC, WQ, WN, Int.reduceToNat, renl, cll, rent, clt, ↓reduceIte, Nat.reduceLeDiff, Nat.reduceEqDiff, Nat.reduceLT, reduceCtorEq, List.append_nil, Nat.reduceAdd, Nat.reduceSub, Nat.reduceBEq, forall_const, implies_true, cond_true, cond_false, AV.ren, AC.ren, AV.cl, AC.cl, eq_self, List.all_cons, List.all_nil, AV.eqv, AC.eqv, eqvl, eqvt, Sl.eqv, List.map_append, List.length_map, List.length_append, List.length_replicate, List.length_set, List.map_replicate, nilVC, fl_25_0, sz_22, sd_22, fl_25_1, sz_23, sd_23, fl_25_2, el_22, el_23, sz_3, c_slices_ContainsFunc_int, c_impl_wordsOk, c_impl_allAre, c_impl_cowRefs, c_slices_Equal_int, hc]
    refine loopI (J := {i : Nat // i ≤ Z.length ∧ ∀ k, k < i → spOk (Z.getD k default)}) (fun i => ⟨slots 74 [(1, .c (.ptr ⟨.loc 0, 0, 0, 0⟩)), (24, .c (.sl a3.up Z.length c3)), (25, I Z.length), (26, I i.1)], M, [], [.box 25 [.sl a1.up X.length c1, .sl a2.up R.length c2, .sl a3.up Z.length c3]]⟩) (fun i => Z.length - i.1) ⟨0, by omega, fun k hk => absurd hk (by omega)⟩ (Le_intro [0] (by simp only [WL, WNL, swA_new, swA_ne, nest_sw_ne, mapLL, List.mem_cons, Nat.reduceAdd, Nat.reduceLT, Nat.reduceLeDiff, Nat.reduceEqDiff, okU, List.nodup_cons, List.not_mem_nil, toT, toL, toO, keysO, renl, rent, cll, clt, eq_self, AV.eqv, AC.eqv, eqvl, eqvt, Sl.eqv, rowsLe, mapLL, rowsCl, List.map_append, List.length_map, List.length_append, List.length_set, List.map_replicate, rowG, List.getElem?_cons_zero, List.getElem?_cons_succ, List.getElem?_nil, List.append_nil, List.nil_append, List.cons_append, ghosts, St.gh, Option.some.injEq, implies_true, setT, AV.ren, AC.ren, AV.cl, AC.cl, List.replicate_succ, List.replicate_zero, List.nodup_nil, List.length_nil, List.length_cons, List.getD_cons_zero, List.getD_cons_succ, ↓reduceIte]; try simp)) ?_
    rintro ⟨i, hi, he⟩
    have hw := wS (i := i) (by omega)
    rcases Nat.lt_or_ge i Z.length with hlt | hge
    · obtain ⟨own, ty, cnt, cap, len, get, b, c, hM, hf, hic, hkn, hget⟩ := t3 (by omega)
      obtain ⟨g1, g2, g3, g4⟩ := hget i hlt
      have hsc := sp_cond (Z.getD i default)
      by_cases hs : spOk (Z.getD i default)
      · rw [decide_eq_true hs] at hsc
        simp only [↓WP, ↓grdD, ↓grdT, ↓un_dead, ↓binVC, ↓buildVC, ↓sliceVC, WQ, WN, Int.reduceToNat, renl, cll, rent, clt, ↓reduceIte, Nat.reduceLeDiff, Nat.reduceEqDiff, Nat.reduceLT, reduceCtorEq, List.append_nil, Nat.reduceAdd, Nat.reduceSub, Nat.reduceBEq, forall_const, implies_true, cond_true, cond_false, AV.ren, AC.ren, AV.cl, AC.cl, eq_self, List.all_cons, List.all_nil, AV.eqv, AC.eqv, eqvl, eqvt, Sl.eqv, List.map_append, List.length_map, List.length_append, List.length_replicate, List.length_set, List.map_replicate, nilVC, fl_25_0, sz_22, sd_22, fl_25_1, sz_23, sd_23, fl_25_2, el_22, el_23, sz_3, c_slices_ContainsFunc_int, c_impl_wordsOk, c_impl_allAre, c_impl_cowRefs, c_slices_Equal_int, dlt hlt, hw, hM, hf, g1, g3, g4, cloP_1, hsc]
        repeat refine ⟨by omega, ?_⟩
        refine ⟨⟨i + 1, hlt, lt_step he hs⟩, Le_intro [0] (by simp only [WL, WNL, swA_new, swA_ne, nest_sw_ne, mapLL, List.mem_cons, Nat.reduceAdd, Nat.reduceLT, Nat.reduceLeDiff, Nat.reduceEqDiff, okU, List.nodup_cons, List.not_mem_nil, toT, toL, toO, keysO, renl, rent, cll, clt, eq_self, AV.eqv, AC.eqv, eqvl, eqvt, Sl.eqv, rowsLe, mapLL, rowsCl, List.map_append, List.length_map, List.length_append, List.length_set, List.map_replicate, rowG, List.getElem?_cons_zero, List.getElem?_cons_succ, List.getElem?_nil, List.append_nil, List.nil_append, List.cons_append, ghosts, St.gh, Option.some.injEq, implies_true, setT, AV.ren, AC.ren, AV.cl, AC.cl, List.replicate_succ, List.replicate_zero, List.nodup_nil, List.length_nil, List.length_cons, List.getD_cons_zero, List.getD_cons_succ, ↓reduceIte]; try simp), by show Z.length - (i + 1) < Z.length - i; omega⟩
      · have hno : ¬ cowOk X R Z := fun h => hs (h.2.1 i (by omega))
        rw [decide_eq_false hs] at hsc
        simp only [↓WP, ↓grdD, ↓grdT, ↓un_dead, ↓binVC, ↓buildVC, ↓sliceVC, WQ, WN, Int.reduceToNat, renl, cll, rent, clt, ↓reduceIte, Nat.reduceLeDiff, Nat.reduceEqDiff, Nat.reduceLT, reduceCtorEq, List.append_nil, Nat.reduceAdd, Nat.reduceSub, Nat.reduceBEq, forall_const, implies_true, cond_true, cond_false, AV.ren, AC.ren, AV.cl, AC.cl, eq_self, List.all_cons, List.all_nil, AV.eqv, AC.eqv, eqvl, eqvt, Sl.eqv, List.map_append, List.length_map, List.length_append, List.length_replicate, List.length_set, List.map_replicate, nilVC, fl_25_0, sz_22, sd_22, fl_25_1, sz_23, sd_23, fl_25_2, el_22, el_23, sz_3, c_slices_ContainsFunc_int, c_impl_wordsOk, c_impl_allAre, c_impl_cowRefs, c_slices_Equal_int, dlt hlt, hw, hM, hf, g1, g3, g4, cloP_1, hsc, decide_eq_false hno]
        repeat' (first | with_reducible refine And.intro ?_ ?_ | intro _)
        all_goals first | assumption | omega | trivial | (simp; done)
    · obtain rfl : i = Z.length := by omega
      simp only [↓WP, ↓grdD, ↓grdT, ↓un_dead, ↓binVC, ↓buildVC, ↓sliceVC, WQ, WN, Int.reduceToNat, renl, cll, rent, clt, ↓reduceIte, Nat.reduceLeDiff, Nat.reduceEqDiff, Nat.reduceLT, reduceCtorEq, List.append_nil, Nat.reduceAdd, Nat.reduceSub, Nat.reduceBEq, forall_const, implies_true, cond_true, cond_false, AV.ren, AC.ren, AV.cl, AC.cl, eq_self, List.all_cons, List.all_nil, AV.eqv, AC.eqv, eqvl, eqvt, Sl.eqv, List.map_append, List.length_map, List.length_append, List.length_replicate, List.length_set, List.map_replicate, nilVC, fl_25_0, sz_22, sd_22, fl_25_1, sz_23, sd_23, fl_25_2, el_22, el_23, sz_3, c_slices_ContainsFunc_int, c_impl_wordsOk, c_impl_allAre, c_impl_cowRefs, c_slices_Equal_int, dge hge, hw]
      refine loopI (J := {i : Nat // i ≤ X.length ∧ ∀ k, k < i → frOk (X.getD k default) (R.getD k default)}) (fun i => ⟨slots 74 [(1, .c (.ptr ⟨.loc 0, 0, 0, 0⟩)), (39, .c (.sl a1.up X.length c1)), (40, I X.length), (41, I i.1)], M, [], [.box 25 [.sl a1.up X.length c1, .sl a2.up R.length c2, .sl a3.up Z.length c3]]⟩) (fun i => X.length - i.1) ⟨0, by omega, fun k hk => absurd hk (by omega)⟩ (Le_intro [0] (by simp only [WL, WNL, swA_new, swA_ne, nest_sw_ne, mapLL, List.mem_cons, Nat.reduceAdd, Nat.reduceLT, Nat.reduceLeDiff, Nat.reduceEqDiff, okU, List.nodup_cons, List.not_mem_nil, toT, toL, toO, keysO, renl, rent, cll, clt, eq_self, AV.eqv, AC.eqv, eqvl, eqvt, Sl.eqv, rowsLe, mapLL, rowsCl, List.map_append, List.length_map, List.length_append, List.length_set, List.map_replicate, rowG, List.getElem?_cons_zero, List.getElem?_cons_succ, List.getElem?_nil, List.append_nil, List.nil_append, List.cons_append, ghosts, St.gh, Option.some.injEq, implies_true, setT, AV.ren, AC.ren, AV.cl, AC.cl, List.replicate_succ, List.replicate_zero, List.nodup_nil, List.length_nil, List.length_cons, List.getD_cons_zero, List.getD_cons_succ, ↓reduceIte]; try simp)) ?_
      rintro ⟨k, hk, hek⟩
      have hwk := wS (i := k) (by omega)
      rcases Nat.lt_or_ge k X.length with hklt | hkge
      · obtain ⟨own, ty, cnt, cap, len, get, b, c, hM, hf, hic, hkn, hget⟩ := t1 (by omega)
        obtain ⟨own', ty', cnt', cap', len', get', hM', hf', hic', hkn', hget'⟩ := t2 (by omega)
        obtain ⟨g1, g2, g3, g4⟩ := hget k hklt
        have hsc := fr_cond (X.getD k default) (R.getD k default)
        by_cases hs : frOk (X.getD k default) (R.getD k default)
        · rw [decide_eq_true hs] at hsc
          simp only [↓WP, ↓grdD, ↓grdT, ↓un_dead, ↓binVC, ↓buildVC, ↓sliceVC, WQ, WN, Int.reduceToNat, renl, cll, rent, clt, ↓reduceIte, Nat.reduceLeDiff, Nat.reduceEqDiff, Nat.reduceLT, reduceCtorEq, List.append_nil, Nat.reduceAdd, Nat.reduceSub, Nat.reduceBEq, forall_const, implies_true, cond_true, cond_false, AV.ren, AC.ren, AV.cl, AC.cl, eq_self, List.all_cons, List.all_nil, AV.eqv, AC.eqv, eqvl, eqvt, Sl.eqv, List.map_append, List.length_map, List.length_append, List.length_replicate, List.length_set, List.map_replicate, nilVC, fl_25_0, sz_22, sd_22, fl_25_1, sz_23, sd_23, fl_25_2, el_22, el_23, sz_3, c_slices_ContainsFunc_int, c_impl_wordsOk, c_impl_allAre, c_impl_cowRefs, c_slices_Equal_int, dlt hklt, hwk, hM, hf, g1, g3, g4, hM', hf', hget' k (by omega), hsc]
          repeat' (first | with_reducible refine And.intro ?_ ?_ | intro _)
          all_goals try omega
          exact ⟨⟨k + 1, hklt, lt_step hek hs⟩, Le_intro [0] (by simp only [WL, WNL, swA_new, swA_ne, nest_sw_ne, mapLL, List.mem_cons, Nat.reduceAdd, Nat.reduceLT, Nat.reduceLeDiff, Nat.reduceEqDiff, okU, List.nodup_cons, List.not_mem_nil, toT, toL, toO, keysO, renl, rent, cll, clt, eq_self, AV.eqv, AC.eqv, eqvl, eqvt, Sl.eqv, rowsLe, mapLL, rowsCl, List.map_append, List.length_map, List.length_append, List.length_set, List.map_replicate, rowG, List.getElem?_cons_zero, List.getElem?_cons_succ, List.getElem?_nil, List.append_nil, List.nil_append, List.cons_append, ghosts, St.gh, Option.some.injEq, implies_true, setT, AV.ren, AC.ren, AV.cl, AC.cl, List.replicate_succ, List.replicate_zero, List.nodup_nil, List.length_nil, List.length_cons, List.getD_cons_zero, List.getD_cons_succ, ↓reduceIte]; try simp), by show X.length - (k + 1) < X.length - k; omega⟩
        · have hno : ¬ cowOk X R Z := fun h => hs (h.2.2.1 k (by omega))
          rw [decide_eq_false hs] at hsc
          simp only [↓WP, ↓grdD, ↓grdT, ↓un_dead, ↓binVC, ↓buildVC, ↓sliceVC, WQ, WN, Int.reduceToNat, renl, cll, rent, clt, ↓reduceIte, Nat.reduceLeDiff, Nat.reduceEqDiff, Nat.reduceLT, reduceCtorEq, List.append_nil, Nat.reduceAdd, Nat.reduceSub, Nat.reduceBEq, forall_const, implies_true, cond_true, cond_false, AV.ren, AC.ren, AV.cl, AC.cl, eq_self, List.all_cons, List.all_nil, AV.eqv, AC.eqv, eqvl, eqvt, Sl.eqv, List.map_append, List.length_map, List.length_append, List.length_replicate, List.length_set, List.map_replicate, nilVC, fl_25_0, sz_22, sd_22, fl_25_1, sz_23, sd_23, fl_25_2, el_22, el_23, sz_3, c_slices_ContainsFunc_int, c_impl_wordsOk, c_impl_allAre, c_impl_cowRefs, c_slices_Equal_int, dlt hklt, hwk, hM, hf, g1, g3, g4, hM', hf', hget' k (by omega), hsc, decide_eq_false hno]
          repeat' (first | with_reducible refine And.intro ?_ ?_ | intro _)
          all_goals first | assumption | omega | trivial | (simp; done)
      · obtain rfl : k = X.length := by omega
        obtain ⟨q1, q2⟩ := sp_all he
        have hq2 : tot Z ≤ 4294967296 := by omega
        have hiff : decide (R = refs Z.flatten) = decide (cowOk X R Z) := by
          rw [decide_eq_decide]
          exact ⟨fun h => ⟨⟨l1, l2, l3⟩, fun k hk => he k (by omega), fun k hk => hek k (by omega), h⟩, fun h => h.2.2.2⟩
        have hwn : allEnc Int (win (fun j => (List.map enc (refs Z.flatten)).getD (0 + j) []) 12) = True := by
          simp only [Nat.zero_add]; rw [win_whole (by simp [refs_length]), allEnc_enc]
        have hrr : row Int ⟨.loc 1, 0, 0, 0⟩ 12 (some (Rg.rows true 3 1 [(12, List.map enc (refs Z.flatten))])) = refs Z.flatten := by
          rw [row_rows]; simp only [List.getD_cons_zero, Nat.zero_add]; rw [win_whole (by simp [refs_length]), map_dec_enc]
        have hZu : row2 Int a3 Z.length M = Z := hZ
        simp only [↓WP, ↓grdD, ↓grdT, ↓un_dead, ↓binVC, ↓buildVC, ↓sliceVC, WQ, WN, Int.reduceToNat, renl, cll, rent, clt, ↓reduceIte, Nat.reduceLeDiff, Nat.reduceEqDiff, Nat.reduceLT, reduceCtorEq, List.append_nil, Nat.reduceAdd, Nat.reduceSub, Nat.reduceBEq, forall_const, implies_true, cond_true, cond_false, AV.ren, AC.ren, AV.cl, AC.cl, eq_self, List.all_cons, List.all_nil, AV.eqv, AC.eqv, eqvl, eqvt, Sl.eqv, List.map_append, List.length_map, List.length_append, List.length_replicate, List.length_set, List.map_replicate, nilVC, fl_25_0, sz_22, sd_22, fl_25_1, sz_23, sd_23, fl_25_2, el_22, el_23, sz_3, c_slices_ContainsFunc_int, c_impl_wordsOk, c_impl_allAre, c_impl_cowRefs, c_slices_Equal_int, dge hkge, hwk, Row2Ok_upE h3, row2_upE h3, hZ, hq2, hwn, hrr, hR, hiff, refs_length]
        exact ⟨q1, h2, .inr trivial⟩
  · have hc : (!decide ((X.length : Int) = 12) || !decide ((R.length : Int) = 12) || !decide ((Z.length : Int) = 4)) = true := by simp only [WB, eq_self]; omega
    have hno : ¬ cowOk X R Z := fun h => hl h.1
    simp only [↓WP, ↓grdD, ↓grdT, ↓un_dead, ↓binVC, ↓buildVC, ↓sliceVC, WQ, WN, Int.reduceToNat, renl, cll, rent, clt, ↓reduceIte, Nat.reduceLeDiff, Nat.reduceEqDiff, Nat.reduceLT, reduceCtorEq, List.append_nil, Nat.reduceAdd, Nat.reduceSub, Nat.reduceBEq, forall_const, implies_true, cond_true, cond_false, AV.ren, AC.ren, AV.cl, AC.cl, eq_self, List.all_cons, List.all_nil, AV.eqv, AC.eqv, eqvl, eqvt, Sl.eqv, List.map_append, List.length_map, List.length_append, List.length_replicate, List.length_set, List.map_replicate, nilVC, fl_25_0, sz_22, sd_22, fl_25_1, sz_23, sd_23, fl_25_2, el_22, el_23, sz_3, c_slices_ContainsFunc_int, c_impl_wordsOk, c_impl_allAre, c_impl_cowRefs, c_slices_Equal_int, hc, decide_eq_false hno]
    try simp
end Go.Eng.T
