/- cow: CowOk as the reference does it. -/
import Derived.Test.YtjdppjomhkbljaaFn7
set_option linter.unusedVariables false
set_option linter.unusedSimpArgs false
set_option linter.unusedSectionVars false
namespace Go.Eng.T
open Go.Proofs
open Cel (enc dec)
set_option maxRecDepth 100000
set_option maxHeartbeats 4000000
theorem out_cond (f : Int) : (decide (f < 0) || decide (12 ≤ f)) = !decide (0 ≤ f ∧ f ≤ 11) := by
  rw [Bool.eq_iff_iff]
  simp only [Bool.or_eq_true, Bool.not_eq_true', decide_eq_false_iff_not, decide_eq_true_iff]
  omega
theorem wd_cond (w n : Int) : (!decide (-1000000 ≤ w ∧ w ≤ 1000000) || (decide (n = 0) && !decide (w = 0))) = !decide ((-1000000 ≤ w ∧ w ≤ 1000000) ∧ (n = 0 → w = 0)) := by
  rw [Bool.eq_iff_iff]
  simp only [Bool.or_eq_true, Bool.and_eq_true, Bool.not_eq_true', decide_eq_false_iff_not, decide_eq_true_iff]
  omega
def c_spec_CowOk : Contract := ⟨19, fun args M => match args with
  | [.agg [.sl a1 n1 _, .sl a2 n2 _, .sl a3 n3 _]] => .pure (Row2Ok Int a1 n1 M ∧ RowOk Int a2 n2 (M a2.r) ∧ Row2Ok Int a3 n3 M) (Eng.B (decide (cowOk (row2 Int a1 n1 M) (row Int a2 n2 (M a2.r)) (row2 Int a3 n3 M))))
  | _ => .bad⟩
theorem ok_spec_CowOk : fnP Try.prog c_spec_CowOk.f = true ∧ ∀ args M, (c_spec_CowOk.sp args M).OK Try.prog c_spec_CowOk.f args M := by
  refine ⟨fp_19, fun args M => ?_⟩
  unfold c_spec_CowOk
  dsimp only
  split
  case h_2 => trivial
  rename_i a1 n1 c1 a2 n2 c2 a3 n3 c3
  rintro ⟨h1, h2, h3⟩
  obtain ⟨s1, X, hX, rfl, t1⟩ := h1.x
  obtain ⟨s2, R, hR, rfl, t2⟩ := h2.x
  obtain ⟨s3, Z, hZ, rfl, t3⟩ := h3.x
  rw [hX, hR, hZ]
  refine goIn hf_19 rfl (nt := 122) rfl (rs := [.tmp 2]) rfl (C := [c_spec_l1In]) ⟨(by first | exact .inl ok_spec_l1In | exact ok_spec_l1In), trivial⟩ (q := fun f => [].contains f) ⟨fun h => absurd h (by decide), trivial⟩ mixed (O := ots [(19, otl [0, 1, 2, 3, 4, 5, 6, 7, 8, 9, 10, 11, 12, 13, 14, 15, 16, 17, 18] .nil)]) (by kernel_rfl) ?_
  by_cases hl : X.length = 12 ∧ R.length = 12 ∧ Z.length = 4
  · obtain ⟨l1, l2, l3⟩ := hl
    have hc : (!decide ((X.length : Int) = 12) || !decide ((R.length : Int) = 12) || !decide ((Z.length : Int) = 4)) = false := by simp only [WB, eq_self]; omega
    simp only [↓WP, ↓grdD, ↓grdT, ↓un_dead, ↓binVC, ↓buildVC, ↓sliceVC, WQ, WN, Int.reduceToNat, renl, cll, rent, clt, ↓reduceIte, Nat.reduceLeDiff, Nat.reduceEqDiff, Nat.reduceLT, reduceCtorEq, List.append_nil, Nat.reduceAdd, Nat.reduceSub, Nat.reduceBEq, forall_const, implies_true, cond_true, cond_false, AV.ren, AC.ren, AV.cl, AC.cl, eq_self, List.all_cons, List.all_nil, AV.eqv, AC.eqv, eqvl, eqvt, Sl.eqv, List.map_append, List.length_map, List.length_append, List.length_replicate, List.length_set, List.map_replicate, nilVC, fl_25_0, sz_22, sd_22, fl_25_1, sz_23, sd_23, fl_25_2, el_23, zr_3, el_22, sz_3, c_spec_l1In, hc]
    refine ⟨by omega, ?_⟩
    refine loopI (J := {i : Nat // i ≤ Z.length ∧ ∀ k, k < i → spOk (Z.getD k default)}) (fun i => ⟨slots 122 [(1, .c (.ptr ⟨.loc 0, 0, 0, 0⟩)), (3, .c (.sl ⟨.loc 1, 0, 0, 0⟩ 12 12)), (4, I i.1)], M, [], [.box 25 [.sl a1.up X.length c1, .sl a2.up R.length c2, .sl a3.up Z.length c3], rowG true 3 12 (refs ((Z.take i.1).flatten))]⟩) (fun i => Z.length - i.1) ⟨0, by omega, fun k hk => absurd hk (by omega)⟩ (Le_intro [0, 1] (by simp only [WL, WNL, swA_new, swA_ne, nest_sw_ne, mapLL, List.mem_cons, Nat.reduceAdd, Nat.reduceLT, Nat.reduceLeDiff, Nat.reduceEqDiff, okU, List.nodup_cons, List.not_mem_nil, toT, toL, toO, keysO, renl, rent, cll, clt, eq_self, AV.eqv, AC.eqv, eqvl, eqvt, Sl.eqv, rowsLe, mapLL, rowsCl, List.map_append, List.length_map, List.length_append, List.length_set, List.map_replicate, rowG, List.getElem?_cons_zero, List.getElem?_cons_succ, List.getElem?_nil, List.append_nil, List.nil_append, List.cons_append, ghosts, St.gh, Option.some.injEq, implies_true, setT, AV.ren, AC.ren, AV.cl, AC.cl, List.replicate_succ, List.replicate_zero, List.nodup_nil, List.length_nil, List.length_cons, List.getD_cons_zero, List.getD_cons_succ, ↓reduceIte]; simp [refs_nil, enc_int])) ?_
    rintro ⟨i, hi, he⟩
    have hw := wS (i := i) (by omega)
    rcases Nat.lt_or_ge i Z.length with hlt | hge
    · obtain ⟨own, ty, cnt, cap, len, get, b, c, hM, hf, hic, hkn, hget⟩ := t3 (by omega)
      obtain ⟨g1, g2, g3, g4⟩ := hget i hlt
      obtain ⟨gs, Y, hY, hYl, hbt⟩ := g3.x
      rw [g4] at hY
      have hfl := flat_step hlt
      have h2i := tot_step hlt
      have h3i := tot_take (X := Z) (i := i)
      have htk : tot (Z.take i) ≤ 4 * (Z.take i).length := (sp_all (Z := Z.take i) fun k hk => by
        have hk2 : k < i := by simp at hk; omega
        rw [show (Z.take i).getD k default = Z.getD k default by rw [getD_of_lt hk, getD_of_lt (by omega), List.getElem_take]]
        exact he k hk2).2
      rw [List.length_take] at htk
      rw [hY] at g1 hfl gs hbt h2i
      by_cases h4 : Y.length ≤ 4
      · have hd4 : decide ((4 : Int) < (Y.length : Int)) = false := by simp only [decide_eq_false_iff_not]; omega
        simp only [↓WP, ↓grdD, ↓grdT, ↓un_dead, ↓binVC, ↓buildVC, ↓sliceVC, WQ, WN, Int.reduceToNat, renl, cll, rent, clt, ↓reduceIte, Nat.reduceLeDiff, Nat.reduceEqDiff, Nat.reduceLT, reduceCtorEq, List.append_nil, Nat.reduceAdd, Nat.reduceSub, Nat.reduceBEq, forall_const, implies_true, cond_true, cond_false, AV.ren, AC.ren, AV.cl, AC.cl, eq_self, List.all_cons, List.all_nil, AV.eqv, AC.eqv, eqvl, eqvt, Sl.eqv, List.map_append, List.length_map, List.length_append, List.length_replicate, List.length_set, List.map_replicate, nilVC, fl_25_0, sz_22, sd_22, fl_25_1, sz_23, sd_23, fl_25_2, el_23, zr_3, el_22, sz_3, c_spec_l1In, dlt hlt, hw, hM, hf, g1, hd4]
        repeat refine ⟨by omega, ?_⟩
        refine loopI (J := {j : Nat // j ≤ Y.length ∧ ∀ k, k < j → 0 ≤ Y.getD k default ∧ Y.getD k default ≤ 11}) (fun j => ⟨slots 122 [(1, .c (.ptr ⟨.loc 0, 0, 0, 0⟩)), (3, .c (.sl ⟨.loc 1, 0, 0, 0⟩ 12 12)), (4, I i), (5, I j.1)], M, [], [.box 25 [.sl a1.up X.length c1, .sl a2.up R.length c2, .sl a3.up Z.length c3], rowG true 3 12 (refs ((Z.take i).flatten ++ Y.take j.1))]⟩) (fun j => Y.length - j.1) ⟨0, by omega, fun k hk => absurd hk (by omega)⟩ (Le_intro [0, 1] (by simp only [WL, WNL, swA_new, swA_ne, nest_sw_ne, mapLL, List.mem_cons, Nat.reduceAdd, Nat.reduceLT, Nat.reduceLeDiff, Nat.reduceEqDiff, okU, List.nodup_cons, List.not_mem_nil, toT, toL, toO, keysO, renl, rent, cll, clt, eq_self, AV.eqv, AC.eqv, eqvl, eqvt, Sl.eqv, rowsLe, mapLL, rowsCl, List.map_append, List.length_map, List.length_append, List.length_set, List.map_replicate, rowG, List.getElem?_cons_zero, List.getElem?_cons_succ, List.getElem?_nil, List.append_nil, List.nil_append, List.cons_append, ghosts, St.gh, Option.some.injEq, implies_true, setT, AV.ren, AC.ren, AV.cl, AC.cl, List.replicate_succ, List.replicate_zero, List.nodup_nil, List.length_nil, List.length_cons, List.getD_cons_zero, List.getD_cons_succ, ↓reduceIte]; simp)) ?_
        rintro ⟨j, hj, hej⟩
        have hwj := wS (i := j) (by omega)
        rcases Nat.lt_or_ge j Y.length with hjlt | hjge
        · obtain ⟨own', ty', cnt', cap', len', get', hM', hf', hic', hkn', hget'⟩ := hbt (by omega)
          have hoc := out_cond (Y.getD j default)
          by_cases hy : 0 ≤ Y.getD j default ∧ Y.getD j default ≤ 11
          · rw [decide_eq_true hy] at hoc
            obtain ⟨y0, y1⟩ := hy
            obtain ⟨L, hL⟩ : ∃ L, (Z.take i).flatten ++ Y.take j = L := ⟨_, rfl⟩
            have hst := refs_step L y0 y1
            have hgt := refs_get L (i := (Y.getD j default).toNat) (by omega)
            have hLl : L.length ≤ 4294967296 := by
              have h1 := congrArg List.length hL
              rw [List.length_append, flat_len, List.length_take] at h1
              omega
            have hct := List.count_le_length (a := (((Y.getD j default).toNat : Nat) : Int)) (l := L)
            have hge1 : (List.map enc (refs L)).getD (Y.getD j default).toNat [] = enc ((refs L).getD (Y.getD j default).toNat default) := getD_enc _ _ (by rw [refs_length]; omega)
            have hw1 : IntKind.i64.wrap ((refs L).getD (Y.getD j default).toNat default + 1) = (refs L).getD (Y.getD j default).toNat default + 1 := by rw [hgt, w64 (by omega) (by omega)]
            simp only [↓WP, ↓grdD, ↓grdT, ↓un_dead, ↓binVC, ↓buildVC, ↓sliceVC, WQ, WN, Int.reduceToNat, renl, cll, rent, clt, ↓reduceIte, Nat.reduceLeDiff, Nat.reduceEqDiff, Nat.reduceLT, reduceCtorEq, List.append_nil, Nat.reduceAdd, Nat.reduceSub, Nat.reduceBEq, forall_const, implies_true, cond_true, cond_false, AV.ren, AC.ren, AV.cl, AC.cl, eq_self, List.all_cons, List.all_nil, AV.eqv, AC.eqv, eqvl, eqvt, Sl.eqv, List.map_append, List.length_map, List.length_append, List.length_replicate, List.length_set, List.map_replicate, nilVC, fl_25_0, sz_22, sd_22, fl_25_1, sz_23, sd_23, fl_25_2, el_23, zr_3, el_22, sz_3, c_spec_l1In, dlt hjlt, dlt hlt, hwj, hL, hM, hf, g1, hM', hf', hget' j hjlt, hoc, hge1, hw1, refs_length]
            repeat refine ⟨by omega, ?_⟩
            refine ⟨⟨j + 1, hjlt, lt_step hej ⟨y0, y1⟩⟩, Le_intro [0, 1] ?_, by show Y.length - (j + 1) < Y.length - j; omega⟩
            have hL2 : (Z.take i).flatten ++ Y.take (j + 1) = L ++ [Y.getD j default] := by rw [← hL, List.append_assoc, take_step Y j default hjlt]
            have hme : (List.map enc (refs L)).set (Y.getD j default).toNat [AC.int .i64 ((refs L).getD (Y.getD j default).toNat default + 1)] = List.map enc (refs (L ++ [Y.getD j default])) := by rw [← hst, List.map_set]; rfl
            simp only [WL, WNL, swA_new, swA_ne, nest_sw_ne, mapLL, List.mem_cons, Nat.reduceAdd, Nat.reduceLT, Nat.reduceLeDiff, Nat.reduceEqDiff, okU, List.nodup_cons, List.not_mem_nil, toT, toL, toO, keysO, renl, rent, cll, clt, eq_self, AV.eqv, AC.eqv, eqvl, eqvt, Sl.eqv, rowsLe, mapLL, rowsCl, List.map_append, List.length_map, List.length_append, List.length_set, List.map_replicate, rowG, List.getElem?_cons_zero, List.getElem?_cons_succ, List.getElem?_nil, List.append_nil, List.nil_append, List.cons_append, ghosts, St.gh, Option.some.injEq, implies_true, setT, AV.ren, AC.ren, AV.cl, AC.cl, List.replicate_succ, List.replicate_zero, List.nodup_nil, List.length_nil, List.length_cons, List.getD_cons_zero, List.getD_cons_succ, ↓reduceIte, hL2, hme]
            try simp
          · rw [decide_eq_false hy] at hoc
            have hno : ¬ cowOk X R Z := fun h => hy (by
              have := (h.2.1 i (by omega)).2 (Y.getD j default) (by rw [hY]; exact getD_mem hjlt)
              exact this)
            simp only [↓WP, ↓grdD, ↓grdT, ↓un_dead, ↓binVC, ↓buildVC, ↓sliceVC, WQ, WN, Int.reduceToNat, renl, cll, rent, clt, ↓reduceIte, Nat.reduceLeDiff, Nat.reduceEqDiff, Nat.reduceLT, reduceCtorEq, List.append_nil, Nat.reduceAdd, Nat.reduceSub, Nat.reduceBEq, forall_const, implies_true, cond_true, cond_false, AV.ren, AC.ren, AV.cl, AC.cl, eq_self, List.all_cons, List.all_nil, AV.eqv, AC.eqv, eqvl, eqvt, Sl.eqv, List.map_append, List.length_map, List.length_append, List.length_replicate, List.length_set, List.map_replicate, nilVC, fl_25_0, sz_22, sd_22, fl_25_1, sz_23, sd_23, fl_25_2, el_23, zr_3, el_22, sz_3, c_spec_l1In, dlt hjlt, dlt hlt, hwj, hM, hf, g1, hM', hf', hget' j hjlt, hoc, decide_eq_false hno]
            repeat' (first | with_reducible refine And.intro ?_ ?_ | intro _)
            all_goals first | assumption | omega | trivial | (simp; done)
        · obtain rfl : j = Y.length := by omega
          have hsp : spOk (Z.getD i default) := by
            rw [hY]
            refine ⟨h4, fun f hf => ?_⟩
            obtain ⟨k, hk, rfl⟩ := List.getElem_of_mem hf
            have := hej k hk
            rwa [getD_of_lt hk] at this
          simp only [↓WP, ↓grdD, ↓grdT, ↓un_dead, ↓binVC, ↓buildVC, ↓sliceVC, WQ, WN, Int.reduceToNat, renl, cll, rent, clt, ↓reduceIte, Nat.reduceLeDiff, Nat.reduceEqDiff, Nat.reduceLT, reduceCtorEq, List.append_nil, Nat.reduceAdd, Nat.reduceSub, Nat.reduceBEq, forall_const, implies_true, cond_true, cond_false, AV.ren, AC.ren, AV.cl, AC.cl, eq_self, List.all_cons, List.all_nil, AV.eqv, AC.eqv, eqvl, eqvt, Sl.eqv, List.map_append, List.length_map, List.length_append, List.length_replicate, List.length_set, List.map_replicate, nilVC, fl_25_0, sz_22, sd_22, fl_25_1, sz_23, sd_23, fl_25_2, el_23, zr_3, el_22, sz_3, c_spec_l1In, dge hjge, hwj, dlt hlt, hw, hM, hf, g1]
          repeat refine ⟨by omega, ?_⟩
          refine ⟨⟨i + 1, hlt, lt_step he hsp⟩, Le_intro [0, 1] ?_, by show Z.length - (i + 1) < Z.length - i; omega⟩
          simp only [WL, WNL, swA_new, swA_ne, nest_sw_ne, mapLL, List.mem_cons, Nat.reduceAdd, Nat.reduceLT, Nat.reduceLeDiff, Nat.reduceEqDiff, okU, List.nodup_cons, List.not_mem_nil, toT, toL, toO, keysO, renl, rent, cll, clt, eq_self, AV.eqv, AC.eqv, eqvl, eqvt, Sl.eqv, rowsLe, mapLL, rowsCl, List.map_append, List.length_map, List.length_append, List.length_set, List.map_replicate, rowG, List.getElem?_cons_zero, List.getElem?_cons_succ, List.getElem?_nil, List.append_nil, List.nil_append, List.cons_append, ghosts, St.gh, Option.some.injEq, implies_true, setT, AV.ren, AC.ren, AV.cl, AC.cl, List.replicate_succ, List.replicate_zero, List.nodup_nil, List.length_nil, List.length_cons, List.getD_cons_zero, List.getD_cons_succ, ↓reduceIte, hfl]
          try simp
      · have hd4 : decide ((4 : Int) < (Y.length : Int)) = true := by simp only [decide_eq_true_iff]; omega
        have hno : ¬ cowOk X R Z := fun h => h4 (by have := (h.2.1 i (by omega)).1; rwa [hY] at this)
        simp only [↓WP, ↓grdD, ↓grdT, ↓un_dead, ↓binVC, ↓buildVC, ↓sliceVC, WQ, WN, Int.reduceToNat, renl, cll, rent, clt, ↓reduceIte, Nat.reduceLeDiff, Nat.reduceEqDiff, Nat.reduceLT, reduceCtorEq, List.append_nil, Nat.reduceAdd, Nat.reduceSub, Nat.reduceBEq, forall_const, implies_true, cond_true, cond_false, AV.ren, AC.ren, AV.cl, AC.cl, eq_self, List.all_cons, List.all_nil, AV.eqv, AC.eqv, eqvl, eqvt, Sl.eqv, List.map_append, List.length_map, List.length_append, List.length_replicate, List.length_set, List.map_replicate, nilVC, fl_25_0, sz_22, sd_22, fl_25_1, sz_23, sd_23, fl_25_2, el_23, zr_3, el_22, sz_3, c_spec_l1In, dlt hlt, hw, hM, hf, g1, hd4, decide_eq_false hno]
        repeat' (first | with_reducible refine And.intro ?_ ?_ | intro _)
        all_goals first | assumption | omega | trivial | (simp; done)
    · obtain rfl : i = Z.length := by omega
      obtain ⟨q1, q2⟩ := sp_all he
      have hfa : (Z.take Z.length).flatten = Z.flatten := by rw [List.take_length]
      simp only [↓WP, ↓grdD, ↓grdT, ↓un_dead, ↓binVC, ↓buildVC, ↓sliceVC, WQ, WN, Int.reduceToNat, renl, cll, rent, clt, ↓reduceIte, Nat.reduceLeDiff, Nat.reduceEqDiff, Nat.reduceLT, reduceCtorEq, List.append_nil, Nat.reduceAdd, Nat.reduceSub, Nat.reduceBEq, forall_const, implies_true, cond_true, cond_false, AV.ren, AC.ren, AV.cl, AC.cl, eq_self, List.all_cons, List.all_nil, AV.eqv, AC.eqv, eqvl, eqvt, Sl.eqv, List.map_append, List.length_map, List.length_append, List.length_replicate, List.length_set, List.map_replicate, nilVC, fl_25_0, sz_22, sd_22, fl_25_1, sz_23, sd_23, fl_25_2, el_23, zr_3, el_22, sz_3, c_spec_l1In, dge hge, hw, hfa]
      refine loopI (J := {i : Nat // i ≤ 12 ∧ ∀ k, k < i → frOk (X.getD k default) (R.getD k default) ∧ R.getD k default = (refs Z.flatten).getD k default}) (fun i => ⟨slots 122 [(1, .c (.ptr ⟨.loc 0, 0, 0, 0⟩)), (3, .c (.sl ⟨.loc 1, 0, 0, 0⟩ 12 12)), (7, I i.1)], M, [], [.box 25 [.sl a1.up X.length c1, .sl a2.up R.length c2, .sl a3.up Z.length c3], rowG true 3 12 (refs (Z.flatten))]⟩) (fun i => 12 - i.1) ⟨0, by omega, fun k hk => absurd hk (by omega)⟩ (Le_intro [0, 1] (by simp only [WL, WNL, swA_new, swA_ne, nest_sw_ne, mapLL, List.mem_cons, Nat.reduceAdd, Nat.reduceLT, Nat.reduceLeDiff, Nat.reduceEqDiff, okU, List.nodup_cons, List.not_mem_nil, toT, toL, toO, keysO, renl, rent, cll, clt, eq_self, AV.eqv, AC.eqv, eqvl, eqvt, Sl.eqv, rowsLe, mapLL, rowsCl, List.map_append, List.length_map, List.length_append, List.length_set, List.map_replicate, rowG, List.getElem?_cons_zero, List.getElem?_cons_succ, List.getElem?_nil, List.append_nil, List.nil_append, List.cons_append, ghosts, St.gh, Option.some.injEq, implies_true, setT, AV.ren, AC.ren, AV.cl, AC.cl, List.replicate_succ, List.replicate_zero, List.nodup_nil, List.length_nil, List.length_cons, List.getD_cons_zero, List.getD_cons_succ, ↓reduceIte]; try simp)) ?_
      rintro ⟨k, hk, hek⟩
      have hwk := wS (i := k) (by omega)
      rcases Nat.lt_or_ge k 12 with hklt | hkge
      · have hd12 : decide ((k : Int) < 12) = true := by simp only [decide_eq_true_iff]; omega
        obtain ⟨own, ty, cnt, cap, len, get, b, c, hM, hf, hic, hkn, hget⟩ := t1 (by omega)
        obtain ⟨own', ty', cnt', cap', len', get', hM', hf', hic', hkn', hget'⟩ := t2 (by omega)
        obtain ⟨g1, g2, g3, g4⟩ := hget k (by omega)
        obtain ⟨gs, Y, hY, hYl, hbt⟩ := g3.x
        rw [g4] at hY
        rw [hY] at g1 gs hbt
        have hgR : (List.map enc (refs Z.flatten)).getD k [] = enc ((refs Z.flatten).getD k default) := getD_enc _ _ (by rw [refs_length]; omega)
        by_cases hcd : Y.length = 4 ∧ R.getD k default = (refs Z.flatten).getD k default
        · have hcb : (!decide ((Y.length : Int) = 4) || !decide (R.getD k default = (refs Z.flatten).getD k default)) = false := by simp only [WB, eq_self]; omega
          simp only [↓WP, ↓grdD, ↓grdT, ↓un_dead, ↓binVC, ↓buildVC, ↓sliceVC, WQ, WN, Int.reduceToNat, renl, cll, rent, clt, ↓reduceIte, Nat.reduceLeDiff, Nat.reduceEqDiff, Nat.reduceLT, reduceCtorEq, List.append_nil, Nat.reduceAdd, Nat.reduceSub, Nat.reduceBEq, forall_const, implies_true, cond_true, cond_false, AV.ren, AC.ren, AV.cl, AC.cl, eq_self, List.all_cons, List.all_nil, AV.eqv, AC.eqv, eqvl, eqvt, Sl.eqv, List.map_append, List.length_map, List.length_append, List.length_replicate, List.length_set, List.map_replicate, nilVC, fl_25_0, sz_22, sd_22, fl_25_1, sz_23, sd_23, fl_25_2, el_23, zr_3, el_22, sz_3, c_spec_l1In, hd12, hwk, hM, hf, g1, hM', hf', hget' k (by omega), hgR, hcb, refs_length]
          repeat' (first | with_reducible refine And.intro ?_ ?_ | intro _)
          all_goals try omega
          refine loopI (J := {j : Nat // j ≤ 4 ∧ ∀ q, q < j → (-1000000 ≤ Y.getD q default ∧ Y.getD q default ≤ 1000000) ∧ ((refs Z.flatten).getD k default = 0 → Y.getD q default = 0)}) (fun j => ⟨slots 122 [(1, .c (.ptr ⟨.loc 0, 0, 0, 0⟩)), (3, .c (.sl ⟨.loc 1, 0, 0, 0⟩ 12 12)), (7, I k), (8, I j.1)], M, [], [.box 25 [.sl a1.up X.length c1, .sl a2.up R.length c2, .sl a3.up Z.length c3], rowG true 3 12 (refs (Z.flatten))]⟩) (fun j => 4 - j.1) ⟨0, by omega, fun k hk => absurd hk (by omega)⟩ (Le_intro [0, 1] (by simp only [WL, WNL, swA_new, swA_ne, nest_sw_ne, mapLL, List.mem_cons, Nat.reduceAdd, Nat.reduceLT, Nat.reduceLeDiff, Nat.reduceEqDiff, okU, List.nodup_cons, List.not_mem_nil, toT, toL, toO, keysO, renl, rent, cll, clt, eq_self, AV.eqv, AC.eqv, eqvl, eqvt, Sl.eqv, rowsLe, mapLL, rowsCl, List.map_append, List.length_map, List.length_append, List.length_set, List.map_replicate, rowG, List.getElem?_cons_zero, List.getElem?_cons_succ, List.getElem?_nil, List.append_nil, List.nil_append, List.cons_append, ghosts, St.gh, Option.some.injEq, implies_true, setT, AV.ren, AC.ren, AV.cl, AC.cl, List.replicate_succ, List.replicate_zero, List.nodup_nil, List.length_nil, List.length_cons, List.getD_cons_zero, List.getD_cons_succ, ↓reduceIte]; try simp)) ?_
          rintro ⟨j, hj, hej⟩
          have hwj := wS (i := j) (by omega)
          rcases Nat.lt_or_ge j 4 with hjlt | hjge
          · have hd4 : decide ((j : Int) < 4) = true := by simp only [decide_eq_true_iff]; omega
            obtain ⟨own2, ty2, cnt2, cap2, len2, get2, hM2, hf2, hic2, hkn2, hget2⟩ := hbt (by omega)
            have hwc := wd_cond (Y.getD j default) ((refs Z.flatten).getD k default)
            by_cases hwd : (-1000000 ≤ Y.getD j default ∧ Y.getD j default ≤ 1000000) ∧ ((refs Z.flatten).getD k default = 0 → Y.getD j default = 0)
            · rw [decide_eq_true hwd] at hwc
              simp only [↓WP, ↓grdD, ↓grdT, ↓un_dead, ↓binVC, ↓buildVC, ↓sliceVC, WQ, WN, Int.reduceToNat, renl, cll, rent, clt, ↓reduceIte, Nat.reduceLeDiff, Nat.reduceEqDiff, Nat.reduceLT, reduceCtorEq, List.append_nil, Nat.reduceAdd, Nat.reduceSub, Nat.reduceBEq, forall_const, implies_true, cond_true, cond_false, AV.ren, AC.ren, AV.cl, AC.cl, eq_self, List.all_cons, List.all_nil, AV.eqv, AC.eqv, eqvl, eqvt, Sl.eqv, List.map_append, List.length_map, List.length_append, List.length_replicate, List.length_set, List.map_replicate, nilVC, fl_25_0, sz_22, sd_22, fl_25_1, sz_23, sd_23, fl_25_2, el_23, zr_3, el_22, sz_3, c_spec_l1In, hd4, hwj, hd12, hM, hf, g1, hM2, hf2, hget2 j (by omega), hgR, hwc, refs_length]
              repeat' (first | with_reducible refine And.intro ?_ ?_ | intro _)
              all_goals try omega
              exact ⟨⟨j + 1, hjlt, lt_step hej hwd⟩, Le_intro [0, 1] (by simp only [WL, WNL, swA_new, swA_ne, nest_sw_ne, mapLL, List.mem_cons, Nat.reduceAdd, Nat.reduceLT, Nat.reduceLeDiff, Nat.reduceEqDiff, okU, List.nodup_cons, List.not_mem_nil, toT, toL, toO, keysO, renl, rent, cll, clt, eq_self, AV.eqv, AC.eqv, eqvl, eqvt, Sl.eqv, rowsLe, mapLL, rowsCl, List.map_append, List.length_map, List.length_append, List.length_set, List.map_replicate, rowG, List.getElem?_cons_zero, List.getElem?_cons_succ, List.getElem?_nil, List.append_nil, List.nil_append, List.cons_append, ghosts, St.gh, Option.some.injEq, implies_true, setT, AV.ren, AC.ren, AV.cl, AC.cl, List.replicate_succ, List.replicate_zero, List.nodup_nil, List.length_nil, List.length_cons, List.getD_cons_zero, List.getD_cons_succ, ↓reduceIte]; try simp), by show 4 - (j + 1) < 4 - j; omega⟩
            · rw [decide_eq_false hwd] at hwc
              have hno : ¬ cowOk X R Z := fun h => hwd (by
                obtain ⟨z1, z2, z3⟩ := h.2.2.1 k hklt
                rw [hY] at z2 z3
                have hm : Y.getD j default ∈ Y := getD_mem (by omega)
                exact ⟨z2 _ hm, fun z4 => z3 (hcd.2.trans z4) _ hm⟩)
              simp only [↓WP, ↓grdD, ↓grdT, ↓un_dead, ↓binVC, ↓buildVC, ↓sliceVC, WQ, WN, Int.reduceToNat, renl, cll, rent, clt, ↓reduceIte, Nat.reduceLeDiff, Nat.reduceEqDiff, Nat.reduceLT, reduceCtorEq, List.append_nil, Nat.reduceAdd, Nat.reduceSub, Nat.reduceBEq, forall_const, implies_true, cond_true, cond_false, AV.ren, AC.ren, AV.cl, AC.cl, eq_self, List.all_cons, List.all_nil, AV.eqv, AC.eqv, eqvl, eqvt, Sl.eqv, List.map_append, List.length_map, List.length_append, List.length_replicate, List.length_set, List.map_replicate, nilVC, fl_25_0, sz_22, sd_22, fl_25_1, sz_23, sd_23, fl_25_2, el_23, zr_3, el_22, sz_3, c_spec_l1In, hd4, hwj, hd12, hM, hf, g1, hM2, hf2, hget2 j (by omega), hgR, hwc, refs_length, decide_eq_false hno]
              repeat' (first | with_reducible refine And.intro ?_ ?_ | intro _)
              all_goals first | assumption | omega | trivial | (simp; done)
          · obtain rfl : j = 4 := by omega
            have hfr : frOk (X.getD k default) (R.getD k default) := by
              rw [hY]
              refine ⟨hcd.1, fun x hx => ?_, fun h0 x hx => ?_⟩
              · obtain ⟨q, hq, rfl⟩ := List.getElem_of_mem hx
                have := (hej q (by omega)).1
                rwa [getD_of_lt hq] at this
              · obtain ⟨q, hq, rfl⟩ := List.getElem_of_mem hx
                have := (hej q (by omega)).2 (hcd.2.symm.trans h0)
                rwa [getD_of_lt hq] at this
            have hd4 : decide (((4 : Nat) : Int) < 4) = false := by decide
            simp only [↓WP, ↓grdD, ↓grdT, ↓un_dead, ↓binVC, ↓buildVC, ↓sliceVC, WQ, WN, Int.reduceToNat, renl, cll, rent, clt, ↓reduceIte, Nat.reduceLeDiff, Nat.reduceEqDiff, Nat.reduceLT, reduceCtorEq, List.append_nil, Nat.reduceAdd, Nat.reduceSub, Nat.reduceBEq, forall_const, implies_true, cond_true, cond_false, AV.ren, AC.ren, AV.cl, AC.cl, eq_self, List.all_cons, List.all_nil, AV.eqv, AC.eqv, eqvl, eqvt, Sl.eqv, List.map_append, List.length_map, List.length_append, List.length_replicate, List.length_set, List.map_replicate, nilVC, fl_25_0, sz_22, sd_22, fl_25_1, sz_23, sd_23, fl_25_2, el_23, zr_3, el_22, sz_3, c_spec_l1In, hd4, hwj, hwk]
            repeat refine ⟨by omega, ?_⟩
            exact ⟨⟨k + 1, hklt, lt_step hek ⟨hfr, hcd.2⟩⟩, Le_intro [0, 1] (by simp only [WL, WNL, swA_new, swA_ne, nest_sw_ne, mapLL, List.mem_cons, Nat.reduceAdd, Nat.reduceLT, Nat.reduceLeDiff, Nat.reduceEqDiff, okU, List.nodup_cons, List.not_mem_nil, toT, toL, toO, keysO, renl, rent, cll, clt, eq_self, AV.eqv, AC.eqv, eqvl, eqvt, Sl.eqv, rowsLe, mapLL, rowsCl, List.map_append, List.length_map, List.length_append, List.length_set, List.map_replicate, rowG, List.getElem?_cons_zero, List.getElem?_cons_succ, List.getElem?_nil, List.append_nil, List.nil_append, List.cons_append, ghosts, St.gh, Option.some.injEq, implies_true, setT, AV.ren, AC.ren, AV.cl, AC.cl, List.replicate_succ, List.replicate_zero, List.nodup_nil, List.length_nil, List.length_cons, List.getD_cons_zero, List.getD_cons_succ, ↓reduceIte]; try simp), by show 12 - (k + 1) < 12 - k; omega⟩
        · have hcb : (!decide ((Y.length : Int) = 4) || !decide (R.getD k default = (refs Z.flatten).getD k default)) = true := by simp only [WB, eq_self]; omega
          have hno : ¬ cowOk X R Z := fun h => hcd (by
            have := (h.2.2.1 k hklt).1
            rw [hY] at this
            exact ⟨this, congrArg (fun L : List Int => L.getD k default) h.2.2.2⟩)
          simp only [↓WP, ↓grdD, ↓grdT, ↓un_dead, ↓binVC, ↓buildVC, ↓sliceVC, WQ, WN, Int.reduceToNat, renl, cll, rent, clt, ↓reduceIte, Nat.reduceLeDiff, Nat.reduceEqDiff, Nat.reduceLT, reduceCtorEq, List.append_nil, Nat.reduceAdd, Nat.reduceSub, Nat.reduceBEq, forall_const, implies_true, cond_true, cond_false, AV.ren, AC.ren, AV.cl, AC.cl, eq_self, List.all_cons, List.all_nil, AV.eqv, AC.eqv, eqvl, eqvt, Sl.eqv, List.map_append, List.length_map, List.length_append, List.length_replicate, List.length_set, List.map_replicate, nilVC, fl_25_0, sz_22, sd_22, fl_25_1, sz_23, sd_23, fl_25_2, el_23, zr_3, el_22, sz_3, c_spec_l1In, hd12, hwk, hM, hf, g1, hM', hf', hget' k (by omega), hgR, hcb, refs_length, decide_eq_false hno]
          repeat' (first | with_reducible refine And.intro ?_ ?_ | intro _)
          all_goals first | assumption | omega | trivial | (simp; done)
      · obtain rfl : k = 12 := by omega
        have hyes : cowOk X R Z := ⟨⟨l1, l2, l3⟩, fun k hk => he k (by omega), fun k hk => (hek k hk).1, List.ext_getElem (by rw [refs_length]; exact l2) fun k hk hk' => by
          have := (hek k (by omega)).2
          rwa [getD_of_lt hk, getD_of_lt hk'] at this⟩
        have hd12 : decide (((12 : Nat) : Int) < 12) = false := by decide
        simp only [↓WP, ↓grdD, ↓grdT, ↓un_dead, ↓binVC, ↓buildVC, ↓sliceVC, WQ, WN, Int.reduceToNat, renl, cll, rent, clt, ↓reduceIte, Nat.reduceLeDiff, Nat.reduceEqDiff, Nat.reduceLT, reduceCtorEq, List.append_nil, Nat.reduceAdd, Nat.reduceSub, Nat.reduceBEq, forall_const, implies_true, cond_true, cond_false, AV.ren, AC.ren, AV.cl, AC.cl, eq_self, List.all_cons, List.all_nil, AV.eqv, AC.eqv, eqvl, eqvt, Sl.eqv, List.map_append, List.length_map, List.length_append, List.length_replicate, List.length_set, List.map_replicate, nilVC, fl_25_0, sz_22, sd_22, fl_25_1, sz_23, sd_23, fl_25_2, el_23, zr_3, el_22, sz_3, c_spec_l1In, hd12, hwk, decide_eq_true hyes]
        try simp
  · have hc : (!decide ((X.length : Int) = 12) || !decide ((R.length : Int) = 12) || !decide ((Z.length : Int) = 4)) = true := by simp only [WB, eq_self]; omega
    have hno : ¬ cowOk X R Z := fun h => hl h.1
    simp only [↓WP, ↓grdD, ↓grdT, ↓un_dead, ↓binVC, ↓buildVC, ↓sliceVC, WQ, WN, Int.reduceToNat, renl, cll, rent, clt, ↓reduceIte, Nat.reduceLeDiff, Nat.reduceEqDiff, Nat.reduceLT, reduceCtorEq, List.append_nil, Nat.reduceAdd, Nat.reduceSub, Nat.reduceBEq, forall_const, implies_true, cond_true, cond_false, AV.ren, AC.ren, AV.cl, AC.cl, eq_self, List.all_cons, List.all_nil, AV.eqv, AC.eqv, eqvl, eqvt, Sl.eqv, List.map_append, List.length_map, List.length_append, List.length_replicate, List.length_set, List.map_replicate, nilVC, fl_25_0, sz_22, sd_22, fl_25_1, sz_23, sd_23, fl_25_2, el_23, zr_3, el_22, sz_3, c_spec_l1In, hc, decide_eq_false hno]
    try simp
end Go.Eng.T
