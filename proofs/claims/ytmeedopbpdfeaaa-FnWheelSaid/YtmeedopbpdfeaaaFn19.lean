/- wheel: the law FnWheel. -/
import Derived.Test.YtmeedopbpdfeaaaFn18
set_option linter.unusedVariables false
set_option linter.unusedSimpArgs false
set_option linter.unusedSectionVars false
namespace Go.Eng.T
open Go.Proofs
open Cel (enc dec)
set_option maxRecDepth 100000
set_option maxHeartbeats 8000000
def c_laws_FnWheel : Contract := ⟨9, fun args M => match args with
  | [.c (.sl a n _)] => .pure (n ≤ 9223372036854775807 ∧ (n ≤ 4294967296 → RowOk UInt8 a n (M a.r))) (Eng.B true)
  | _ => .bad⟩
theorem ok_laws_FnWheel : fnP Try.prog c_laws_FnWheel.f = true ∧ ∀ args M, (c_laws_FnWheel.sp args M).OK Try.prog c_laws_FnWheel.f args M := by
  refine ⟨fp_9, fun args M => ?_⟩
  unfold c_laws_FnWheel
  dsimp only
  split
  case h_2 => trivial
  rename_i a n ca
  rintro ⟨hn, h1⟩
  refine goIn hf_9 rfl (nt := 152) rfl (rs := [.tmp 2]) rfl (C := [c_laws_big, c_spec_DrawWheelGo, c_impl_WheelGo, c_spec_WheelGo, c_laws_sameInts, c_spec_WheelOk, c_laws_sameWheel, c_laws_at]) ⟨(by first | exact .inl ok_laws_big | exact ok_laws_big), (by first | exact .inl ok_spec_DrawWheelGo | exact ok_spec_DrawWheelGo), (by first | exact .inl ok_impl_WheelGo | exact ok_impl_WheelGo), (by first | exact .inl ok_spec_WheelGo | exact ok_spec_WheelGo), (by first | exact .inl ok_laws_sameInts | exact ok_laws_sameInts), (by first | exact .inl ok_spec_WheelOk | exact ok_spec_WheelOk), (by first | exact .inl ok_laws_sameWheel | exact ok_laws_sameWheel), (by first | exact .inl ok_laws_at | exact ok_laws_at), trivial⟩ (q := fun f => [].contains f) ⟨fun h => absurd h (by decide), fun h => absurd h (by decide), fun h => absurd h (by decide), fun h => absurd h (by decide), fun h => absurd h (by decide), fun h => absurd h (by decide), fun h => absurd h (by decide), fun h => absurd h (by decide), trivial⟩ mixed (O := ots [(20, otl [0, 1, 2, 3, 4, 5, 6] .nil)]) (by kernel_rfl) ?_
  by_cases hs : 1048576 < n
  · simp only [↓WP, ↓grdD, ↓grdT, ↓un_dead, ↓binVC, ↓buildVC, ↓sliceVC, WQ, WN, Int.reduceToNat, renl, cll, rent, clt, ↓reduceIte, Nat.reduceLeDiff, Nat.reduceEqDiff, Nat.reduceLT, reduceCtorEq, List.append_nil, Nat.reduceAdd, Nat.reduceSub, Nat.reduceBEq, forall_const, implies_true, cond_true, cond_false, AV.ren, AC.ren, AV.cl, AC.cl, eq_self, List.all_cons, List.all_nil, AV.eqv, AC.eqv, eqvl, eqvt, Sl.eqv, List.map_append, List.length_map, List.length_append, List.length_replicate, List.length_set, List.map_replicate, nilVC, zr_29, sz_29, sd_40, fl_29_1, sz_3, fl_29_0, fl_29_2, sz_27, sd_27, el_27, sz_51, zr_51, el_40, fl_51_0, fl_51_1, fl_51_2, zr_3, c_laws_big, c_spec_DrawWheelGo, c_impl_WheelGo, c_spec_WheelGo, c_laws_sameInts, c_spec_WheelOk, c_laws_sameWheel, c_laws_at, decide_eq_true hs]
  · have ha := h1 (by omega)
    obtain ⟨L, hL⟩ : ∃ L, L = row UInt8 a n (M a.r) := ⟨_, rfl⟩
    simp only [↓WP, ↓grdD, ↓grdT, ↓un_dead, ↓binVC, ↓buildVC, ↓sliceVC, WQ, WN, Int.reduceToNat, renl, cll, rent, clt, ↓reduceIte, Nat.reduceLeDiff, Nat.reduceEqDiff, Nat.reduceLT, reduceCtorEq, List.append_nil, Nat.reduceAdd, Nat.reduceSub, Nat.reduceBEq, forall_const, implies_true, cond_true, cond_false, AV.ren, AC.ren, AV.cl, AC.cl, eq_self, List.all_cons, List.all_nil, AV.eqv, AC.eqv, eqvl, eqvt, Sl.eqv, List.map_append, List.length_map, List.length_append, List.length_replicate, List.length_set, List.map_replicate, nilVC, zr_29, sz_29, sd_40, fl_29_1, sz_3, fl_29_0, fl_29_2, sz_27, sd_27, el_27, sz_51, zr_51, el_40, fl_51_0, fl_51_1, fl_51_2, zr_3, c_laws_big, c_spec_DrawWheelGo, c_impl_WheelGo, c_spec_WheelGo, c_laws_sameInts, c_spec_WheelOk, c_laws_sameWheel, c_laws_at, decide_eq_false hs, ha]
    rintro ⟨⟨u, v, X, k⟩, m⟩ ⟨x1, x2⟩
    dsimp only at x1 x2
    obtain ⟨rl1, rl2⟩ := goO_len u v X m
    obtain ⟨R, hR⟩ : ∃ R, goO u v X m = R := ⟨_, rfl⟩
    rw [hR] at rl1 rl2
    simp only [hR]
    refine ⟨⟨⟨by omega, .inr trivial⟩, x1⟩, ?_⟩
    rintro ⟨k1, k2⟩ ⟨hk1, hk2⟩
    dsimp only at hk1 hk2
    refine ⟨⟨⟨by omega, .inr trivial⟩, x1⟩, ?_⟩
    rintro ⟨k3, k4⟩ ⟨hk3, hk4⟩
    dsimp only at hk3 hk4
    simp only [decide_true, Bool.not_true, Bool.false_eq_true, false_implies, true_and, forall_const]
    refine ⟨⟨⟨by omega, .inr trivial⟩, by omega, .inr trivial⟩, ⟨by omega, .inr trivial⟩, fun h => ?_, fun h => ⟨fun h0 => ?_, fun h0 => ?_⟩⟩
    · rw [Bool.not_eq_true', decide_eq_false_iff_not] at h
      rw [← hR, goO_bad h]
      decide
    · rw [Bool.not_eq_false', decide_eq_true_eq] at h
      have hm : ¬ mayGo u m := fun hm => by
        rw [← hR, goO_yes h hm] at h0
        have := of_decide_eq_true h0
        have := hm.1
        dsimp only at *
        omega
      rw [← hR, goO_no h hm]
      exact ⟨⟨⟨by dsimp only; omega, .inr trivial⟩, by omega, .inr trivial⟩, by simp⟩
    · rw [Bool.not_eq_false', decide_eq_true_eq] at h
      have hm : mayGo u m := by
        by_cases hm : mayGo u m
        · exact hm
        · rw [← hR, goO_no h hm] at h0
          exact absurd rfl (of_decide_eq_false h0)
      have hok2 := goW_ok h hm
      have hcount := fun (t : T3) (ht : t ∈ X) => goW_count h hm ht
      have hQl := goW_ids h hm
      have htwo := fun (j : Int) (hj : 1 ≤ j ∧ j < m) => goO_two h hm hj
      rw [goO_yes h hm] at hR
      have hX12 : X.length ≤ 12 := h.2.2.1
      have hub := h.1
      obtain ⟨m1, m2⟩ := hm
      obtain ⟨⟨T, Q⟩, hTQ⟩ : ∃ TQ, goW (u + m) X = TQ := ⟨_, rfl⟩
      obtain ⟨now, hnow⟩ : ∃ now, now = u + m := ⟨_, rfl⟩
      rw [hTQ] at hok2 hcount hR hQl
      rw [← hnow] at hok2 hcount hR hTQ
      dsimp only at hok2 hcount hR hQl
      subst hR
      dsimp only at hk1 hk2 rl1 rl2 ⊢
      refine loopI (J := {i : Nat // i ≤ X.length}) (fun i => ⟨slots 152 [(0, .c (.sl a.up n ca)), (3, .c (.ptr ⟨.loc 1, 0, 0, 0⟩)), (4, I m), (5, .c (.ptr ⟨.loc 4, 0, 0, 0⟩)), (6, .c (.sl ⟨.loc 3, 0, 0, 0⟩ Q.length k2)), (9, I (i.1 : Nat))], M, [], [rowG true 51 k X, .box 29 [.int .i64 u, .int .i64 v, .sl ⟨.loc 0, 0, 0, 0⟩ X.length k], rowG true 51 k1 T, rowG true 3 k2 Q, .box 29 [.int .i64 now, .int .i64 v, .sl ⟨.loc 2, 0, 0, 0⟩ T.length k1]]⟩) (fun i => X.length - i.1) ⟨0, Nat.zero_le _⟩ (Le_intro [0, 1, 2, 3, 4] (by simp only [WL, WNL, swA_new, swA_ne, nest_sw_ne, mapLL, List.mem_cons, Nat.reduceAdd, Nat.reduceLT, Nat.reduceLeDiff, Nat.reduceEqDiff, okU, List.nodup_cons, List.not_mem_nil, toT, toL, toO, keysO, renl, rent, cll, clt, eq_self, AV.eqv, AC.eqv, eqvl, eqvt, Sl.eqv, rowsLe, mapLL, rowsCl, List.map_append, List.length_map, List.length_append, List.length_set, List.map_replicate, rowG, List.getElem?_cons_zero, List.getElem?_cons_succ, List.getElem?_nil, List.append_nil, List.nil_append, List.cons_append, ghosts, St.gh, Option.some.injEq, implies_true, setT, AV.ren, AC.ren, AV.cl, AC.cl, List.replicate_succ, List.replicate_zero, List.nodup_nil, List.length_nil, List.length_cons, List.getD_cons_zero, List.getD_cons_succ, ↓reduceIte]; try simp)) ?_
      rintro ⟨i, hi⟩
      have hw := wS (i := i) (by omega)
      rcases Nat.lt_or_ge i X.length with hlt | hge
      · obtain ⟨t, ht⟩ : ∃ t, t = X.getD i default := ⟨_, rfl⟩
        have htm : t ∈ X := ht ▸ getD_mem hlt
        have hgt : (List.map enc X).getD i [] = [AC.int .i64 t.1, AC.int .i64 t.2.1, AC.int .i64 t.2.2] := by rw [getD_enc _ _ hlt, ← ht]; rfl
        have hco := hcount t htm
        have htk := (wheelOk_wk.1 h).2.2.2.2.2 t htm
        unfold tmOk at htk
        simp only [↓WP, ↓grdD, ↓grdT, ↓un_dead, ↓binVC, ↓buildVC, ↓sliceVC, WQ, WN, Int.reduceToNat, renl, cll, rent, clt, ↓reduceIte, Nat.reduceLeDiff, Nat.reduceEqDiff, Nat.reduceLT, reduceCtorEq, List.append_nil, Nat.reduceAdd, Nat.reduceSub, Nat.reduceBEq, forall_const, implies_true, cond_true, cond_false, AV.ren, AC.ren, AV.cl, AC.cl, eq_self, List.all_cons, List.all_nil, AV.eqv, AC.eqv, eqvl, eqvt, Sl.eqv, List.map_append, List.length_map, List.length_append, List.length_replicate, List.length_set, List.map_replicate, nilVC, zr_29, sz_29, sd_40, fl_29_1, sz_3, fl_29_0, fl_29_2, sz_27, sd_27, el_27, sz_51, zr_51, el_40, fl_51_0, fl_51_1, fl_51_2, zr_3, c_laws_big, c_spec_DrawWheelGo, c_impl_WheelGo, c_spec_WheelGo, c_laws_sameInts, c_spec_WheelOk, c_laws_sameWheel, c_laws_at, dlt hlt, hgt]
        refine ⟨by omega, by omega, ?_⟩
        refine loopI (J := {j : Nat // j ≤ Q.length}) (fun j => ⟨slots 152 [(0, .c (.sl a.up n ca)), (3, .c (.ptr ⟨.loc 1, 0, 0, 0⟩)), (4, I m), (5, .c (.ptr ⟨.loc 4, 0, 0, 0⟩)), (6, .c (.sl ⟨.loc 3, 0, 0, 0⟩ Q.length k2)), (9, I (i : Nat)), (10, .c (.ptr ⟨.loc 5, 0, 0, 0⟩)), (11, I ((Q.take j.1).count t.1 : Nat)), (12, I (j.1 : Nat))], M, [], [rowG true 51 k X, .box 29 [.int .i64 u, .int .i64 v, .sl ⟨.loc 0, 0, 0, 0⟩ X.length k], rowG true 51 k1 T, rowG true 3 k2 Q, .box 29 [.int .i64 now, .int .i64 v, .sl ⟨.loc 2, 0, 0, 0⟩ T.length k1], .box 51 [.int .i64 t.1, .int .i64 t.2.1, .int .i64 t.2.2]]⟩) (fun j => Q.length - j.1) ⟨0, Nat.zero_le _⟩ (Le_intro [0, 1, 2, 3, 4, 5] (by simp only [WL, WNL, swA_new, swA_ne, nest_sw_ne, mapLL, List.mem_cons, Nat.reduceAdd, Nat.reduceLT, Nat.reduceLeDiff, Nat.reduceEqDiff, okU, List.nodup_cons, List.not_mem_nil, toT, toL, toO, keysO, renl, rent, cll, clt, eq_self, AV.eqv, AC.eqv, eqvl, eqvt, Sl.eqv, rowsLe, mapLL, rowsCl, List.map_append, List.length_map, List.length_append, List.length_set, List.map_replicate, rowG, List.getElem?_cons_zero, List.getElem?_cons_succ, List.getElem?_nil, List.append_nil, List.nil_append, List.cons_append, ghosts, St.gh, Option.some.injEq, implies_true, setT, AV.ren, AC.ren, AV.cl, AC.cl, List.replicate_succ, List.replicate_zero, List.nodup_nil, List.length_nil, List.length_cons, List.getD_cons_zero, List.getD_cons_succ, ↓reduceIte]; try simp)) ?_
        rintro ⟨j, hj⟩
        have hwj := wS (i := j) (by omega)
        rcases Nat.lt_or_ge j Q.length with hjl | hjg
        · have hgq : (List.map enc Q).getD j [] = [AC.int .i64 (Q.getD j default)] := getD_enc _ _ hjl
          have hcl : (Q.take j).count t.1 ≤ j := Nat.le_trans List.count_le_length (by simp; omega)
          have hwc := wS (i := (Q.take j).count t.1) (by omega)
          have hcs : (Q.take (j + 1)).count t.1 = (Q.take j).count t.1 + if Q.getD j default = t.1 then 1 else 0 := by
            rw [getD_of_lt hjl, ← List.take_append_getElem hjl, List.count_append, List.count_cons, List.count_nil]
            simp
          by_cases hq : Q.getD j default = t.1
          · rw [if_pos hq] at hcs
            simp only [↓WP, ↓grdD, ↓grdT, ↓un_dead, ↓binVC, ↓buildVC, ↓sliceVC, WQ, WN, Int.reduceToNat, renl, cll, rent, clt, ↓reduceIte, Nat.reduceLeDiff, Nat.reduceEqDiff, Nat.reduceLT, reduceCtorEq, List.append_nil, Nat.reduceAdd, Nat.reduceSub, Nat.reduceBEq, forall_const, implies_true, cond_true, cond_false, AV.ren, AC.ren, AV.cl, AC.cl, eq_self, List.all_cons, List.all_nil, AV.eqv, AC.eqv, eqvl, eqvt, Sl.eqv, List.map_append, List.length_map, List.length_append, List.length_replicate, List.length_set, List.map_replicate, nilVC, zr_29, sz_29, sd_40, fl_29_1, sz_3, fl_29_0, fl_29_2, sz_27, sd_27, el_27, sz_51, zr_51, el_40, fl_51_0, fl_51_1, fl_51_2, zr_3, c_laws_big, c_spec_DrawWheelGo, c_impl_WheelGo, c_spec_WheelGo, c_laws_sameInts, c_spec_WheelOk, c_laws_sameWheel, c_laws_at, dlt hjl, hgq, decide_eq_true hq, hwc, hwj]
            repeat' (first | with_reducible refine And.intro ?_ ?_ | intro _)
            all_goals try omega
            all_goals exact ⟨⟨j + 1, hjl⟩, Le_intro [0, 1, 2, 3, 4, 5] (by simp only [WL, WNL, swA_new, swA_ne, nest_sw_ne, mapLL, List.mem_cons, Nat.reduceAdd, Nat.reduceLT, Nat.reduceLeDiff, Nat.reduceEqDiff, okU, List.nodup_cons, List.not_mem_nil, toT, toL, toO, keysO, renl, rent, cll, clt, eq_self, AV.eqv, AC.eqv, eqvl, eqvt, Sl.eqv, rowsLe, mapLL, rowsCl, List.map_append, List.length_map, List.length_append, List.length_set, List.map_replicate, rowG, List.getElem?_cons_zero, List.getElem?_cons_succ, List.getElem?_nil, List.append_nil, List.nil_append, List.cons_append, ghosts, St.gh, Option.some.injEq, implies_true, setT, AV.ren, AC.ren, AV.cl, AC.cl, List.replicate_succ, List.replicate_zero, List.nodup_nil, List.length_nil, List.length_cons, List.getD_cons_zero, List.getD_cons_succ, ↓reduceIte, hcs]; try simp), by show Q.length - (j + 1) < Q.length - j; omega⟩
          · rw [if_neg hq, Nat.add_zero] at hcs
            simp only [↓WP, ↓grdD, ↓grdT, ↓un_dead, ↓binVC, ↓buildVC, ↓sliceVC, WQ, WN, Int.reduceToNat, renl, cll, rent, clt, ↓reduceIte, Nat.reduceLeDiff, Nat.reduceEqDiff, Nat.reduceLT, reduceCtorEq, List.append_nil, Nat.reduceAdd, Nat.reduceSub, Nat.reduceBEq, forall_const, implies_true, cond_true, cond_false, AV.ren, AC.ren, AV.cl, AC.cl, eq_self, List.all_cons, List.all_nil, AV.eqv, AC.eqv, eqvl, eqvt, Sl.eqv, List.map_append, List.length_map, List.length_append, List.length_replicate, List.length_set, List.map_replicate, nilVC, zr_29, sz_29, sd_40, fl_29_1, sz_3, fl_29_0, fl_29_2, sz_27, sd_27, el_27, sz_51, zr_51, el_40, fl_51_0, fl_51_1, fl_51_2, zr_3, c_laws_big, c_spec_DrawWheelGo, c_impl_WheelGo, c_spec_WheelGo, c_laws_sameInts, c_spec_WheelOk, c_laws_sameWheel, c_laws_at, dlt hjl, hgq, decide_eq_false hq, hwj]
            repeat' (first | with_reducible refine And.intro ?_ ?_ | intro _)
            all_goals try omega
            all_goals exact ⟨⟨j + 1, hjl⟩, Le_intro [0, 1, 2, 3, 4, 5] (by simp only [WL, WNL, swA_new, swA_ne, nest_sw_ne, mapLL, List.mem_cons, Nat.reduceAdd, Nat.reduceLT, Nat.reduceLeDiff, Nat.reduceEqDiff, okU, List.nodup_cons, List.not_mem_nil, toT, toL, toO, keysO, renl, rent, cll, clt, eq_self, AV.eqv, AC.eqv, eqvl, eqvt, Sl.eqv, rowsLe, mapLL, rowsCl, List.map_append, List.length_map, List.length_append, List.length_set, List.map_replicate, rowG, List.getElem?_cons_zero, List.getElem?_cons_succ, List.getElem?_nil, List.append_nil, List.nil_append, List.cons_append, ghosts, St.gh, Option.some.injEq, implies_true, setT, AV.ren, AC.ren, AV.cl, AC.cl, List.replicate_succ, List.replicate_zero, List.nodup_nil, List.length_nil, List.length_cons, List.getD_cons_zero, List.getD_cons_succ, ↓reduceIte, hcs]; try simp), by show Q.length - (j + 1) < Q.length - j; omega⟩
        · obtain rfl : j = Q.length := by omega
          have hgo : ∃ j' : {i : Nat // i ≤ X.length}, (j'.1 = i + 1) := ⟨⟨i + 1, hlt⟩, rfl⟩
          by_cases hat : t.2.1 ≤ now
          · by_cases hea : 0 < t.2.2
            · have hwt : wantT now t = 1 + (now - t.2.1).tdiv t.2.2 := by unfold wantT; rw [if_pos hat, if_pos hea]
              have q0 : 0 ≤ (now - t.2.1).tdiv t.2.2 := Int.tdiv_nonneg (by omega) (by omega)
              have q1 : (now - t.2.1).tdiv t.2.2 ≤ now - t.2.1 := by
                rw [Int.tdiv_eq_ediv_of_nonneg (by omega)]
                exact Int.ediv_le_self _ (by omega)
              have w1 : IntKind.i64.wrap (now - t.2.1) = now - t.2.1 := w64 (by omega) (by omega)
              have w2 : IntKind.i64.wrap ((now - t.2.1).tdiv t.2.2) = (now - t.2.1).tdiv t.2.2 := w64 (by omega) (by omega)
              have w3 : IntKind.i64.wrap (1 + (now - t.2.1).tdiv t.2.2) = wantT now t := by rw [hwt]; exact w64 (by omega) (by omega)
              have hne : ¬ t.2.2 = 0 := by omega
              have hg0 : decide (t.2.2 > 0) = true := decide_eq_true hea
              have hce : decide (((Q.take Q.length).count t.1 : Int) = wantT now t) = true := decide_eq_true (by rw [List.take_length]; exact hco)
              simp only [↓WP, ↓grdD, ↓grdT, ↓un_dead, ↓binVC, ↓buildVC, ↓sliceVC, WQ, WN, Int.reduceToNat, renl, cll, rent, clt, ↓reduceIte, Nat.reduceLeDiff, Nat.reduceEqDiff, Nat.reduceLT, reduceCtorEq, List.append_nil, Nat.reduceAdd, Nat.reduceSub, Nat.reduceBEq, forall_const, implies_true, cond_true, cond_false, AV.ren, AC.ren, AV.cl, AC.cl, eq_self, List.all_cons, List.all_nil, AV.eqv, AC.eqv, eqvl, eqvt, Sl.eqv, List.map_append, List.length_map, List.length_append, List.length_replicate, List.length_set, List.map_replicate, nilVC, zr_29, sz_29, sd_40, fl_29_1, sz_3, fl_29_0, fl_29_2, sz_27, sd_27, el_27, sz_51, zr_51, el_40, fl_51_0, fl_51_1, fl_51_2, zr_3, c_laws_big, c_spec_DrawWheelGo, c_impl_WheelGo, c_spec_WheelGo, c_laws_sameInts, c_spec_WheelOk, c_laws_sameWheel, c_laws_at, dge hjg, decide_eq_true hat, hg0, w1, w2, w3, hce, hw]
              exact ⟨hne, ⟨⟨i + 1, hlt⟩, Le_intro [0, 1, 2, 3, 4] (by simp only [WL, WNL, swA_new, swA_ne, nest_sw_ne, mapLL, List.mem_cons, Nat.reduceAdd, Nat.reduceLT, Nat.reduceLeDiff, Nat.reduceEqDiff, okU, List.nodup_cons, List.not_mem_nil, toT, toL, toO, keysO, renl, rent, cll, clt, eq_self, AV.eqv, AC.eqv, eqvl, eqvt, Sl.eqv, rowsLe, mapLL, rowsCl, List.map_append, List.length_map, List.length_append, List.length_set, List.map_replicate, rowG, List.getElem?_cons_zero, List.getElem?_cons_succ, List.getElem?_nil, List.append_nil, List.nil_append, List.cons_append, ghosts, St.gh, Option.some.injEq, implies_true, setT, AV.ren, AC.ren, AV.cl, AC.cl, List.replicate_succ, List.replicate_zero, List.nodup_nil, List.length_nil, List.length_cons, List.getD_cons_zero, List.getD_cons_succ, ↓reduceIte]; try simp), by show X.length - (i + 1) < X.length - i; omega⟩⟩
            · have hwt : wantT now t = 1 := by unfold wantT; rw [if_pos hat, if_neg hea]
              have hg0 : decide (t.2.2 > 0) = false := decide_eq_false hea
              have hce : decide (((Q.take Q.length).count t.1 : Int) = 1) = true := decide_eq_true (by rw [List.take_length, hco, hwt])
              simp only [↓WP, ↓grdD, ↓grdT, ↓un_dead, ↓binVC, ↓buildVC, ↓sliceVC, WQ, WN, Int.reduceToNat, renl, cll, rent, clt, ↓reduceIte, Nat.reduceLeDiff, Nat.reduceEqDiff, Nat.reduceLT, reduceCtorEq, List.append_nil, Nat.reduceAdd, Nat.reduceSub, Nat.reduceBEq, forall_const, implies_true, cond_true, cond_false, AV.ren, AC.ren, AV.cl, AC.cl, eq_self, List.all_cons, List.all_nil, AV.eqv, AC.eqv, eqvl, eqvt, Sl.eqv, List.map_append, List.length_map, List.length_append, List.length_replicate, List.length_set, List.map_replicate, nilVC, zr_29, sz_29, sd_40, fl_29_1, sz_3, fl_29_0, fl_29_2, sz_27, sd_27, el_27, sz_51, zr_51, el_40, fl_51_0, fl_51_1, fl_51_2, zr_3, c_laws_big, c_spec_DrawWheelGo, c_impl_WheelGo, c_spec_WheelGo, c_laws_sameInts, c_spec_WheelOk, c_laws_sameWheel, c_laws_at, dge hjg, decide_eq_true hat, hg0, hce, hw]
              exact ⟨⟨i + 1, hlt⟩, Le_intro [0, 1, 2, 3, 4] (by simp only [WL, WNL, swA_new, swA_ne, nest_sw_ne, mapLL, List.mem_cons, Nat.reduceAdd, Nat.reduceLT, Nat.reduceLeDiff, Nat.reduceEqDiff, okU, List.nodup_cons, List.not_mem_nil, toT, toL, toO, keysO, renl, rent, cll, clt, eq_self, AV.eqv, AC.eqv, eqvl, eqvt, Sl.eqv, rowsLe, mapLL, rowsCl, List.map_append, List.length_map, List.length_append, List.length_set, List.map_replicate, rowG, List.getElem?_cons_zero, List.getElem?_cons_succ, List.getElem?_nil, List.append_nil, List.nil_append, List.cons_append, ghosts, St.gh, Option.some.injEq, implies_true, setT, AV.ren, AC.ren, AV.cl, AC.cl, List.replicate_succ, List.replicate_zero, List.nodup_nil, List.length_nil, List.length_cons, List.getD_cons_zero, List.getD_cons_succ, ↓reduceIte]; try simp), by show X.length - (i + 1) < X.length - i; omega⟩
          · have hwt : wantT now t = 0 := by unfold wantT; rw [if_neg hat]
            have hce : decide (((Q.take Q.length).count t.1 : Int) = 0) = true := decide_eq_true (by rw [List.take_length, hco, hwt])
            simp only [↓WP, ↓grdD, ↓grdT, ↓un_dead, ↓binVC, ↓buildVC, ↓sliceVC, WQ, WN, Int.reduceToNat, renl, cll, rent, clt, ↓reduceIte, Nat.reduceLeDiff, Nat.reduceEqDiff, Nat.reduceLT, reduceCtorEq, List.append_nil, Nat.reduceAdd, Nat.reduceSub, Nat.reduceBEq, forall_const, implies_true, cond_true, cond_false, AV.ren, AC.ren, AV.cl, AC.cl, eq_self, List.all_cons, List.all_nil, AV.eqv, AC.eqv, eqvl, eqvt, Sl.eqv, List.map_append, List.length_map, List.length_append, List.length_replicate, List.length_set, List.map_replicate, nilVC, zr_29, sz_29, sd_40, fl_29_1, sz_3, fl_29_0, fl_29_2, sz_27, sd_27, el_27, sz_51, zr_51, el_40, fl_51_0, fl_51_1, fl_51_2, zr_3, c_laws_big, c_spec_DrawWheelGo, c_impl_WheelGo, c_spec_WheelGo, c_laws_sameInts, c_spec_WheelOk, c_laws_sameWheel, c_laws_at, dge hjg, decide_eq_false hat, hce, hw]
            exact ⟨⟨i + 1, hlt⟩, Le_intro [0, 1, 2, 3, 4] (by simp only [WL, WNL, swA_new, swA_ne, nest_sw_ne, mapLL, List.mem_cons, Nat.reduceAdd, Nat.reduceLT, Nat.reduceLeDiff, Nat.reduceEqDiff, okU, List.nodup_cons, List.not_mem_nil, toT, toL, toO, keysO, renl, rent, cll, clt, eq_self, AV.eqv, AC.eqv, eqvl, eqvt, Sl.eqv, rowsLe, mapLL, rowsCl, List.map_append, List.length_map, List.length_append, List.length_set, List.map_replicate, rowG, List.getElem?_cons_zero, List.getElem?_cons_succ, List.getElem?_nil, List.append_nil, List.nil_append, List.cons_append, ghosts, St.gh, Option.some.injEq, implies_true, setT, AV.ren, AC.ren, AV.cl, AC.cl, List.replicate_succ, List.replicate_zero, List.nodup_nil, List.length_nil, List.length_cons, List.getD_cons_zero, List.getD_cons_succ, ↓reduceIte]; try simp), by show X.length - (i + 1) < X.length - i; omega⟩
      · obtain rfl : i = X.length := by omega
        by_cases h2 : m < 2
        · simp only [↓WP, ↓grdD, ↓grdT, ↓un_dead, ↓binVC, ↓buildVC, ↓sliceVC, WQ, WN, Int.reduceToNat, renl, cll, rent, clt, ↓reduceIte, Nat.reduceLeDiff, Nat.reduceEqDiff, Nat.reduceLT, reduceCtorEq, List.append_nil, Nat.reduceAdd, Nat.reduceSub, Nat.reduceBEq, forall_const, implies_true, cond_true, cond_false, AV.ren, AC.ren, AV.cl, AC.cl, eq_self, List.all_cons, List.all_nil, AV.eqv, AC.eqv, eqvl, eqvt, Sl.eqv, List.map_append, List.length_map, List.length_append, List.length_replicate, List.length_set, List.map_replicate, nilVC, zr_29, sz_29, sd_40, fl_29_1, sz_3, fl_29_0, fl_29_2, sz_27, sd_27, el_27, sz_51, zr_51, el_40, fl_51_0, fl_51_1, fl_51_2, zr_3, c_laws_big, c_spec_DrawWheelGo, c_impl_WheelGo, c_spec_WheelGo, c_laws_sameInts, c_spec_WheelOk, c_laws_sameWheel, c_laws_at, dge hge, decide_eq_true hok2, decide_eq_true h2]
          have := hok2.2.2.1
          exact ⟨⟨by omega, .inr trivial⟩, by omega, .inr trivial⟩
        · obtain ⟨j, hj⟩ : ∃ j : Int, j = 1 + (atO L 0).tmod (m - 1) := ⟨_, rfl⟩
          have hat := atO_mod L (i := 0) (k := m - 1) (by omega) (by omega)
          have w0 : IntKind.i64.wrap (m - 1) = m - 1 := w64 (by omega) (by omega)
          have w1 : IntKind.i64.wrap (1 + (atO L 0).tmod (m - 1)) = j := by rw [hj]; exact w64 (by omega) (by omega)
          have w2 : IntKind.i64.wrap (m - j) = m - j := w64 (by omega) (by omega)
          obtain ⟨t1, t2, t3⟩ := htwo j (by omega)
          have e1 := goO_yes h t1
          have hokj := goW_ok h t1
          have hA := goW_ids h t1
          obtain ⟨⟨T1, A⟩, hTA⟩ : ∃ TA, goW (u + j) X = TA := ⟨_, rfl⟩
          rw [hTA] at e1 t3 hokj hA
          dsimp only at e1 t3 hokj hA
          have e2 := goO_yes hokj t2
          have hB := goW_ids hokj t2
          obtain ⟨⟨T2, Bq⟩, hTB⟩ : ∃ TB, goW (u + j + (m - j)) T1 = TB := ⟨_, rfl⟩
          rw [hTB] at e2 t3 hB
          dsimp only at e2 t3 hB
          rw [← hnow, hTQ] at t3
          obtain ⟨rfl, rfl⟩ := Prod.mk.inj t3
          rw [show u + j + (m - j) = now by omega] at e2
          have hT1 := hokj.2.2.1
          have hne : ¬ m - 1 = 0 := by omega
          simp only [↓WP, ↓grdD, ↓grdT, ↓un_dead, ↓binVC, ↓buildVC, ↓sliceVC, WQ, WN, Int.reduceToNat, renl, cll, rent, clt, ↓reduceIte, Nat.reduceLeDiff, Nat.reduceEqDiff, Nat.reduceLT, reduceCtorEq, List.append_nil, Nat.reduceAdd, Nat.reduceSub, Nat.reduceBEq, forall_const, implies_true, cond_true, cond_false, AV.ren, AC.ren, AV.cl, AC.cl, eq_self, List.all_cons, List.all_nil, AV.eqv, AC.eqv, eqvl, eqvt, Sl.eqv, List.map_append, List.length_map, List.length_append, List.length_replicate, List.length_set, List.map_replicate, nilVC, zr_29, sz_29, sd_40, fl_29_1, sz_3, fl_29_0, fl_29_2, sz_27, sd_27, el_27, sz_51, zr_51, el_40, fl_51_0, fl_51_1, fl_51_2, zr_3, c_laws_big, c_spec_DrawWheelGo, c_impl_WheelGo, c_spec_WheelGo, c_laws_sameInts, c_spec_WheelOk, c_laws_sameWheel, c_laws_at, dge hge, decide_eq_true hok2, decide_eq_false h2, ha, ← hL, w0, w1, w2, e1, e2]
          have hT12 := hok2.2.2.1
          refine ⟨⟨by omega, .inr trivial⟩, by omega, hne, ⟨⟨by omega, .inr trivial⟩, x1⟩, ?_⟩
          rintro ⟨c1, c2⟩ ⟨hc1, hc2⟩
          refine ⟨⟨⟨by omega, .inr trivial⟩, hc1⟩, ?_⟩
          rintro ⟨c3, c4⟩ ⟨hc3, hc4⟩
          dsimp only at hc1 hc2 hc3 hc4
          have hae : allEnc Int (List.map enc A ++ List.map enc Bq) := by rw [← List.map_append, allEnc_enc]; trivial
          refine ⟨fun h0 => ⟨rfl, ⟨⟨by omega, .inr trivial⟩, by omega, .inr hae⟩, fun _ => ⟨⟨by omega, .inr trivial⟩, by omega, .inr trivial⟩, ?_⟩, fun h0 => ⟨⟨by omega, by omega⟩, fun _ => ⟨⟨⟨by omega, .inr hae⟩, by omega, .inr hae⟩, fun _ => ⟨⟨by omega, .inr trivial⟩, by omega, .inr trivial⟩, by simp⟩, fun _ => ⟨.inr trivial, fun _ _ _ => ⟨⟨⟨by omega, .inr hae⟩, by omega, .inr hae⟩, fun _ => ⟨⟨by omega, .inr trivial⟩, by omega, .inr trivial⟩, by simp⟩⟩⟩⟩
          have hB0 : Bq = [] := List.eq_nil_of_length_eq_zero h0
          simp [hB0]
end Go.Eng.T
