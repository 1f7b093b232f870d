/- faults: the counting, as it is specified. -/
import Derived.Test.YtgbbegbepbniiaaFn2
set_option linter.unusedVariables false
set_option linter.unusedSimpArgs false
set_option linter.unusedSectionVars false
namespace Go.Eng.T
open Go.Proofs
open Cel (enc dec)
set_option maxRecDepth 100000
set_option maxHeartbeats 4000000
abbrev v0 : List Int → Nat → Nat := fun _ _ => 0
def c_spec_l35Count : Contract := ⟨26, fun args M => match args with
  | [.c (.sl a n c), .c (.int .i64 f), .c (.bool rc)] => .pure (RowOk Int a n (M a.r)) (I (cntF rc v0 (row Int a n (M a.r)) f))
  | _ => .bad⟩
theorem ok_spec_l35Count : fnP Try.prog c_spec_l35Count.f = true ∧ ∀ args M, (c_spec_l35Count.sp args M).OK Try.prog c_spec_l35Count.f args M := by
  refine ⟨fp_26, fun args M => ?_⟩
  unfold c_spec_l35Count
  dsimp only
  split
  case h_2 => trivial
  rename_i a n c f rc
  intro hrow
  obtain ⟨hs, X, hX, rfl, hat⟩ := hrow.x
  rw [hX]
  refine goIn hf_26 rfl (nt := 56) rfl (rs := [.tmp 6]) rfl (C := [c_spec_l35Ok, c_spec_l35At, c_spec_l35Without]) ⟨(by first | exact .inl ok_spec_l35Ok | exact ok_spec_l35Ok), (by first | exact .inl ok_spec_l35At | exact ok_spec_l35At), (by first | exact .inl ok_spec_l35Without | exact ok_spec_l35Without), trivial⟩ (q := fun f => [34].contains f) ⟨fun h => absurd h (by decide), fun h => absurd h (by decide), fun _ => q_spec_l35Without, trivial⟩ mixed (O := ots [(11, otl [0, 1, 3, 4] (.alt 2 (otl [5, 6, 7, 8, 9] .nil) (otl [5] (.alt 2 (otl [6, 7, 8, 9] .nil) (otl [6] (.alt 2 (otl [7, 8, 9] .nil) (otl [7, 2, 8, 9] .nil)))))))]) (by kernel_rfl) ?_
  by_cases hok : faultsOk X f
  · have hX200 : X.length ≤ 200 := hok.1
    have hf1 : 1 ≤ f ∧ f ≤ 20 := hok.2.1
    have hcn : cntF rc v0 X f = runN rc v0 f X X.length := if_pos hok
    rw [hcn]
    simp only [↓WP, ↓grdD, ↓grdT, ↓un_dead, ↓binVC, ↓buildVC, ↓sliceVC, WQ, WN, Int.reduceToNat, renl, cll, rent, clt, ↓reduceIte, Nat.reduceLeDiff, Nat.reduceEqDiff, Nat.reduceLT, reduceCtorEq, List.append_nil, Nat.reduceAdd, Nat.reduceSub, Nat.reduceBEq, forall_const, implies_true, cond_true, cond_false, AV.ren, AC.ren, AV.cl, AC.cl, eq_self, List.all_cons, List.all_nil, AV.eqv, AC.eqv, eqvl, eqvt, Sl.eqv, List.map_append, List.length_map, List.length_append, List.length_replicate, List.length_set, List.map_replicate, nilVC, el_22, zr_3, sd_22, sz_3, c_spec_l35Ok, c_spec_l35At, c_spec_l35Without, hX, decide_eq_true hok]
    refine ⟨hrow, by omega, ?_⟩
    refine loopI (J := {p : Nat × Nat // p.1 ≤ X.length ∧ (runL rc v0 f X p.1).length ≤ p.2}) (fun p => (⟨slots 56 [(0, .c (.sl a.up X.length c)), (1, I f), (2, Eng.B rc), (7, .c (.sl ⟨.loc 0, 0, 0, 0⟩ (runL rc v0 f X p.1.1).length p.1.2)), (8, I (runN rc v0 f X p.1.1)), (9, I p.1.1)], M, [], [rowG true 3 p.1.2 (runL rc v0 f X p.1.1)]⟩ : St)) (fun p => X.length - p.1.1) ⟨(0, 0), by omega, by exact Nat.le_refl _⟩ (Le.trans (Le_gh _ [(3, 1)]) (Le_intro [0] (by simp only [WL, WNL, swA_new, swA_ne, nest_sw_ne, mapLL, List.mem_cons, Nat.reduceAdd, Nat.reduceLT, Nat.reduceLeDiff, Nat.reduceEqDiff, okU, List.nodup_cons, List.not_mem_nil, toT, toL, toO, keysO, renl, rent, cll, clt, eq_self, AV.eqv, AC.eqv, eqvl, eqvt, Sl.eqv, rowsLe, mapLL, rowsCl, List.map_append, List.length_map, List.length_append, List.length_set, List.map_replicate, rowG, List.getElem?_cons_zero, List.getElem?_cons_succ, List.getElem?_nil, List.append_nil, List.nil_append, List.cons_append, ghosts, St.gh, Option.some.injEq, implies_true, setT, AV.ren, AC.ren, AV.cl, AC.cl, List.replicate_succ, List.replicate_zero, List.nodup_nil, List.length_nil, List.length_cons, List.getD_cons_zero, List.getD_cons_succ, ↓reduceIte, runL, runN]; try simp))) ?_
    rintro ⟨⟨i, k⟩, hi, hk⟩
    dsimp only at hi hk
    have hw := wS (i := i) (by omega)
    have hll := runL_len (rc := rc) (vic := v0) (f := f) (X := X) hf1.1 (fun l i h => h) i
    have hnn := runN_le (rc := rc) (vic := v0) (f := f) (X := X) i
    have hwn := wS (i := runN rc v0 f X i) (by omega)
    rcases Nat.lt_or_ge i X.length with hlt | hge
    · obtain ⟨own, ty, cnt, cap, len, get, hM, hf, hic, hkn, hget⟩ := hat (by omega)
      obtain ⟨L, hL⟩ : ∃ L, L = runL rc v0 f X i := ⟨_, rfl⟩
      rw [← hL] at hk hll
      have hjr := at1_range L (X.getD i default)
      by_cases hhit : 0 ≤ at1 L (X.getD i default)
      · have hN := runN_hit (rc := rc) (vic := v0) (f := f) (X := X) (i := i) (by rw [← hL]; exact hhit)
        cases rc with
        | false =>
          have hS := runL_stay (vic := v0) (f := f) (X := X) (i := i) (by rw [← hL]; exact hhit)
          rw [← hL] at hS
          simp only [↓WP, ↓grdD, ↓grdT, ↓un_dead, ↓binVC, ↓buildVC, ↓sliceVC, WQ, WN, Int.reduceToNat, renl, cll, rent, clt, ↓reduceIte, Nat.reduceLeDiff, Nat.reduceEqDiff, Nat.reduceLT, reduceCtorEq, List.append_nil, Nat.reduceAdd, Nat.reduceSub, Nat.reduceBEq, forall_const, implies_true, cond_true, cond_false, AV.ren, AC.ren, AV.cl, AC.cl, eq_self, List.all_cons, List.all_nil, AV.eqv, AC.eqv, eqvl, eqvt, Sl.eqv, List.map_append, List.length_map, List.length_append, List.length_replicate, List.length_set, List.map_replicate, nilVC, el_22, zr_3, sd_22, sz_3, c_spec_l35Ok, c_spec_l35At, c_spec_l35Without, dlt hlt, hw, hM, hf, hget i hlt, ← hL, decide_eq_true hhit]
          repeat' (first | with_reducible refine And.intro ?_ ?_ | intro _)
          all_goals try omega
          all_goals try exact .inr trivial
          exact ⟨⟨(i + 1, k), hlt, by rw [hS]; assumption⟩, Le_intro [0] (by simp only [WL, WNL, swA_new, swA_ne, nest_sw_ne, mapLL, List.mem_cons, Nat.reduceAdd, Nat.reduceLT, Nat.reduceLeDiff, Nat.reduceEqDiff, okU, List.nodup_cons, List.not_mem_nil, toT, toL, toO, keysO, renl, rent, cll, clt, eq_self, AV.eqv, AC.eqv, eqvl, eqvt, Sl.eqv, rowsLe, mapLL, rowsCl, List.map_append, List.length_map, List.length_append, List.length_set, List.map_replicate, rowG, List.getElem?_cons_zero, List.getElem?_cons_succ, List.getElem?_nil, List.append_nil, List.nil_append, List.cons_append, ghosts, St.gh, Option.some.injEq, implies_true, setT, AV.ren, AC.ren, AV.cl, AC.cl, List.replicate_succ, List.replicate_zero, List.nodup_nil, List.length_nil, List.length_cons, List.getD_cons_zero, List.getD_cons_succ, ↓reduceIte, hS, hN]; try simp), by show X.length - (i + 1) < X.length - i; omega⟩
        | true =>
          obtain ⟨m, hm⟩ : ∃ m : Nat, at1 L (X.getD i default) = m := ⟨(at1 L (X.getD i default)).toNat, by omega⟩
          have hS := runL_end (vic := v0) (f := f) (X := X) (i := i) (by rw [← hL]; exact hhit)
          rw [← hL, hm, Int.toNat_natCast] at hS
          have hwo := wo_len (l := L) (j := m) (by omega)
          have h0m : decide (0 ≤ (m : Int)) = true := decide_eq_true (by omega)
          have hput : putAt (List.map enc (wo L m)) (L.length - 1) [[AC.int .i64 (X.getD i default)]] = List.map enc (wo L m) ++ [[AC.int .i64 (X.getD i default)]] := putAt_end (by rw [List.length_map, hwo])
          have hwi : win (fun k => (List.map enc (wo L m)).getD k []) (L.length - 1) = List.map enc (wo L m) := win_whole (by rw [List.length_map, hwo])
          simp only [↓WP, ↓grdD, ↓grdT, ↓un_dead, ↓binVC, ↓buildVC, ↓sliceVC, WQ, WN, Int.reduceToNat, renl, cll, rent, clt, ↓reduceIte, Nat.reduceLeDiff, Nat.reduceEqDiff, Nat.reduceLT, reduceCtorEq, List.append_nil, Nat.reduceAdd, Nat.reduceSub, Nat.reduceBEq, forall_const, implies_true, cond_true, cond_false, AV.ren, AC.ren, AV.cl, AC.cl, eq_self, List.all_cons, List.all_nil, AV.eqv, AC.eqv, eqvl, eqvt, Sl.eqv, List.map_append, List.length_map, List.length_append, List.length_replicate, List.length_set, List.map_replicate, nilVC, el_22, zr_3, sd_22, sz_3, c_spec_l35Ok, c_spec_l35At, c_spec_l35Without, dlt hlt, hw, hM, hf, hget i hlt, ← hL, hm, h0m, hwo, hput, hwi]
          repeat' (first | with_reducible refine And.intro ?_ ?_ | intro _)
          all_goals try omega
          all_goals try exact .inr trivial
          all_goals
            rename_i k2 h1 h2
            first
            | (refine ⟨⟨(i + 1, k2), hlt, by rw [hS, List.length_append, hwo]; simp; omega⟩, Le_intro [1] ?_, by show X.length - (i + 1) < X.length - i; omega⟩; simp only [WL, WNL, swA_new, swA_ne, nest_sw_ne, mapLL, List.mem_cons, Nat.reduceAdd, Nat.reduceLT, Nat.reduceLeDiff, Nat.reduceEqDiff, okU, List.nodup_cons, List.not_mem_nil, toT, toL, toO, keysO, renl, rent, cll, clt, eq_self, AV.eqv, AC.eqv, eqvl, eqvt, Sl.eqv, rowsLe, mapLL, rowsCl, List.map_append, List.length_map, List.length_append, List.length_set, List.map_replicate, rowG, List.getElem?_cons_zero, List.getElem?_cons_succ, List.getElem?_nil, List.append_nil, List.nil_append, List.cons_append, ghosts, St.gh, Option.some.injEq, implies_true, setT, AV.ren, AC.ren, AV.cl, AC.cl, List.replicate_succ, List.replicate_zero, List.nodup_nil, List.length_nil, List.length_cons, List.getD_cons_zero, List.getD_cons_succ, ↓reduceIte, hS, hN, hwo]; (try simp); done)
            | (refine ⟨⟨(i + 1, k2), hlt, by rw [hS, List.length_append, hwo]; simp; omega⟩, Le_intro [2] ?_, by show X.length - (i + 1) < X.length - i; omega⟩; simp only [WL, WNL, swA_new, swA_ne, nest_sw_ne, mapLL, List.mem_cons, Nat.reduceAdd, Nat.reduceLT, Nat.reduceLeDiff, Nat.reduceEqDiff, okU, List.nodup_cons, List.not_mem_nil, toT, toL, toO, keysO, renl, rent, cll, clt, eq_self, AV.eqv, AC.eqv, eqvl, eqvt, Sl.eqv, rowsLe, mapLL, rowsCl, List.map_append, List.length_map, List.length_append, List.length_set, List.map_replicate, rowG, List.getElem?_cons_zero, List.getElem?_cons_succ, List.getElem?_nil, List.append_nil, List.nil_append, List.cons_append, ghosts, St.gh, Option.some.injEq, implies_true, setT, AV.ren, AC.ren, AV.cl, AC.cl, List.replicate_succ, List.replicate_zero, List.nodup_nil, List.length_nil, List.length_cons, List.getD_cons_zero, List.getD_cons_succ, ↓reduceIte, hS, hN, hwo]; (try simp); done)
            | (refine ⟨⟨(i + 1, k2), hlt, by rw [hS, List.length_append, hwo]; simp; omega⟩, Le_intro [3] ?_, by show X.length - (i + 1) < X.length - i; omega⟩; simp only [WL, WNL, swA_new, swA_ne, nest_sw_ne, mapLL, List.mem_cons, Nat.reduceAdd, Nat.reduceLT, Nat.reduceLeDiff, Nat.reduceEqDiff, okU, List.nodup_cons, List.not_mem_nil, toT, toL, toO, keysO, renl, rent, cll, clt, eq_self, AV.eqv, AC.eqv, eqvl, eqvt, Sl.eqv, rowsLe, mapLL, rowsCl, List.map_append, List.length_map, List.length_append, List.length_set, List.map_replicate, rowG, List.getElem?_cons_zero, List.getElem?_cons_succ, List.getElem?_nil, List.append_nil, List.nil_append, List.cons_append, ghosts, St.gh, Option.some.injEq, implies_true, setT, AV.ren, AC.ren, AV.cl, AC.cl, List.replicate_succ, List.replicate_zero, List.nodup_nil, List.length_nil, List.length_cons, List.getD_cons_zero, List.getD_cons_succ, ↓reduceIte, hS, hN, hwo]; (try simp); done)
      · have hN := runN_miss (rc := rc) (vic := v0) (f := f) (X := X) (i := i) (by rw [← hL]; exact hhit)
        by_cases hfull : f ≤ L.length
        · have hS := runL_full (rc := rc) (vic := v0) (f := f) (X := X) (i := i) (by rw [← hL]; exact hhit) (by rw [← hL]; exact hfull)
          rw [← hL] at hS
          have hwo := wo_len (l := L) (j := 0) (by omega)
          have hput : putAt (List.map enc (wo L 0)) (L.length - 1) [[AC.int .i64 (X.getD i default)]] = List.map enc (wo L 0) ++ [[AC.int .i64 (X.getD i default)]] := putAt_end (by rw [List.length_map, hwo])
          have hwi : win (fun k => (List.map enc (wo L 0)).getD k []) (L.length - 1) = List.map enc (wo L 0) := win_whole (by rw [List.length_map, hwo])
          simp only [↓WP, ↓grdD, ↓grdT, ↓un_dead, ↓binVC, ↓buildVC, ↓sliceVC, WQ, WN, Int.reduceToNat, renl, cll, rent, clt, ↓reduceIte, Nat.reduceLeDiff, Nat.reduceEqDiff, Nat.reduceLT, reduceCtorEq, List.append_nil, Nat.reduceAdd, Nat.reduceSub, Nat.reduceBEq, forall_const, implies_true, cond_true, cond_false, AV.ren, AC.ren, AV.cl, AC.cl, eq_self, List.all_cons, List.all_nil, AV.eqv, AC.eqv, eqvl, eqvt, Sl.eqv, List.map_append, List.length_map, List.length_append, List.length_replicate, List.length_set, List.map_replicate, nilVC, el_22, zr_3, sd_22, sz_3, c_spec_l35Ok, c_spec_l35At, c_spec_l35Without, dlt hlt, hw, hwn, hM, hf, hget i hlt, ← hL, decide_eq_false hhit, decide_eq_true hfull, hwo, hput, hwi]
          repeat' (first | with_reducible refine And.intro ?_ ?_ | intro _)
          all_goals try omega
          all_goals try exact .inr trivial
          all_goals
            rename_i k2 h1 h2
            first
            | (refine ⟨⟨(i + 1, k2), hlt, by rw [hS, List.length_append, hwo]; simp; omega⟩, Le_intro [1] ?_, by show X.length - (i + 1) < X.length - i; omega⟩; simp only [WL, WNL, swA_new, swA_ne, nest_sw_ne, mapLL, List.mem_cons, Nat.reduceAdd, Nat.reduceLT, Nat.reduceLeDiff, Nat.reduceEqDiff, okU, List.nodup_cons, List.not_mem_nil, toT, toL, toO, keysO, renl, rent, cll, clt, eq_self, AV.eqv, AC.eqv, eqvl, eqvt, Sl.eqv, rowsLe, mapLL, rowsCl, List.map_append, List.length_map, List.length_append, List.length_set, List.map_replicate, rowG, List.getElem?_cons_zero, List.getElem?_cons_succ, List.getElem?_nil, List.append_nil, List.nil_append, List.cons_append, ghosts, St.gh, Option.some.injEq, implies_true, setT, AV.ren, AC.ren, AV.cl, AC.cl, List.replicate_succ, List.replicate_zero, List.nodup_nil, List.length_nil, List.length_cons, List.getD_cons_zero, List.getD_cons_succ, ↓reduceIte, hS, hN, hwo]; (try simp); done)
            | (refine ⟨⟨(i + 1, k2), hlt, by rw [hS, List.length_append, hwo]; simp; omega⟩, Le_intro [2] ?_, by show X.length - (i + 1) < X.length - i; omega⟩; simp only [WL, WNL, swA_new, swA_ne, nest_sw_ne, mapLL, List.mem_cons, Nat.reduceAdd, Nat.reduceLT, Nat.reduceLeDiff, Nat.reduceEqDiff, okU, List.nodup_cons, List.not_mem_nil, toT, toL, toO, keysO, renl, rent, cll, clt, eq_self, AV.eqv, AC.eqv, eqvl, eqvt, Sl.eqv, rowsLe, mapLL, rowsCl, List.map_append, List.length_map, List.length_append, List.length_set, List.map_replicate, rowG, List.getElem?_cons_zero, List.getElem?_cons_succ, List.getElem?_nil, List.append_nil, List.nil_append, List.cons_append, ghosts, St.gh, Option.some.injEq, implies_true, setT, AV.ren, AC.ren, AV.cl, AC.cl, List.replicate_succ, List.replicate_zero, List.nodup_nil, List.length_nil, List.length_cons, List.getD_cons_zero, List.getD_cons_succ, ↓reduceIte, hS, hN, hwo]; (try simp); done)
            | (refine ⟨⟨(i + 1, k2), hlt, by rw [hS, List.length_append, hwo]; simp; omega⟩, Le_intro [3] ?_, by show X.length - (i + 1) < X.length - i; omega⟩; simp only [WL, WNL, swA_new, swA_ne, nest_sw_ne, mapLL, List.mem_cons, Nat.reduceAdd, Nat.reduceLT, Nat.reduceLeDiff, Nat.reduceEqDiff, okU, List.nodup_cons, List.not_mem_nil, toT, toL, toO, keysO, renl, rent, cll, clt, eq_self, AV.eqv, AC.eqv, eqvl, eqvt, Sl.eqv, rowsLe, mapLL, rowsCl, List.map_append, List.length_map, List.length_append, List.length_set, List.map_replicate, rowG, List.getElem?_cons_zero, List.getElem?_cons_succ, List.getElem?_nil, List.append_nil, List.nil_append, List.cons_append, ghosts, St.gh, Option.some.injEq, implies_true, setT, AV.ren, AC.ren, AV.cl, AC.cl, List.replicate_succ, List.replicate_zero, List.nodup_nil, List.length_nil, List.length_cons, List.getD_cons_zero, List.getD_cons_succ, ↓reduceIte, hS, hN, hwo]; (try simp); done)
        · have hS := runL_room (rc := rc) (vic := v0) (f := f) (X := X) (i := i) (by rw [← hL]; exact hhit) (by rw [← hL]; exact hfull)
          rw [← hL] at hS
          have hput : putAt (List.map enc L) L.length [[AC.int .i64 (X.getD i default)]] = List.map enc L ++ [[AC.int .i64 (X.getD i default)]] := putAt_end (by rw [List.length_map])
          simp only [↓WP, ↓grdD, ↓grdT, ↓un_dead, ↓binVC, ↓buildVC, ↓sliceVC, WQ, WN, Int.reduceToNat, renl, cll, rent, clt, ↓reduceIte, Nat.reduceLeDiff, Nat.reduceEqDiff, Nat.reduceLT, reduceCtorEq, List.append_nil, Nat.reduceAdd, Nat.reduceSub, Nat.reduceBEq, forall_const, implies_true, cond_true, cond_false, AV.ren, AC.ren, AV.cl, AC.cl, eq_self, List.all_cons, List.all_nil, AV.eqv, AC.eqv, eqvl, eqvt, Sl.eqv, List.map_append, List.length_map, List.length_append, List.length_replicate, List.length_set, List.map_replicate, nilVC, el_22, zr_3, sd_22, sz_3, c_spec_l35Ok, c_spec_l35At, c_spec_l35Without, dlt hlt, hw, hwn, hM, hf, hget i hlt, ← hL, decide_eq_false hhit, decide_eq_false hfull, hput]
          repeat' (first | with_reducible refine And.intro ?_ ?_ | intro _)
          all_goals try omega
          all_goals try exact .inr trivial
          · exact ⟨⟨(i + 1, k), hlt, by rw [hS, List.length_append]; simp; omega⟩, Le_intro [0] (by simp only [WL, WNL, swA_new, swA_ne, nest_sw_ne, mapLL, List.mem_cons, Nat.reduceAdd, Nat.reduceLT, Nat.reduceLeDiff, Nat.reduceEqDiff, okU, List.nodup_cons, List.not_mem_nil, toT, toL, toO, keysO, renl, rent, cll, clt, eq_self, AV.eqv, AC.eqv, eqvl, eqvt, Sl.eqv, rowsLe, mapLL, rowsCl, List.map_append, List.length_map, List.length_append, List.length_set, List.map_replicate, rowG, List.getElem?_cons_zero, List.getElem?_cons_succ, List.getElem?_nil, List.append_nil, List.nil_append, List.cons_append, ghosts, St.gh, Option.some.injEq, implies_true, setT, AV.ren, AC.ren, AV.cl, AC.cl, List.replicate_succ, List.replicate_zero, List.nodup_nil, List.length_nil, List.length_cons, List.getD_cons_zero, List.getD_cons_succ, ↓reduceIte, hS, hN]; try simp), by show X.length - (i + 1) < X.length - i; omega⟩
          · rename_i k2 h1 h2
            exact ⟨⟨(i + 1, k2), hlt, by rw [hS, List.length_append]; simp; omega⟩, Le_intro [2] (by simp only [WL, WNL, swA_new, swA_ne, nest_sw_ne, mapLL, List.mem_cons, Nat.reduceAdd, Nat.reduceLT, Nat.reduceLeDiff, Nat.reduceEqDiff, okU, List.nodup_cons, List.not_mem_nil, toT, toL, toO, keysO, renl, rent, cll, clt, eq_self, AV.eqv, AC.eqv, eqvl, eqvt, Sl.eqv, rowsLe, mapLL, rowsCl, List.map_append, List.length_map, List.length_append, List.length_set, List.map_replicate, rowG, List.getElem?_cons_zero, List.getElem?_cons_succ, List.getElem?_nil, List.append_nil, List.nil_append, List.cons_append, ghosts, St.gh, Option.some.injEq, implies_true, setT, AV.ren, AC.ren, AV.cl, AC.cl, List.replicate_succ, List.replicate_zero, List.nodup_nil, List.length_nil, List.length_cons, List.getD_cons_zero, List.getD_cons_succ, ↓reduceIte, hS, hN]; try simp), by show X.length - (i + 1) < X.length - i; omega⟩
    · obtain rfl : i = X.length := by omega
      simp only [↓WP, ↓grdD, ↓grdT, ↓un_dead, ↓binVC, ↓buildVC, ↓sliceVC, WQ, WN, Int.reduceToNat, renl, cll, rent, clt, ↓reduceIte, Nat.reduceLeDiff, Nat.reduceEqDiff, Nat.reduceLT, reduceCtorEq, List.append_nil, Nat.reduceAdd, Nat.reduceSub, Nat.reduceBEq, forall_const, implies_true, cond_true, cond_false, AV.ren, AC.ren, AV.cl, AC.cl, eq_self, List.all_cons, List.all_nil, AV.eqv, AC.eqv, eqvl, eqvt, Sl.eqv, List.map_append, List.length_map, List.length_append, List.length_replicate, List.length_set, List.map_replicate, nilVC, el_22, zr_3, sd_22, sz_3, c_spec_l35Ok, c_spec_l35At, c_spec_l35Without, dge hge, hw]
  · have hcn : cntF rc v0 X f = 0 := if_neg hok
    rw [hcn]
    simp only [↓WP, ↓grdD, ↓grdT, ↓un_dead, ↓binVC, ↓buildVC, ↓sliceVC, WQ, WN, Int.reduceToNat, renl, cll, rent, clt, ↓reduceIte, Nat.reduceLeDiff, Nat.reduceEqDiff, Nat.reduceLT, reduceCtorEq, List.append_nil, Nat.reduceAdd, Nat.reduceSub, Nat.reduceBEq, forall_const, implies_true, cond_true, cond_false, AV.ren, AC.ren, AV.cl, AC.cl, eq_self, List.all_cons, List.all_nil, AV.eqv, AC.eqv, eqvl, eqvt, Sl.eqv, List.map_append, List.length_map, List.length_append, List.length_replicate, List.length_set, List.map_replicate, nilVC, el_22, zr_3, sd_22, sz_3, c_spec_l35Ok, c_spec_l35At, c_spec_l35Without, hX, decide_eq_false hok]
    exact hrow
end Go.Eng.T
